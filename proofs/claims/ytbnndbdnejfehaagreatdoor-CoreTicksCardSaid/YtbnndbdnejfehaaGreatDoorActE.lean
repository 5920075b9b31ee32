/- Core: methods of an act: all others are sent what they lack (the program's). -/
import Derived.Test.YtbnndbdnejfehaaGreatDoorActD
import Derived.Test.YtbnndbdnejfehaaGreatDoorConf3
namespace Go.Proofs.YtbnndbdnejfehaaGreatDoor
open Go.ChangeShapes Go.WideShapes Go.ChangeAt Go.RowKit

theorem membersN_0 {j : Jn} (_h : JoF (joX j)) : 0 ≤ membersN j := by
  unfold membersN
  exact pickB_0 _ _ _ (bits_fit _ _ _).1
/-- All that all others are sent. -/
def allM (c : Co) : List Ms := (othersC c).map fun n => putM c n (bringM c n.toNat)
theorem foldl_bring (c : Co) : ∀ (L : List Int) (out : List Ms), L.foldl bringA ⟨c, out⟩ = ⟨c, out ++ L.map fun n => putM c n (bringM c n.toNat)⟩
  | [], out => by simp
  | n :: L, out => by
    rw [List.foldl_cons]
    show L.foldl bringA ⟨c, out ++ [putM c n (bringM c n.toNat)]⟩ = _
    rw [foldl_bring c L]; simp
theorem allA_eq (c : Co) (out : List Ms) : allA ⟨c, out⟩ = ⟨c, out ++ allM c⟩ := foldl_bring c _ _

set_option maxRecDepth 100000 in
set_option maxHeartbeats 16000000 in
theorem others_act (R : Nat) (c : Co) (p : Option Addr) (k : Nat) (v : Value) (w : World) (hR : w.heap[R]? = some (.cells #[.int .i64 c.id, .int .i64 c.role, .int .i64 c.tm, .int .i64 c.vt, .int .i64 c.ld, .int .i64 c.wt, .int .i64 c.cm, .int .i64 c.sf, .int .i64 c.l.b, .int .i64 c.l.bt, .int .u16 c.l.j.ov, .int .u16 c.l.j.ox, .int .u16 c.l.j.ol, .int .i64 c.l.j.oe, .int .i64 c.l.j.ok, .int .u16 c.l.j.nv, .int .u16 c.l.j.nx, .int .u16 c.l.j.nl, .int .i64 c.l.j.ne, .int .i64 c.l.j.nk, .bool c.l.j.two, .slice p c.l.es.length k, .string c.sn, .int .u16 c.vs, .int .u16 c.hd, .int .i64 (c.nx 0), .int .i64 (c.nx 1), .int .i64 (c.nx 2), .int .i64 (c.nx 3), .int .i64 (c.nx 4), .int .i64 (c.nx 5), .int .i64 (c.nx 6), .int .i64 (c.nx 7), .int .i64 (c.nx 8), .int .i64 (c.nx 9), .int .i64 (c.mt 0), .int .i64 (c.mt 1), .int .i64 (c.mt 2), .int .i64 (c.mt 3), .int .i64 (c.mt 4), .int .i64 (c.mt 5), .int .i64 (c.mt 6), .int .i64 (c.mt 7), .int .i64 (c.mt 8), .int .i64 (c.mt 9), v] 69 (0, 0))) (hF : LgFit c.l) (hE : EnSl w (.slice p c.l.es.length k) c.l.es) (hT : Tab w) :
    Calls Tryz.prog 115 #[.pointer (some ⟨R, 0, none⟩)] w fun e w' => ∃ u, e = .returned u ∧ w'.ownsRow w.heap.size 3 1 u (othersC c).length ((othersC c).map (Value.int .i64)) ∧ Below w.heap.size w w' := by
  obtain ⟨J, hJ⟩ : ∃ J, confL c.l = J := ⟨_, rfl⟩
  have HO : Hid (othersC c = listS (dropS (membersN J) c.id)) := by show _ = _; unfold othersC; rw [hJ]
  have HB := Lib.hid (show ∀ w', Below w.heap.size w w' → w'.heap[R]? = some (.cells #[.int .i64 c.id, .int .i64 c.role, .int .i64 c.tm, .int .i64 c.vt, .int .i64 c.ld, .int .i64 c.wt, .int .i64 c.cm, .int .i64 c.sf, .int .i64 c.l.b, .int .i64 c.l.bt, .int .u16 c.l.j.ov, .int .u16 c.l.j.ox, .int .u16 c.l.j.ol, .int .i64 c.l.j.oe, .int .i64 c.l.j.ok, .int .u16 c.l.j.nv, .int .u16 c.l.j.nx, .int .u16 c.l.j.nl, .int .i64 c.l.j.ne, .int .i64 c.l.j.nk, .bool c.l.j.two, .slice p c.l.es.length k, .string c.sn, .int .u16 c.vs, .int .u16 c.hd, .int .i64 (c.nx 0), .int .i64 (c.nx 1), .int .i64 (c.nx 2), .int .i64 (c.nx 3), .int .i64 (c.nx 4), .int .i64 (c.nx 5), .int .i64 (c.nx 6), .int .i64 (c.nx 7), .int .i64 (c.nx 8), .int .i64 (c.nx 9), .int .i64 (c.mt 0), .int .i64 (c.mt 1), .int .i64 (c.mt 2), .int .i64 (c.mt 3), .int .i64 (c.mt 4), .int .i64 (c.mt 5), .int .i64 (c.mt 6), .int .i64 (c.mt 7), .int .i64 (c.mt 8), .int .i64 (c.mt 9), v] 69 (0, 0)) from fun w' h => below_block h (block_lt hR) hR)
  have HE := Lib.hid hE; have HT := Lib.hid hT; have HF : Hid (LgFit c.l) := hF; have HJ := Lib.hid hJ
  clear hJ hE hT hF
  go_enter Tryz.func115, Tryz.ntmps115
  go_upto_region 1 with fail
  have h0 : Below w.heap.size w w.drew := (Below.refl _ _).drew
  refine wp_region_held_drew (S := fun w' => Below w.heap.size w w') (by kernel_rfl) h0 (fun hHeld => ?_)
  obtain ⟨wd, ewd⟩ : ∃ x, w.drew = x := ⟨_, rfl⟩
  rw [ewd] at h0 hHeld ⊢
  have k0 : ∀ w', Below w.heap.size w w' → w'.cell? ⟨R, 0, none⟩ = some (.int .i64 c.id) := fun w' h => block_cells (HB.out w' h) 0
  clear ewd
  refine tkL 0 rfl hHeld ?_
  try simp only [zA, zC, Act.put, zD, zE, zF]
  refine tkL 3 rfl hHeld ?_
  try simp only [zA, zB, zC, Act.put, zD, zE, zF]
  refine tkL 4 rfl hHeld ?_
  try simp only [zA, zB, zC, Act.put, zD, zE, zF]
  refine tkL 5 rfl hHeld ?_
  try simp only [zA, zB, zC, Act.put, zD, zE, zF]
  refine tkL 6 rfl hHeld ?_
  try simp only [zA, zB, zC, Act.put, zD, zE, zF]
  refine tkL 7 rfl hHeld ?_
  try simp only [zA, zB, zC, Act.put, zD, zE, zF]
  refine wpAnyH_ready (rs := [1]) (by kernel_rfl) (by simp) ?_; refine AllReadyH.cons rfl (fun K hK => ?_) AllReadyH.nil; (try simp only [zA, zB, zC]); go_simp
  refine (show Calls Tryz.prog 42 #[.pointer (some ⟨R, 0, none⟩)] wd fun e w' => e = .returned (.agg #[.int .u16 J.ov, .int .u16 J.ox, .int .u16 J.ol, .int .i64 J.oe, .int .i64 J.ok, .int .u16 J.nv, .int .u16 J.nx, .int .u16 J.nl, .int .i64 J.ne, .int .i64 J.nk, .bool J.two]) ∧ Below wd.heap.size wd w' from by have := joint_act R c p k v wd (HB.out wd h0) HF.out (HE.out.keep h0 (Nat.le_refl _)); rw [HJ.out] at this; exact this).mono ?_; rintro r0 w1 ⟨rfl, b1⟩
  have s1 := h0.trans (b1.mono h0.size)
  refine hK.out _ _ s1 (fun _ => ?_)
  clear hK K hHeld b1
  try simp only [zA, zB, zC, Act.put, zD, zE, zF]
  have hHeld := s1
  refine wpAnyH_ready (rs := [2]) (by kernel_rfl) (by simp) ?_; refine AllReadyH.cons rfl (fun K hK => ?_) AllReadyH.nil; (try simp only [zA, zB, zC]); go_simp
  refine (show Calls Tryz.prog 147 #[.agg #[.int .u16 J.ov, .int .u16 J.ox, .int .u16 J.ol, .int .i64 J.oe, .int .i64 J.ok, .int .u16 J.nv, .int .u16 J.nx, .int .u16 J.nl, .int .i64 J.ne, .int .i64 J.nk, .bool J.two]] w1 fun e w' => e = .returned (.int .u16 (membersN J)) ∧ Below w1.heap.size w1 w' from confMembers_any J.ov J.ox J.ol J.oe J.ok J.nv J.nx J.nl J.ne J.nk J.two w1).mono ?_; rintro r0 w2 ⟨rfl, b2⟩
  have s2 := s1.trans (b2.mono s1.size)
  refine hK.out _ _ s2 (fun _ => ?_)
  clear hK K hHeld b2
  try simp only [zA, zB, zC, Act.put, zD, zE, zF]
  have hHeld := s2
  refine wpAnyH_ready (rs := [8]) (by kernel_rfl) (by simp) ?_; refine AllReadyH.cons rfl (fun K hK => ?_) AllReadyH.nil; (try simp only [zA, zB, zC]); go_simp
  refine (show Calls Tryz.prog 122 #[.int .u16 (membersN J), .int .i64 c.id] w2 fun e w' => e = .returned (.int .u16 (dropS (membersN J) c.id)) ∧ w2 = w' from less_any _ _ w2).mono ?_; rintro r0 w3 ⟨rfl, rfl⟩
  refine hK.out _ _ s2 (fun _ => ?_)
  clear hK K hHeld
  try simp only [zA, zB, zC, Act.put, zD, zE, zF]
  have hHeld := s2
  refine wpAnyH_ready (rs := [9]) (by kernel_rfl) (by simp) ?_; refine AllReadyH.cons rfl (fun K hK => ?_) AllReadyH.nil; (try simp only [zA, zB, zC]); go_simp
  refine (list_any (dropS (membersN J) c.id) w2 (bits_fit _ _ _).1 (HT.out.keep s2)).mono ?_; rintro r0 w4 ⟨u, rfl, hu, b4⟩
  obtain ⟨pu, cu, rfl⟩ := own_formH hu
  have s4 := s2.trans (b4.mono s2.size)
  have HU : Hid (w4.ownsRow w.heap.size 3 1 (.slice pu (lst (dropS (membersN J) c.id) 9).length cu) (othersC c).length ((othersC c).map (Value.int .i64))) := by
    show w4.ownsRow _ _ _ _ _ _
    rw [HO.out]; exact hu.mono s2.size
  refine hK.out _ _ s4 (fun _ => ?_)
  clear hK K hHeld b4 hu
  try simp only [zA, zB, zC, Act.put, zD, zE, zF]
  have hHeld := s4
  refine tkL 10 rfl hHeld ?_
  try simp only [zA, zB, zC, Act.put, zD, zE, zF]
  refine wpAnyH_done (by kernel_rfl) ?_ _
  have HS4 := Lib.hid s4
  clear hHeld s4 s2 s1 h0 k0
  go_wp2_with fail
  go_ret
  exact ⟨_, rfl, HU.out, HS4.out⟩

theorem own_at2 {w : World} {base : Nat} {e : TypeId} {n c : Nat} {p : Option Addr} {xs : List Value} (h : w.ownsRow base e 1 (.slice p n c) n xs) {i : Nat} (hi : i < n) : ∃ g, p = some ⟨g, 0, none⟩ ∧ base ≤ g ∧ g < w.heap.size ∧ ∀ w' : World, w'.heap[g]? = w.heap[g]? → ∀ j, j < n → w'.cell? ⟨g, j, none⟩ = xs[j]? := by
  rcases h.2 with ⟨-, h0⟩ | ⟨g, cap, cur, hv, hb, hg, -, -, hc, ht⟩
  · subst h0; omega
  · simp only [Value.slice.injEq] at hv
    refine ⟨g, hv.1, hb, block_lt hg, fun w' hw j hj => ?_⟩
    rw [hg] at hw
    rw [block_cells hw, ← ht, List.getElem?_take, if_pos (by omega)]
    simp
theorem lst_range : ∀ (s : Int) (k : Nat), ∀ x ∈ lst s k, 1 ≤ x ∧ x ≤ k
  | _, 0, x, h => by simp [lst] at h
  | s, k + 1, x, h => by
    unfold lst at h
    rcases List.mem_append.1 h with h | h
    · have := lst_range s k x h; omega
    · split at h
      · rw [List.mem_singleton] at h; omega
      · simp at h
set_option maxRecDepth 100000 in
set_option maxHeartbeats 16000000 in
theorem all_act (B R : Nat) (c : Co) (p : Option Addr) (k : Nat) (v : Value) (l : List MsX) (w : World) (h : AcW 69 B w R ⟨c, p, k⟩ v l) (hF : LgFit c.l) (hT : Tab w) (hx : ∀ n, n < 10 → 0 ≤ c.nx n ∧ c.nx n ≤ 4611686018427387904) (hl : l.length ≤ 90000) :
    Calls Tryz.prog 66 #[.pointer (some ⟨R, 0, none⟩)] w fun e w' => e = .returned (.tuple #[]) ∧ ∃ v' l', l'.map MsX.m = l.map MsX.m ++ allM c ∧ AcW 69 B w' R ⟨c, p, k⟩ v' l' ∧ AcR w w' R v v' := by
  have HA := Lib.hid h; have HF : Hid (LgFit c.l) := hF; have HX := Lib.hid hx
  have HCO := Lib.hid (others_act R c p k v w h.blk hF (EnSl.of_own h.en) hT)
  have hvl : ∀ g, w.heap.size ≤ g → v.ownBlock ≠ some g := fun g hg e => by have := (h.vge _ e).2; omega
  have HVL := Lib.hid hvl
  obtain ⟨O, hO⟩ : ∃ O, othersC c = O := ⟨_, rfl⟩
  have hO9 : O.length ≤ 9 := by rw [← hO]; exact lst_le _ 9
  have hOr : ∀ x ∈ O, 1 ≤ x ∧ x ≤ 9 := by rw [← hO]; intro x hx; have := lst_range _ 9 x hx; omega
  have hAM : allM c = O.map fun n => putM c n (bringM c n.toNat) := by unfold allM; rw [hO]
  rw [hO] at HCO
  rw [hAM]
  have HOR := Lib.hid hOr
  clear h hF hT hx hvl hO hAM hOr
  go_enter Tryz.func66, Tryz.ntmps66
  go_wp2_with fail
  refine HCO.out.mono ?_; rintro r w1 ⟨u, rfl, hu, b1⟩
  obtain ⟨pu, cu, rfl⟩ := own_formH hu
  have HU := Lib.hid hu
  have HB1 := Lib.hid b1
  clear hu b1 HCO
  go_wp2_with fail
  go_loopw [7] (fun i wr => ∃ n : Nat, n ≤ O.length ∧ i = .int .i64 n ∧ Hid (∃ v' l', l'.map MsX.m = l.map MsX.m ++ (O.take n).map (fun n => putM c n (bringM c n.toNat)) ∧ l'.length = l.length + n ∧ AcW 69 B wr R ⟨c, p, k⟩ v' l' ∧ AcR w wr R v v' ∧ w1.heap.size ≤ wr.heap.size ∧ ∀ g, w.heap.size ≤ g → g < w1.heap.size → wr.heap[g]? = w1.heap[g]? ∧ v'.ownBlock ≠ some g)) (fun i _ => O.length - (intOf i).toNat)
  case atStart => exact ⟨0, Nat.zero_le _, rfl, v, l, by simp, rfl, HA.out.keep HB1.out, AcR.below HB1.out, Nat.le_refl _, fun g hg _ => ⟨rfl, HVL.out g hg⟩⟩
  case round =>
    obtain ⟨n, hn, rfl, HS⟩ := hrel
    obtain ⟨wk, rfl⟩ : ∃ wk : World, wk = wr := ⟨_, rfl⟩
    by_cases hlt : n < O.length
    · have hd : decide ((n : Int) < (O.length : Int)) = true := by simp; omega
      have hkm : (n : Int) < (O.length : Int) := by omega
      obtain ⟨v', l', hl1, hl2, hA, hr, hsz, hg⟩ := HS.out
      obtain ⟨g, rfl, hgb, hgl, hgc⟩ := own_at2 HU.out hlt
      obtain ⟨x, hxx⟩ : ∃ x, O[n] = x := ⟨_, rfl⟩
      obtain ⟨x0, x1⟩ := HOR.out x (by rw [← hxx]; exact List.getElem_mem hlt)
      obtain ⟨xn, rfl⟩ : ∃ xn : Nat, x = (xn : Int) := ⟨x.toNat, by omega⟩
      have hcell : wk.cell? ⟨g, n, none⟩ = some (.int .i64 (xn : Int)) := by rw [hgc wk (hg g hgb hgl).1 n hlt, List.getElem?_map, List.getElem?_eq_getElem hlt, hxx]; rfl
      have HC := Lib.hid (bring_act B R xn c p k v' l' wk hA HF.out (by omega) (HX.out xn (by omega)) (by omega))
      have HNX := Lib.hid (show ∀ v2 l2 (w2 : World), l2.map MsX.m = (l' ++ [(⟨putM c (xn : Int) (bringM c xn), none, 0⟩ : MsX)]).map MsX.m → l2.length = l'.length + 1 → AcW 69 B w2 R ⟨c, p, k⟩ v2 l2 → AcR wk w2 R v' v2 → ∃ v' l', l'.map MsX.m = l.map MsX.m ++ (O.take (n + 1)).map (fun n => putM c n (bringM c n.toNat)) ∧ l'.length = l.length + (n + 1) ∧ AcW 69 B w2 R ⟨c, p, k⟩ v' l' ∧ AcR w w2 R v v' ∧ w1.heap.size ≤ w2.heap.size ∧ ∀ g, w.heap.size ≤ g → g < w1.heap.size → w2.heap[g]? = w1.heap[g]? ∧ v'.ownBlock ≠ some g from fun v2 l2 w2 e1 e2 hA2 hr2 => ⟨v2, l2, by
          rw [e1, List.map_append, hl1, List.take_succ_eq_append_getElem hlt, List.map_append, hxx, List.append_assoc]; rfl, by omega, hA2, hr.trans hr2, Nat.le_trans hsz hr2.size, fun g hg1 hg2 => by
          obtain ⟨h1, h2⟩ := hg g hg1 hg2
          have hRg : g ≠ R := by have := HA.out.lt; omega
          obtain ⟨h3, h4⟩ := hr2.oth g (by omega) hRg h2
          exact ⟨h3.trans h1, h4⟩⟩)
      clear hl1 hl2 hA hr hsz hg hgc hxx HS hgb hgl
      go_wp2_with fail
      refine HC.out.mono ?_; rintro r w2 ⟨rfl, v2, q, d, hA2, hr2⟩
      have HS2 := Lib.hid (HNX.out v2 _ w2 (by simp) (by simp) hA2 hr2)
      clear hA2 hr2 HC HNX hcell
      go_wp2_with fail
      go_roundw
      case rel => exact ⟨n + 1, by omega, by go_num, HS2⟩
      case measure => simp [intOf]; omega
    · obtain rfl : n = O.length := by omega
      have hd : decide ((O.length : Int) < (O.length : Int)) = false := by simp
      obtain ⟨v', l', hl1, -, hA, hr, -, -⟩ := HS.out
      rw [List.take_of_length_le (Nat.le_refl _)] at hl1
      have HZ := Lib.hid (And.intro hl1 (And.intro hA hr))
      clear hl1 hA hr HS
      go_wp2_with fail
      go_end0
      exact ⟨rfl, v', l', HZ.out.1, HZ.out.2.1, HZ.out.2.2⟩
end Go.Proofs.YtbnndbdnejfehaaGreatDoor
