import Derived.Test.YtbnndbdnejfehaaGreatDoorActE
import Derived.Test.YtbnndbdnejfehaaGreatDoorRef13A
import Derived.Test.YtbnndbdnejfehaaGreatDoorRef10c
import Derived.Test.YtbnndbdnejfehaaGreatDoorPlainConf2
import Derived.Test.YtbnndbdnejfehaaGreatDoorPlainBack9
import Derived.Test.YtbnndbdnejfehaaGreatDoorRef10d
import Derived.Test.YtbnndbdnejfehaaGreatDoorActB
import Derived.Test.YtbnndbdnejfehaaGreatDoorSets
/- Core: methods of a run (the reference's): all others are sent what they lack. -/
namespace Go.Proofs.YtbnndbdnejfehaaGreatDoor
open Go.ChangeShapes Go.WideShapes Go.ChangeAt Go.RowKit

theorem membersN_1 {j : Jn} (_h : JoF (joX j)) : membersN j ≤ 65535 := by
  unfold membersN
  exact pickB_1 _ _ _ (bits_fit _ _ _).2
theorem lst_drop (s n : Int) (h0 : 0 ≤ s) : ∀ k : Nat, lst (dropS s n) k = (lst s k).filter fun x => decide (x ≠ n)
  | 0 => rfl
  | k + 1 => by
    unfold lst
    rw [lst_drop s n h0 k, List.filter_append]
    congr 1
    unfold dropS
    rw [has_less s n _ h0]
    cases hasB s ((k : Int) + 1) with
    | false => simp
    | true =>
      by_cases e : n = (k : Int) + 1
      · simp [e]
      · have e2 : ¬ (k : Int) + 1 = n := fun h => e h.symm
        simp [e, e2]
theorem rmembersN (J : Jn) (hj : JoF (joX J)) (hm : jnM J = true) (w : World) : Calls Tryz.prog 124 #[.agg #[.int .u16 J.ov, .int .u16 J.ox, .int .u16 J.ol, .int .i64 J.oe, .int .i64 J.ok, .int .u16 J.nv, .int .u16 J.nx, .int .u16 J.nl, .int .i64 J.ne, .int .i64 J.nk, .bool J.two]] w fun r w' => r = .returned (.int .u16 (membersN J)) ∧ Below w.heap.size w w' := by
  have fo := cfF_fit hj.1; have fn := cfF_fit hj.2
  have := refMembers_any J.ov J.ox J.ol J.oe J.ok J.nv J.nx J.nl J.ne J.nk J.two fo fn w
  rw [voting_same J.ov J.ox J.ol J.oe J.ok J.nv J.nx J.nl J.ne J.nk J.two fo fn hm, data_same J.ov J.ox J.ol J.oe J.ok J.nv J.nx J.nl J.ne J.nk J.two fo fn hm, members_same J.ov J.ox J.ol J.oe J.ok J.nv J.nx J.nl J.ne J.nk J.two fo fn hm] at this
  exact this

set_option maxRecDepth 100000 in
set_option maxHeartbeats 16000000 in
theorem rall_act (B R : Nat) (c : Co) (p : Option Addr) (k : Nat) (v : Value) (l : List MsX) (w : World) (h : AcW 76 B w R ⟨c, p, k⟩ v l) (hF : LgFit c.l) (_hid : 1 ≤ c.id ∧ c.id ≤ 9) (hm : jnM (confL c.l) = true) (hj : JoF (joX (confL c.l))) (hx : ∀ n, n < 10 → 0 ≤ c.nx n ∧ c.nx n ≤ 4611686018427387904) (hl : l.length ≤ 90000) :
    Calls Tryz.prog 70 #[.pointer (some ⟨R, 0, none⟩)] w fun e w' => e = .returned (.tuple #[]) ∧ ∃ v' l', l'.map MsX.m = l.map MsX.m ++ allM c ∧ AcW 76 B w' R ⟨c, p, k⟩ v' l' ∧ AcR w w' R v v' := by
  have HA := Lib.hid h; have HF : Hid (LgFit c.l) := hF; have HX := Lib.hid hx
  have hvl : ∀ g, w.heap.size ≤ g → v.ownBlock ≠ some g := fun g hg e => by have := (h.vge _ e).2; omega
  have HVL := Lib.hid hvl
  obtain ⟨J, hJ⟩ : ∃ J, confL c.l = J := ⟨_, rfl⟩
  rw [hJ] at hm hj
  obtain ⟨O, hO⟩ : ∃ O, listS (membersN J) = O := ⟨_, rfl⟩
  have hO9 : O.length ≤ 9 := by rw [← hO]; exact lst_le _ 9
  have hOr : ∀ x ∈ O, 1 ≤ x ∧ x ≤ 9 := by rw [← hO]; intro x hx; have := lst_range _ 9 x hx; omega
  have hAM : allM c = (O.filter fun n => decide (n ≠ c.id)).map fun n => putM c n (bringM c n.toNat) := by
    unfold allM othersC; rw [hJ, ← hO]; unfold listS; rw [lst_drop _ _ (membersN_0 hj) 9]
  have HCJ := Lib.hid (show Calls Tryz.prog 54 #[.pointer (some ⟨R, 0, none⟩)] w fun e w' => e = .returned (.agg #[.int .u16 J.ov, .int .u16 J.ox, .int .u16 J.ol, .int .i64 J.oe, .int .i64 J.ok, .int .u16 J.nv, .int .u16 J.nx, .int .u16 J.nl, .int .i64 J.ne, .int .i64 J.nk, .bool J.two]) ∧ Below w.heap.size w w' from by have := rjoint_act R c p k v w HA.out.blk HF.out (EnSl.of_own HA.out.en); rw [hJ] at this; exact this)
  have HCM := Lib.hid (fun w => rmembersN J hj hm w)
  have HCL := Lib.hid (show ∀ w, Calls Tryz.prog 74 #[.int .u16 (membersN J)] w fun e w' => ∃ v, e = .returned v ∧ w'.ownsRow w.heap.size 3 1 v O.length (O.map (Value.int .i64)) ∧ Below w.heap.size w w' from fun w => by
    have := refList_any (membersN J) w (membersN_0 hj) (membersN_1 hj); rw [show lst (membersN J) 9 = O from hO] at this; exact this)
  rw [hAM]
  clear hJ
  have HOR := Lib.hid hOr
  clear h hF hx hvl hO hAM hOr hm hj
  go_enter Tryz.func70, Tryz.ntmps70
  go_wp2_with fail
  refine HCJ.out.mono ?_; rintro r wa ⟨rfl, ba⟩
  have HBa := Lib.hid ba
  clear ba HCJ
  go_wp2_with fail
  refine (HCM.out wa).mono ?_; rintro r wb ⟨rfl, bb⟩
  have HBb := Lib.hid (HBa.out.trans (bb.mono HBa.out.size))
  clear bb HCM HBa
  go_wp2_with fail
  refine (HCL.out wb).mono ?_; rintro r w1 ⟨u, rfl, hu0, b10⟩
  have b1 := HBb.out.trans (b10.mono HBb.out.size)
  have hu := hu0.mono HBb.out.size
  obtain ⟨pu, cu, rfl⟩ := own_formH hu
  have HU := Lib.hid hu
  have HB1 := Lib.hid b1
  clear hu hu0 b1 b10 HCL HBb
  go_wp2_with fail
  go_loopw [3] (fun i wr => ∃ n : Nat, n ≤ O.length ∧ i = .int .i64 n ∧ Hid (∃ v' l', l'.map MsX.m = l.map MsX.m ++ ((O.take n).filter fun n => decide (n ≠ c.id)).map (fun n => putM c n (bringM c n.toNat)) ∧ l'.length ≤ l.length + n ∧ AcW 76 B wr R ⟨c, p, k⟩ v' l' ∧ AcR w wr R v v' ∧ w1.heap.size ≤ wr.heap.size ∧ ∀ g, w.heap.size ≤ g → g < w1.heap.size → wr.heap[g]? = w1.heap[g]? ∧ v'.ownBlock ≠ some g)) (fun i _ => O.length - (intOf i).toNat)
  case atStart => exact ⟨0, Nat.zero_le _, rfl, v, l, by simp, Nat.le_refl _, HA.out.keep HB1.out, AcR.below HB1.out, Nat.le_refl _, fun g hg _ => ⟨rfl, HVL.out g hg⟩⟩
  case round =>
    obtain ⟨n, hn, rfl, HS⟩ := hrel
    obtain ⟨wk, rfl⟩ : ∃ wk : World, wk = wr := ⟨_, rfl⟩
    by_cases hlt : n < O.length
    · have hd : decide ((n : Int) < (O.length : Int)) = true := by simp; omega
      have hkm : (n : Int) < (O.length : Int) := by omega
      obtain ⟨v', l', hl1, hl2, hA, hr, hsz, hg⟩ := HS.out
      obtain ⟨g, rfl, hgb, hgl, hgc⟩ := own_at2 HU.out hlt
      obtain ⟨x, hxx⟩ : ∃ x, O[n] = x := ⟨_, rfl⟩
      obtain ⟨x0, x1⟩ := HOR.out x (by rw [← hxx]; exact List.getElem_mem hlt)
      obtain ⟨xn, rfl⟩ : ∃ xn : Nat, x = (xn : Int) := ⟨x.toNat, by omega⟩
      have hcell : ∀ w' : World, w'.heap[g]? = wk.heap[g]? → w'.cell? ⟨g, n, none⟩ = some (.int .i64 (xn : Int)) := fun w' hw' => by rw [hgc w' (hw'.trans (hg g hgb hgl).1) n hlt, List.getElem?_map, List.getElem?_eq_getElem hlt, hxx]; rfl
      have hn0 : 0 ≤ (n : Int) := by omega
      have HCELL := Lib.hid hcell
      have HBR := Lib.hid (show ∀ w', Below wk.heap.size wk w' → Calls Tryz.prog 109 #[.pointer (some ⟨R, 0, none⟩), .int .i64 (xn : Int)] w' fun e w2 => e = .returned (.tuple #[]) ∧ ∃ v2 q d, AcW 76 B w2 R ⟨c, p, k⟩ v2 (l' ++ [⟨putM c (xn : Int) (bringM c xn), q, d⟩]) ∧ AcR w' w2 R v' v2 from fun w' hb => rbring_act B R xn c p k v' l' w' (hA.keep hb) HF.out (by omega) (HX.out xn (by omega)) (by omega))
      have HGL := Lib.hid (show g < wk.heap.size from by omega)
      have hkp : ∀ v2 (w2 : World), AcR wk w2 R v' v2 → w1.heap.size ≤ w2.heap.size ∧ ∀ g, w.heap.size ≤ g → g < w1.heap.size → w2.heap[g]? = w1.heap[g]? ∧ v2.ownBlock ≠ some g := fun v2 w2 hr2 => ⟨Nat.le_trans hsz hr2.size, fun g hg1 hg2 => by
        obtain ⟨h1, h2⟩ := hg g hg1 hg2
        have hRg : g ≠ R := by have := HA.out.lt; omega
        obtain ⟨h3, h4⟩ := hr2.oth g (by omega) hRg h2
        exact ⟨h3.trans h1, h4⟩⟩
      have HKP := Lib.hid hkp
      have HA1 := Lib.hid hA; have HR1 := Lib.hid hr; have HL1 := Lib.hid hl1; have HL2 := Lib.hid hl2
      have HTK := Lib.hid (show (O.take (n + 1)).filter (fun n => decide (n ≠ c.id)) = (O.take n).filter (fun n => decide (n ≠ c.id)) ++ (if (xn : Int) = c.id then [] else [(xn : Int)]) from by
        rw [List.take_succ_eq_append_getElem hlt, List.filter_append, hxx]
        by_cases e : (xn : Int) = c.id
        · simp [e]
        · simp [e])
      clear hl1 hl2 hA hr hsz hg hgc hxx HS hgb hgl hkp hcell
      go_upto_region 4 with fail
      have h0 : Below wk.heap.size wk wk.drew := (Below.refl _ _).drew
      refine wp_region_held_drew (S := fun w' => Below wk.heap.size wk w') (by kernel_rfl) h0 (fun hHeld => ?_)
      obtain ⟨wd, ewd⟩ : ∃ x, wk.drew = x := ⟨_, rfl⟩
      rewrite [ewd] at h0 hHeld ⊢
      have k0 : ∀ w', Below wk.heap.size wk w' → w'.cell? ⟨R, 0, none⟩ = some (.int .i64 c.id) := fun w' h => block_cells (below_block h HA1.out.lt HA1.out.blk) 0
      have kc : ∀ w', Below wk.heap.size wk w' → w'.cell? ⟨g, n, none⟩ = some (.int .i64 (xn : Int)) := fun w' h => HCELL.out w' (h.block g HGL.out)
      clear ewd
      refine tkL 0 rfl hHeld ?_
      try simp only [zA, zC, Act.put, zD, zE, zF]
      refine tkL 1 rfl hHeld ?_
      try simp only [zA, zB, zC, Act.put, zD, zE, zF]
      refine tkL 2 rfl hHeld ?_
      try simp only [zA, zB, zC, Act.put, zD, zE, zF]
      refine tkL 3 rfl hHeld ?_
      try simp only [zA, zB, zC, Act.put, zD, zE, zF]
      refine tkL 4 rfl hHeld ?_
      try simp only [zA, zB, zC, Act.put, zD, zE, zF]
      refine tkL 5 rfl hHeld ?_
      try simp only [zA, zB, zC, Act.put, zD, zE, zF]
      refine tkL 6 rfl hHeld ?_
      try simp only [zA, zB, zC, Act.put, zD, zE, zF]
      refine tkL 7 rfl hHeld ?_
      try simp only [zA, zB, zC, Act.put, zD, zE, zF]
      refine tkL 8 rfl hHeld ?_
      try simp only [zA, zB, zC, Act.put, zD, zE, zF]
      refine tkL 9 rfl hHeld ?_
      try simp only [zA, zB, zC, Act.put, zD, zE, zF]
      refine wpAnyH_done (by kernel_rfl) ?_ _
      have H0 := Lib.hid h0
      have kd := HCELL.out wd (H0.out.block g HGL.out)
      clear hHeld h0 k0 kc
      by_cases e : (xn : Int) = c.id
      · have hd2 : ((xn : Int) != c.id) = false := by simp [e]
        have HS2 : Hid (∃ v' l', l'.map MsX.m = l.map MsX.m ++ ((O.take (n + 1)).filter fun n => decide (n ≠ c.id)).map (fun n => putM c n (bringM c n.toNat)) ∧ l'.length ≤ l.length + (n + 1) ∧ AcW 76 B wd R ⟨c, p, k⟩ v' l' ∧ AcR w wd R v v' ∧ w1.heap.size ≤ wd.heap.size ∧ ∀ g, w.heap.size ≤ g → g < w1.heap.size → wd.heap[g]? = w1.heap[g]? ∧ v'.ownBlock ≠ some g) :=
          ⟨v', l', by rw [HL1.out, HTK.out, if_pos e, List.append_nil], by have := HL2.out; omega, HA1.out.keep H0.out, HR1.out.trans (AcR.below H0.out), HKP.out v' wd (AcR.below H0.out)⟩
        clear e
        go_wp2_with fail
        go_roundw
        case rel => exact ⟨n + 1, by omega, by go_num, HS2⟩
        case measure => simp [intOf]; omega
      · have hd2 : ((xn : Int) != c.id) = true := by simp [e]
        have HE := Lib.hid e
        clear e
        go_wp2_with fail
        refine (HBR.out wd H0.out).mono ?_; rintro r w2 ⟨rfl, v2, q, d, hA2, hr2⟩
        have HS2 : Hid (∃ v' l', l'.map MsX.m = l.map MsX.m ++ ((O.take (n + 1)).filter fun n => decide (n ≠ c.id)).map (fun n => putM c n (bringM c n.toNat)) ∧ l'.length ≤ l.length + (n + 1) ∧ AcW 76 B w2 R ⟨c, p, k⟩ v' l' ∧ AcR w w2 R v v' ∧ w1.heap.size ≤ w2.heap.size ∧ ∀ g, w.heap.size ≤ g → g < w1.heap.size → w2.heap[g]? = w1.heap[g]? ∧ v'.ownBlock ≠ some g) :=
          ⟨v2, _, by rw [HTK.out, if_neg HE.out, List.map_append, List.map_append, HL1.out, List.append_assoc]; rfl, by rw [List.length_append, List.length_singleton]; have := HL2.out; omega, hA2, HR1.out.trans ((AcR.below H0.out).trans hr2), HKP.out v2 w2 ((AcR.below H0.out).trans hr2)⟩
        clear hA2 hr2 HBR
        go_wp2_with fail
        go_roundw
        case rel => exact ⟨n + 1, by omega, by go_num, HS2⟩
        case measure => simp [intOf]; omega
    · obtain rfl : n = O.length := by omega
      have hd : decide ((O.length : Int) < (O.length : Int)) = false := by simp
      obtain ⟨v', l', hl1, -, hA, hr, -, -⟩ := HS.out
      rw [List.take_of_length_le (Nat.le_refl _)] at hl1
      have HZ := Lib.hid (And.intro hl1 (And.intro hA hr))
      clear hl1 hA hr HS
      go_wp2_with fail
      go_end0
      exact ⟨rfl, v', l', HZ.out.1, HZ.out.2.1, HZ.out.2.2⟩
end Go.Proofs.YtbnndbdnejfehaaGreatDoor
/- Core: methods of an act: whether anybody hears a leader; how long a node is patient. -/
namespace Go.Proofs.YtbnndbdnejfehaaGreatDoor
open Go.ChangeShapes Go.WideShapes Go.ChangeAt Go.RowKit

set_option maxRecDepth 100000 in
set_option maxHeartbeats 8000000 in
theorem patience_any (id : Int) (w : World) (h0 : 0 ≤ id) (h1 : id ≤ 1000000) :
    Calls Tryz.prog 23 #[.int .i64 id] w fun e w' => e = .returned (.int .i64 (patience id)) ∧ w = w' := by
  have HP : Hid (12 + 4 * id = patience id) := rfl
  go_enter Tryz.func23, Tryz.ntmps23
  go_wp2_with fail
  go_ret
  rw [← HP.out]
  exact ⟨rfl, rfl⟩
set_option maxRecDepth 100000 in
set_option maxHeartbeats 8000000 in
theorem rpatience_any (id : Int) (w : World) (h0 : 0 ≤ id) (h1 : id ≤ 1000000) :
    Calls Tryz.prog 24 #[.int .i64 id] w fun e w' => e = .returned (.int .i64 (patience id)) ∧ w = w' := by
  have HP : Hid (12 + 4 * id = patience id) := rfl
  go_enter Tryz.func24, Tryz.ntmps24
  go_wp2_with fail
  go_ret
  rw [← HP.out]
  exact ⟨rfl, rfl⟩
set_option maxRecDepth 100000 in
set_option maxHeartbeats 8000000 in
theorem looks_act (B R : Nat) (c : Co) (p : Option Addr) (k : Nat) (v : Value) (l : List MsX) (w : World) (h : AcW 69 B w R ⟨c, p, k⟩ v l) (hF : LgFit c.l) :
    Calls Tryz.prog 67 #[.pointer (some ⟨R, 0, none⟩)] w fun e w' => e = .returned (.tuple #[]) ∧ AcW 69 B w' R ⟨looksC c, p, k⟩ v l ∧ AcR w w' R v v := by
  obtain ⟨J, hJ⟩ : ∃ J, confL c.l = J := ⟨_, rfl⟩
  obtain ⟨G, hG⟩ : ∃ G, commitsN J (withS c.hd c.id) = G := ⟨_, rfl⟩
  have hLC : looksC c = if G = true then { c with hd := 0, wt := 0 } else yieldsC c := by unfold looksC; rw [hJ, hG]
  have HLC := Lib.hid hLC
  have HA := Lib.hid h; have HF : Hid (LgFit c.l) := hF; have HJ := Lib.hid hJ; have HG := Lib.hid hG
  clear h hF hJ hG hLC
  go_enter Tryz.func67, Tryz.ntmps67
  go_upto_region 0 with fail
  have h0 : Below w.heap.size w w.drew := (Below.refl _ _).drew
  refine wp_region_held_drew (S := fun w' => Below w.heap.size w w') (by kernel_rfl) h0 (fun hHeld => ?_)
  obtain ⟨wd, ewd⟩ : ∃ x, w.drew = x := ⟨_, rfl⟩
  rewrite [ewd] at h0 hHeld ⊢
  have k0 : ∀ w', Below w.heap.size w w' → w'.cell? ⟨R, 0, none⟩ = some (.int .i64 c.id) := fun w' h => block_cells (below_block h HA.out.lt HA.out.blk) 0
  have k24 : ∀ w', Below w.heap.size w w' → w'.cell? ⟨R, 24, none⟩ = some (.int .u16 c.hd) := fun w' h => block_cells (below_block h HA.out.lt HA.out.blk) 24
  clear ewd
  refine tkL 0 rfl hHeld ?_
  try simp only [zA, zC, Act.put, zD, zE, zF]
  refine tkL 2 rfl hHeld ?_
  try simp only [zA, zB, zC, Act.put, zD, zE, zF]
  refine tkL 3 rfl hHeld ?_
  try simp only [zA, zB, zC, Act.put, zD, zE, zF]
  refine tkL 4 rfl hHeld ?_
  try simp only [zA, zB, zC, Act.put, zD, zE, zF]
  refine tkL 5 rfl hHeld ?_
  try simp only [zA, zB, zC, Act.put, zD, zE, zF]
  refine tkL 6 rfl hHeld ?_
  try simp only [zA, zB, zC, Act.put, zD, zE, zF]
  refine tkL 7 rfl hHeld ?_
  try simp only [zA, zB, zC, Act.put, zD, zE, zF]
  refine tkL 8 rfl hHeld ?_
  try simp only [zA, zB, zC, Act.put, zD, zE, zF]
  refine tkL 9 rfl hHeld ?_
  try simp only [zA, zB, zC, Act.put, zD, zE, zF]
  refine tkL 10 rfl hHeld ?_
  try simp only [zA, zB, zC, Act.put, zD, zE, zF]
  refine tkL 11 rfl hHeld ?_
  try simp only [zA, zB, zC, Act.put, zD, zE, zF]
  refine wpAnyH_ready (rs := [1]) (by kernel_rfl) (by simp) ?_; refine AllReadyH.cons rfl (fun K hK => ?_) AllReadyH.nil; (try simp only [zA, zB, zC]); go_simp
  refine (show Calls Tryz.prog 42 #[.pointer (some ⟨R, 0, none⟩)] wd fun e w' => e = .returned (.agg #[.int .u16 J.ov, .int .u16 J.ox, .int .u16 J.ol, .int .i64 J.oe, .int .i64 J.ok, .int .u16 J.nv, .int .u16 J.nx, .int .u16 J.nl, .int .i64 J.ne, .int .i64 J.nk, .bool J.two]) ∧ Below wd.heap.size wd w' from by have := joint_act R c p k v wd (below_block h0 HA.out.lt HA.out.blk) HF.out ((EnSl.of_own HA.out.en).keep h0 (Nat.le_refl _)); rw [HJ.out] at this; exact this).mono ?_; rintro r0 w1 ⟨rfl, b1⟩
  have s1 := h0.trans (b1.mono h0.size)
  refine hK.out _ _ s1 (fun _ => ?_)
  clear hK K hHeld b1
  try simp only [zA, zB, zC, Act.put, zD, zE, zF]
  have hHeld := s1
  refine wpAnyH_ready (rs := [12]) (by kernel_rfl) (by simp) ?_; refine AllReadyH.cons rfl (fun K hK => ?_) AllReadyH.nil; (try simp only [zA, zB, zC]); go_simp
  refine (show Calls Tryz.prog 40 #[.int .u16 c.hd, .int .i64 c.id] w1 fun e w' => e = .returned (.int .u16 (withS c.hd c.id)) ∧ w1 = w' from with_any _ _ w1).mono ?_; rintro r0 w3 ⟨rfl, rfl⟩
  refine hK.out _ _ s1 (fun _ => ?_)
  clear hK K hHeld
  try simp only [zA, zB, zC, Act.put, zD, zE, zF]
  have hHeld := s1
  refine wpAnyH_ready (rs := [13]) (by kernel_rfl) (by simp) ?_; refine AllReadyH.cons rfl (fun K hK => ?_) AllReadyH.nil; (try simp only [zA, zB, zC]); go_simp
  refine (show Calls Tryz.prog 116 #[.agg #[.int .u16 J.ov, .int .u16 J.ox, .int .u16 J.ol, .int .i64 J.oe, .int .i64 J.ok, .int .u16 J.nv, .int .u16 J.nx, .int .u16 J.nl, .int .i64 J.ne, .int .i64 J.nk, .bool J.two], .int .u16 (withS c.hd c.id)] w1 fun e w' => e = .returned (.bool G) ∧ Below w1.heap.size w1 w' from by have := confCommits_any J.ov J.ox J.ol J.oe J.ok J.nv J.nx J.nl J.ne J.nk (withS c.hd c.id) J.two w1; rw [show commitsJ J.ov J.ox J.ol J.oe J.ok J.nv J.nx J.nl J.ne J.nk J.two (withS c.hd c.id) = G from HG.out] at this; exact this).mono ?_; rintro r0 w2 ⟨rfl, b2⟩
  have s2 := s1.trans (b2.mono s1.size)
  refine hK.out _ _ s2 (fun _ => ?_)
  clear hK K hHeld b2
  try simp only [zA, zB, zC, Act.put, zD, zE, zF]
  have hHeld := s2
  refine tkL 14 rfl hHeld ?_
  try simp only [zA, zB, zC, Act.put, zD, zE, zF]
  refine wpAnyH_done (by kernel_rfl) ?_ _
  have HA2 := Lib.hid (HA.out.keep s2); have HB2 := Lib.hid (AcR.below (R := R) (v := v) s2)
  clear hHeld s2 s1 h0 k0 k24
  cases G with
  | false =>
    have HY := Lib.hid (yields_act B R c p k v l w2 HA2.out)
    have HLF : Hid (looksC c = yieldsC c) := by show _ = _; rw [HLC.out]; rfl
    go_wp2_with fail
    refine HY.out.mono ?_; rintro r w4 ⟨rfl, hA4, hr4⟩
    have HO := Lib.hid (And.intro hA4 (HB2.out.trans hr4))
    clear hA4 hr4 HY
    go_wp2_with fail
    refine bodyPost_ret (results_none rfl _ _ _) rfl ?_
    rw [HLF.out]
    exact ⟨rfl, HO.out.1, HO.out.2⟩
  | true =>
    have HLF : Hid (looksC c = { c with hd := 0, wt := 0 }) := by show _ = _; rw [HLC.out]; rfl
    have hp1 := HA2.out.put 24 (.int .u16 0) (by decide) ⟨{ c with hd := 0 }, p, k⟩ rfl rfl rfl rfl
    have hp2 := hp1.1.put 5 (.int .i64 0) (by decide) ⟨{ c with hd := 0, wt := 0 }, p, k⟩ rfl rfl rfl rfl
    have HP := Lib.hid (And.intro hp2.1 ((HB2.out.trans hp1.2).trans hp2.2))
    have k24 : w2.cell? ⟨R, 24, none⟩ = some (.int .u16 c.hd) := block_cells HA2.out.blk 24
    have f24 : w2.frozen? ⟨R, 24, none⟩ = false := block_free HA2.out.blk 24
    have k5 : (w2.setCell ⟨R, 24, none⟩ (.int .u16 0)).cell? ⟨R, 5, none⟩ = some (.int .i64 c.wt) := block_cells hp1.1.blk 5
    have f5 : (w2.setCell ⟨R, 24, none⟩ (.int .u16 0)).frozen? ⟨R, 5, none⟩ = false := block_free hp1.1.blk 5
    clear hp1 hp2
    go_wp2_with fail
    go_end0
    rw [HLF.out]
    exact ⟨rfl, HP.out.1, HP.out.2⟩
end Go.Proofs.YtbnndbdnejfehaaGreatDoor
/- Core: methods of an act: the number of the entry that the configuration in force stands in. -/
namespace Go.Proofs.YtbnndbdnejfehaaGreatDoor
open Go.ChangeShapes Go.WideShapes Go.ChangeAt Go.RowKit

/-- The last entry of a configuration's kind among the first k: its number; 0: there is none. -/
def stoodK (l : Lg) : Nat → Int
  | 0 => 0
  | k + 1 => if (l.es.getD k ent0).k = 2 then l.b + 1 + k else stoodK l k
theorem stoodK_gt {l : Lg} {v : Int} (h0 : 0 ≤ l.b) (hv : l.b ≤ v) : ∀ k : Nat, v < stoodK l k ↔ v < (confA l k).2
  | 0 => by
    show v < 0 ↔ v < l.b
    omega
  | k + 1 => by
    unfold stoodK confA
    split
    · exact Iff.rfl
    · exact stoodK_gt h0 hv k
set_option maxRecDepth 100000 in
set_option maxHeartbeats 8000000 in
theorem stood_act (R : Nat) (c : Co) (p : Option Addr) (k : Nat) (v : Value) (w : World) (hR : w.heap[R]? = some (.cells #[.int .i64 c.id, .int .i64 c.role, .int .i64 c.tm, .int .i64 c.vt, .int .i64 c.ld, .int .i64 c.wt, .int .i64 c.cm, .int .i64 c.sf, .int .i64 c.l.b, .int .i64 c.l.bt, .int .u16 c.l.j.ov, .int .u16 c.l.j.ox, .int .u16 c.l.j.ol, .int .i64 c.l.j.oe, .int .i64 c.l.j.ok, .int .u16 c.l.j.nv, .int .u16 c.l.j.nx, .int .u16 c.l.j.nl, .int .i64 c.l.j.ne, .int .i64 c.l.j.nk, .bool c.l.j.two, .slice p c.l.es.length k, .string c.sn, .int .u16 c.vs, .int .u16 c.hd, .int .i64 (c.nx 0), .int .i64 (c.nx 1), .int .i64 (c.nx 2), .int .i64 (c.nx 3), .int .i64 (c.nx 4), .int .i64 (c.nx 5), .int .i64 (c.nx 6), .int .i64 (c.nx 7), .int .i64 (c.nx 8), .int .i64 (c.nx 9), .int .i64 (c.mt 0), .int .i64 (c.mt 1), .int .i64 (c.mt 2), .int .i64 (c.mt 3), .int .i64 (c.mt 4), .int .i64 (c.mt 5), .int .i64 (c.mt 6), .int .i64 (c.mt 7), .int .i64 (c.mt 8), .int .i64 (c.mt 9), v] 69 (0, 0))) (hF : LgFit c.l) (hE : EnSl w (.slice p c.l.es.length k) c.l.es) :
    Calls Tryz.prog 126 #[.pointer (some ⟨R, 0, none⟩)] w fun e w' => e = .returned (.int .i64 (stoodK c.l c.l.es.length)) ∧ Below w.heap.size w w' := by
  have HR := Lib.hid (show ∀ w', Below w.heap.size w w' → w'.heap[R]? = some (.cells #[.int .i64 c.id, .int .i64 c.role, .int .i64 c.tm, .int .i64 c.vt, .int .i64 c.ld, .int .i64 c.wt, .int .i64 c.cm, .int .i64 c.sf, .int .i64 c.l.b, .int .i64 c.l.bt, .int .u16 c.l.j.ov, .int .u16 c.l.j.ox, .int .u16 c.l.j.ol, .int .i64 c.l.j.oe, .int .i64 c.l.j.ok, .int .u16 c.l.j.nv, .int .u16 c.l.j.nx, .int .u16 c.l.j.nl, .int .i64 c.l.j.ne, .int .i64 c.l.j.nk, .bool c.l.j.two, .slice p c.l.es.length k, .string c.sn, .int .u16 c.vs, .int .u16 c.hd, .int .i64 (c.nx 0), .int .i64 (c.nx 1), .int .i64 (c.nx 2), .int .i64 (c.nx 3), .int .i64 (c.nx 4), .int .i64 (c.nx 5), .int .i64 (c.nx 6), .int .i64 (c.nx 7), .int .i64 (c.nx 8), .int .i64 (c.nx 9), .int .i64 (c.mt 0), .int .i64 (c.mt 1), .int .i64 (c.mt 2), .int .i64 (c.mt 3), .int .i64 (c.mt 4), .int .i64 (c.mt 5), .int .i64 (c.mt 6), .int .i64 (c.mt 7), .int .i64 (c.mt 8), .int .i64 (c.mt 9), v] 69 (0, 0)) from fun w' h => below_block h (block_lt hR) hR)
  have HE := Lib.hid hE; have HF : Hid (LgFit c.l) := hF
  have kR := block_cells hR
  have HCL := Lib.hid (show Calls Tryz.prog 64 #[.agg #[.int .i64 c.l.b, .int .i64 c.l.bt, .int .u16 c.l.j.ov, .int .u16 c.l.j.ox, .int .u16 c.l.j.ol, .int .i64 c.l.j.oe, .int .i64 c.l.j.ok, .int .u16 c.l.j.nv, .int .u16 c.l.j.nx, .int .u16 c.l.j.nl, .int .i64 c.l.j.ne, .int .i64 c.l.j.nk, .bool c.l.j.two, .slice p c.l.es.length k]] w fun r w2 => r = .returned (.int .i64 (c.l.b + (c.l.es.length : Int))) ∧ Below w.heap.size w w2 from last_any c.l p k w hF.b0 hF.b1 hF.n)
  have hb0 := hF.b0; have hb1 := hF.b1; have hn2 := hF.n
  obtain ⟨S, hS⟩ : ∃ S, stoodK c.l c.l.es.length = S := ⟨_, rfl⟩
  rw [hS]
  have HS := Lib.hid hS
  clear hR hE hF hS
  go_enter Tryz.func126, Tryz.ntmps126
  go_wp2_with fail
  refine HCL.out.mono ?_; rintro r w1 ⟨rfl, b1⟩
  have HB1 := Lib.hid b1
  clear b1 HCL kR
  go_wp2_with fail
  go_loopw [3] (fun i wr => ∃ n : Nat, n ≤ c.l.es.length ∧ i = .int .i64 (c.l.b + (n : Int)) ∧ Hid (stoodK c.l n = S) ∧ Hid (Below w.heap.size w wr)) (fun i _ => (intOf i).toNat)
  case atStart => exact ⟨c.l.es.length, Nat.le_refl _, rfl, HS, HB1⟩
  case round =>
    obtain ⟨n, hn, rfl, HK, HB⟩ := hrel
    obtain ⟨wk, rfl⟩ : ∃ wk : World, wk = wr := ⟨_, rfl⟩
    have kR := block_cells (HR.out wk HB.out)
    cases n with
    | zero =>
      have hd : decide (c.l.b < c.l.b + ((0 : Nat) : Int)) = false := by simp
      have HZ : Hid ((0 : Int) = S) := by show _ = _; rw [← HK.out]; rfl
      go_wp2_with fail
      go_ret
      rw [← HZ.out]
      exact ⟨rfl, HB.out⟩
    | succ j =>
      have hd : decide (c.l.b < c.l.b + ((j : Int) + 1)) = true := by simp; omega
      obtain ⟨e, he⟩ : ∃ e, c.l.es[j]'(by omega) = e := ⟨_, rfl⟩
      have hat : atL c.l (c.l.b + ((j : Int) + 1)) = (e, true) := by rw [atL_in (k := j) (by omega) (by omega), he]
      have hgd : c.l.es.getD j ent0 = e := by rw [← he]; simp [List.getD, List.getElem?_eq_getElem (show j < c.l.es.length by omega)]
      have HC := Lib.hid (at_any c.l p k (c.l.b + ((j : Int) + 1)) wk hb0 hb1 hn2 (by omega) (by omega) (HE.out.keep HB.out (Nat.le_refl _)) hat)
      have HG := Lib.hid hgd
      rw [show ((j + 1 : Nat) : Int) = (j : Int) + 1 by omega]
      clear he hat hgd
      go_wp2_with fail
      refine HC.out.mono ?_; rintro r w2 ⟨rfl, b2⟩
      have HB2 := Lib.hid (HB.out.trans (b2.mono HB.out.size))
      have HB3 := Lib.hid ((HB.out.trans (b2.mono HB.out.size)).alloc (HB.out.trans (b2.mono HB.out.size)).size (.cells #[.int .i64 e.t, .int .i64 e.k, .string e.d, .int .u16 e.j.ov, .int .u16 e.j.ox, .int .u16 e.j.ol, .int .i64 e.j.oe, .int .i64 e.j.ok, .int .u16 e.j.nv, .int .u16 e.j.nx, .int .u16 e.j.nl, .int .i64 e.j.ne, .int .i64 e.j.nk, .bool e.j.two] 47))
      clear b2 HC kR
      by_cases h2 : e.k = 2
      · have hd2 : (e.k == 2) = true := by simp [h2]
        have HZ : Hid (c.l.b + ((j : Int) + 1) = S) := by show _ = _; rw [← HK.out, stoodK, HG.out, if_pos h2]; omega
        clear h2
        go_wp2_with fail
        go_ret
        rw [← HZ.out]
        exact ⟨rfl, HB3.out⟩
      · have hd2 : (e.k == 2) = false := by simp [h2]
        have HZ : Hid (stoodK c.l j = S) := by show _ = _; rw [← HK.out, stoodK, HG.out, if_neg h2]
        clear h2
        go_wp2_with fail
        go_roundw
        case rel => exact ⟨j, by omega, by go_num, HZ, HB3⟩
        case measure => simp [intOf]; omega
end Go.Proofs.YtbnndbdnejfehaaGreatDoor
/- Core: what a core must be for its methods to be walked; joints by name. -/
namespace Go.Proofs.YtbnndbdnejfehaaGreatDoor
open Go.ChangeShapes Go.WideShapes Go.ChangeAt Go.RowKit

/-- A joint that may be, of typed cells. -/
structure JnO (j : Jn) : Prop where
  m : jnM j = true
  f : JoF (joX j)
/-- A log of typed cells whose configurations may be. -/
structure LgO (l : Lg) : Prop where
  f : LgFit l
  j : JnO l.j
  es : ∀ e ∈ l.es, JoF (joX e.j) ∧ enM e = true
theorem jnF0 : JoF (joX jn0) := by
  constructor <;> constructor <;> first | (unfold In16 joX jn0; decide) | (unfold In64 joX jn0; decide)
theorem confF_ok {j : Jn} {es : List Ent} (hj : JnO j) (h : ∀ e ∈ es, JoF (joX e.j) ∧ enM e = true) : JnO (confF j es) := by
  induction es generalizing j with
  | nil => exact hj
  | cons x t ih =>
    have h1 : confF j (x :: t) = confF (if x.k = 2 then x.j else j) t := rfl
    rw [h1]
    obtain ⟨hx, hm⟩ := h x (by simp)
    refine ih ?_ (fun e he => h e (by simp [he]))
    split
    · rename_i hk; exact ⟨by rw [← enM_conf hk]; exact hm, hx⟩
    · exact hj
theorem LgO.conf {l : Lg} (h : LgO l) : JnO (confL l) := confF_ok h.j h.es
theorem LgO.push {l : Lg} {e : Ent} (h : LgO l) (hl : l.es.length < 1000000) (he : JoF (joX e.j) ∧ enM e = true) : LgO (pushL l e) :=
  ⟨push_fit h.f hl, h.j, fun x hx => by
    unfold pushL at hx
    rcases List.mem_append.1 hx with hx | hx
    · exact h.es x hx
    · rw [List.mem_singleton] at hx; rw [hx]; exact he⟩
theorem final_ok {j : Jn} (h : JnO j) : JnO (finalN j) := by
  unfold finalN
  split
  · rename_i h2
    refine ⟨?_, ⟨h.f.2, jnF0.2⟩⟩
    have hm := h.m
    unfold jnM mayJ at hm ⊢
    rw [if_pos h2] at hm
    simp only [Bool.and_eq_true] at hm
    show (mayC j.nv j.nx j.nl j.ne j.nk && _) = true
    rw [hm.2]; rfl
  · exact h
theorem final_one (j : Jn) : (finalN j).two = false := by
  unfold finalN
  split
  · rfl
  · rename_i h; simpa using h
/-- What a core must be. -/
structure CoFit (N : Nat) (c : Co) : Prop where
  lo : LgO c.l
  n : c.l.es.length ≤ N
  id0 : 1 ≤ c.id
  id1 : c.id ≤ 9
  nx : ∀ n, n < 10 → 0 ≤ c.nx n ∧ c.nx n ≤ 4611686018427387904
  mt : ∀ n, n < 10 → 0 ≤ c.mt n ∧ c.mt n ≤ c.l.last
  cm0 : c.l.b ≤ c.cm
  cm1 : c.cm ≤ c.l.last
theorem CoFit.mono {N M : Nat} {c : Co} (h : CoFit N c) (hm : N ≤ M) : CoFit M c := ⟨h.lo, Nat.le_trans h.n hm, h.id0, h.id1, h.nx, h.mt, h.cm0, h.cm1⟩
theorem CoFit.push {N : Nat} {c : Co} {e : Ent} (h : CoFit N c) (hN : N < 1000000) (he : JoF (joX e.j) ∧ enM e = true) : CoFit (N + 1) (pushC c e) := by
  have hl : (pushC c e).l.last = c.l.last + 1 := push_last _ _
  refine ⟨h.lo.push (e := { e with t := c.tm }) (by have := h.n; omega) ⟨he.1, by have := he.2; unfold enM at this ⊢; exact this⟩, ?_, h.id0, h.id1, h.nx, ?_, h.cm0, ?_⟩
  · show (c.l.es ++ [_]).length ≤ _
    rw [List.length_append, List.length_singleton]; have := h.n; omega
  · intro n hn
    rw [hl]
    show 0 ≤ upd c.mt c.id.toNat (c.l.last + 1) n ∧ upd c.mt c.id.toNat (c.l.last + 1) n ≤ _
    have h0 : 0 ≤ c.l.last := by have := (h.mt n hn); omega
    unfold upd
    split
    · omega
    · have := h.mt n hn; omega
  · rw [hl]; have := h.cm1; show c.cm ≤ _; omega
theorem scanC_range (c : Co) (lo : Int) : ∀ k : Nat, scanC c lo k = c.cm ∨ (lo < scanC c lo k ∧ scanC c lo k ≤ lo + k)
  | 0 => .inl rfl
  | k + 1 => by
    unfold scanC
    split
    · right; omega
    · rcases scanC_range c lo k with h | h
      · exact .inl h
      · right; omega
theorem count1_cm (c : Co) (h0 : c.l.b ≤ c.cm) (h1 : c.cm ≤ c.l.last) : c.cm ≤ (count1 c).cm ∧ (count1 c).cm ≤ c.l.last := by
  have := scanC_range c (max c.cm c.l.b) (c.l.last - max c.cm c.l.b).toNat
  show c.cm ≤ scanC c (max c.cm c.l.b) (c.l.last - max c.cm c.l.b).toNat ∧ scanC c (max c.cm c.l.b) (c.l.last - max c.cm c.l.b).toNat ≤ c.l.last
  omega
theorem CoFit.count1 {N : Nat} {c : Co} (h : CoFit N c) : CoFit N (count1 c) :=
  ⟨h.lo, h.n, h.id0, h.id1, h.nx, h.mt, by have := count1_cm c h.cm0 h.cm1; have := h.cm0; show c.l.b ≤ _; omega, (count1_cm c h.cm0 h.cm1).2⟩
theorem CoFit.yields {N : Nat} {c : Co} (h : CoFit N c) : CoFit N (yieldsC c) := ⟨h.lo, h.n, h.id0, h.id1, h.nx, h.mt, h.cm0, h.cm1⟩
theorem CoFit.endC {N : Nat} {c : Co} (h : CoFit N c) : CoFit N (endC c) := by
  unfold Go.Proofs.YtbnndbdnejfehaaGreatDoor.endC
  split
  · exact h
  · split
    · exact h
    · exact h.yields
theorem finE_ok {N : Nat} {c : Co} (h : CoFit N c) : JoF (joX (finE c).j) ∧ enM (finE c) = true := by
  have := final_ok h.lo.conf
  exact ⟨this.f, by rw [enM_conf rfl]; exact this.m⟩
theorem CoFit.counts {N : Nat} {c : Co} (h : CoFit N c) (hN : N < 1000000) : CoFit (N + 1) (countsC c) := by
  unfold countsC
  split
  · exact h.count1.mono (by omega)
  · split
    · exact ((h.count1.push hN (finE_ok h)).count1).endC
    · exact (h.count1.endC).mono (by omega)
theorem ent0_ok : JoF (joX ent0.j) ∧ enM ent0 = true := ⟨jnF0, enM_other (by decide)⟩
theorem CoFit.lead {N : Nat} {c : Co} (h : CoFit N c) : CoFit N (leadC c) := by
  have h0 := h.lo.f.b0; have h1 := h.lo.f.b1; have h2 := h.lo.f.n
  have hl : 0 ≤ c.l.last ∧ c.l.last ≤ 1152921504607846976 := by unfold Lg.last; omega
  exact ⟨h.lo, h.n, h.id0, h.id1, fun _ _ => by show 0 ≤ c.l.last + 1 ∧ c.l.last + 1 ≤ _; omega, fun _ _ => by show (0:Int) ≤ 0 ∧ (0:Int) ≤ c.l.last; omega, h.cm0, h.cm1⟩

/-- Joints, by name: the program's answers. -/
theorem jElects (J : Jn) (g : Int) (w : World) : Calls Tryz.prog 41 #[.agg #[.int .u16 J.ov, .int .u16 J.ox, .int .u16 J.ol, .int .i64 J.oe, .int .i64 J.ok, .int .u16 J.nv, .int .u16 J.nx, .int .u16 J.nl, .int .i64 J.ne, .int .i64 J.nk, .bool J.two], .int .u16 g] w fun r w' => r = .returned (.bool (electsN J g)) ∧ Below w.heap.size w w' :=
  confElects_any J.ov J.ox J.ol J.oe J.ok J.nv J.nx J.nl J.ne J.nk g J.two w
theorem jCommits (J : Jn) (g : Int) (w : World) : Calls Tryz.prog 116 #[.agg #[.int .u16 J.ov, .int .u16 J.ox, .int .u16 J.ol, .int .i64 J.oe, .int .i64 J.ok, .int .u16 J.nv, .int .u16 J.nx, .int .u16 J.nl, .int .i64 J.ne, .int .i64 J.nk, .bool J.two], .int .u16 g] w fun r w' => r = .returned (.bool (commitsN J g)) ∧ Below w.heap.size w w' :=
  confCommits_any J.ov J.ox J.ol J.oe J.ok J.nv J.nx J.nl J.ne J.nk g J.two w
theorem jVoting (J : Jn) (w : World) : Calls Tryz.prog 123 #[.agg #[.int .u16 J.ov, .int .u16 J.ox, .int .u16 J.ol, .int .i64 J.oe, .int .i64 J.ok, .int .u16 J.nv, .int .u16 J.nx, .int .u16 J.nl, .int .i64 J.ne, .int .i64 J.nk, .bool J.two]] w fun r w' => r = .returned (.int .u16 (votingN J)) ∧ Below w.heap.size w w' :=
  confVoting_any J.ov J.ox J.ol J.oe J.ok J.nv J.nx J.nl J.ne J.nk J.two w
theorem jLeads (J : Jn) (n : Int) (h : JoF (joX J)) (w : World) : Calls Tryz.prog 68 #[.agg #[.int .u16 J.ov, .int .u16 J.ox, .int .u16 J.ol, .int .i64 J.oe, .int .i64 J.ok, .int .u16 J.nv, .int .u16 J.nx, .int .u16 J.nl, .int .i64 J.ne, .int .i64 J.nk, .bool J.two], .int .i64 n] w fun r w' => r = .returned (.bool (leadsN J n)) ∧ Below w.heap.size w w' :=
  confLeads_any J.ov J.ox J.ol J.oe J.ok J.nv J.nx J.nl J.ne J.nk n J.two w h.1.v.1
theorem fin_value (J : Jn) : (if J.two then Value.agg #[.int .u16 J.nv, .int .u16 J.nx, .int .u16 J.nl, .int .i64 J.ne, .int .i64 J.nk, .int .u16 0, .int .u16 0, .int .u16 0, .int .i64 0, .int .i64 0, .bool false] else .agg #[.int .u16 J.ov, .int .u16 J.ox, .int .u16 J.ol, .int .i64 J.oe, .int .i64 J.ok, .int .u16 J.nv, .int .u16 J.nx, .int .u16 J.nl, .int .i64 J.ne, .int .i64 J.nk, .bool J.two]) = .agg #[.int .u16 (finalN J).ov, .int .u16 (finalN J).ox, .int .u16 (finalN J).ol, .int .i64 (finalN J).oe, .int .i64 (finalN J).ok, .int .u16 (finalN J).nv, .int .u16 (finalN J).nx, .int .u16 (finalN J).nl, .int .i64 (finalN J).ne, .int .i64 (finalN J).nk, .bool (finalN J).two] := by
  unfold finalN
  by_cases h : J.two = true
  · rw [if_pos h, if_pos h]
  · rw [if_neg h, if_neg h]
theorem jFinal (J : Jn) (w : World) : Calls Tryz.prog 130 #[.agg #[.int .u16 J.ov, .int .u16 J.ox, .int .u16 J.ol, .int .i64 J.oe, .int .i64 J.ok, .int .u16 J.nv, .int .u16 J.nx, .int .u16 J.nl, .int .i64 J.ne, .int .i64 J.nk, .bool J.two]] w fun r w' => r = .returned (.agg #[.int .u16 (finalN J).ov, .int .u16 (finalN J).ox, .int .u16 (finalN J).ol, .int .i64 (finalN J).oe, .int .i64 (finalN J).ok, .int .u16 (finalN J).nv, .int .u16 (finalN J).nx, .int .u16 (finalN J).nl, .int .i64 (finalN J).ne, .int .i64 (finalN J).nk, .bool (finalN J).two]) ∧ Below w.heap.size w w' := by
  have := confFinal_any J.ov J.ox J.ol J.oe J.ok J.nv J.nx J.nl J.ne J.nk J.two w
  rw [fin_value J] at this
  exact this
/-- The reference's answers. -/
theorem rjElects (J : Jn) (g : Int) (h : JnO J) (g0 : 0 ≤ g) (g1 : g ≤ 65535) (w : World) : Calls Tryz.prog 53 #[.agg #[.int .u16 J.ov, .int .u16 J.ox, .int .u16 J.ol, .int .i64 J.oe, .int .i64 J.ok, .int .u16 J.nv, .int .u16 J.nx, .int .u16 J.nl, .int .i64 J.ne, .int .i64 J.nk, .bool J.two], .int .u16 g] w fun r w' => r = .returned (.bool (electsN J g)) ∧ Below w.heap.size w w' := by
  have fo := cfF_fit h.f.1; have fn := cfF_fit h.f.2
  have := refElects_any J.ov J.ox J.ol J.oe J.ok J.nv J.nx J.nl J.ne J.nk g J.two fo fn g0 g1 w
  rw [elects_same J.ov J.ox J.ol J.oe J.ok J.nv J.nx J.nl J.ne J.nk g J.two fo fn g0] at this; exact this
theorem rjCommits (J : Jn) (g : Int) (h : JnO J) (g0 : 0 ≤ g) (g1 : g ≤ 65535) (w : World) : Calls Tryz.prog 71 #[.agg #[.int .u16 J.ov, .int .u16 J.ox, .int .u16 J.ol, .int .i64 J.oe, .int .i64 J.ok, .int .u16 J.nv, .int .u16 J.nx, .int .u16 J.nl, .int .i64 J.ne, .int .i64 J.nk, .bool J.two], .int .u16 g] w fun r w' => r = .returned (.bool (commitsN J g)) ∧ Below w.heap.size w w' := by
  have fo := cfF_fit h.f.1; have fn := cfF_fit h.f.2
  have := refCommits_any J.ov J.ox J.ol J.oe J.ok J.nv J.nx J.nl J.ne J.nk g J.two fo fn g0 g1 w
  rw [commits_same J.ov J.ox J.ol J.oe J.ok J.nv J.nx J.nl J.ne J.nk g J.two fo fn g0] at this; exact this
theorem rjVoting (J : Jn) (h : JnO J) (w : World) : Calls Tryz.prog 75 #[.agg #[.int .u16 J.ov, .int .u16 J.ox, .int .u16 J.ol, .int .i64 J.oe, .int .i64 J.ok, .int .u16 J.nv, .int .u16 J.nx, .int .u16 J.nl, .int .i64 J.ne, .int .i64 J.nk, .bool J.two]] w fun r w' => r = .returned (.int .u16 (votingN J)) ∧ Below w.heap.size w w' := by
  have fo := cfF_fit h.f.1; have fn := cfF_fit h.f.2
  have := refVoting_any J.ov J.ox J.ol J.oe J.ok J.nv J.nx J.nl J.ne J.nk J.two fo fn w
  rw [voting_same J.ov J.ox J.ol J.oe J.ok J.nv J.nx J.nl J.ne J.nk J.two fo fn h.m] at this; exact this
theorem rjLeads (J : Jn) (n : Int) (h : JnO J) (w : World) : Calls Tryz.prog 73 #[.agg #[.int .u16 J.ov, .int .u16 J.ox, .int .u16 J.ol, .int .i64 J.oe, .int .i64 J.ok, .int .u16 J.nv, .int .u16 J.nx, .int .u16 J.nl, .int .i64 J.ne, .int .i64 J.nk, .bool J.two], .int .i64 n] w fun r w' => r = .returned (.bool (leadsN J n)) ∧ Below w.heap.size w w' := by
  have fo := cfF_fit h.f.1; have fn := cfF_fit h.f.2
  have := refLeads_any J.ov J.ox J.ol J.oe J.ok J.nv J.nx J.nl J.ne J.nk n J.two fo fn w
  rw [leads_same J.ov J.nv n J.two fo.v0 fn.v0] at this; exact this
theorem rjFinal (J : Jn) (w : World) : Calls Tryz.prog 136 #[.agg #[.int .u16 J.ov, .int .u16 J.ox, .int .u16 J.ol, .int .i64 J.oe, .int .i64 J.ok, .int .u16 J.nv, .int .u16 J.nx, .int .u16 J.nl, .int .i64 J.ne, .int .i64 J.nk, .bool J.two]] w fun r w' => r = .returned (.agg #[.int .u16 (finalN J).ov, .int .u16 (finalN J).ox, .int .u16 (finalN J).ol, .int .i64 (finalN J).oe, .int .i64 (finalN J).ok, .int .u16 (finalN J).nv, .int .u16 (finalN J).nx, .int .u16 (finalN J).nl, .int .i64 (finalN J).ne, .int .i64 (finalN J).nk, .bool (finalN J).two]) ∧ Below w.heap.size w w' := by
  have := refFinal_any J.ov J.ox J.ol J.oe J.ok J.nv J.nx J.nl J.ne J.nk J.two w
  rw [fin_value J] at this
  exact this
/-- The table stays, whatever an act does. -/
theorem AcW.tab {T : TypeId} {B R : Nat} {w w' : World} {x : CoX} {v v' : Value} {l : List MsX} (h : AcW T B w R x v l) (h0 : 0 < B) (ht : Tab w) (hr : AcR w w' R v v') : Tab w' := by
  have hb := h.below hr
  exact ⟨Nat.lt_of_lt_of_le ht.1 hr.size, fun j hj => by rw [hb.cell (by exact h0)]; exact ht.2 j hj⟩
end Go.Proofs.YtbnndbdnejfehaaGreatDoor
/- Core: the plain law: the least number that all voters have, as the program and as the reference reckon it. -/
namespace Go.Proofs.YtbnndbdnejfehaaGreatDoor

theorem lst_mem (s x : Int) : ∀ k : Nat, x ∈ lst s k ↔ 1 ≤ x ∧ x ≤ k ∧ hasB s x = true
  | 0 => by
    constructor
    · intro h; simp [lst] at h
    · rintro ⟨h1, h2, -⟩; omega
  | k + 1 => by
    unfold lst
    rw [List.mem_append, lst_mem s x k]
    by_cases e : x = (k : Int) + 1
    · subst e
      by_cases h : hasB s ((k : Int) + 1) = true
      · rw [if_pos h]
        constructor
        · intro _; exact ⟨by omega, by omega, h⟩
        · intro _; exact .inr (by simp)
      · rw [if_neg h]
        constructor
        · rintro (⟨_, h2, _⟩ | h2)
          · omega
          · simp at h2
        · rintro ⟨_, _, h3⟩; exact absurd h3 h
    · constructor
      · rintro (⟨h1, h2, h3⟩ | h2)
        · exact ⟨h1, by omega, h3⟩
        · split at h2
          · rw [List.mem_singleton] at h2; exact absurd h2 e
          · simp at h2
      · rintro ⟨h1, h2, h3⟩
        exact .inl ⟨h1, by omega, h3⟩
/-- The least of some, and of a first one. -/
def mnF (mt : Nat → Int) (L : List Int) (m : Int) : Int := L.foldl (fun m n => min m (mt n.toNat)) m
def leF (mt : Nat → Int) (L : List Int) (s : Int) : Int := L.foldl (fun s n => if s < 0 ∨ mt n.toNat < s then mt n.toNat else s) s
theorem mnF_spec (mt : Nat → Int) : ∀ (L : List Int) (m : Int), mnF mt L m ≤ m ∧ (∀ n ∈ L, mnF mt L m ≤ mt n.toNat) ∧ (mnF mt L m = m ∨ ∃ n ∈ L, mnF mt L m = mt n.toNat)
  | [], m => ⟨Int.le_refl _, fun _ h => by simp at h, .inl rfl⟩
  | x :: t, m => by
    obtain ⟨h1, h2, h3⟩ := mnF_spec mt t (min m (mt x.toNat))
    have e : mnF mt (x :: t) m = mnF mt t (min m (mt x.toNat)) := rfl
    rw [e]
    refine ⟨by omega, fun n hn => ?_, ?_⟩
    · rcases List.mem_cons.1 hn with rfl | hn
      · omega
      · exact h2 n hn
    · rcases h3 with h3 | ⟨n, hn, h3⟩
      · by_cases hm : m ≤ mt x.toNat
        · left; omega
        · right; exact ⟨x, by simp, by omega⟩
      · right; exact ⟨n, by simp [hn], h3⟩
theorem leF_min (mt : Nat → Int) : ∀ (L : List Int) (s : Int), 0 ≤ s → (∀ n ∈ L, 0 ≤ mt n.toNat) → leF mt L s = mnF mt L s ∧ 0 ≤ leF mt L s
  | [], s, h, _ => ⟨rfl, h⟩
  | x :: t, s, h, hm => by
    have hx := hm x (by simp)
    have e : leF mt (x :: t) s = leF mt t (if s < 0 ∨ mt x.toNat < s then mt x.toNat else s) := rfl
    have e2 : mnF mt (x :: t) s = mnF mt t (min s (mt x.toNat)) := rfl
    have e3 : (if s < 0 ∨ mt x.toNat < s then mt x.toNat else s) = min s (mt x.toNat) := by split <;> omega
    rw [e, e2, e3]
    exact leF_min mt t _ (by omega) (fun n hn => hm n (by simp [hn]))
theorem leF_first (mt : Nat → Int) (x : Int) (t : List Int) (s : Int) (h : s < 0) (hm : ∀ n ∈ x :: t, 0 ≤ mt n.toNat) : leF mt (x :: t) s = mnF mt t (mt x.toNat) ∧ 0 ≤ leF mt (x :: t) s := by
  have e : leF mt (x :: t) s = leF mt t (if s < 0 ∨ mt x.toNat < s then mt x.toNat else s) := rfl
  rw [e, if_pos (.inl h)]
  exact leF_min mt t _ (hm x (by simp)) (fun n hn => hm n (by simp [hn]))
/-- The same members, the same least. -/
theorem mnF_same (mt : Nat → Int) {L L' : List Int} {m : Int} (h : ∀ x, x ∈ L ↔ x ∈ L') : mnF mt L m = mnF mt L' m := by
  obtain ⟨a1, a2, a3⟩ := mnF_spec mt L m
  obtain ⟨b1, b2, b3⟩ := mnF_spec mt L' m
  have h1 : mnF mt L m ≤ mnF mt L' m := by
    rcases b3 with e | ⟨n, hn, e⟩
    · omega
    · have := a2 n ((h n).2 hn); omega
  have h2 : mnF mt L' m ≤ mnF mt L m := by
    rcases a3 with e | ⟨n, hn, e⟩
    · omega
    · have := b2 n ((h n).1 hn); omega
  omega
theorem mnF_app (mt : Nat → Int) (L L' : List Int) (m : Int) : mnF mt (L ++ L') m = mnF mt L' (mnF mt L m) := by unfold mnF; rw [List.foldl_append]
/-- What the reference reckons. -/
def rleastC (c : Co) : Int := if (confL c.l).two = true then leF c.mt (listS (confL c.l).nv) (leF c.mt (listS (confL c.l).ov) (-1)) else leF c.mt (listS (confL c.l).ov) (-1)
theorem rleast_eq (c : Co) (hj : JnO (confL c.l)) (hm : ∀ n, n < 10 → 0 ≤ c.mt n ∧ c.mt n ≤ c.l.last) : rleastC c = leastC c := by
  obtain ⟨J, hJ⟩ : ∃ J, confL c.l = J := ⟨_, rfl⟩
  unfold rleastC leastC
  rw [hJ] at hj ⊢
  have fo : FitC J.ov J.ox J.ol := cfF_fit hj.f.1; have fn : FitC J.nv J.nx J.nl := cfF_fit hj.f.2
  have ho := mayJ_old _ _ _ _ _ _ _ _ _ _ _ hj.m
  have hr : ∀ s : Int, ∀ n ∈ listS s, 0 ≤ c.mt n.toNat := fun s n hn => by
    have := (lst_mem s n 9).1 hn
    exact (hm n.toNat (by omega)).1
  have hr2 : ∀ s : Int, ∀ n ∈ listS s, c.mt n.toNat ≤ c.l.last := fun s n hn => by
    have := (lst_mem s n 9).1 hn
    exact (hm n.toNat (by omega)).2
  obtain ⟨i, i1, i9, hi⟩ := may_some J.ov fo.v0 fo.v1 ho.mv ho.ne
  have hmem : (i : Int) ∈ listS J.ov := (lst_mem _ _ 9).2 ⟨by omega, by omega, by rw [hasB_tb _ _ i1 i9]; exact hi⟩
  have hfst : leF c.mt (listS J.ov) (-1) = mnF c.mt (listS J.ov) c.l.last ∧ 0 ≤ leF c.mt (listS J.ov) (-1) := by
    have h1 := hr J.ov; have h2 := hr2 J.ov
    cases hL : listS J.ov with
    | nil => rw [hL] at hmem; simp at hmem
    | cons x t =>
      rw [hL] at h1 h2
      obtain ⟨e1, e2⟩ := leF_first c.mt x t (-1) (by decide) h1
      refine ⟨?_, e2⟩
      rw [e1]
      show _ = mnF c.mt t (min c.l.last (c.mt x.toNat))
      have := h2 x (by simp)
      rw [Int.min_eq_right this]
  show (if J.two = true then _ else _) = mnF c.mt (listS (votersN J)) c.l.last
  unfold votersN pickB
  by_cases h2 : J.two = true
  · rw [if_pos h2, if_pos h2, (leF_min c.mt _ _ hfst.2 (hr J.nv)).1, hfst.1, ← mnF_app]
    apply mnF_same
    intro x
    unfold listS
    rw [List.mem_append, lst_mem, lst_mem, lst_mem]
    constructor
    · rintro (⟨a, b, h⟩ | ⟨a, b, h⟩)
      · refine ⟨a, b, ?_⟩
        have e : x = (x.toNat : Int) := by omega
        rw [e, hasB_tb _ _ (by omega) (by omega)] at h ⊢
        rw [tb_or _ _ fo.v0 fn.v0 _ (by omega), h, Bool.true_or]
      · refine ⟨a, b, ?_⟩
        have e : x = (x.toNat : Int) := by omega
        rw [e, hasB_tb _ _ (by omega) (by omega)] at h ⊢
        rw [tb_or _ _ fo.v0 fn.v0 _ (by omega), h, Bool.or_true]
    · rintro ⟨a, b, h⟩
      have e : x = (x.toNat : Int) := by omega
      rw [e, hasB_tb _ _ (by omega) (by omega), tb_or _ _ fo.v0 fn.v0 _ (by omega), Bool.or_eq_true] at h
      rcases h with h | h
      · left; exact ⟨a, b, by rw [e, hasB_tb _ _ (by omega) (by omega)]; exact h⟩
      · right; exact ⟨a, b, by rw [e, hasB_tb _ _ (by omega) (by omega)]; exact h⟩
  · rw [if_neg h2, if_neg h2]; exact hfst.1
/-- What is in force behind an entry of a configuration's kind. -/
theorem conf_push {l : Lg} {e : Ent} (h : e.k = 2) : confL (pushL l e) = e.j := by
  unfold confL pushL
  show confF l.j (l.es ++ [e]) = _
  rw [confF_app]
  show (if e.k = 2 then e.j else _) = _
  rw [if_pos h]
theorem counts_two {c : Co} (h : ¬ (count1 c).cm < standL c.l) (h2 : (confL c.l).two = true) : countsC c = countsC (pushC (count1 c) (finE c)) := by
  have e : confL (pushC (count1 c) (finE c)).l = finalN (confL c.l) := conf_push rfl
  have e2 : (confL (pushC (count1 c) (finE c)).l).two = false := by rw [e]; exact final_one _
  conv => lhs; unfold countsC
  rw [if_neg h, if_pos h2]
  conv => rhs; unfold countsC
  rw [if_neg (by rw [e2]; decide : ¬ (confL (pushC (count1 c) (finE c)).l).two = true)]
  unfold endC
  split
  · rename_i h3; exact (if_pos (show _ < standL (pushC (count1 c) (finE c)).l from h3)).symm
  · rename_i h3; exact (if_neg (show ¬ _ < standL (pushC (count1 c) (finE c)).l from h3)).symm
theorem counts_low {c : Co} (h : (count1 c).cm < standL c.l) : countsC c = count1 c := by unfold countsC; rw [if_pos h]
theorem counts_one {c : Co} (h : ¬ (count1 c).cm < standL c.l) (h2 : (confL c.l).two = false) : countsC c = if leadsN (confL c.l) c.id = true then count1 c else yieldsC (count1 c) := by
  unfold countsC
  rw [if_neg h, if_neg (by rw [h2]; decide)]
  unfold endC
  exact if_neg (show ¬ _ < standL (count1 c).l from h)
end Go.Proofs.YtbnndbdnejfehaaGreatDoor
/- Core: methods of an act: who has the log up to a number. -/
namespace Go.Proofs.YtbnndbdnejfehaaGreatDoor
open Go.ChangeShapes Go.WideShapes Go.ChangeAt Go.RowKit

theorem matchedF_fit (mt : Nat → Int) (i : Int) : ∀ n, 0 ≤ matchedF mt i n ∧ matchedF mt i n ≤ 65535
  | 0 => ⟨Int.le_refl 0, by show (0 : Int) ≤ 65535; decide⟩
  | n + 1 => by
    unfold matchedF
    split
    · exact bits_fit _ _ _
    · exact matchedF_fit mt i n

set_option maxRecDepth 100000 in
set_option maxHeartbeats 8000000 in
theorem matched_act (R : Nat) (c : Co) (p : Option Addr) (k : Nat) (v : Value) (x : Int) (w : World) (hR : w.heap[R]? = some (.cells #[.int .i64 c.id, .int .i64 c.role, .int .i64 c.tm, .int .i64 c.vt, .int .i64 c.ld, .int .i64 c.wt, .int .i64 c.cm, .int .i64 c.sf, .int .i64 c.l.b, .int .i64 c.l.bt, .int .u16 c.l.j.ov, .int .u16 c.l.j.ox, .int .u16 c.l.j.ol, .int .i64 c.l.j.oe, .int .i64 c.l.j.ok, .int .u16 c.l.j.nv, .int .u16 c.l.j.nx, .int .u16 c.l.j.nl, .int .i64 c.l.j.ne, .int .i64 c.l.j.nk, .bool c.l.j.two, .slice p c.l.es.length k, .string c.sn, .int .u16 c.vs, .int .u16 c.hd, .int .i64 (c.nx 0), .int .i64 (c.nx 1), .int .i64 (c.nx 2), .int .i64 (c.nx 3), .int .i64 (c.nx 4), .int .i64 (c.nx 5), .int .i64 (c.nx 6), .int .i64 (c.nx 7), .int .i64 (c.nx 8), .int .i64 (c.nx 9), .int .i64 (c.mt 0), .int .i64 (c.mt 1), .int .i64 (c.mt 2), .int .i64 (c.mt 3), .int .i64 (c.mt 4), .int .i64 (c.mt 5), .int .i64 (c.mt 6), .int .i64 (c.mt 7), .int .i64 (c.mt 8), .int .i64 (c.mt 9), v] 69 (0, 0))) :
    Calls Tryz.prog 129 #[.pointer (some ⟨R, 0, none⟩), .int .i64 x] w fun e w' => e = .returned (.int .u16 (matchedC c x)) ∧ w = w' := by
  have HR := Lib.hid hR
  clear hR
  go_enter Tryz.func129, Tryz.ntmps129
  go_wp2_with fail
  go_loop [5, 6] (fun s i => ∃ n : Nat, n ≤ 9 ∧ s = .int .u16 (matchedF c.mt x n) ∧ i = .int .i64 ((n : Int) + 1)) (fun _ i => 10 - (intOf i).toNat)
  case atStart => exact ⟨0, Nat.zero_le _, rfl, rfl⟩
  case round =>
    obtain ⟨n, hn, rfl, rfl⟩ := hrel
    by_cases hlt : n < 9
    · have hd : decide ((n : Int) + 1 ≤ 9) = true := by simp; omega
      have kM := ac_mt HR.out (n := n + 1) (by omega)
      have hn0 : 0 ≤ (n : Int) + 1 := by omega
      have hn1 : (n : Int) + 1 < 10 := by omega
      obtain ⟨y, hy⟩ : ∃ y, c.mt (n + 1) = y := ⟨_, rfl⟩
      obtain ⟨s, hs⟩ : ∃ s, matchedF c.mt x n = s := ⟨_, rfl⟩
      have hf := matchedF_fit c.mt x n
      rewrite [hy] at kM
      rewrite [hs] at hf ⊢
      by_cases h : x ≤ y
      · have hN : matchedF c.mt x (n + 1) = bits .or .u16 s (oneB ((n : Int) + 1)) := by
          have h2 : x ≤ c.mt (n + 1) := by rw [hy]; exact h
          rw [matchedF, if_pos h2, hs]; rfl
        have HN := Lib.hid hN
        have HW := Lib.hid (show Calls Tryz.prog 40 #[.int .u16 s, .int .i64 ((n : Int) + 1)] w fun e w' => e = .returned (.int .u16 (bits .or .u16 s (oneB ((n : Int) + 1)))) ∧ w = w' from with_any _ _ w)
        clear hN hy hs hf
        go_wp2_with fail
        refine HW.out.mono ?_; rintro e w2 ⟨rfl, rfl⟩
        rewrite [← HN.out]
        go_wp2_with fail
        go_round
        case rel => exact ⟨n + 1, by omega, by go_num, by go_num⟩
        case measure => simp [intOf]; omega
      · have hN : matchedF c.mt x (n + 1) = s := by
          have h2 : ¬ x ≤ c.mt (n + 1) := by rw [hy]; exact h
          rw [matchedF, if_neg h2, hs]
        have HN := Lib.hid hN
        clear hN hy hs hf
        go_wp2_with fail
        go_round
        case rel => exact ⟨n + 1, by omega, by rw [HN.out], by go_num⟩
        case measure => simp [intOf]; omega
    · obtain rfl : n = 9 := by omega
      go_wp2_with fail
      go_ret
      exact ⟨rfl, rfl⟩
set_option maxRecDepth 100000 in
set_option maxHeartbeats 8000000 in
theorem rmatched_act (R : Nat) (c : Co) (p : Option Addr) (k : Nat) (v : Value) (x : Int) (w : World) (hR : w.heap[R]? = some (.cells #[.int .i64 c.id, .int .i64 c.role, .int .i64 c.tm, .int .i64 c.vt, .int .i64 c.ld, .int .i64 c.wt, .int .i64 c.cm, .int .i64 c.sf, .int .i64 c.l.b, .int .i64 c.l.bt, .int .u16 c.l.j.ov, .int .u16 c.l.j.ox, .int .u16 c.l.j.ol, .int .i64 c.l.j.oe, .int .i64 c.l.j.ok, .int .u16 c.l.j.nv, .int .u16 c.l.j.nx, .int .u16 c.l.j.nl, .int .i64 c.l.j.ne, .int .i64 c.l.j.nk, .bool c.l.j.two, .slice p c.l.es.length k, .string c.sn, .int .u16 c.vs, .int .u16 c.hd, .int .i64 (c.nx 0), .int .i64 (c.nx 1), .int .i64 (c.nx 2), .int .i64 (c.nx 3), .int .i64 (c.nx 4), .int .i64 (c.nx 5), .int .i64 (c.nx 6), .int .i64 (c.nx 7), .int .i64 (c.nx 8), .int .i64 (c.nx 9), .int .i64 (c.mt 0), .int .i64 (c.mt 1), .int .i64 (c.mt 2), .int .i64 (c.mt 3), .int .i64 (c.mt 4), .int .i64 (c.mt 5), .int .i64 (c.mt 6), .int .i64 (c.mt 7), .int .i64 (c.mt 8), .int .i64 (c.mt 9), v] 76 (0, 0))) :
    Calls Tryz.prog 134 #[.pointer (some ⟨R, 0, none⟩), .int .i64 x] w fun e w' => e = .returned (.int .u16 (matchedC c x)) ∧ w = w' := by
  have HR := Lib.hid hR
  clear hR
  go_enter Tryz.func134, Tryz.ntmps134
  go_wp2_with fail
  go_loop [5, 6] (fun s i => ∃ n : Nat, n ≤ 9 ∧ s = .int .u16 (matchedF c.mt x n) ∧ i = .int .i64 ((n : Int) + 1)) (fun _ i => 10 - (intOf i).toNat)
  case atStart => exact ⟨0, Nat.zero_le _, rfl, rfl⟩
  case round =>
    obtain ⟨n, hn, rfl, rfl⟩ := hrel
    by_cases hlt : n < 9
    · have hd : decide ((n : Int) + 1 ≤ 9) = true := by simp; omega
      have kM := ac_mt HR.out (n := n + 1) (by omega)
      have hn0 : 0 ≤ (n : Int) + 1 := by omega
      have hn1 : (n : Int) + 1 < 10 := by omega
      obtain ⟨y, hy⟩ : ∃ y, c.mt (n + 1) = y := ⟨_, rfl⟩
      obtain ⟨s, hs⟩ : ∃ s, matchedF c.mt x n = s := ⟨_, rfl⟩
      have hf := matchedF_fit c.mt x n
      rewrite [hy] at kM
      rewrite [hs] at hf ⊢
      by_cases h : x ≤ y
      · have hN : matchedF c.mt x (n + 1) = bits .or .u16 s (oneB ((n : Int) + 1)) := by
          have h2 : x ≤ c.mt (n + 1) := by rw [hy]; exact h
          rw [matchedF, if_pos h2, hs]; rfl
        have HN := Lib.hid hN
        have HW := Lib.hid (show Calls Tryz.prog 52 #[.int .u16 s, .int .i64 ((n : Int) + 1)] w fun e w' => e = .returned (.int .u16 (bits .or .u16 s (oneB ((n : Int) + 1)))) ∧ w = w' from refWith_any _ _ w hf.1 hf.2)
        clear hN hy hs hf
        go_wp2_with fail
        refine HW.out.mono ?_; rintro e w2 ⟨rfl, rfl⟩
        rewrite [← HN.out]
        go_wp2_with fail
        go_round
        case rel => exact ⟨n + 1, by omega, by go_num, by go_num⟩
        case measure => simp [intOf]; omega
      · have hN : matchedF c.mt x (n + 1) = s := by
          have h2 : ¬ x ≤ c.mt (n + 1) := by rw [hy]; exact h
          rw [matchedF, if_neg h2, hs]
        have HN := Lib.hid hN
        clear hN hy hs hf
        go_wp2_with fail
        go_round
        case rel => exact ⟨n + 1, by omega, by rw [HN.out], by go_num⟩
        case measure => simp [intOf]; omega
    · obtain rfl : n = 9 := by omega
      go_wp2_with fail
      go_ret
      exact ⟨rfl, rfl⟩
end Go.Proofs.YtbnndbdnejfehaaGreatDoor
/- Core: methods of an act: who is late is answered. -/
namespace Go.Proofs.YtbnndbdnejfehaaGreatDoor
open Go.ChangeShapes Go.WideShapes Go.ChangeAt Go.RowKit

set_option maxRecDepth 100000 in
set_option maxHeartbeats 8000000 in
theorem late_act (B R : Nat) (c : Co) (p : Option Addr) (k : Nat) (v : Value) (l : List MsX) (m : Ms) (q : Option Addr) (d : Nat) (w : World) (h : AcW 69 B w R ⟨c, p, k⟩ v l) (hl : l.length ≤ 90000) :
    Calls Tryz.prog 38 #[.pointer (some ⟨R, 0, none⟩), .agg #[.int .i64 m.k, .int .i64 m.fr, .int .i64 m.dst, .int .i64 m.tm, .int .i64 m.ix, .int .i64 m.lt, .int .i64 m.cm, .int .i64 m.sf, .bool m.yes, .slice q m.es.length d, .string m.sn, .int .u16 m.cf.ov, .int .u16 m.cf.ox, .int .u16 m.cf.ol, .int .i64 m.cf.oe, .int .i64 m.cf.ok, .int .u16 m.cf.nv, .int .u16 m.cf.nx, .int .u16 m.cf.nl, .int .i64 m.cf.ne, .int .i64 m.cf.nk, .bool m.cf.two]] w fun e w' => e = .returned (.tuple #[]) ∧ ∃ v' l', l'.map MsX.m = (lateA ⟨c, l.map MsX.m⟩ m).out ∧ AcW 69 B w' R ⟨c, p, k⟩ v' l' ∧ AcR w w' R v v' := by
  obtain ⟨W, hW⟩ : ∃ z : World, w.alloc (.cells #[.int .i64 m.k, .int .i64 m.fr, .int .i64 m.dst, .int .i64 m.tm, .int .i64 m.ix, .int .i64 m.lt, .int .i64 m.cm, .int .i64 m.sf, .bool m.yes, .slice q m.es.length d, .string m.sn, .int .u16 m.cf.ov, .int .u16 m.cf.ox, .int .u16 m.cf.ol, .int .i64 m.cf.oe, .int .i64 m.cf.ok, .int .u16 m.cf.nv, .int .u16 m.cf.nx, .int .u16 m.cf.nl, .int .i64 m.cf.ne, .int .i64 m.cf.nk, .bool m.cf.two] 39) = z := ⟨_, rfl⟩
  have hb : Below w.heap.size w W := by rw [← hW]; exact (Below.refl _ _).alloc (Nat.le_refl _) _
  have hX : W.heap[w.heap.size]? = some (.cells #[.int .i64 m.k, .int .i64 m.fr, .int .i64 m.dst, .int .i64 m.tm, .int .i64 m.ix, .int .i64 m.lt, .int .i64 m.cm, .int .i64 m.sf, .bool m.yes, .slice q m.es.length d, .string m.sn, .int .u16 m.cf.ov, .int .u16 m.cf.ox, .int .u16 m.cf.ol, .int .i64 m.cf.oe, .int .i64 m.cf.ok, .int .u16 m.cf.nv, .int .u16 m.cf.nx, .int .u16 m.cf.nl, .int .i64 m.cf.ne, .int .i64 m.cf.nk, .bool m.cf.two] 39 (0, 0)) := by rw [← hW]; exact heap_last w _
  have HA := Lib.hid (h.keep hb); have HB := Lib.hid (AcR.below (R := R) (v := v) hb); have HW := Lib.hid hW
  have kX := block_cells hX
  obtain ⟨L, hL⟩ : ∃ L, (lateA ⟨c, l.map MsX.m⟩ m).out = L := ⟨_, rfl⟩
  have HL := Lib.hid hL
  rw [hL]
  have HS := Lib.hid (show ∀ kk : Int, Calls Tryz.prog 89 #[.pointer (some ⟨R, 0, none⟩), .int .i64 m.fr, .agg #[.int .i64 kk, .int .i64 0, .int .i64 0, .int .i64 0, .int .i64 0, .int .i64 0, .int .i64 0, .int .i64 0, .bool false, .slice none 0 0, .string ⟨#[]⟩, .int .u16 0, .int .u16 0, .int .u16 0, .int .i64 0, .int .i64 0, .int .u16 0, .int .u16 0, .int .u16 0, .int .i64 0, .int .i64 0, .bool false]] W fun e w' => e = .returned (.tuple #[]) ∧ ∃ v', AcW 69 B w' R ⟨c, p, k⟩ v' (l ++ [⟨putM c m.fr { ms0 with k := kk }, none, 0⟩]) ∧ AcR W w' R v v' from fun kk => send_act B R c p k v l m.fr { ms0 with k := kk } none 0 W HA.out (MsOwn.none rfl) (fun b hb => by cases hb) (by omega))
  clear h hW hb hX hL
  go_enter Tryz.func38, Tryz.ntmps38
  go_upto_region 1 with fail
  rw [HW.out]
  clear HW
  by_cases h1 : m.k = 1
  · have e1 : (m.k == 1) = true := by simp [h1]
    have HZ : Hid (L = (l ++ [(⟨putM c m.fr { ms0 with k := 2 }, none, 0⟩ : MsX)]).map MsX.m) := by show _ = _; rw [← HL.out, List.map_append]; unfold lateA; rw [if_pos h1]; rfl
    clear h1
    go_wp2_with fail
    refine (HS.out 2).mono ?_; rintro e w2 ⟨rfl, v2, hA2, hr2⟩
    have HO := Lib.hid (And.intro hA2 (HB.out.trans hr2))
    clear hA2 hr2 HS
    go_wp2_with fail
    first | (go_end0; exact ⟨rfl, v2, _, HZ.out.symm, HO.out.1, HO.out.2⟩) | (refine bodyPost_ret (results_none rfl _ _ _) rfl ?_; exact ⟨rfl, v2, _, HZ.out.symm, HO.out.1, HO.out.2⟩)
  have e1 : (m.k == 1) = false := by simp [h1]
  by_cases h3 : m.k = 3
  · have e3 : (m.k == 3) = true := by simp [h3]
    have h35 : m.k = 3 ∨ m.k = 5 := .inl h3
    clear h3
    have HZ : Hid (L = (l ++ [(⟨putM c m.fr { ms0 with k := 4 }, none, 0⟩ : MsX)]).map MsX.m) := by show _ = _; rw [← HL.out, List.map_append]; unfold lateA; rw [if_neg h1, if_pos h35]; rfl
    clear h1 h35
    go_wp2_with fail
    refine (HS.out 4).mono ?_; rintro e w2 ⟨rfl, v2, hA2, hr2⟩
    have HO := Lib.hid (And.intro hA2 (HB.out.trans hr2))
    clear hA2 hr2 HS
    go_wp2_with fail
    first | (go_end0; exact ⟨rfl, v2, _, HZ.out.symm, HO.out.1, HO.out.2⟩) | (refine bodyPost_ret (results_none rfl _ _ _) rfl ?_; exact ⟨rfl, v2, _, HZ.out.symm, HO.out.1, HO.out.2⟩)
  have e3 : (m.k == 3) = false := by simp [h3]
  by_cases h5 : m.k = 5
  · have e5 : (m.k == 5) = true := by simp [h5]
    have h35 : m.k = 3 ∨ m.k = 5 := .inr h5
    clear h3 h5
    have HZ : Hid (L = (l ++ [(⟨putM c m.fr { ms0 with k := 4 }, none, 0⟩ : MsX)]).map MsX.m) := by show _ = _; rw [← HL.out, List.map_append]; unfold lateA; rw [if_neg h1, if_pos h35]; rfl
    clear h1 h35
    go_wp2_with fail
    refine (HS.out 4).mono ?_; rintro e w2 ⟨rfl, v2, hA2, hr2⟩
    have HO := Lib.hid (And.intro hA2 (HB.out.trans hr2))
    clear hA2 hr2 HS
    go_wp2_with fail
    first | (go_end0; exact ⟨rfl, v2, _, HZ.out.symm, HO.out.1, HO.out.2⟩) | (refine bodyPost_ret (results_none rfl _ _ _) rfl ?_; exact ⟨rfl, v2, _, HZ.out.symm, HO.out.1, HO.out.2⟩)
  have e5 : (m.k == 5) = false := by simp [h5]
  have HZ : Hid (L = l.map MsX.m) := by show _ = _; rw [← HL.out]; unfold lateA; simp only [h1, h3, h5, if_neg, not_false_eq_true, or_self]
  clear h1 h3 h5
  go_wp2_with fail
  go_end0
  exact ⟨rfl, v, l, HZ.out.symm, HA.out, HB.out⟩
end Go.Proofs.YtbnndbdnejfehaaGreatDoor
/- Core: small laws for the methods that reckon what is committed. -/
namespace Go.Proofs.YtbnndbdnejfehaaGreatDoor
open Go.ChangeShapes Go.WideShapes Go.ChangeAt Go.RowKit

theorem joint_cells {w : World} {X : Nat} {J : Jn} (h : w.heap[X]? = some (.cells #[.int .u16 J.ov, .int .u16 J.ox, .int .u16 J.ol, .int .i64 J.oe, .int .i64 J.ok, .int .u16 J.nv, .int .u16 J.nx, .int .u16 J.nl, .int .i64 J.ne, .int .i64 J.nk, .bool J.two] 27 (0, 0))) : ∀ w', Below w.heap.size w w' → ∀ j, w'.cell? ⟨X, j, none⟩ = (#[.int .u16 J.ov, .int .u16 J.ox, .int .u16 J.ol, .int .i64 J.oe, .int .i64 J.ok, .int .u16 J.nv, .int .u16 J.nx, .int .u16 J.nl, .int .i64 J.ne, .int .i64 J.nk, .bool J.two] : Array Value)[j]? := fun _w' hb => block_cells (below_block hb (block_lt h) h)
theorem mnF_next (mt : Nat → Int) {O : List Int} {n x : Nat} {m : Int} (h : n < O.length) (hx : O[n] = (x : Int)) : min (mnF mt (O.take n) m) (mt x) = mnF mt (O.take (n + 1)) m := by
  rw [List.take_succ_eq_append_getElem h, mnF_app, hx]; rfl
/-- All cells of a block but one. -/
structure ExS (R n : Nat) (cs : Array Value) (w' : World) : Prop where
  r : ∀ j, j ≠ n → w'.cell? ⟨R, j, none⟩ = cs[j]?
theorem ExS.of {R n : Nat} {cs : Array Value} {t : TypeId} {w : World} (h : w.heap[R]? = some (.cells cs t (0, 0))) : ExS R n cs w := ⟨fun j _ => block_cells h j⟩
theorem ExS.put {R n : Nat} {cs : Array Value} {t : TypeId} {w : World} {u : Value} (h : w.heap[R]? = some (.cells cs t (0, 0))) : ExS R n cs (w.setCell ⟨R, n, none⟩ u) := ⟨fun j hj => by
  rw [block_cells (cells_setW h n u), Array.getElem?_setIfInBounds_ne (by omega)]⟩
theorem cut1W {R P : World → Prop} {Q : Prop} (h : (∀ w, R w → P w) → Q) (p : ∀ w, R w → P w) : Q := h p
/-- How many entries the act's log has. -/
def lenAt (R : Nat) (w : World) : Nat := match w.cell? ⟨R, 21, none⟩ with
  | some (.slice _ n _) => n
  | _ => 0
theorem lenAt_act {T : TypeId} {B R : Nat} {w : World} {x : CoX} {v : Value} {l : List MsX} (h : AcW T B w R x v l) : lenAt R w = x.c.l.es.length := by
  unfold lenAt
  rw [show w.cell? ⟨R, 21, none⟩ = some (.slice x.p x.c.l.es.length x.k) from block_cells h.blk 21]
end Go.Proofs.YtbnndbdnejfehaaGreatDoor
