import Derived.Test.YtbnndbdnejfehaaGreatDoorActN0
/- Core: methods of a run (the reference's): the least number that all voters have. -/
namespace Go.Proofs.YtbnndbdnejfehaaGreatDoor
open Go.ChangeShapes Go.WideShapes Go.ChangeAt Go.RowKit

/-- The voters of a joint's configurations. -/
def twoV (J : Jn) : List Int := if J.two then [J.ov, J.nv] else [J.ov]
theorem rtwo_any (J : Jn) (w : World) : Calls Tryz.prog 104 #[.agg #[.int .u16 J.ov, .int .u16 J.ox, .int .u16 J.ol, .int .i64 J.oe, .int .i64 J.ok, .int .u16 J.nv, .int .u16 J.nx, .int .u16 J.nl, .int .i64 J.ne, .int .i64 J.nk, .bool J.two]] w fun e w' => ∃ g, e = .returned (.slice (some ⟨g, 0, none⟩) (twoV J).length (twoV J).length) ∧ w.heap.size ≤ g ∧ g < w'.heap.size ∧ (∀ n, (h : n < (twoV J).length) → w'.cell? ⟨g, n * 5, none⟩ = some (.int .u16 (twoV J)[n])) ∧ Below w.heap.size w w' := by
  cases h2 : J.two with
  | false =>
    refine (refTwo_one J.ov J.ox J.ol J.oe J.ok J.nv J.nx J.nl J.ne J.nk w).mono ?_; rintro e w' ⟨rfl, rfl⟩
    have ht : twoV J = [J.ov] := by unfold twoV; rw [h2]; rfl
    rw [ht]
    refine ⟨w.heap.size + 1, rfl, Nat.le_succ _, by simp, fun n hn => ?_, (below_box w _).trans ((below_box _ _).mono (by simp))⟩
    obtain rfl : n = 0 := by simp at hn; omega
    have hx := heap_last (w.alloc (.cells #[.int .u16 J.ov, .int .u16 J.ox, .int .u16 J.ol, .int .i64 J.oe, .int .i64 J.ok, .int .u16 J.nv, .int .u16 J.nx, .int .u16 J.nl, .int .i64 J.ne, .int .i64 J.nk, .bool false] 27)) (.cells #[.int .u16 J.ov, .int .u16 J.ox, .int .u16 J.ol, .int .i64 J.oe, .int .i64 J.ok] 25)
    rw [World.size_alloc] at hx
    exact block_cells hx 0
  | true =>
    refine (refTwo_two J.ov J.ox J.ol J.oe J.ok J.nv J.nx J.nl J.ne J.nk w).mono ?_; rintro e w' ⟨rfl, rfl⟩
    have ht : twoV J = [J.ov, J.nv] := by unfold twoV; rw [h2]; rfl
    rw [ht]
    refine ⟨w.heap.size + 1, rfl, Nat.le_succ _, by simp, fun n hn => ?_, (below_box w _).trans ((below_box _ _).mono (by simp))⟩
    have hx := heap_last (w.alloc (.cells #[.int .u16 J.ov, .int .u16 J.ox, .int .u16 J.ol, .int .i64 J.oe, .int .i64 J.ok, .int .u16 J.nv, .int .u16 J.nx, .int .u16 J.nl, .int .i64 J.ne, .int .i64 J.nk, .bool true] 27)) (.cells #[.int .u16 J.ov, .int .u16 J.ox, .int .u16 J.ol, .int .i64 J.oe, .int .i64 J.ok, .int .u16 J.nv, .int .u16 J.nx, .int .u16 J.nl, .int .i64 J.ne, .int .i64 J.nk] 25)
    rw [World.size_alloc] at hx
    rcases (show n = 0 ∨ n = 1 by simp at hn; omega) with rfl | rfl
    · exact block_cells hx 0
    · exact block_cells hx 5
def leasts (mt : Nat → Int) (L : List Int) : Int := L.foldl (fun s v => leF mt (listS v) s) (-1)
theorem leasts_two (c : Co) : leasts c.mt (twoV (confL c.l)) = rleastC c := by
  unfold leasts twoV rleastC
  split <;> rfl
theorem leF_next (mt : Nat → Int) {O : List Int} {n x : Nat} {s : Int} (h : n < O.length) (hx : O[n] = (x : Int)) : leF mt (O.take (n + 1)) s = if leF mt (O.take n) s < 0 ∨ mt x < leF mt (O.take n) s then mt x else leF mt (O.take n) s := by
  rw [List.take_succ_eq_append_getElem h, hx]
  unfold leF
  rw [List.foldl_append]; rfl
theorem leasts_next (mt : Nat → Int) {L : List Int} {n : Nat} (h : n < L.length) : leasts mt (L.take (n + 1)) = leF mt (listS L[n]) (leasts mt (L.take n)) := by
  rw [List.take_succ_eq_append_getElem h]
  unfold leasts
  rw [List.foldl_append]; rfl
theorem twoV_fit {J : Jn} (h : JnO J) : ∀ x ∈ twoV J, 0 ≤ x ∧ x ≤ 65535 := by
  have fo := cfF_fit h.f.1; have fn := cfF_fit h.f.2
  intro x hx
  unfold twoV at hx
  split at hx
  · simp only [List.mem_cons, List.not_mem_nil, or_false] at hx
    rcases hx with rfl | rfl
    · exact ⟨fo.v0, fo.v1⟩
    · exact ⟨fn.v0, fn.v1⟩
  · simp only [List.mem_singleton] at hx; rw [hx]; exact ⟨fo.v0, fo.v1⟩
theorem twoV_len (J : Jn) : (twoV J).length ≤ 2 := by unfold twoV; split <;> simp

set_option maxRecDepth 100000 in
set_option maxHeartbeats 16000000 in
theorem rleast_act (R : Nat) (c : Co) (p : Option Addr) (k : Nat) (v : Value) (w : World) (hR : w.heap[R]? = some (.cells #[.int .i64 c.id, .int .i64 c.role, .int .i64 c.tm, .int .i64 c.vt, .int .i64 c.ld, .int .i64 c.wt, .int .i64 c.cm, .int .i64 c.sf, .int .i64 c.l.b, .int .i64 c.l.bt, .int .u16 c.l.j.ov, .int .u16 c.l.j.ox, .int .u16 c.l.j.ol, .int .i64 c.l.j.oe, .int .i64 c.l.j.ok, .int .u16 c.l.j.nv, .int .u16 c.l.j.nx, .int .u16 c.l.j.nl, .int .i64 c.l.j.ne, .int .i64 c.l.j.nk, .bool c.l.j.two, .slice p c.l.es.length k, .string c.sn, .int .u16 c.vs, .int .u16 c.hd, .int .i64 (c.nx 0), .int .i64 (c.nx 1), .int .i64 (c.nx 2), .int .i64 (c.nx 3), .int .i64 (c.nx 4), .int .i64 (c.nx 5), .int .i64 (c.nx 6), .int .i64 (c.nx 7), .int .i64 (c.nx 8), .int .i64 (c.nx 9), .int .i64 (c.mt 0), .int .i64 (c.mt 1), .int .i64 (c.mt 2), .int .i64 (c.mt 3), .int .i64 (c.mt 4), .int .i64 (c.mt 5), .int .i64 (c.mt 6), .int .i64 (c.mt 7), .int .i64 (c.mt 8), .int .i64 (c.mt 9), v] 76 (0, 0))) (hF : LgFit c.l) (hj : JnO (confL c.l)) (hm : ∀ n, n < 10 → 0 ≤ c.mt n ∧ c.mt n ≤ c.l.last) (hE : EnSl w (.slice p c.l.es.length k) c.l.es) :
    Calls Tryz.prog 135 #[.pointer (some ⟨R, 0, none⟩)] w fun e w' => e = .returned (.int .i64 (leastC c)) ∧ Below w.heap.size w w' := by
  obtain ⟨J, hJ⟩ : ∃ J, confL c.l = J := ⟨_, rfl⟩
  have hL : leasts c.mt (twoV J) = leastC c := by rw [← hJ, leasts_two, rleast_eq c hj hm]
  rw [hJ] at hj
  have HCJ := Lib.hid (show Calls Tryz.prog 54 #[.pointer (some ⟨R, 0, none⟩)] w fun e w' => e = .returned (.agg #[.int .u16 J.ov, .int .u16 J.ox, .int .u16 J.ol, .int .i64 J.oe, .int .i64 J.ok, .int .u16 J.nv, .int .u16 J.nx, .int .u16 J.nl, .int .i64 J.ne, .int .i64 J.nk, .bool J.two]) ∧ Below w.heap.size w w' from by have := rjoint_act R c p k v w hR hF hE; rw [hJ] at this; exact this)
  have HL := Lib.hid hL
  have HR := Lib.hid (show ∀ w', Below w.heap.size w w' → w'.heap[R]? = some (.cells #[.int .i64 c.id, .int .i64 c.role, .int .i64 c.tm, .int .i64 c.vt, .int .i64 c.ld, .int .i64 c.wt, .int .i64 c.cm, .int .i64 c.sf, .int .i64 c.l.b, .int .i64 c.l.bt, .int .u16 c.l.j.ov, .int .u16 c.l.j.ox, .int .u16 c.l.j.ol, .int .i64 c.l.j.oe, .int .i64 c.l.j.ok, .int .u16 c.l.j.nv, .int .u16 c.l.j.nx, .int .u16 c.l.j.nl, .int .i64 c.l.j.ne, .int .i64 c.l.j.nk, .bool c.l.j.two, .slice p c.l.es.length k, .string c.sn, .int .u16 c.vs, .int .u16 c.hd, .int .i64 (c.nx 0), .int .i64 (c.nx 1), .int .i64 (c.nx 2), .int .i64 (c.nx 3), .int .i64 (c.nx 4), .int .i64 (c.nx 5), .int .i64 (c.nx 6), .int .i64 (c.nx 7), .int .i64 (c.nx 8), .int .i64 (c.nx 9), .int .i64 (c.mt 0), .int .i64 (c.mt 1), .int .i64 (c.mt 2), .int .i64 (c.mt 3), .int .i64 (c.mt 4), .int .i64 (c.mt 5), .int .i64 (c.mt 6), .int .i64 (c.mt 7), .int .i64 (c.mt 8), .int .i64 (c.mt 9), v] 76 (0, 0)) from fun w' h => below_block h (block_lt hR) hR)
  have HTF := Lib.hid (twoV_fit hj)
  obtain ⟨V, hV⟩ : ∃ V, twoV J = V := ⟨_, rfl⟩
  have hVl : V.length ≤ 2 := by rw [← hV]; exact twoV_len J
  have HCT := Lib.hid (show ∀ w, Calls Tryz.prog 104 #[.agg #[.int .u16 J.ov, .int .u16 J.ox, .int .u16 J.ol, .int .i64 J.oe, .int .i64 J.ok, .int .u16 J.nv, .int .u16 J.nx, .int .u16 J.nl, .int .i64 J.ne, .int .i64 J.nk, .bool J.two]] w fun e w' => ∃ g, e = .returned (.slice (some ⟨g, 0, none⟩) V.length V.length) ∧ w.heap.size ≤ g ∧ g < w'.heap.size ∧ (∀ n, (h : n < V.length) → w'.cell? ⟨g, n * 5, none⟩ = some (.int .u16 V[n])) ∧ Below w.heap.size w w' from fun w => by have := rtwo_any J w; rw [hV] at this; exact this)
  rw [hV] at HL HTF
  clear hR hF hj hm hE hJ hL hV
  go_enter Tryz.func135, Tryz.ntmps135
  go_wp2_with fail
  refine HCJ.out.mono ?_; rintro r wa ⟨rfl, ba⟩
  go_wp2_with fail
  refine (HCT.out wa).mono ?_; rintro r wb ⟨g, rfl, hg0, hg1, hgc, bb⟩
  have HB := Lib.hid (ba.trans (bb.mono ba.size))
  have HGC := Lib.hid (show ∀ w', Below wb.heap.size wb w' → ∀ n, (h : n < V.length) → w'.cell? ⟨g, n * 5, none⟩ = some (.int .u16 V[n]) from fun w' h n hn => by rw [h.cell (by exact hg1)]; exact hgc n hn)
  clear ba bb hgc hg0 hg1 HCJ HCT
  go_wp2_with fail
  go_loopw [3, 5] (fun s i wr => ∃ n : Nat, n ≤ V.length ∧ s = .int .i64 (leasts c.mt (V.take n)) ∧ i = .int .i64 n ∧ Hid (Below wb.heap.size wb wr)) (fun _ i _ => V.length - (intOf i).toNat)
  case atStart => exact ⟨0, Nat.zero_le _, rfl, rfl, Below.refl _ _⟩
  case round =>
    obtain ⟨n, hn, rfl, rfl, HBK⟩ := hrel
    obtain ⟨wk, rfl⟩ : ∃ wk : World, wk = wr := ⟨_, rfl⟩
    by_cases hlt : n < V.length
    · have hd : decide ((n : Int) < (V.length : Int)) = true := by simp; omega
      have hkm : (n : Int) < (V.length : Int) := by omega
      have kg := HGC.out wk HBK.out n hlt
      obtain ⟨x, hx⟩ : ∃ x, V[n] = x := ⟨_, rfl⟩
      have hxf := HTF.out x (by rw [← hx]; exact List.getElem_mem hlt)
      have hnx : leasts c.mt (V.take (n + 1)) = leF c.mt (listS x) (leasts c.mt (V.take n)) := by rw [leasts_next c.mt hlt, hx]
      rw [hx] at kg
      obtain ⟨O, hO⟩ : ∃ O, lst x 9 = O := ⟨_, rfl⟩
      have hO9 : O.length ≤ 9 := by rw [← hO]; exact lst_le _ 9
      have hOr : ∀ x ∈ O, 1 ≤ x ∧ x ≤ 9 := by rw [← hO]; intro x hx; have := lst_range _ 9 x hx; omega
      obtain ⟨s0, hs0⟩ : ∃ s0, leasts c.mt (V.take n) = s0 := ⟨_, rfl⟩
      have HCL := Lib.hid (show Calls Tryz.prog 74 #[.int .u16 x] wk fun e w' => ∃ v, e = .returned v ∧ w'.ownsRow wk.heap.size 3 1 v O.length (O.map (Value.int .i64)) ∧ Below wk.heap.size wk w' from by
        have := refList_any x wk hxf.1 hxf.2; rw [hO] at this; exact this)
      have HNX : Hid (leasts c.mt (V.take (n + 1)) = leF c.mt O s0) := by show _ = _; rw [hnx, hs0]; unfold listS; rw [hO]
      have HOR := Lib.hid hOr
      rw [hs0]
      clear hnx hx hO hOr hs0 hxf
      go_wp2_with fail
      refine HCL.out.mono ?_; rintro r w1 ⟨u, rfl, hu, b1⟩
      obtain ⟨pu, cu, rfl⟩ := own_formH hu
      have HU := Lib.hid hu
      have HB1 := Lib.hid (HBK.out.trans (b1.mono HBK.out.size))
      have hrb : ∀ w', Below w1.heap.size w1 w' → w'.heap[R]? = some (.cells #[.int .i64 c.id, .int .i64 c.role, .int .i64 c.tm, .int .i64 c.vt, .int .i64 c.ld, .int .i64 c.wt, .int .i64 c.cm, .int .i64 c.sf, .int .i64 c.l.b, .int .i64 c.l.bt, .int .u16 c.l.j.ov, .int .u16 c.l.j.ox, .int .u16 c.l.j.ol, .int .i64 c.l.j.oe, .int .i64 c.l.j.ok, .int .u16 c.l.j.nv, .int .u16 c.l.j.nx, .int .u16 c.l.j.nl, .int .i64 c.l.j.ne, .int .i64 c.l.j.nk, .bool c.l.j.two, .slice p c.l.es.length k, .string c.sn, .int .u16 c.vs, .int .u16 c.hd, .int .i64 (c.nx 0), .int .i64 (c.nx 1), .int .i64 (c.nx 2), .int .i64 (c.nx 3), .int .i64 (c.nx 4), .int .i64 (c.nx 5), .int .i64 (c.nx 6), .int .i64 (c.nx 7), .int .i64 (c.nx 8), .int .i64 (c.nx 9), .int .i64 (c.mt 0), .int .i64 (c.mt 1), .int .i64 (c.mt 2), .int .i64 (c.mt 3), .int .i64 (c.mt 4), .int .i64 (c.mt 5), .int .i64 (c.mt 6), .int .i64 (c.mt 7), .int .i64 (c.mt 8), .int .i64 (c.mt 9), v] 76 (0, 0)) := fun w' h => HR.out w' ((HB.out.trans (HB1.out.mono HB.out.size)).trans (h.mono (HB.out.trans (HB1.out.mono HB.out.size)).size))
      have HRB := Lib.hid hrb
      clear hu b1 HCL kg hrb
      go_wp2_with fail
      go_loopw [3, 7] (fun s i wr => ∃ j : Nat, j ≤ O.length ∧ s = .int .i64 (leF c.mt (O.take j) s0) ∧ i = .int .i64 j ∧ Hid (Below w1.heap.size w1 wr)) (fun _ i _ => O.length - (intOf i).toNat)
      case atStart => exact ⟨0, Nat.zero_le _, rfl, rfl, Below.refl _ _⟩
      case round =>
        obtain ⟨j, hj, rfl, rfl, HBI⟩ := hrel
        obtain ⟨wi, rfl⟩ : ∃ wi : World, wi = wr := ⟨_, rfl⟩
        by_cases hlt2 : j < O.length
        · have hd2 : decide ((j : Int) < (O.length : Int)) = true := by simp; omega
          have hjm : (j : Int) < (O.length : Int) := by omega
          have hj0 : 0 ≤ (j : Int) := by omega
          obtain ⟨g2, rfl, hgb, hgl, hgc⟩ := own_at2 HU.out hlt2
          obtain ⟨y, hy⟩ : ∃ y, O[j] = y := ⟨_, rfl⟩
          obtain ⟨y0, y1⟩ := HOR.out y (by rw [← hy]; exact List.getElem_mem hlt2)
          obtain ⟨yn, rfl⟩ : ∃ yn : Nat, y = (yn : Int) := ⟨y.toNat, by omega⟩
          have kc : ∀ w', Below w1.heap.size w1 w' → w'.cell? ⟨g2, j, none⟩ = some (.int .i64 (yn : Int)) := fun w' h => by rw [hgc w' (h.block g2 hgl) j hlt2, List.getElem?_map, List.getElem?_eq_getElem hlt2, hy]; rfl
          have kM : ∀ w', Below w1.heap.size w1 w' → w'.cell? ⟨R, 35 + yn, none⟩ = some (.int .i64 (c.mt yn)) := fun w' h => ac_mt (HRB.out w' h) (by omega)
          have hnx2 := leF_next c.mt (s := s0) hlt2 hy
          obtain ⟨s1, hs1⟩ : ∃ s1, leF c.mt (O.take j) s0 = s1 := ⟨_, rfl⟩
          rw [hs1] at hnx2 ⊢
          have hyn0 : 0 ≤ (yn : Int) := by omega
          have hyn1 : (yn : Int) < 10 := by omega
          clear hgb hgl hgc hy hs1
          go_upto_region 10 with fail
          have h0 : Below w1.heap.size w1 wi.drew := HBI.out.drew
          refine wp_region_held_drew (S := fun w' => Below w1.heap.size w1 w') (by kernel_rfl) h0 (fun hHeld => ?_)
          obtain ⟨wd, ewd⟩ : ∃ x, wi.drew = x := ⟨_, rfl⟩
          rewrite [ewd] at h0 hHeld ⊢
          have H0 : Hid (Below w1.heap.size w1 wd) := h0
          clear ewd
          by_cases h1 : s1 < 0
          · have hd1 : decide (s1 < 0) = true := by simp; omega
            have HZ : Hid (leF c.mt (O.take (j + 1)) s0 = c.mt yn) := by show _ = _; rw [hnx2, if_pos (.inl h1)]
            clear hnx2
            refine tkL 0 rfl hHeld ?_
            try simp only [zA, zC, Act.put, zD, zE, zF]
            refine tkL 1 rfl hHeld ?_
            try simp only [zA, zB, zC, Act.put, zD, zE, zF]
            refine tkL 2 rfl hHeld ?_
            try simp only [zA, zB, zC, Act.put, zD, zE, zF]
            refine tkH (i := 3) (v := undef) rfl (Or.inr ⟨by rfl, rfl⟩) hHeld ?_
            try simp only [zA, zB, zC, Act.put, zD, zE, zF]
            refine tkH (i := 4) (v := undef) rfl (Or.inr ⟨by rfl, rfl⟩) hHeld ?_
            try simp only [zA, zB, zC, Act.put, zD, zE, zF]
            refine tkH (i := 5) (v := undef) rfl (Or.inr ⟨by rfl, rfl⟩) hHeld ?_
            try simp only [zA, zB, zC, Act.put, zD, zE, zF]
            refine tkH (i := 6) (v := undef) rfl (Or.inr ⟨by rfl, rfl⟩) hHeld ?_
            try simp only [zA, zB, zC, Act.put, zD, zE, zF]
            refine tkH (i := 7) (v := undef) rfl (Or.inr ⟨by rfl, rfl⟩) hHeld ?_
            try simp only [zA, zB, zC, Act.put, zD, zE, zF]
            refine tkH (i := 8) (v := undef) rfl (Or.inr ⟨by rfl, rfl⟩) hHeld ?_
            try simp only [zA, zB, zC, Act.put, zD, zE, zF]
            refine tkH (i := 9) (v := undef) rfl (Or.inr ⟨by rfl, rfl⟩) hHeld ?_
            try simp only [zA, zB, zC, Act.put, zD, zE, zF]
            refine tkH (i := 10) (v := undef) rfl (Or.inr ⟨by rfl, rfl⟩) hHeld ?_
            try simp only [zA, zB, zC, Act.put, zD, zE, zF]
            refine tkH (i := 11) (v := undef) rfl (Or.inr ⟨by rfl, rfl⟩) hHeld ?_
            try simp only [zA, zB, zC, Act.put, zD, zE, zF]
            refine tkH (i := 12) (v := undef) rfl (Or.inr ⟨by rfl, rfl⟩) hHeld ?_
            try simp only [zA, zB, zC, Act.put, zD, zE, zF]
            refine tkH (i := 13) (v := undef) rfl (Or.inr ⟨by rfl, rfl⟩) hHeld ?_
            try simp only [zA, zB, zC, Act.put, zD, zE, zF]
            refine tkH (i := 14) (v := undef) rfl (Or.inr ⟨by rfl, rfl⟩) hHeld ?_
            try simp only [zA, zB, zC, Act.put, zD, zE, zF]
            refine tkL 15 rfl hHeld ?_
            try simp only [zA, zB, zC, Act.put, zD, zE, zF]
            refine wpAnyH_done (by kernel_rfl) ?_ _
            clear hHeld
            go_upto_region 11 with fail
            have h1' : Below w1.heap.size w1 wd.drew := h0.drew
            refine wp_region_held_drew (S := fun w' => Below w1.heap.size w1 w') (by kernel_rfl) h1' (fun hHeld => ?_)
            refine tkL 0 rfl hHeld ?_
            try simp only [zA, zC, Act.put, zD, zE, zF]
            refine tkL 1 rfl hHeld ?_
            try simp only [zA, zB, zC, Act.put, zD, zE, zF]
            refine tkL 2 rfl hHeld ?_
            try simp only [zA, zB, zC, Act.put, zD, zE, zF]
            refine tkL 3 rfl hHeld ?_
            try simp only [zA, zB, zC, Act.put, zD, zE, zF]
            refine tkL 4 rfl hHeld ?_
            try simp only [zA, zB, zC, Act.put, zD, zE, zF]
            refine tkL 5 rfl hHeld ?_
            try simp only [zA, zB, zC, Act.put, zD, zE, zF]
            refine tkL 6 rfl hHeld ?_
            try simp only [zA, zB, zC, Act.put, zD, zE, zF]
            refine tkL 7 rfl hHeld ?_
            try simp only [zA, zB, zC, Act.put, zD, zE, zF]
            refine tkL 8 rfl hHeld ?_
            try simp only [zA, zB, zC, Act.put, zD, zE, zF]
            refine tkL 9 rfl hHeld ?_
            try simp only [zA, zB, zC, Act.put, zD, zE, zF]
            refine tkL 10 rfl hHeld ?_
            try simp only [zA, zB, zC, Act.put, zD, zE, zF]
            refine wpAnyH_done (by kernel_rfl) ?_ _
            have HB5 : Hid (Below w1.heap.size w1 wd.drew) := h1'
            clear hHeld h1' h0 kc kM
            go_wp2_with fail
            go_roundw
            case rel => exact ⟨j + 1, by omega, by rw [HZ.out], by go_num, HB5⟩
            case measure => simp [intOf]; omega
          · have hd1 : decide (s1 < 0) = false := by simp; omega
            by_cases h3 : c.mt yn < s1
            · have hd3 : decide (c.mt yn < s1) = true := by simp; omega
              have HZ : Hid (leF c.mt (O.take (j + 1)) s0 = c.mt yn) := by show _ = _; rw [hnx2, if_pos (.inr h3)]
              clear hnx2
              refine tkL 0 rfl hHeld ?_
              try simp only [zA, zC, Act.put, zD, zE, zF]
              refine tkL 1 rfl hHeld ?_
              try simp only [zA, zB, zC, Act.put, zD, zE, zF]
              refine tkL 2 rfl hHeld ?_
              try simp only [zA, zB, zC, Act.put, zD, zE, zF]
              refine tkL 3 rfl hHeld ?_
              try simp only [zA, zB, zC, Act.put, zD, zE, zF]
              refine tkL 4 rfl hHeld ?_
              try simp only [zA, zB, zC, Act.put, zD, zE, zF]
              refine tkL 5 rfl hHeld ?_
              try simp only [zA, zB, zC, Act.put, zD, zE, zF]
              refine tkL 6 rfl hHeld ?_
              try simp only [zA, zB, zC, Act.put, zD, zE, zF]
              refine tkL 7 rfl hHeld ?_
              try simp only [zA, zB, zC, Act.put, zD, zE, zF]
              refine tkL 8 rfl hHeld ?_
              try simp only [zA, zB, zC, Act.put, zD, zE, zF]
              refine tkL 9 rfl hHeld ?_
              try simp only [zA, zB, zC, Act.put, zD, zE, zF]
              refine tkL 10 rfl hHeld ?_
              try simp only [zA, zB, zC, Act.put, zD, zE, zF]
              refine tkL 11 rfl hHeld ?_
              try simp only [zA, zB, zC, Act.put, zD, zE, zF]
              refine tkL 12 rfl hHeld ?_
              try simp only [zA, zB, zC, Act.put, zD, zE, zF]
              refine tkL 13 rfl hHeld ?_
              try simp only [zA, zB, zC, Act.put, zD, zE, zF]
              refine tkL 14 rfl hHeld ?_
              try simp only [zA, zB, zC, Act.put, zD, zE, zF]
              refine tkL 15 rfl hHeld ?_
              try simp only [zA, zB, zC, Act.put, zD, zE, zF]
              refine wpAnyH_done (by kernel_rfl) ?_ _
              clear hHeld
              go_upto_region 11 with fail
              have h1' : Below w1.heap.size w1 wd.drew := h0.drew
              refine wp_region_held_drew (S := fun w' => Below w1.heap.size w1 w') (by kernel_rfl) h1' (fun hHeld => ?_)
              refine tkL 0 rfl hHeld ?_
              try simp only [zA, zC, Act.put, zD, zE, zF]
              refine tkL 1 rfl hHeld ?_
              try simp only [zA, zB, zC, Act.put, zD, zE, zF]
              refine tkL 2 rfl hHeld ?_
              try simp only [zA, zB, zC, Act.put, zD, zE, zF]
              refine tkL 3 rfl hHeld ?_
              try simp only [zA, zB, zC, Act.put, zD, zE, zF]
              refine tkL 4 rfl hHeld ?_
              try simp only [zA, zB, zC, Act.put, zD, zE, zF]
              refine tkL 5 rfl hHeld ?_
              try simp only [zA, zB, zC, Act.put, zD, zE, zF]
              refine tkL 6 rfl hHeld ?_
              try simp only [zA, zB, zC, Act.put, zD, zE, zF]
              refine tkL 7 rfl hHeld ?_
              try simp only [zA, zB, zC, Act.put, zD, zE, zF]
              refine tkL 8 rfl hHeld ?_
              try simp only [zA, zB, zC, Act.put, zD, zE, zF]
              refine tkL 9 rfl hHeld ?_
              try simp only [zA, zB, zC, Act.put, zD, zE, zF]
              refine tkL 10 rfl hHeld ?_
              try simp only [zA, zB, zC, Act.put, zD, zE, zF]
              refine wpAnyH_done (by kernel_rfl) ?_ _
              have HB5 : Hid (Below w1.heap.size w1 wd.drew) := h1'
              clear hHeld h1' h0 kc kM
              go_wp2_with fail
              go_roundw
              case rel => exact ⟨j + 1, by omega, by rw [HZ.out], by go_num, HB5⟩
              case measure => simp [intOf]; omega
            · have hd3 : decide (c.mt yn < s1) = false := by simp; omega
              have HZ : Hid (leF c.mt (O.take (j + 1)) s0 = s1) := by show _ = _; rw [hnx2, if_neg (by omega)]
              clear hnx2
              refine tkL 0 rfl hHeld ?_
              try simp only [zA, zC, Act.put, zD, zE, zF]
              refine tkL 1 rfl hHeld ?_
              try simp only [zA, zB, zC, Act.put, zD, zE, zF]
              refine tkL 2 rfl hHeld ?_
              try simp only [zA, zB, zC, Act.put, zD, zE, zF]
              refine tkL 3 rfl hHeld ?_
              try simp only [zA, zB, zC, Act.put, zD, zE, zF]
              refine tkL 4 rfl hHeld ?_
              try simp only [zA, zB, zC, Act.put, zD, zE, zF]
              refine tkL 5 rfl hHeld ?_
              try simp only [zA, zB, zC, Act.put, zD, zE, zF]
              refine tkL 6 rfl hHeld ?_
              try simp only [zA, zB, zC, Act.put, zD, zE, zF]
              refine tkL 7 rfl hHeld ?_
              try simp only [zA, zB, zC, Act.put, zD, zE, zF]
              refine tkL 8 rfl hHeld ?_
              try simp only [zA, zB, zC, Act.put, zD, zE, zF]
              refine tkL 9 rfl hHeld ?_
              try simp only [zA, zB, zC, Act.put, zD, zE, zF]
              refine tkL 10 rfl hHeld ?_
              try simp only [zA, zB, zC, Act.put, zD, zE, zF]
              refine tkL 11 rfl hHeld ?_
              try simp only [zA, zB, zC, Act.put, zD, zE, zF]
              refine tkL 12 rfl hHeld ?_
              try simp only [zA, zB, zC, Act.put, zD, zE, zF]
              refine tkL 13 rfl hHeld ?_
              try simp only [zA, zB, zC, Act.put, zD, zE, zF]
              refine tkL 14 rfl hHeld ?_
              try simp only [zA, zB, zC, Act.put, zD, zE, zF]
              refine tkL 15 rfl hHeld ?_
              try simp only [zA, zB, zC, Act.put, zD, zE, zF]
              refine wpAnyH_done (by kernel_rfl) ?_ _
              clear hHeld h0 kc kM
              go_wp2_with fail
              go_roundw
              case rel => exact ⟨j + 1, by omega, by rw [HZ.out], by go_num, H0⟩
              case measure => simp [intOf]; omega
        · obtain rfl : j = O.length := by omega
          have hd2 : decide ((O.length : Int) < (O.length : Int)) = false := by simp
          rw [List.take_of_length_le (Nat.le_refl _)]
          have HB2 : Hid (Below wb.heap.size wb wi) := HB1.out.trans (HBI.out.mono HB1.out.size)
          go_wp2_with fail
          go_roundw
          case rel => exact ⟨n + 1, by omega, by rw [HNX.out], by go_num, HB2⟩
          case measure => simp [intOf]; omega
    · obtain rfl : n = V.length := by omega
      have hd : decide ((V.length : Int) < (V.length : Int)) = false := by simp
      have HZ : Hid (leasts c.mt (V.take V.length) = leastC c) := by show _ = _; rw [List.take_of_length_le (Nat.le_refl _)]; exact HL.out
      go_wp2_with fail
      go_ret
      rw [HZ.out]
      exact ⟨rfl, HB.out.trans (HBK.out.mono HB.out.size)⟩
end Go.Proofs.YtbnndbdnejfehaaGreatDoor
/- Core: methods of a run (the reference's): what is committed now. -/
namespace Go.Proofs.YtbnndbdnejfehaaGreatDoor
open Go.ChangeShapes Go.WideShapes Go.ChangeAt Go.RowKit

set_option maxRecDepth 100000 in
set_option maxHeartbeats 16000000 in
theorem rcounts_act (B R N : Nat) (c : Co) (p : Option Addr) (k : Nat) (v : Value) (l : List MsX) (w : World) (h : AcW 76 B w R ⟨c, p, k⟩ v l) (hF : CoFit N c) (hN : N < 700000) :
    Calls Tryz.prog 81 #[.pointer (some ⟨R, 0, none⟩)] w fun e w' => e = .returned (.tuple #[]) ∧ ∃ q d, AcW 76 B w' R ⟨countsC c, q, d⟩ v l ∧ AcR w w' R v v := by
  have HF : Hid (CoFit N c) := hF; have HA0 := Lib.hid h; have HNN := Lib.hid hN
  obtain ⟨F, hFF⟩ : ∃ F, countsC c = F := ⟨_, rfl⟩
  have HFF := Lib.hid hFF
  rw [hFF]
  clear h hF hN hFF
  go_enter Tryz.func81, Tryz.ntmps81
  go_wp2_with fail
  go_loopw [] (fun wr => Hid (∃ (m : Nat) (cc : Co) (q : Option Addr) (d : Nat), m ≤ 1 ∧ ((confL cc.l).two = true → m = 0) ∧ CoFit (N + m) cc ∧ cc.l.es.length = c.l.es.length + m ∧ countsC cc = F ∧ AcW 76 B wr R ⟨cc, q, d⟩ v l ∧ AcR w wr R v v)) (fun wr => (c.l.es.length + 2) - lenAt R wr)
  case atStart => exact ⟨0, c, p, k, by omega, fun _ => rfl, HF.out, rfl, HFF.out, HA0.out, AcR.refl _ _ _⟩
  case round =>
    obtain ⟨m, cc, q, d, hm, h2, hF, hlen, hcF, hA, hr⟩ := hrel.out
    obtain ⟨wk, rfl⟩ : ∃ wk : World, wk = wr := ⟨_, rfl⟩
    obtain ⟨J, hJ⟩ : ∃ J, confL cc.l = J := ⟨_, rfl⟩
    have hJO : JnO J := by rw [← hJ]; exact hF.lo.conf
    obtain ⟨S, hS⟩ : ∃ S, scanC cc cc.cm (cc.l.last - cc.cm).toNat = S := ⟨_, rfl⟩
    obtain ⟨N0, hN0⟩ : ∃ N0 : Nat, cc.l.last = cc.cm + (N0 : Int) := ⟨(cc.l.last - cc.cm).toNat, by have := hF.cm1; omega⟩
    have hS0 : scanC cc cc.cm N0 = S := by rw [← hS]; congr 1; omega
    have hmax : max cc.cm cc.l.b = cc.cm := by have := hF.cm0; omega
    obtain ⟨M, hM⟩ : ∃ M, leastC cc = M := ⟨_, rfl⟩
    obtain ⟨c1, hc1⟩ : ∃ c1 : Co, { cc with cm := S } = c1 := ⟨_, rfl⟩
    obtain ⟨c2, hc2⟩ : ∃ c2 : Co, { c1 with sf := max c1.sf M } = c2 := ⟨_, rfl⟩
    have hcc : count1 cc = c2 := by rw [← hc2, ← hc1]; unfold count1; rw [hmax, hS, hM]
    have hF2 : CoFit (N + m) c2 := by rw [← hcc]; exact hF.count1
    have hl1 : c1.l = cc.l := by rw [← hc1]
    have hl2 : c2.l = cc.l := by rw [← hc2]; exact hl1
    have hi2 : c2.id = cc.id := by rw [← hc2, ← hc1]
    have hF1 : CoFit (N + m) c1 := by
      refine ⟨by rw [hl1]; exact hF.lo, by rw [hl1]; exact hF.n, by rw [← hc1]; exact hF.id0, by rw [← hc1]; exact hF.id1, by rw [← hc1]; exact hF.nx, by rw [← hc1]; exact hF.mt, ?_, ?_⟩
      · have := hF2.cm0; rw [← hc2] at this; exact this
      · have := hF2.cm1; rw [← hc2] at this; exact this
    have hM1 : leastC c1 = M := by rw [← hM, ← hc1]; rfl
    have HLK := Lib.hid (lenAt_act hA)
    have HF1 : Hid (CoFit (N + m) cc) := hF; have HFc1 : Hid (CoFit (N + m) c1) := hF1; have HF2 : Hid (CoFit (N + m) c2) := hF2; have HCC := Lib.hid hcc; have HA := Lib.hid hA; have HR := Lib.hid hr; have HL1 := Lib.hid hl1; have HL2 := Lib.hid hl2; have HI2 := Lib.hid hi2; have HM1 := Lib.hid hM1
    have HJ := Lib.hid hJ; have HJO : Hid (JnO J) := hJO; have HS0 := Lib.hid hS0; have HC1 := Lib.hid hc1; have HC2 := Lib.hid hc2; have HN0 := Lib.hid hN0; have HCF := Lib.hid hcF; have H2 := Lib.hid h2; have HLEN := Lib.hid hlen; have HMM := Lib.hid hm
    have hcm0 : 0 ≤ cc.cm := by have := hF.cm0; have := hF.lo.f.b0; omega
    have hcm1 : cc.cm + (N0 : Int) ≤ 1152921504607846976 := by have := hF.lo.f.b1; have := hF.lo.f.n; rw [← hN0]; unfold Lg.last; omega
    clear hm h2 hF hlen hcF hA hr hJ hJO hS hN0 hS0 hmax hM hc1 hc2 hcc hF2 hl1 hl2 hF1 hrel hM1 hi2
    have hRb : wk.heap[R]? = some (.cells #[.int .i64 cc.id, .int .i64 cc.role, .int .i64 cc.tm, .int .i64 cc.vt, .int .i64 cc.ld, .int .i64 cc.wt, .int .i64 cc.cm, .int .i64 cc.sf, .int .i64 cc.l.b, .int .i64 cc.l.bt, .int .u16 cc.l.j.ov, .int .u16 cc.l.j.ox, .int .u16 cc.l.j.ol, .int .i64 cc.l.j.oe, .int .i64 cc.l.j.ok, .int .u16 cc.l.j.nv, .int .u16 cc.l.j.nx, .int .u16 cc.l.j.nl, .int .i64 cc.l.j.ne, .int .i64 cc.l.j.nk, .bool cc.l.j.two, .slice q cc.l.es.length d, .string cc.sn, .int .u16 cc.vs, .int .u16 cc.hd, .int .i64 (cc.nx 0), .int .i64 (cc.nx 1), .int .i64 (cc.nx 2), .int .i64 (cc.nx 3), .int .i64 (cc.nx 4), .int .i64 (cc.nx 5), .int .i64 (cc.nx 6), .int .i64 (cc.nx 7), .int .i64 (cc.nx 8), .int .i64 (cc.nx 9), .int .i64 (cc.mt 0), .int .i64 (cc.mt 1), .int .i64 (cc.mt 2), .int .i64 (cc.mt 3), .int .i64 (cc.mt 4), .int .i64 (cc.mt 5), .int .i64 (cc.mt 6), .int .i64 (cc.mt 7), .int .i64 (cc.mt 8), .int .i64 (cc.mt 9), v] 76 (0, 0)) := HA.out.blk
    have kR := block_cells hRb
    clear hRb
    have HCL := Lib.hid (show Calls Tryz.prog 33 #[.agg #[.int .i64 cc.l.b, .int .i64 cc.l.bt, .int .u16 cc.l.j.ov, .int .u16 cc.l.j.ox, .int .u16 cc.l.j.ol, .int .i64 cc.l.j.oe, .int .i64 cc.l.j.ok, .int .u16 cc.l.j.nv, .int .u16 cc.l.j.nx, .int .u16 cc.l.j.nl, .int .i64 cc.l.j.ne, .int .i64 cc.l.j.nk, .bool cc.l.j.two, .slice q cc.l.es.length d]] wk fun r w2 => r = .returned (.int .i64 (cc.cm + (N0 : Int))) ∧ Below wk.heap.size wk w2 from by have := rlast_any cc.l q d wk HF1.out.lo.f.b0 HF1.out.lo.f.b1 HF1.out.lo.f.n; rw [HN0.out] at this; exact this)
    go_wp2_with fail
    refine HCL.out.mono ?_; rintro r w2 ⟨rfl, b2⟩
    have HB2 : Hid (AcW 76 B w2 R ⟨cc, q, d⟩ v l ∧ AcR w w2 R v v) := ⟨HA.out.keep b2, HR.out.trans (AcR.below b2)⟩
    clear b2 HCL kR HA HR
    go_upto_block 2 with fail
    go_cut [2, 3, 4] from 7 to 97 (fun _ _ _ wx => Hid (AcW 76 B wx R ⟨c1, q, d⟩ v l ∧ AcR w wx R v v))
    case first =>
      go_wp2_with fail
      go_loopw [2] (fun i wr => ∃ (n : Nat) (cx : Co), i = .int .i64 (cc.cm + (n : Int)) ∧ Hid (AcW 76 B wr R ⟨cx, q, d⟩ v l ∧ AcR w wr R v v) ∧ Hid (n ≤ N0 ∧ ((cx = cc ∧ scanC cc cc.cm n = S) ∨ (cx = c1 ∧ S = cc.cm + (n : Int) + 1)))) (fun i _ => (intOf i - cc.cm).toNat)
      case atStart => exact ⟨N0, cc, rfl, HB2, Nat.le_refl _, .inl ⟨rfl, HS0.out⟩⟩
      case round =>
        obtain ⟨n, cx, rfl, HX, hst0⟩ := hrel
        obtain ⟨hn, hst1⟩ := hst0.out
        obtain ⟨wi, rfl⟩ : ∃ wi : World, wi = wr := ⟨_, rfl⟩
        clear hst0
        rcases hst1 with ⟨rfl, hst⟩ | ⟨rfl, hst⟩
        · have hRb : wi.heap[R]? = some (.cells #[.int .i64 cx.id, .int .i64 cx.role, .int .i64 cx.tm, .int .i64 cx.vt, .int .i64 cx.ld, .int .i64 cx.wt, .int .i64 cx.cm, .int .i64 cx.sf, .int .i64 cx.l.b, .int .i64 cx.l.bt, .int .u16 cx.l.j.ov, .int .u16 cx.l.j.ox, .int .u16 cx.l.j.ol, .int .i64 cx.l.j.oe, .int .i64 cx.l.j.ok, .int .u16 cx.l.j.nv, .int .u16 cx.l.j.nx, .int .u16 cx.l.j.nl, .int .i64 cx.l.j.ne, .int .i64 cx.l.j.nk, .bool cx.l.j.two, .slice q cx.l.es.length d, .string cx.sn, .int .u16 cx.vs, .int .u16 cx.hd, .int .i64 (cx.nx 0), .int .i64 (cx.nx 1), .int .i64 (cx.nx 2), .int .i64 (cx.nx 3), .int .i64 (cx.nx 4), .int .i64 (cx.nx 5), .int .i64 (cx.nx 6), .int .i64 (cx.nx 7), .int .i64 (cx.nx 8), .int .i64 (cx.nx 9), .int .i64 (cx.mt 0), .int .i64 (cx.mt 1), .int .i64 (cx.mt 2), .int .i64 (cx.mt 3), .int .i64 (cx.mt 4), .int .i64 (cx.mt 5), .int .i64 (cx.mt 6), .int .i64 (cx.mt 7), .int .i64 (cx.mt 8), .int .i64 (cx.mt 9), v] 76 (0, 0)) := HX.out.1.blk
          cases n with
          | zero =>
            have hd : decide (cx.cm < cx.cm + ((0 : Nat) : Int)) = false := by simp
            have HZ : Hid (S = cx.cm) := hst.symm
            have kR := block_cells hRb
            clear hRb hst
            go_wp2_with fail
            go_meet
            case rel =>
              have e : c1 = cx := by rw [← HC1.out, HZ.out]
              rw [e]; exact HX
          | succ j =>
            rw [show ((j + 1 : Nat) : Int) = (j : Int) + 1 by omega]
            have hd : decide (cx.cm < cx.cm + ((j : Int) + 1)) = true := by simp; omega
            have hdp : cx.cm < cx.cm + ((j : Int) + 1) := by omega
            obtain ⟨x, hx⟩ : ∃ x, cx.cm + ((j : Int) + 1) = x := ⟨_, rfl⟩
            rw [hx] at hd hdp ⊢
            obtain ⟨⟨T, is⟩, hT⟩ : ∃ t, termL cx.l x = t := ⟨_, rfl⟩
            have HCT := Lib.hid (show Calls Tryz.prog 87 #[.agg #[.int .i64 cx.l.b, .int .i64 cx.l.bt, .int .u16 cx.l.j.ov, .int .u16 cx.l.j.ox, .int .u16 cx.l.j.ol, .int .i64 cx.l.j.oe, .int .i64 cx.l.j.ok, .int .u16 cx.l.j.nv, .int .u16 cx.l.j.nx, .int .u16 cx.l.j.nl, .int .i64 cx.l.j.ne, .int .i64 cx.l.j.nk, .bool cx.l.j.two, .slice q cx.l.es.length d], .int .i64 x] wi fun r w2 => r = .returned (.tuple #[.int .i64 T, .bool is]) ∧ Below wi.heap.size wi w2 from by have := rterm_is cx.l q d wi HF1.out.lo.f (i := x) (by omega) (EnSl.of_own HX.out.1.en); rw [hT] at this; exact this)
            have HST : Hid (S = if T = cx.tm ∧ commitsN J (matchedC cx x) = true then x else scanC cx cx.cm j) := by
              show _ = _
              rw [← hst, scanC, HJ.out, Int.add_assoc, hx, hT]
            have hxj : x - 1 = cx.cm + (j : Int) := by omega
            have hxb : 0 ≤ x ∧ x ≤ 1152921504607846976 := by omega
            have HXJ := Lib.hid hxj
            have kR := block_cells hRb
            clear hx hT hxj hst hRb
            go_wp2_with fail
            refine HCT.out.mono ?_; rintro r w3 ⟨rfl, b3⟩
            have HX3 : Hid (AcW 76 B w3 R ⟨cx, q, d⟩ v l ∧ AcR w w3 R v v) := ⟨HX.out.1.keep b3, HX.out.2.trans (AcR.below b3)⟩
            clear b3 HCT kR HX
            have hRb : w3.heap[R]? = some (.cells #[.int .i64 cx.id, .int .i64 cx.role, .int .i64 cx.tm, .int .i64 cx.vt, .int .i64 cx.ld, .int .i64 cx.wt, .int .i64 cx.cm, .int .i64 cx.sf, .int .i64 cx.l.b, .int .i64 cx.l.bt, .int .u16 cx.l.j.ov, .int .u16 cx.l.j.ox, .int .u16 cx.l.j.ol, .int .i64 cx.l.j.oe, .int .i64 cx.l.j.ok, .int .u16 cx.l.j.nv, .int .u16 cx.l.j.nx, .int .u16 cx.l.j.nl, .int .i64 cx.l.j.ne, .int .i64 cx.l.j.nk, .bool cx.l.j.two, .slice q cx.l.es.length d, .string cx.sn, .int .u16 cx.vs, .int .u16 cx.hd, .int .i64 (cx.nx 0), .int .i64 (cx.nx 1), .int .i64 (cx.nx 2), .int .i64 (cx.nx 3), .int .i64 (cx.nx 4), .int .i64 (cx.nx 5), .int .i64 (cx.nx 6), .int .i64 (cx.nx 7), .int .i64 (cx.nx 8), .int .i64 (cx.nx 9), .int .i64 (cx.mt 0), .int .i64 (cx.mt 1), .int .i64 (cx.mt 2), .int .i64 (cx.mt 3), .int .i64 (cx.mt 4), .int .i64 (cx.mt 5), .int .i64 (cx.mt 6), .int .i64 (cx.mt 7), .int .i64 (cx.mt 8), .int .i64 (cx.mt 9), v] 76 (0, 0)) := HX3.out.1.blk
            have kR := block_cells hRb
            clear hRb
            by_cases ht : T = cx.tm
            · obtain ⟨G, hG⟩ : ∃ G, commitsN J (matchedC cx x) = G := ⟨_, rfl⟩
              have HSG : Hid (S = if G = true then x else scanC cx cx.cm j) := by
                show _ = _
                rw [HST.out, hG]
                cases G
                · exact (if_neg (fun (h : _ ∧ _) => absurd h.2 (by decide))).trans (if_neg (by decide)).symm
                · exact (if_pos ⟨ht, rfl⟩).trans (if_pos rfl).symm
              clear HST
              subst ht
              have HG := Lib.hid hG
              have HCJ := Lib.hid (show Calls Tryz.prog 54 #[.pointer (some ⟨R, 0, none⟩)] w3 fun e w' => e = .returned (.agg #[.int .u16 J.ov, .int .u16 J.ox, .int .u16 J.ol, .int .i64 J.oe, .int .i64 J.ok, .int .u16 J.nv, .int .u16 J.nx, .int .u16 J.nl, .int .i64 J.ne, .int .i64 J.nk, .bool J.two]) ∧ Below w3.heap.size w3 w' from by have := rjoint_act R cx q d v w3 HX3.out.1.blk HF1.out.lo.f (EnSl.of_own HX3.out.1.en); rw [HJ.out] at this; exact this)
              clear hG
              go_wp2_with fail
              refine HCJ.out.mono ?_; rintro r w4 ⟨rfl, b4⟩
              have HX4 : Hid (AcW 76 B w4 R ⟨cx, q, d⟩ v l ∧ AcR w w4 R v v) := ⟨HX3.out.1.keep b4, HX3.out.2.trans (AcR.below b4)⟩
              have HMA := Lib.hid (rmatched_act R cx q d v x w4 HX4.out.1.blk)
              clear b4 HCJ kR HX3
              go_wp2_with fail
              refine HMA.out.mono ?_; rintro r w5 ⟨rfl, rfl⟩
              have HCO := Lib.hid (show Calls Tryz.prog 71 #[.agg #[.int .u16 J.ov, .int .u16 J.ox, .int .u16 J.ol, .int .i64 J.oe, .int .i64 J.ok, .int .u16 J.nv, .int .u16 J.nx, .int .u16 J.nl, .int .i64 J.ne, .int .i64 J.nk, .bool J.two], .int .u16 (matchedC cx x)] w4 fun e w' => e = .returned (.bool G) ∧ Below w4.heap.size w4 w' from by have := rjCommits J (matchedC cx x) HJO.out (matchedF_fit cx.mt x 9).1 (matchedF_fit cx.mt x 9).2 w4; rw [HG.out] at this; exact this)
              clear HMA
              go_wp2_with fail
              refine HCO.out.mono ?_; rintro r w5 ⟨rfl, b5⟩
              have HX5 : Hid (AcW 76 B w5 R ⟨cx, q, d⟩ v l ∧ AcR w w5 R v v) := ⟨HX4.out.1.keep b5, HX4.out.2.trans (AcR.below b5)⟩
              clear b5 HCO HX4
              cases G with
              | true =>
                have HSX : Hid (S = x) := by show _ = _; have h9 := HSG.out; simpa using h9
                have k6 : w5.cell? ⟨R, 6, none⟩ = some (.int .i64 cx.cm) := block_cells HX5.out.1.blk 6
                have f6 : w5.frozen? ⟨R, 6, none⟩ = false := block_free HX5.out.1.blk 6
                have hp := HX5.out.1.put 6 (.int .i64 x) (by decide) ⟨{ cx with cm := x }, q, d⟩ rfl rfl rfl rfl
                have HP := Lib.hid (And.intro hp.1 (HX5.out.2.trans hp.2))
                have HE : Hid (c1 = { cx with cm := x }) := by show _ = _; rw [← HC1.out, HSX.out]
                clear hp
                go_wp2_with fail
                go_roundw
                case rel => exact ⟨j, c1, by rw [← HXJ.out], by rw [HE.out]; exact HP, by omega, .inr ⟨rfl, by rw [HSX.out]; have := HXJ.out; omega⟩⟩
                case measure => have := HXJ.out; simp [intOf]; omega
              | false =>
                have HSX : Hid (scanC cx cx.cm j = S) := by show _ = _; have h9 := HSG.out; simpa using h9.symm
                go_wp2_with fail
                go_roundw
                case rel => exact ⟨j, cx, by rw [← HXJ.out], HX5, by omega, .inl ⟨rfl, HSX.out⟩⟩
                case measure => have := HXJ.out; simp [intOf]; omega
            · have ht2 : (T == cx.tm) = false := by simp [ht]
              have HSX : Hid (scanC cx cx.cm j = S) := by show _ = _; rw [HST.out]; exact (if_neg (fun (h : _ ∧ _) => ht h.1)).symm
              clear ht
              go_wp2_with fail
              go_roundw
              case rel => exact ⟨j, cx, by rw [← HXJ.out], HX3, by omega, .inl ⟨rfl, HSX.out⟩⟩
              case measure => have := HXJ.out; simp [intOf]; omega
        · have hSc : cx.cm = S := by rw [← HC1.out]
          have hcx : cx.cm = cc.cm + (n : Int) + 1 := by rw [hSc, hst]
          obtain ⟨y, hy⟩ : ∃ y, cx.cm = y := ⟨_, rfl⟩
          have k6 : wi.cell? ⟨R, 6, none⟩ = some (.int .i64 y) := by rw [← hy]; exact block_cells HX.out.1.blk 6
          rw [hy] at hcx
          have hd : decide (y < cc.cm + (n : Int)) = false := by simp; omega
          have hdp : cc.cm + (n : Int) ≤ y := by omega
          clear hSc hst hcx hy
          go_wp2_with fail
          go_meet
          case rel => exact HX
    case rest =>
      obtain ⟨W1, hW1⟩ : ∃ z : World, z = wc := ⟨_, rfl⟩
      rw [← hW1] at hcut ⊢
      have HA1 := Lib.hid hcut.out.1; have HR1 := Lib.hid hcut.out.2
      clear hW1 hcut HB2
      go_upto_region 6 with fail
      have hA := HA1.out.keep (Below.refl _ _).drew
      have h0 : ExS R 7 #[.int .i64 c1.id, .int .i64 c1.role, .int .i64 c1.tm, .int .i64 c1.vt, .int .i64 c1.ld, .int .i64 c1.wt, .int .i64 c1.cm, .int .i64 c1.sf, .int .i64 c1.l.b, .int .i64 c1.l.bt, .int .u16 c1.l.j.ov, .int .u16 c1.l.j.ox, .int .u16 c1.l.j.ol, .int .i64 c1.l.j.oe, .int .i64 c1.l.j.ok, .int .u16 c1.l.j.nv, .int .u16 c1.l.j.nx, .int .u16 c1.l.j.nl, .int .i64 c1.l.j.ne, .int .i64 c1.l.j.nk, .bool c1.l.j.two, .slice q c1.l.es.length d, .string c1.sn, .int .u16 c1.vs, .int .u16 c1.hd, .int .i64 (c1.nx 0), .int .i64 (c1.nx 1), .int .i64 (c1.nx 2), .int .i64 (c1.nx 3), .int .i64 (c1.nx 4), .int .i64 (c1.nx 5), .int .i64 (c1.nx 6), .int .i64 (c1.nx 7), .int .i64 (c1.nx 8), .int .i64 (c1.nx 9), .int .i64 (c1.mt 0), .int .i64 (c1.mt 1), .int .i64 (c1.mt 2), .int .i64 (c1.mt 3), .int .i64 (c1.mt 4), .int .i64 (c1.mt 5), .int .i64 (c1.mt 6), .int .i64 (c1.mt 7), .int .i64 (c1.mt 8), .int .i64 (c1.mt 9), v] W1.drew := ExS.of (w := W1.drew) hA.blk
      refine wp_region_held_drew (S := ExS R 7 #[.int .i64 c1.id, .int .i64 c1.role, .int .i64 c1.tm, .int .i64 c1.vt, .int .i64 c1.ld, .int .i64 c1.wt, .int .i64 c1.cm, .int .i64 c1.sf, .int .i64 c1.l.b, .int .i64 c1.l.bt, .int .u16 c1.l.j.ov, .int .u16 c1.l.j.ox, .int .u16 c1.l.j.ol, .int .i64 c1.l.j.oe, .int .i64 c1.l.j.ok, .int .u16 c1.l.j.nv, .int .u16 c1.l.j.nx, .int .u16 c1.l.j.nl, .int .i64 c1.l.j.ne, .int .i64 c1.l.j.nk, .bool c1.l.j.two, .slice q c1.l.es.length d, .string c1.sn, .int .u16 c1.vs, .int .u16 c1.hd, .int .i64 (c1.nx 0), .int .i64 (c1.nx 1), .int .i64 (c1.nx 2), .int .i64 (c1.nx 3), .int .i64 (c1.nx 4), .int .i64 (c1.nx 5), .int .i64 (c1.nx 6), .int .i64 (c1.nx 7), .int .i64 (c1.nx 8), .int .i64 (c1.nx 9), .int .i64 (c1.mt 0), .int .i64 (c1.mt 1), .int .i64 (c1.mt 2), .int .i64 (c1.mt 3), .int .i64 (c1.mt 4), .int .i64 (c1.mt 5), .int .i64 (c1.mt 6), .int .i64 (c1.mt 7), .int .i64 (c1.mt 8), .int .i64 (c1.mt 9), v]) (by kernel_rfl) h0 (fun hHeld => ?_)
      have HA2 := Lib.hid hA; have HR2 := Lib.hid HR1.out.drew
      obtain ⟨wd, ewd⟩ : ∃ x, W1.drew = x := ⟨_, rfl⟩
      rewrite [ewd] at h0 hHeld HA2 HR2 ⊢
      clear ewd hA HA1 HR1
      have HCLe := Lib.hid (show Calls Tryz.prog 135 #[.pointer (some ⟨R, 0, none⟩)] wd fun e w' => e = .returned (.int .i64 M) ∧ Below wd.heap.size wd w' from by have := rleast_act R c1 q d v wd HA2.out.blk HFc1.out.lo.f HFc1.out.lo.conf HFc1.out.mt (EnSl.of_own HA2.out.en); rw [HM1.out] at this; exact this)
      have k7 : ∀ w', Below wd.heap.size wd w' → w'.cell? ⟨R, 7, none⟩ = some (.int .i64 c1.sf) := fun w' h => block_cells (below_block h HA2.out.lt HA2.out.blk) 7
      have HSB := Lib.hid (show ∀ w', Below wd.heap.size wd w' → ExS R 7 #[.int .i64 c1.id, .int .i64 c1.role, .int .i64 c1.tm, .int .i64 c1.vt, .int .i64 c1.ld, .int .i64 c1.wt, .int .i64 c1.cm, .int .i64 c1.sf, .int .i64 c1.l.b, .int .i64 c1.l.bt, .int .u16 c1.l.j.ov, .int .u16 c1.l.j.ox, .int .u16 c1.l.j.ol, .int .i64 c1.l.j.oe, .int .i64 c1.l.j.ok, .int .u16 c1.l.j.nv, .int .u16 c1.l.j.nx, .int .u16 c1.l.j.nl, .int .i64 c1.l.j.ne, .int .i64 c1.l.j.nk, .bool c1.l.j.two, .slice q c1.l.es.length d, .string c1.sn, .int .u16 c1.vs, .int .u16 c1.hd, .int .i64 (c1.nx 0), .int .i64 (c1.nx 1), .int .i64 (c1.nx 2), .int .i64 (c1.nx 3), .int .i64 (c1.nx 4), .int .i64 (c1.nx 5), .int .i64 (c1.nx 6), .int .i64 (c1.nx 7), .int .i64 (c1.nx 8), .int .i64 (c1.nx 9), .int .i64 (c1.mt 0), .int .i64 (c1.mt 1), .int .i64 (c1.mt 2), .int .i64 (c1.mt 3), .int .i64 (c1.mt 4), .int .i64 (c1.mt 5), .int .i64 (c1.mt 6), .int .i64 (c1.mt 7), .int .i64 (c1.mt 8), .int .i64 (c1.mt 9), v] w' from fun w' h => ExS.of (below_block h HA2.out.lt HA2.out.blk))
      refine tkL 0 rfl hHeld ?_
      try simp only [zA, zC, Act.put, zD, zE, zF]
      refine tkL 1 rfl hHeld ?_
      try simp only [zA, zB, zC, Act.put, zD, zE, zF]
      refine tkL 2 rfl hHeld ?_
      try simp only [zA, zB, zC, Act.put, zD, zE, zF]
      refine tkL 3 rfl hHeld ?_
      try simp only [zA, zB, zC, Act.put, zD, zE, zF]
      refine tkL 4 rfl hHeld ?_
      try simp only [zA, zB, zC, Act.put, zD, zE, zF]
      refine tkL 6 rfl hHeld ?_
      try simp only [zA, zB, zC, Act.put, zD, zE, zF]
      apply cut1W (R := fun w' => Below wd.heap.size wd w')
      · intro hcut
        refine wpAnyH_ready (rs := [5, 7]) (by kernel_rfl) (by simp) ?_
        refine AllReadyH.cons rfl (fun K hK => ?_) (AllReadyH.cons rfl (fun K hK => ?_) AllReadyH.nil)
        · have k7d := k7 wd (Below.refl _ _)
          try simp only [zA, zB, zC]
          go_simp
          refine hK.out _ _ hHeld (fun _ => ?_)
          clear hK K k7d
          try simp only [zA, zB, zC, Act.put, zD, zE, zF]
          refine wpAnyH_ready (rs := [7]) (by kernel_rfl) (by simp) ?_; refine AllReadyH.cons rfl (fun K hK => ?_) AllReadyH.nil; (try simp only [zA, zB, zC]); go_simp
          refine HCLe.out.mono ?_; rintro r0 w5 ⟨rfl, b5⟩
          refine hK.out _ _ (HSB.out w5 b5) (fun _ => ?_)
          clear hK K
          try simp only [zA, zB, zC, Act.put, zD, zE, zF]
          exact hcut w5 b5
        · (try simp only [zA, zB, zC]); go_simp
          refine HCLe.out.mono ?_; rintro r0 w5 ⟨rfl, b5⟩
          refine hK.out _ _ (HSB.out w5 b5) (fun _ => ?_)
          clear hK K
          try simp only [zA, zB, zC, Act.put, zD, zE, zF]
          refine wpAnyH_ready (rs := [5]) (by kernel_rfl) (by simp) ?_; refine AllReadyH.cons rfl (fun K hK => ?_) AllReadyH.nil
          have k7d := k7 w5 b5
          try simp only [zA, zB, zC]
          go_simp
          refine hK.out _ _ (HSB.out w5 b5) (fun _ => ?_)
          clear hK K k7d
          try simp only [zA, zB, zC, Act.put, zD, zE, zF]
          exact hcut w5 b5
      intro w5 b5
      have hA5 := HA2.out.keep b5
      have hHeld2 := HSB.out w5 b5
      have hp := hA5.put 7 (.int .i64 (max c1.sf M)) (by decide) ⟨{ c1 with sf := max c1.sf M }, q, d⟩ rfl rfl rfl rfl
      have S7 : ExS R 7 #[.int .i64 c1.id, .int .i64 c1.role, .int .i64 c1.tm, .int .i64 c1.vt, .int .i64 c1.ld, .int .i64 c1.wt, .int .i64 c1.cm, .int .i64 c1.sf, .int .i64 c1.l.b, .int .i64 c1.l.bt, .int .u16 c1.l.j.ov, .int .u16 c1.l.j.ox, .int .u16 c1.l.j.ol, .int .i64 c1.l.j.oe, .int .i64 c1.l.j.ok, .int .u16 c1.l.j.nv, .int .u16 c1.l.j.nx, .int .u16 c1.l.j.nl, .int .i64 c1.l.j.ne, .int .i64 c1.l.j.nk, .bool c1.l.j.two, .slice q c1.l.es.length d, .string c1.sn, .int .u16 c1.vs, .int .u16 c1.hd, .int .i64 (c1.nx 0), .int .i64 (c1.nx 1), .int .i64 (c1.nx 2), .int .i64 (c1.nx 3), .int .i64 (c1.nx 4), .int .i64 (c1.nx 5), .int .i64 (c1.nx 6), .int .i64 (c1.nx 7), .int .i64 (c1.nx 8), .int .i64 (c1.nx 9), .int .i64 (c1.mt 0), .int .i64 (c1.mt 1), .int .i64 (c1.mt 2), .int .i64 (c1.mt 3), .int .i64 (c1.mt 4), .int .i64 (c1.mt 5), .int .i64 (c1.mt 6), .int .i64 (c1.mt 7), .int .i64 (c1.mt 8), .int .i64 (c1.mt 9), v] (w5.setCell ⟨R, 7, none⟩ (.int .i64 (max c1.sf M))) := ExS.put hA5.blk
      rw [HC2.out] at hp
      have HA4 := Lib.hid hp.1; have HR4 := Lib.hid ((HR2.out.trans (AcR.below b5)).trans hp.2)
      have k7d := k7 w5 b5
      have f7 : w5.frozen? ⟨R, 7, none⟩ = false := block_free hA5.blk 7
      clear hHeld h0 hp k7 HSB HCLe HA2 HR2 hA5 b5
      have hHeld := hHeld2
      clear hHeld2
      refine tkL 8 rfl hHeld ?_
      try simp only [zA, zB, zC, Act.put, zD, zE, zF]
      refine tkL 9 rfl hHeld ?_
      try simp only [zA, zB, zC, Act.put, zD, zE, zF]
      refine tkL 10 rfl hHeld ?_
      try simp only [zA, zB, zC, Act.put, zD, zE, zF]
      refine tkL 11 rfl hHeld ?_
      try simp only [zA, zB, zC, Act.put, zD, zE, zF]
      refine wpAnyH_ready (rs := [12]) (by kernel_rfl) (by simp) ?_; refine AllReadyH.cons rfl (fun K hK => ?_) AllReadyH.nil
      try simp only [zA, zB, zC]
      go_simp
      refine hK.out _ _ S7 (fun _ => ?_)
      clear hK K hHeld S7 k7d f7
      try simp only [zA, zB, zC, Act.put, zD, zE, zF]
      refine wpAnyH_done (by kernel_rfl) ?_ _
      obtain ⟨W4, hW4⟩ : ∃ z : World, w5.setCell ⟨R, 7, none⟩ (.int .i64 (max c1.sf M)) = z := ⟨_, rfl⟩
      rw [hW4] at HA4 HR4 ⊢
      clear hW4
      have hRb : W4.heap[R]? = some (.cells #[.int .i64 c2.id, .int .i64 c2.role, .int .i64 c2.tm, .int .i64 c2.vt, .int .i64 c2.ld, .int .i64 c2.wt, .int .i64 c2.cm, .int .i64 c2.sf, .int .i64 c2.l.b, .int .i64 c2.l.bt, .int .u16 c2.l.j.ov, .int .u16 c2.l.j.ox, .int .u16 c2.l.j.ol, .int .i64 c2.l.j.oe, .int .i64 c2.l.j.ok, .int .u16 c2.l.j.nv, .int .u16 c2.l.j.nx, .int .u16 c2.l.j.nl, .int .i64 c2.l.j.ne, .int .i64 c2.l.j.nk, .bool c2.l.j.two, .slice q c2.l.es.length d, .string c2.sn, .int .u16 c2.vs, .int .u16 c2.hd, .int .i64 (c2.nx 0), .int .i64 (c2.nx 1), .int .i64 (c2.nx 2), .int .i64 (c2.nx 3), .int .i64 (c2.nx 4), .int .i64 (c2.nx 5), .int .i64 (c2.nx 6), .int .i64 (c2.nx 7), .int .i64 (c2.nx 8), .int .i64 (c2.nx 9), .int .i64 (c2.mt 0), .int .i64 (c2.mt 1), .int .i64 (c2.mt 2), .int .i64 (c2.mt 3), .int .i64 (c2.mt 4), .int .i64 (c2.mt 5), .int .i64 (c2.mt 6), .int .i64 (c2.mt 7), .int .i64 (c2.mt 8), .int .i64 (c2.mt 9), v] 76 (0, 0)) := HA4.out.blk
      have kR := block_cells hRb
      clear hRb
      obtain ⟨st, hst⟩ : ∃ st, standL cc.l = st := ⟨_, rfl⟩
      have HCA := Lib.hid (show Calls Tryz.prog 131 #[.agg #[.int .i64 c2.l.b, .int .i64 c2.l.bt, .int .u16 c2.l.j.ov, .int .u16 c2.l.j.ox, .int .u16 c2.l.j.ol, .int .i64 c2.l.j.oe, .int .i64 c2.l.j.ok, .int .u16 c2.l.j.nv, .int .u16 c2.l.j.nx, .int .u16 c2.l.j.nl, .int .i64 c2.l.j.ne, .int .i64 c2.l.j.nk, .bool c2.l.j.two, .slice q c2.l.es.length d]] W4 fun r w' => r = .returned (.tuple #[.agg #[.int .u16 J.ov, .int .u16 J.ox, .int .u16 J.ol, .int .i64 J.oe, .int .i64 J.ok, .int .u16 J.nv, .int .u16 J.nx, .int .u16 J.nl, .int .i64 J.ne, .int .i64 J.nk, .bool J.two], .int .i64 st]) ∧ Below W4.heap.size W4 w' from
        rconfAt_any c2.l q d W4 HF2.out.lo.f (EnSl.of_own HA4.out.en) (by rw [HL2.out]; exact Prod.ext ((confA_all cc.l).trans HJ.out) hst))
      have HST := Lib.hid hst
      clear hst
      go_wp2_with fail
      refine HCA.out.mono ?_; rintro r w6 ⟨rfl, b6⟩
      go_upto_region 8 with fail
      obtain ⟨W6, hW6⟩ : ∃ z : World, w6.alloc (.cells #[.int .u16 J.ov, .int .u16 J.ox, .int .u16 J.ol, .int .i64 J.oe, .int .i64 J.ok, .int .u16 J.nv, .int .u16 J.nx, .int .u16 J.nl, .int .i64 J.ne, .int .i64 J.nk, .bool J.two] 27) = z := ⟨_, rfl⟩
      have hb : Below W4.heap.size W4 W6 := by rw [← hW6]; exact b6.trans (((Below.refl _ _).alloc (Nat.le_refl _) _).mono b6.size)
      have hX : W6.heap[w6.heap.size]? = some (.cells #[.int .u16 J.ov, .int .u16 J.ox, .int .u16 J.ol, .int .i64 J.oe, .int .i64 J.ok, .int .u16 J.nv, .int .u16 J.nx, .int .u16 J.nl, .int .i64 J.ne, .int .i64 J.nk, .bool J.two] 27 (0, 0)) := by rw [← hW6]; exact heap_last w6 _
      obtain ⟨X, eX⟩ : ∃ X, w6.heap.size = X := ⟨_, rfl⟩
      rw [hW6]
      (try rw [eX])
      rw [eX] at hX
      have HX := Lib.hid hX
      have HA6 := Lib.hid (HA4.out.keep hb); have HR6 := Lib.hid (HR4.out.trans (AcR.below hb))
      clear hW6 hX eX b6 hb HCA HA4 HR4 kR
      have k6 : W6.cell? ⟨R, 6, none⟩ = some (.int .i64 c2.cm) := block_cells HA6.out.blk 6
      by_cases hlow : c2.cm < st
      · have hd6 : decide (c2.cm < st) = true := by simp [hlow]
        have HZ : Hid (F = c2) := by show _ = _; rw [← HCF.out, ← HCC.out]; exact counts_low (by rw [HCC.out, HST.out]; exact hlow)
        go_wp2_with fail
        first | go_end0 | refine bodyPost_ret (results_none rfl _ _ _) rfl ?_
        rw [HZ.out]
        first | exact ⟨rfl, ⟨q, d, HA6.out⟩, HR6.out⟩ | exact ⟨rfl, q, d, HA6.out, HR6.out⟩
      have hd6 : decide (c2.cm < st) = false := by simp; omega
      have HLOW : Hid (¬ (count1 cc).cm < standL cc.l) := by show ¬ _; rw [HCC.out, HST.out]; exact hlow
      have hlw : st ≤ c2.cm := by omega
      clear hlow
      have kX := block_cells HX.out
      cases h2 : J.two with
      | true =>
        have hcz : F = countsC (pushC (count1 cc) (finE cc)) := by rw [← HCF.out]; exact counts_two HLOW.out (by rw [HJ.out]; exact h2)
        have HZ := Lib.hid hcz
        obtain ⟨E, hE⟩ : ∃ E, finalN J = E := ⟨_, rfl⟩
        have hfe : finE cc = ⟨0, 2, ⟨#[]⟩, E⟩ := by unfold finE; rw [HJ.out, hE]; rfl
        have HCF2 := Lib.hid (show Calls Tryz.prog 136 #[.agg #[.int .u16 J.ov, .int .u16 J.ox, .int .u16 J.ol, .int .i64 J.oe, .int .i64 J.ok, .int .u16 J.nv, .int .u16 J.nx, .int .u16 J.nl, .int .i64 J.ne, .int .i64 J.nk, .bool J.two]] W6 fun e w' => e = .returned (.agg #[.int .u16 E.ov, .int .u16 E.ox, .int .u16 E.ol, .int .i64 E.oe, .int .i64 E.ok, .int .u16 E.nv, .int .u16 E.nx, .int .u16 E.nl, .int .i64 E.ne, .int .i64 E.nk, .bool E.two]) ∧ Below W6.heap.size W6 w' from by have := rjFinal J W6; rw [hE] at this; exact this)
        have HFE := Lib.hid hfe
        have HTW : Hid ((confL cc.l).two = true) := by show _ = _; rw [HJ.out]; exact h2
        rw [h2] at HCF2
        clear hE hfe hcz
        go_wp2_with fail
        refine HCF2.out.mono ?_; rintro r w7 ⟨rfl, b7⟩
        have HA7 := Lib.hid (HA6.out.keep b7); have HR7 := Lib.hid (HR6.out.trans (AcR.below b7))
        have HID := Lib.hid (show c2.id = ((c2.id.toNat : Nat) : Int) ∧ c2.id.toNat < 10 from by have := HF2.out.id0; have := HF2.out.id1; omega)
        have HPU := Lib.hid (show Calls Tryz.prog 80 #[.pointer (some ⟨R, 0, none⟩), .agg #[.int .i64 0, .int .i64 2, .string ⟨#[]⟩, .int .u16 E.ov, .int .u16 E.ox, .int .u16 E.ol, .int .i64 E.oe, .int .i64 E.ok, .int .u16 E.nv, .int .u16 E.nx, .int .u16 E.nl, .int .i64 E.ne, .int .i64 E.nk, .bool E.two]] w7 fun r w' => r = .returned (.tuple #[]) ∧ ∃ q d, AcW 76 B w' R ⟨pushC (count1 cc) (finE cc), q, d⟩ v l ∧ AcR w7 w' R v v from by
          have := rpush_act B R c2.id.toNat c2 q d v l ⟨0, 2, ⟨#[]⟩, E⟩ w7 HA7.out HF2.out.lo.f HID.out.1 HID.out.2 (by have := HF2.out.n; have := HNN.out; have := HMM.out; omega)
          rw [HCC.out, HFE.out]; exact this)
        clear b7 HCF2 kX h2 k6
        go_wp2_with fail
        refine HPU.out.mono ?_; rintro r w8 ⟨rfl, q8, d8, hA8, hr8⟩
        have hm0 : m = 0 := H2.out HTW.out
        have hln : (pushC (count1 cc) (finE cc)).l.es.length = cc.l.es.length + 1 := by show (cc.l.es ++ [_]).length = _; simp
        have HO : Hid (∃ (m : Nat) (cc : Co) (q : Option Addr) (d : Nat), m ≤ 1 ∧ ((confL cc.l).two = true → m = 0) ∧ CoFit (N + m) cc ∧ cc.l.es.length = c.l.es.length + m ∧ countsC cc = F ∧ AcW 76 B w8 R ⟨cc, q, d⟩ v l ∧ AcR w w8 R v v) :=
          ⟨1, pushC (count1 cc) (finE cc), q8, d8, Nat.le_refl _, fun h => absurd h (by rw [show confL (pushC (count1 cc) (finE cc)).l = finalN (confL cc.l) from conf_push rfl, final_one]; decide),
            by have h9 := HF1.out; rw [hm0] at h9; exact h9.count1.push (by have := HNN.out; omega) (finE_ok h9), by rw [hln, HLEN.out, hm0], HZ.out.symm, hA8, HR7.out.trans hr8⟩
        have HME : Hid (lenAt R w8 = c.l.es.length + 1 ∧ lenAt R wk = c.l.es.length) := ⟨by rw [lenAt_act hA8, hln, HLEN.out, hm0], by rw [HLK.out]; show cc.l.es.length = _; rw [HLEN.out, hm0]; rfl⟩
        clear hA8 hr8 HPU hm0 hln
        go_wp2_with fail
        go_roundw
        case rel => exact HO
        case measure => have := HME.out; omega
      | false =>
        have hcz := counts_one HLOW.out (by rw [HJ.out]; exact h2)
        rw [HJ.out, HCC.out, HCF.out] at hcz
        have HZ := Lib.hid hcz
        obtain ⟨G, hG⟩ : ∃ G, leadsN J cc.id = G := ⟨_, rfl⟩
        have HG := Lib.hid hG
        have HCLd := Lib.hid (show ∀ w', Calls Tryz.prog 73 #[.agg #[.int .u16 J.ov, .int .u16 J.ox, .int .u16 J.ol, .int .i64 J.oe, .int .i64 J.ok, .int .u16 J.nv, .int .u16 J.nx, .int .u16 J.nl, .int .i64 J.ne, .int .i64 J.nk, .bool J.two], .int .i64 c2.id] w' fun e w2 => e = .returned (.bool G) ∧ Below w'.heap.size w' w2 from fun w' => by have := rjLeads J c2.id HJO.out w'; rw [HI2.out, hG] at this; rw [HI2.out]; exact this)
        rw [h2] at HCLd
        clear hG hcz
        go_upto_region 10 with fail
        have h0 : Below W6.heap.size W6 W6.drew := (Below.refl _ _).drew
        refine wp_region_held_drew (S := fun w' => Below W6.heap.size W6 w') (by kernel_rfl) h0 (fun hHeld => ?_)
        obtain ⟨wd2, ewd⟩ : ∃ x, W6.drew = x := ⟨_, rfl⟩
        rewrite [ewd] at h0 hHeld ⊢
        have k0 : ∀ w', Below W6.heap.size W6 w' → w'.cell? ⟨R, 0, none⟩ = some (.int .i64 c2.id) := fun w' h => block_cells (below_block h HA6.out.lt HA6.out.blk) 0
        have kJ := joint_cells HX.out
        rw [h2] at kJ
        clear ewd kX k6
        refine tkL 0 rfl hHeld ?_
        try simp only [zA, zC, Act.put, zD, zE, zF]
        refine tkL 1 rfl hHeld ?_
        try simp only [zA, zB, zC, Act.put, zD, zE, zF]
        refine tkL 2 rfl hHeld ?_
        try simp only [zA, zB, zC, Act.put, zD, zE, zF]
        refine tkL 3 rfl hHeld ?_
        try simp only [zA, zB, zC, Act.put, zD, zE, zF]
        refine tkL 4 rfl hHeld ?_
        try simp only [zA, zB, zC, Act.put, zD, zE, zF]
        refine tkL 5 rfl hHeld ?_
        try simp only [zA, zB, zC, Act.put, zD, zE, zF]
        refine wpAnyH_ready (rs := [6]) (by kernel_rfl) (by simp) ?_; refine AllReadyH.cons rfl (fun K hK => ?_) AllReadyH.nil; (try simp only [zA, zB, zC]); go_simp
        refine (HCLd.out wd2).mono ?_; rintro r0 w7 ⟨rfl, b7⟩
        have s7 := h0.trans (b7.mono h0.size)
        refine hK.out _ _ s7 (fun _ => ?_)
        clear hK K hHeld b7
        try simp only [zA, zB, zC, Act.put, zD, zE, zF]
        have hHeld := s7
        refine tkL 7 rfl hHeld ?_
        try simp only [zA, zB, zC, Act.put, zD, zE, zF]
        refine wpAnyH_done (by kernel_rfl) ?_ _
        have HA7 := Lib.hid (HA6.out.keep s7); have HR7 := Lib.hid (HR6.out.trans (AcR.below s7))
        clear hHeld s7 h0 k0 kJ
        cases G with
        | true =>
          have HY : Hid (F = c2) := by show _ = _; rw [HZ.out, HG.out]; rfl
          go_wp2_with fail
          first | go_end0 | refine bodyPost_ret (results_none rfl _ _ _) rfl ?_
          rw [HY.out]
          first | exact ⟨rfl, ⟨q, d, HA7.out⟩, HR7.out⟩ | exact ⟨rfl, q, d, HA7.out, HR7.out⟩
        | false =>
          have HY : Hid (F = yieldsC c2) := by show _ = _; rw [HZ.out, HG.out]; rfl
          have HYI := Lib.hid (ryields_act B R c2 q d v l w7 HA7.out)
          go_wp2_with fail
          refine HYI.out.mono ?_; rintro r w8 ⟨rfl, hA8, hr8⟩
          have HO := Lib.hid (And.intro hA8 (HR7.out.trans hr8))
          clear hA8 hr8 HYI
          go_wp2_with fail
          first | go_end0 | refine bodyPost_ret (results_none rfl _ _ _) rfl ?_
          rw [HY.out]
          first | exact ⟨rfl, ⟨q, d, HO.out.1⟩, HO.out.2⟩ | exact ⟨rfl, q, d, HO.out.1, HO.out.2⟩
end Go.Proofs.YtbnndbdnejfehaaGreatDoor
