/- Hard: what a record says to a core, the document's: letter S. -/
import Derived.Test.YtjaabakobpabjaaHtC
import Derived.Test.YtjaabakobpabjaaLogQ
namespace Go.Proofs.Ytjaabakobpabjaa
open Go.ChangeShapes Go.WideShapes Go.ChangeAt Go.RowKit

theorem OnW.far {B0 B A Z R L : Nat} {w0 w w' : World} {ys : List Int} {b : Bool} {y : CoX} (h : OnW B0 B A Z R w0 w ys b y) (hg : w.grownBy w' (some L)) (hA : A ≠ L) (hZ : Z ≠ L) (hR : R ≠ L) (hB : B ≤ L) (hN : w0.heap.size ≤ L) (ho : (Value.slice y.p y.c.l.es.length y.k).ownBlock = none ∨ (Value.slice y.p y.c.l.es.length y.k).ownBlock ≠ some L) : OnW B0 B A Z R w0 w' ys b y :=
  ⟨h.bl.grown hg h.lt (fun k e => by cases e; exact hB), stays_at hg h.a hA, stays_at hg h.z hZ, h.r.far hg hR hB, h.o.kept hg ho, grown_new h.g hg (fun k e => by cases e; exact hN), h.nA, h.nZ⟩
set_option maxRecDepth 100000 in
set_option maxHeartbeats 16000000 in
theorem one_S (B0 B R : Nat) (hB0 : B0 ≤ B) (x : CoX) (xs : List Int) (w : World) (hf : LgFit x.c.l) (ho : CoOwn B0 w x) (hr : RfW B w R xs false) :
    Calls Try.prog 34 #[.int .u8 83, .pointer (some ⟨R, 0, none⟩), .agg x.v.toArray] w (OneE B0 B R w x (sayR 83 xs)) := by
  obtain ⟨⟨v1, ys1, b1⟩, e1⟩ : ∃ r, rfNm xs false = r := ⟨_, rfl⟩
  obtain ⟨⟨v2, ys2, b2⟩, e2⟩ : ∃ r, rfNm ys1 b1 = r := ⟨_, rfl⟩
  obtain ⟨⟨v3, ys3, b3⟩, e3⟩ : ∃ r, hrJ ys2 b2 = r := ⟨_, rfl⟩
  obtain ⟨⟨v4, ys4, b4⟩, e4⟩ : ∃ r, rfT ys3 b3 = r := ⟨_, rfl⟩
  have hsn : snR xs false = ((v1, v2, v3, v4), ys4, b4) := by unfold snR rd2; simp only [e1, e2, e3, e4]
  have HS : Hid (sayR 83 xs = allR ((v1, v2, v3, v4), ys4, b4) fun p => .sn p.1 p.2.1 p.2.2.1 p.2.2.2) := by show _ = _; unfold sayR; rw [if_neg (by decide), if_pos rfl, hsn]
  have hrg := rfNm_range xs false
  rw [e1] at hrg
  have E1 := Lib.hid e1; have E2 := Lib.hid e2; have E3 := Lib.hid e3; have E4 := Lib.hid e4
  clear e1 e2 e3 e4 hsn
  obtain ⟨W0, hW0⟩ : ∃ z : World, w.alloc (.cells x.v.toArray 48) = z := ⟨_, rfl⟩
  obtain ⟨W, hW⟩ : ∃ z : World, W0.alloc (.cells (coL co0 none 0).toArray 48) = z := ⟨_, rfl⟩
  have hs0 : W0.heap.size = w.heap.size + 1 := by rw [← hW0]; simp
  have b0 : Below w.heap.size w W0 := by rw [← hW0]; exact (Below.refl _ _).alloc (Nat.le_refl _) _
  have b1 : Below W0.heap.size W0 W := by rw [← hW]; exact (Below.refl _ _).alloc (Nat.le_refl _) _
  have bW := b0.trans (b1.mono b0.size)
  have hBw : B ≤ w.heap.size := Nat.le_of_lt (Nat.lt_of_le_of_lt hr.r.1 hr.lt)
  have hA : W.heap[w.heap.size]? = some (.cells x.v.toArray 48 (0, 0)) := below_block b1 (by omega) (by rw [← hW0]; exact heap_last w _)
  have hZ : W.heap[w.heap.size + 1]? = some (.cells (coL co0 none 0).toArray 48 (0, 0)) := by rw [← hW, ← hs0]; exact heap_last W0 _
  obtain ⟨A, eA⟩ : ∃ z, w.heap.size = z := ⟨_, rfl⟩
  obtain ⟨Z, eZ⟩ : ∃ z, A + 1 = z := ⟨_, rfl⟩
  rw [eA] at hA hZ
  rw [eZ] at hZ
  have HO0 := Lib.hid (show OnW B0 B A Z R w W xs false x from ⟨bW.mono hBw, hA, hZ, hr.keep bW (Nat.le_refl _), own_keptC ho bW, grown_belowC bW _, by omega, by omega⟩)
  have hRA : R ≠ A := by have := hr.lt; omega
  have hRZ : R ≠ Z := by have := hr.lt; omega
  have hZA : Z ≠ A := by omega
  have hBA : B ≤ A := by omega
  have hBZ : B ≤ Z := by omega
  have HWG := Lib.hid (show (w.alloc (.cells x.v.toArray 48)).alloc (.cells #[.int .i64 0, .int .i64 0, .int .i64 0, .int .i64 0, .int .i64 0, .int .i64 0, .int .i64 0, .int .i64 0, .int .i64 0, .int .i64 0, .int .u16 0, .int .u16 0, .int .u16 0, .int .i64 0, .int .i64 0, .int .u16 0, .int .u16 0, .int .u16 0, .int .i64 0, .int .i64 0, .bool false, .slice none 0 0, .string ⟨#[]⟩, .int .u16 0, .int .u16 0, .int .i64 0, .int .i64 0, .int .i64 0, .int .i64 0, .int .i64 0, .int .i64 0, .int .i64 0, .int .i64 0, .int .i64 0, .int .i64 0, .int .i64 0, .int .i64 0, .int .i64 0, .int .i64 0, .int .i64 0, .int .i64 0, .int .i64 0, .int .i64 0, .int .i64 0, .int .i64 0] 48) = W by rw [hW0]; exact hW)
  have HEA := Lib.hid eA; have HEZ := Lib.hid eZ; have HW0 := Lib.hid hW0; have HW := Lib.hid hW; have HS0 := Lib.hid hs0; have HF := Lib.hid hf; have HOC := Lib.hid hr.o
  clear hW0 hW hs0 b0 b1 bW hA hZ eA eZ ho hr hf hBw
  go_enter Try.func34, Try.ntmps34
  go_upto_region 1 with fail
  rw [HWG.out, HEA.out, HEZ.out]
  go_upto_block 0 with fail
  go_cut [] from 20 to 119 (fun wx => Hid (∃ y : CoX, OnW B0 B A Z R w wx ys4 b4 y ∧ ∀ rc, allR ((v1, v2, v3, v4), ys4, b4) (fun p => Rc.sn p.1 p.2.1 p.2.2.1 p.2.2.2) = some rc → y.c = apRc x.c rc))
  case first =>
    have HC1 := Lib.hid (rhnum_any B R xs false W HO0.out.r)
    rw [E1.out] at HC1
    go_wp2_with fail
    refine HC1.out.mono ?_; rintro e w1 ⟨rfl, h1, g1⟩
    dsimp only at h1 ⊢
    have HO1 := Lib.hid (HO0.out.rd hRA.symm hRZ.symm h1 g1)
    clear h1 g1 HC1
    have HC2 := Lib.hid (rhnum_any B R ys1 b1 w1 HO1.out.r)
    rw [E2.out] at HC2
    go_wp2_with fail
    refine HC2.out.mono ?_; rintro e w2 ⟨rfl, h2, g2⟩
    dsimp only at h2 ⊢
    have HO2 := Lib.hid (HO1.out.rd hRA.symm hRZ.symm h2 g2)
    clear h2 g2 HC2
    have HC3 := Lib.hid (rhjoint_any B R ys2 b2 w2 HO2.out.r)
    rw [E3.out] at HC3
    go_wp2_with fail
    refine HC3.out.mono ?_; rintro e w3 ⟨rfl, h3, g3⟩
    dsimp only at h3 ⊢
    have HO3 := Lib.hid (HO2.out.rd hRA.symm hRZ.symm h3 g3)
    clear h3 g3 HC3
    go_upto_region 11 with fail
    obtain ⟨V, hV⟩ : ∃ z : World, w3.alloc (.cells #[.int .u16 v3.o.v, .int .u16 v3.o.x, .int .u16 v3.o.l, .int .i64 v3.o.e, .int .i64 v3.o.k, .int .u16 v3.n.v, .int .u16 v3.n.x, .int .u16 v3.n.l, .int .i64 v3.n.e, .int .i64 v3.n.k, .bool v3.two] 42) = z := ⟨_, rfl⟩
    have bV : Below w3.heap.size w3 V := by rw [← hV]; exact (Below.refl _ _).alloc (Nat.le_refl _) _
    have hJ : V.heap[w3.heap.size]? = some (.cells #[.int .u16 v3.o.v, .int .u16 v3.o.x, .int .u16 v3.o.l, .int .i64 v3.o.e, .int .i64 v3.o.k, .int .u16 v3.n.v, .int .u16 v3.n.x, .int .u16 v3.n.l, .int .i64 v3.n.e, .int .i64 v3.n.k, .bool v3.two] 42 (0, 0)) := by rw [← hV]; exact heap_last w3 _
    (try rw [hV])
    have hRJ0 : R < w3.heap.size := HO3.out.r.lt
    have hAJ0 : A < w3.heap.size := block_lt HO3.out.a
    have hZJ0 : Z < w3.heap.size := block_lt HO3.out.z
    obtain ⟨J, eJ⟩ : ∃ z, w3.heap.size = z := ⟨_, rfl⟩
    (try rw [eJ])
    rw [eJ] at hJ hRJ0 hAJ0 hZJ0
    have HOV := Lib.hid (HO3.out.keep bV); have HJ := Lib.hid hJ
    clear hV bV hJ eJ
    have HC4 := Lib.hid (rft_any B R ys3 b3 V HOV.out.r)
    rw [E4.out] at HC4
    go_wp2_with fail
    refine HC4.out.mono ?_; rintro e w4 ⟨rfl, h4, g4⟩
    dsimp only at h4 ⊢
    have HJ4 := Lib.hid (stays_at g4 HJ.out (by omega))
    have HO4 := Lib.hid (HOV.out.rd hRA.symm hRZ.symm h4 g4)
    clear h4 g4 HC4
    have hb0 := HF.out.b0; have hb1 := HF.out.b1
    have hE1 := EnSl.of_own HO4.out.o
    have HLR := Lib.hid (show w4.rangeAt A 8 [.int .i64 x.c.l.b, .int .i64 x.c.l.bt, .int .u16 x.c.l.j.ov, .int .u16 x.c.l.j.ox, .int .u16 x.c.l.j.ol, .int .i64 x.c.l.j.oe, .int .i64 x.c.l.j.ok, .int .u16 x.c.l.j.nv, .int .u16 x.c.l.j.nx, .int .u16 x.c.l.j.nl, .int .i64 x.c.l.j.ne, .int .i64 x.c.l.j.nk, .bool x.c.l.j.two, .slice x.p x.c.l.es.length x.k] from range_of (n := 14) rfl (fun j hj => by rw [HO4.out.cell]; exact coL_logT x j hj))
    obtain ⟨⟨tm, is⟩, ht⟩ : ∃ z, termL x.c.l v1 = z := ⟨_, rfl⟩
    have HC := Lib.hid (rterm_is x.c.l x.p x.k w4 HF.out ⟨by omega, by omega⟩ hE1 (i := v1))
    rw [ht] at HC
    have hSN := snL_ref x.c.l v1 v2 (jnX v3)
    rw [ht] at hSN
    clear hE1 ht
    go_wp2_with (with_reducible refine wpList_load_g (op := ⟨some 50, _, _, _, _, _⟩) (by kernel_rfl) _ _ rfl A 8 rfl [.int .i64 x.c.l.b, .int .i64 x.c.l.bt, .int .u16 x.c.l.j.ov, .int .u16 x.c.l.j.ox, .int .u16 x.c.l.j.ol, .int .i64 x.c.l.j.oe, .int .i64 x.c.l.j.ok, .int .u16 x.c.l.j.nv, .int .u16 x.c.l.j.nx, .int .u16 x.c.l.j.nl, .int .i64 x.c.l.j.ne, .int .i64 x.c.l.j.nk, .bool x.c.l.j.two, .slice x.p x.c.l.es.length x.k] _ HLR.out Try.underlying45 rfl (by kernel_rfl) ?_)
    refine HC.out.mono ?_; rintro e w5 ⟨rfl, hb5⟩
    dsimp only
    have HO5 := Lib.hid (HO4.out.keep hb5); have HJ5 := Lib.hid (below_block hb5 (block_lt HJ4.out) HJ4.out)
    clear hb5 HC HLR HO4 HJ4
    have kJ := block_cells HJ5.out
    go_upto_region 14 with fail
    obtain ⟨w6, hW6⟩ : ∃ z : World, w5.alloc (.cells #[.int .i64 v1, .int .i64 v2, .int .u16 v3.o.v, .int .u16 v3.o.x, .int .u16 v3.o.l, .int .i64 v3.o.e, .int .i64 v3.o.k, .int .u16 v3.n.v, .int .u16 v3.n.x, .int .u16 v3.n.l, .int .i64 v3.n.e, .int .i64 v3.n.k, .bool v3.two, .slice none 0 0] 45) = z := ⟨_, rfl⟩
    have b6 : Below w5.heap.size w5 w6 := by rw [← hW6]; exact (Below.refl _ _).alloc (Nat.le_refl _) _
    have hL6 : w6.heap[w5.heap.size]? = some (.cells #[.int .i64 v1, .int .i64 v2, .int .u16 v3.o.v, .int .u16 v3.o.x, .int .u16 v3.o.l, .int .i64 v3.o.e, .int .i64 v3.o.k, .int .u16 v3.n.v, .int .u16 v3.n.x, .int .u16 v3.n.l, .int .i64 v3.n.e, .int .i64 v3.n.k, .bool v3.two, .slice none 0 0] 45 (0, 0)) := by rw [← hW6]; exact heap_last w5 _
    (try rw [hW6])
    have hRL0 : R < w5.heap.size := HO5.out.r.lt
    have hAL0 : A < w5.heap.size := block_lt HO5.out.a
    have hZL0 : Z < w5.heap.size := block_lt HO5.out.z
    have hBL0 : B ≤ w5.heap.size := HO5.out.lt
    have hNL : w.heap.size ≤ w5.heap.size := HO5.out.g.size
    obtain ⟨L, eL⟩ : ∃ z, w5.heap.size = z := ⟨_, rfl⟩
    (try rw [eL])
    rw [eL] at hL6 hRL0 hAL0 hZL0 hBL0 hNL
    have hLA : A ≠ L := by omega
    have hLZ : Z ≠ L := by omega
    have hRL : R ≠ L := by omega
    have hBL : B ≤ L := hBL0
    have HO6 := Lib.hid (HO5.out.keep b6); have HL6 := Lib.hid hL6
    clear hW6 b6 hL6 eL kJ HO5 HJ5 hRL0 hAL0 hZL0 hRJ0 hAJ0 hZJ0
    have hcs : (is = true ∧ tm = v2) ∨ (is = true ∧ tm ≠ v2) ∨ is = false := by
      cases is
      · exact .inr (.inr rfl)
      · by_cases h : tm = v2
        · exact .inl ⟨rfl, h⟩
        · exact .inr (.inl ⟨rfl, h⟩)
    rcases hcs with ⟨rfl, rfl⟩ | ⟨rfl, hne⟩ | rfl
    · have HSN : Hid (snL x.c.l v1 tm (jnX v3) = ⟨v1, tm, jnX v3, sliceL x.c.l (v1 + 1) x.c.l.es.length⟩) := by show _ = _; rw [hSN, if_pos rfl]
      have hq1 : (tm == tm) = true := by simp
      clear hSN
      have k21 : w6.cell? ⟨A, 21, none⟩ = some (.slice x.p x.c.l.es.length x.k) := (HO6.out.cell 21).trans rfl
      have hE1 := EnSl.of_own HO6.out.o
      have HLR := Lib.hid (show w6.rangeAt A 8 [.int .i64 x.c.l.b, .int .i64 x.c.l.bt, .int .u16 x.c.l.j.ov, .int .u16 x.c.l.j.ox, .int .u16 x.c.l.j.ol, .int .i64 x.c.l.j.oe, .int .i64 x.c.l.j.ok, .int .u16 x.c.l.j.nv, .int .u16 x.c.l.j.nx, .int .u16 x.c.l.j.nl, .int .i64 x.c.l.j.ne, .int .i64 x.c.l.j.nk, .bool x.c.l.j.two, .slice x.p x.c.l.es.length x.k] from range_of (n := 14) rfl (fun j hj => by rw [HO6.out.cell]; exact coL_logT x j hj))
      have HC := Lib.hid (rslice_any x.c.l x.p x.k (v1 + 1) x.c.l.es.length w6 HF.out (by omega) (by have := HF.out.n; omega) hE1)
      have hw1 : wrap64 (v1 + 1) = v1 + 1 := by unfold wrap64; omega
      clear hE1
      go_wp2_with (with_reducible refine wpList_load_g (op := ⟨some 66, _, _, _, _, _⟩) (by kernel_rfl) _ _ rfl A 8 rfl [.int .i64 x.c.l.b, .int .i64 x.c.l.bt, .int .u16 x.c.l.j.ov, .int .u16 x.c.l.j.ox, .int .u16 x.c.l.j.ol, .int .i64 x.c.l.j.oe, .int .i64 x.c.l.j.ok, .int .u16 x.c.l.j.nv, .int .u16 x.c.l.j.nx, .int .u16 x.c.l.j.nl, .int .i64 x.c.l.j.ne, .int .i64 x.c.l.j.nk, .bool x.c.l.j.two, .slice x.p x.c.l.es.length x.k] _ HLR.out Try.underlying45 rfl (by kernel_rfl) ?_)
      refine HC.out.mono ?_; rintro e w7 ⟨v, rfl, ho, hb⟩
      obtain ⟨q, cq, hvv⟩ := own_slice ho
      obtain ⟨mn, hmn⟩ : ∃ m, (sliceL x.c.l (v1 + 1) x.c.l.es.length).length = m := ⟨_, rfl⟩
      rw [hmn] at hvv
      subst hvv
      have HMN := Lib.hid hmn
      have HO7' := Lib.hid (HO6.out.keep hb); have HL7 := Lib.hid (below_block hb (block_lt HL6.out) HL6.out)
      have HOO := Lib.hid (show w7.ownsRow B0 85 14 (.slice q mn cq) (sliceL x.c.l (v1 + 1) x.c.l.es.length).length (entRow (sliceL x.c.l (v1 + 1) x.c.l.es.length)) from ho.mono (Nat.le_trans hB0 HO6.out.lt))
      have kL := block_cells HL7.out
      have fL := block_free HL7.out
      clear ho hb HC HLR k21 hw1 hmn HO6 HL6
      go_upto_region 16 with fail
      obtain ⟨W7, hW7⟩ : ∃ z : World, w7.setCell ⟨L, 13, none⟩ (.slice q mn cq) = z := ⟨_, rfl⟩
      have gL : w7.grownBy W7 (some L) := by rw [← hW7]; exact grown_setW _ _ _ _
      have hL8 : W7.heap[L]? = some (.cells #[.int .i64 v1, .int .i64 tm, .int .u16 v3.o.v, .int .u16 v3.o.x, .int .u16 v3.o.l, .int .i64 v3.o.e, .int .i64 v3.o.k, .int .u16 v3.n.v, .int .u16 v3.n.x, .int .u16 v3.n.l, .int .i64 v3.n.e, .int .i64 v3.n.k, .bool v3.two, .slice q mn cq] 45 (0, 0)) := by rw [← hW7]; exact (cells_setW HL7.out 13 _).trans rfl
      (try rw [hW7])
      have HO7 := Lib.hid (HO7'.out.far gL hLA hLZ hRL hBL hNL (own_other HO7'.out.o HL7.out (by decide)))
      have HOO7 := Lib.hid (HOO.out.kept gL (own_other HOO.out HL7.out (by decide)))
      have HL8 := Lib.hid hL8
      clear kL fL hW7 gL hL8 HO7' HL7 HOO
      have kL := block_cells HL8.out
      have HTA := Lib.hid (there_of_block (o := 8) (n := 14) HO7.out.a (Nat.le_of_ble_eq_true rfl))
      have HP := Lib.hid (HO7.out.puts hBA hRA hZA 8 [.int .i64 v1, .int .i64 tm, .int .u16 v3.o.v, .int .u16 v3.o.x, .int .u16 v3.o.l, .int .i64 v3.o.e, .int .i64 v3.o.k, .int .u16 v3.n.v, .int .u16 v3.n.x, .int .u16 v3.n.l, .int .i64 v3.n.e, .int .i64 v3.n.k, .bool v3.two, .slice q mn cq] (y := ⟨{ x.c with l := ⟨v1, tm, jnX v3, sliceL x.c.l (v1 + 1) x.c.l.es.length⟩ }, q, cq⟩) (by rw [← HMN.out]; rfl) (show CoOwn B0 W7 ⟨{ x.c with l := ⟨v1, tm, jnX v3, sliceL x.c.l (v1 + 1) x.c.l.es.length⟩ }, q, cq⟩ from by unfold CoOwn; rw [HMN.out]; have h := HOO7.out; rw [HMN.out] at h; exact h))
      obtain ⟨W9, hW9⟩ : ∃ z : World, W7.setCells A 8 [.int .i64 v1, .int .i64 tm, .int .u16 v3.o.v, .int .u16 v3.o.x, .int .u16 v3.o.l, .int .i64 v3.o.e, .int .i64 v3.o.k, .int .u16 v3.n.v, .int .u16 v3.n.x, .int .u16 v3.n.l, .int .i64 v3.n.e, .int .i64 v3.n.k, .bool v3.two, .slice q mn cq] = z := ⟨_, rfl⟩
      rw [hW9] at HP
      have k22 : W9.cell? ⟨A, 22, none⟩ = some (.string x.c.sn) := (HP.out.cell 22).trans rfl
      have fA9 := HP.out.free
      have HPP := Lib.hid (HP.out.puts hBA hRA hZA 22 [.string v4] (y := ⟨{ x.c with l := ⟨v1, tm, jnX v3, sliceL x.c.l (v1 + 1) x.c.l.es.length⟩, sn := v4 }, q, cq⟩) rfl (show CoOwn B0 W9 ⟨{ x.c with l := ⟨v1, tm, jnX v3, sliceL x.c.l (v1 + 1) x.c.l.es.length⟩, sn := v4 }, q, cq⟩ from HP.out.o))
      go_wp2_with (with_reducible refine wpList_store_at (op := ⟨none, .store 45 _ _, _, _, _, _⟩) rfl _ _ _ rfl A 8 14 #[.int .i64 v1, .int .i64 tm, .int .u16 v3.o.v, .int .u16 v3.o.x, .int .u16 v3.o.l, .int .i64 v3.o.e, .int .i64 v3.o.k, .int .u16 v3.n.v, .int .u16 v3.n.x, .int .u16 v3.n.l, .int .i64 v3.n.e, .int .i64 v3.n.k, .bool v3.two, .slice q mn cq] (by kernel_rfl) rfl rfl HTA.out (by kernel_rfl) (one_all rfl) ?_)
      go_meet
      case rel => exact ⟨_, HPP.out, fun rc h => by unfold allR at h; split at h <;> cases h; rw [show apRc x.c (.sn v1 tm v3 v4) = { x.c with l := snL x.c.l v1 tm (jnX v3), sn := v4 } from rfl, HSN.out]⟩
    · have HSN : Hid (snL x.c.l v1 v2 (jnX v3) = ⟨v1, v2, jnX v3, []⟩) := by show _ = _; rw [hSN, if_neg (fun h => hne (by simpa using h))]
      have hq1 : (tm == v2) = false := by simpa using hne
      clear hSN hne
      go_upto_region 16 with fail
      obtain ⟨W7, rfl⟩ : ∃ z : World, z = w6 := ⟨_, rfl⟩
      have HO7 := HO6; have HL8 := HL6
      clear HO6 HL6
      have HOO7 : Hid (W7.ownsRow B0 85 14 (.slice none 0 0) ([] : List Ent).length (entRow [])) := ⟨rfl, .inl ⟨rfl, rfl⟩⟩
      have kL := block_cells HL8.out
      have HTA := Lib.hid (there_of_block (o := 8) (n := 14) HO7.out.a (Nat.le_of_ble_eq_true rfl))
      have HP := Lib.hid (HO7.out.puts hBA hRA hZA 8 [.int .i64 v1, .int .i64 v2, .int .u16 v3.o.v, .int .u16 v3.o.x, .int .u16 v3.o.l, .int .i64 v3.o.e, .int .i64 v3.o.k, .int .u16 v3.n.v, .int .u16 v3.n.x, .int .u16 v3.n.l, .int .i64 v3.n.e, .int .i64 v3.n.k, .bool v3.two, .slice none 0 0] (y := ⟨{ x.c with l := ⟨v1, v2, jnX v3, []⟩ }, none, 0⟩) (rfl) (show CoOwn B0 W7 ⟨{ x.c with l := ⟨v1, v2, jnX v3, []⟩ }, none, 0⟩ from HOO7.out))
      obtain ⟨W9, hW9⟩ : ∃ z : World, W7.setCells A 8 [.int .i64 v1, .int .i64 v2, .int .u16 v3.o.v, .int .u16 v3.o.x, .int .u16 v3.o.l, .int .i64 v3.o.e, .int .i64 v3.o.k, .int .u16 v3.n.v, .int .u16 v3.n.x, .int .u16 v3.n.l, .int .i64 v3.n.e, .int .i64 v3.n.k, .bool v3.two, .slice none 0 0] = z := ⟨_, rfl⟩
      rw [hW9] at HP
      have k22 : W9.cell? ⟨A, 22, none⟩ = some (.string x.c.sn) := (HP.out.cell 22).trans rfl
      have fA9 := HP.out.free
      have HPP := Lib.hid (HP.out.puts hBA hRA hZA 22 [.string v4] (y := ⟨{ x.c with l := ⟨v1, v2, jnX v3, []⟩, sn := v4 }, none, 0⟩) rfl (show CoOwn B0 W9 ⟨{ x.c with l := ⟨v1, v2, jnX v3, []⟩, sn := v4 }, none, 0⟩ from HP.out.o))
      go_wp2_with (with_reducible refine wpList_store_at (op := ⟨none, .store 45 _ _, _, _, _, _⟩) rfl _ _ _ rfl A 8 14 #[.int .i64 v1, .int .i64 v2, .int .u16 v3.o.v, .int .u16 v3.o.x, .int .u16 v3.o.l, .int .i64 v3.o.e, .int .i64 v3.o.k, .int .u16 v3.n.v, .int .u16 v3.n.x, .int .u16 v3.n.l, .int .i64 v3.n.e, .int .i64 v3.n.k, .bool v3.two, .slice none 0 0] (by kernel_rfl) rfl rfl HTA.out (by kernel_rfl) (one_all rfl) ?_)
      go_meet
      case rel => exact ⟨_, HPP.out, fun rc h => by unfold allR at h; split at h <;> cases h; rw [show apRc x.c (.sn v1 v2 v3 v4) = { x.c with l := snL x.c.l v1 v2 (jnX v3), sn := v4 } from rfl, HSN.out]⟩
    · have HSN : Hid (snL x.c.l v1 v2 (jnX v3) = ⟨v1, v2, jnX v3, []⟩) := by show _ = _; rw [hSN, if_neg (fun h => by simp at h)]
      clear hSN
      go_upto_region 16 with fail
      obtain ⟨W7, rfl⟩ : ∃ z : World, z = w6 := ⟨_, rfl⟩
      have HO7 := HO6; have HL8 := HL6
      clear HO6 HL6
      have HOO7 : Hid (W7.ownsRow B0 85 14 (.slice none 0 0) ([] : List Ent).length (entRow [])) := ⟨rfl, .inl ⟨rfl, rfl⟩⟩
      have kL := block_cells HL8.out
      have HTA := Lib.hid (there_of_block (o := 8) (n := 14) HO7.out.a (Nat.le_of_ble_eq_true rfl))
      have HP := Lib.hid (HO7.out.puts hBA hRA hZA 8 [.int .i64 v1, .int .i64 v2, .int .u16 v3.o.v, .int .u16 v3.o.x, .int .u16 v3.o.l, .int .i64 v3.o.e, .int .i64 v3.o.k, .int .u16 v3.n.v, .int .u16 v3.n.x, .int .u16 v3.n.l, .int .i64 v3.n.e, .int .i64 v3.n.k, .bool v3.two, .slice none 0 0] (y := ⟨{ x.c with l := ⟨v1, v2, jnX v3, []⟩ }, none, 0⟩) (rfl) (show CoOwn B0 W7 ⟨{ x.c with l := ⟨v1, v2, jnX v3, []⟩ }, none, 0⟩ from HOO7.out))
      obtain ⟨W9, hW9⟩ : ∃ z : World, W7.setCells A 8 [.int .i64 v1, .int .i64 v2, .int .u16 v3.o.v, .int .u16 v3.o.x, .int .u16 v3.o.l, .int .i64 v3.o.e, .int .i64 v3.o.k, .int .u16 v3.n.v, .int .u16 v3.n.x, .int .u16 v3.n.l, .int .i64 v3.n.e, .int .i64 v3.n.k, .bool v3.two, .slice none 0 0] = z := ⟨_, rfl⟩
      rw [hW9] at HP
      have k22 : W9.cell? ⟨A, 22, none⟩ = some (.string x.c.sn) := (HP.out.cell 22).trans rfl
      have fA9 := HP.out.free
      have HPP := Lib.hid (HP.out.puts hBA hRA hZA 22 [.string v4] (y := ⟨{ x.c with l := ⟨v1, v2, jnX v3, []⟩, sn := v4 }, none, 0⟩) rfl (show CoOwn B0 W9 ⟨{ x.c with l := ⟨v1, v2, jnX v3, []⟩, sn := v4 }, none, 0⟩ from HP.out.o))
      go_wp2_with (with_reducible refine wpList_store_at (op := ⟨none, .store 45 _ _, _, _, _, _⟩) rfl _ _ _ rfl A 8 14 #[.int .i64 v1, .int .i64 v2, .int .u16 v3.o.v, .int .u16 v3.o.x, .int .u16 v3.o.l, .int .i64 v3.o.e, .int .i64 v3.o.k, .int .u16 v3.n.v, .int .u16 v3.n.x, .int .u16 v3.n.l, .int .i64 v3.n.e, .int .i64 v3.n.k, .bool v3.two, .slice none 0 0] (by kernel_rfl) rfl rfl HTA.out (by kernel_rfl) (one_all rfl) ?_)
      go_meet
      case rel => exact ⟨_, HPP.out, fun rc h => by unfold allR at h; split at h <;> cases h; rw [show apRc x.c (.sn v1 v2 v3 v4) = { x.c with l := snL x.c.l v1 v2 (jnX v3), sn := v4 } from rfl, HSN.out]⟩
  obtain ⟨wy, rfl⟩ : ∃ z : World, z = wc := ⟨_, rfl⟩
  obtain ⟨y, hoy, hrc⟩ := hcut.out
  have HOY := Lib.hid hoy; have HRC := Lib.hid hrc
  clear hcut hoy hrc
  have hcs : (b4 = true) ∨ (b4 = false ∧ ys4 = []) ∨ (b4 = false ∧ ys4 ≠ []) := by
    cases b4
    · by_cases h : ys4 = []
      · exact .inr (.inl ⟨rfl, h⟩)
      · exact .inr (.inr ⟨rfl, h⟩)
    · exact .inl rfl
  rcases hcs with hb | ⟨hb, hy⟩ | ⟨hb, hy⟩
  · subst hb
    go_upto_region 25 with fail
    obtain ⟨wd, ewd⟩ : ∃ z, wy.drew = z := ⟨_, rfl⟩
    have HOD := Lib.hid (show OnW B0 B A Z R w wd _ _ y from HOY.out.keep (by rw [← ewd]; exact (Below.refl _ _).drew))
    obtain ⟨hBR, rp, rcp, hRq, _⟩ := HOD.out.r.r
    have HZR := Lib.hid (show Z ≠ R from hRZ.symm)
    refine wp_region_held_drew (S := fun w' => w'.heap[A]? = some (.cells y.v.toArray 48 (0, 0)) ∧ ∀ j, w'.cell? ⟨R, j, none⟩ = #[.slice rp ys4.length rcp, .bool true][j]?) (by kernel_rfl) (by rw [ewd]; exact ⟨HOD.out.a, block_cells hRq⟩) (fun hHeld => ?_)
    rw [ewd] at hHeld ⊢
    clear ewd
    refine wpAnyH_take (i := 0) (v := .agg y.v.toArray) rfl (by kernel_rfl) (by kernel_rfl) (by kernel_rfl) (fun _ _ _ h => h) (yieldsIf_load_mid (by rfl) _ _ rfl A 0 rfl y.v _ (fun w' h => range_of (n := 45) rfl (fun j _ => by rw [Nat.zero_add, block_cells h.1, List.getElem?_toArray])) Try.underlying48 rfl (by kernel_rfl)) hHeld ?_
    try simp only [List.getElem_toArray, List.getElem_cons_zero, Act.put, List.setIfInBounds_toArray, List.set_cons_zero, List.set_cons_succ]
    refine wpAnyH_take (i := 1) (v := ?_) rfl (by kernel_rfl) (by kernel_rfl) (by kernel_rfl) (fun _ _ _ h => h) (Or.inl ⟨by rfl, ?_⟩) hHeld ?_
    rotate_left
    · (intro wz hSw; (try dsimp only at hSw); (try simp only [List.getElem_toArray, List.getElem_cons_succ, List.getElem_cons_zero]); go_simp; try with_reducible rfl)
    try simp only [List.getElem_toArray, List.getElem_cons_succ, List.getElem_cons_zero, Act.put, List.setIfInBounds_toArray, List.set_cons_zero, List.set_cons_succ]
    refine wpAnyH_take (i := 2) (v := ?_) rfl (by kernel_rfl) (by kernel_rfl) (by kernel_rfl) (fun _ _ _ h => h) (Or.inl ⟨by rfl, ?_⟩) hHeld ?_
    rotate_left
    · (intro wz hSw; (try dsimp only at hSw); (try simp only [List.getElem_toArray, List.getElem_cons_succ, List.getElem_cons_zero]); go_simp; try with_reducible rfl)
    try simp only [List.getElem_toArray, List.getElem_cons_succ, List.getElem_cons_zero, Act.put, List.setIfInBounds_toArray, List.set_cons_zero, List.set_cons_succ]
    refine wpAnyH_take (i := 3) (v := ?_) rfl (by kernel_rfl) (by kernel_rfl) (by kernel_rfl) (fun _ _ _ h => h) (Or.inl ⟨by rfl, ?_⟩) hHeld ?_
    rotate_left
    · (intro wz hSw; (try dsimp only at hSw); (try simp only [List.getElem_toArray, List.getElem_cons_succ, List.getElem_cons_zero]); go_simp; try with_reducible rfl)
    try simp only [List.getElem_toArray, List.getElem_cons_succ, List.getElem_cons_zero, Act.put, List.setIfInBounds_toArray, List.set_cons_zero, List.set_cons_succ]
    refine wpAnyH_take (i := 4) (v := ?_) rfl (by kernel_rfl) (by kernel_rfl) (by kernel_rfl) (fun _ _ _ h => h) (Or.inl ⟨by rfl, ?_⟩) hHeld ?_
    rotate_left
    · (intro wz hSw; (try dsimp only at hSw); (try simp only [List.getElem_toArray, List.getElem_cons_succ, List.getElem_cons_zero]); go_simp; try with_reducible rfl)
    try simp only [List.getElem_toArray, List.getElem_cons_succ, List.getElem_cons_zero, Act.put, List.setIfInBounds_toArray, List.set_cons_zero, List.set_cons_succ]
    refine wpAnyH_take (i := 5) (v := ?_) rfl (by kernel_rfl) (by kernel_rfl) (by kernel_rfl) (fun _ _ _ h => h) (Or.inl ⟨by rfl, ?_⟩) hHeld ?_
    rotate_left
    · (intro wz hSw; (try dsimp only at hSw); (try simp only [List.getElem_toArray, List.getElem_cons_succ, List.getElem_cons_zero]); go_simp; try with_reducible rfl)
    try simp only [List.getElem_toArray, List.getElem_cons_succ, List.getElem_cons_zero, Act.put, List.setIfInBounds_toArray, List.set_cons_zero, List.set_cons_succ]
    refine wpAnyH_take (i := 6) (v := ?_) rfl (by kernel_rfl) (by kernel_rfl) (by kernel_rfl) (fun _ _ _ h => h) (Or.inl ⟨by rfl, ?_⟩) hHeld ?_
    rotate_left
    · (intro wz hSw; (try dsimp only at hSw); (try simp only [List.getElem_toArray, List.getElem_cons_succ, List.getElem_cons_zero]); go_simp; try with_reducible rfl)
    try simp only [List.getElem_toArray, List.getElem_cons_succ, List.getElem_cons_zero, Act.put, List.setIfInBounds_toArray, List.set_cons_zero, List.set_cons_succ]
    refine wpAnyH_take (i := 7) (v := undef) rfl (by kernel_rfl) (by kernel_rfl) (by kernel_rfl) (fun _ _ _ h => h) (Or.inr ⟨by rfl, rfl⟩) hHeld ?_
    try simp only [List.getElem_toArray, List.getElem_cons_succ, List.getElem_cons_zero, Act.put, List.setIfInBounds_toArray, List.set_cons_zero, List.set_cons_succ]
    refine wpAnyH_take (i := 8) (v := undef) rfl (by kernel_rfl) (by kernel_rfl) (by kernel_rfl) (fun _ _ _ h => h) (Or.inr ⟨by rfl, rfl⟩) hHeld ?_
    try simp only [List.getElem_toArray, List.getElem_cons_succ, List.getElem_cons_zero, Act.put, List.setIfInBounds_toArray, List.set_cons_zero, List.set_cons_succ]
    refine wpAnyH_take (i := 9) (v := undef) rfl (by kernel_rfl) (by kernel_rfl) (by kernel_rfl) (fun _ _ _ h => h) (Or.inr ⟨by rfl, rfl⟩) hHeld ?_
    try simp only [List.getElem_toArray, List.getElem_cons_succ, List.getElem_cons_zero, Act.put, List.setIfInBounds_toArray, List.set_cons_zero, List.set_cons_succ]
    refine wpAnyH_take (i := 10) (v := undef) rfl (by kernel_rfl) (by kernel_rfl) (by kernel_rfl) (fun _ _ _ h => h) (Or.inr ⟨by rfl, rfl⟩) hHeld ?_
    try simp only [List.getElem_toArray, List.getElem_cons_succ, List.getElem_cons_zero, Act.put, List.setIfInBounds_toArray, List.set_cons_zero, List.set_cons_succ]
    refine wpAnyH_take (i := 11) (v := undef) rfl (by kernel_rfl) (by kernel_rfl) (by kernel_rfl) (fun _ _ _ h => h) (Or.inr ⟨by rfl, rfl⟩) hHeld ?_
    try simp only [List.getElem_toArray, List.getElem_cons_succ, List.getElem_cons_zero, Act.put, List.setIfInBounds_toArray, List.set_cons_zero, List.set_cons_succ]
    refine wpAnyH_take (i := 12) (v := undef) rfl (by kernel_rfl) (by kernel_rfl) (by kernel_rfl) (fun _ _ _ h => h) (Or.inr ⟨by rfl, rfl⟩) hHeld ?_
    try simp only [List.getElem_toArray, List.getElem_cons_succ, List.getElem_cons_zero, Act.put, List.setIfInBounds_toArray, List.set_cons_zero, List.set_cons_succ]
    refine wpAnyH_take (i := 13) (v := ?_) rfl (by kernel_rfl) (by kernel_rfl) (by kernel_rfl) (fun _ _ _ h => h) (Or.inl ⟨by rfl, ?_⟩) hHeld ?_
    rotate_left
    · (intro wz hSw; (try dsimp only at hSw); (try simp only [List.getElem_toArray, List.getElem_cons_succ, List.getElem_cons_zero]); go_simp; try with_reducible rfl)
    try simp only [List.getElem_toArray, List.getElem_cons_succ, List.getElem_cons_zero, Act.put, List.setIfInBounds_toArray, List.set_cons_zero, List.set_cons_succ]
    refine wpAnyH_ready (rs := [14]) (by kernel_rfl) (by simp) ?_; refine AllReadyH.cons rfl (fun K hK => ?_) AllReadyH.nil
    rw [if_pos (by rfl)]
    refine wp_store_mid 48 _ _ (by rfl) Z 0 y.v.toArray (by rfl) (by rfl) (there_of_block (o := 0) (n := 45) HOD.out.z (Nat.le_of_ble_eq_true rfl)) (by kernel_rfl) (one_all rfl) ?_
    have hs := block_setCells y.v 0 HOD.out.z
    obtain ⟨we, hwe⟩ : ∃ z : World, wd.setCells Z 0 y.v = z := ⟨_, rfl⟩
    rw [hwe] at hs
    rw [show (wd.setCells Z 0 y.v.toArray.toList) = we from hwe]
    have hAe := stays_at hs.2 HOD.out.a hZA.symm
    have hRe := stays_at hs.2 hRq hRZ
    refine hK.out _ _ ⟨hAe, block_cells hRe⟩ (fun _ => ?_)
    clear hK K hHeld
    try simp only [List.getElem_toArray, List.getElem_cons_succ, List.getElem_cons_zero, Act.put]
    have hHeld : we.heap[A]? = some (.cells y.v.toArray 48 (0, 0)) ∧ ∀ j, we.cell? ⟨R, j, none⟩ = #[.slice rp ys4.length rcp, .bool true][j]? := ⟨hAe, block_cells hRe⟩
    refine wpAnyH_take (i := 15) (v := ?_) rfl (by kernel_rfl) (by kernel_rfl) (by kernel_rfl) (fun _ _ _ h => h) (Or.inl ⟨by rfl, ?_⟩) hHeld ?_
    rotate_left
    · (intro wz hSw; (try dsimp only at hSw); (try simp only [List.getElem_toArray, List.getElem_cons_succ, List.getElem_cons_zero]); go_simp; try with_reducible rfl)
    try simp only [List.getElem_toArray, List.getElem_cons_succ, List.getElem_cons_zero, Act.put, List.setIfInBounds_toArray, List.set_cons_zero, List.set_cons_succ]
    refine wpAnyH_done (by kernel_rfl) ?_ _
    have hZe : we.heap[Z]? = some (.cells y.v.toArray 48 (0, 0)) := by rw [← hwe]; exact block_all HOD.out.z rfl
    have HZe := Lib.hid hZe
    have HBe := Lib.hid (And.intro (HOD.out.bl.grown hs.2 HOD.out.lt (fun k e => by cases e; omega)) (grown_new HOD.out.g hs.2 (fun k e => by cases e; exact HOD.out.nZ)))
    have HOe := Lib.hid (HOD.out.o.kept hs.2 (own_other HOD.out.o HOD.out.z (by decide)))
    clear hHeld hs hwe hAe hRe hRq hZe
    go_wp2_with fail
    refine bodyPost_ret (v := .tuple #[.agg y.v.toArray, .bool false]) ?_ rfl ?_
    · rw [results_cell_tmp rfl]
      simp [asAddr, run_loadVar_row we Z _ _ _ _ _ HZe.out Try.underlying48 rfl (by kernel_rfl), Result.andThen]
    · refine ⟨y, ?_, HBe.out, ?_⟩
      · rw [HS.out]; simp [allR]
      · intro rc h; rw [HS.out] at h; exact ⟨HRC.out rc h, HOe.out⟩
  · subst hb
    have hy0 := hy
    have hl0 : ys4.length = 0 := by rw [hy]; rfl
    have hl1 : ((ys4.length : Int) == 0) = true := by rw [hl0]; rfl
    clear hy0 hy
    have hy := List.eq_nil_of_length_eq_zero hl0
    have HY := Lib.hid hy
    clear hy hl0
    go_upto_region 25 with fail
    obtain ⟨wd, ewd⟩ : ∃ z, wy.drew = z := ⟨_, rfl⟩
    have HOD := Lib.hid (show OnW B0 B A Z R w wd _ _ y from HOY.out.keep (by rw [← ewd]; exact (Below.refl _ _).drew))
    obtain ⟨hBR, rp, rcp, hRq, _⟩ := HOD.out.r.r
    have HZR := Lib.hid (show Z ≠ R from hRZ.symm)
    refine wp_region_held_drew (S := fun w' => w'.heap[A]? = some (.cells y.v.toArray 48 (0, 0)) ∧ ∀ j, w'.cell? ⟨R, j, none⟩ = #[.slice rp ys4.length rcp, .bool false][j]?) (by kernel_rfl) (by rw [ewd]; exact ⟨HOD.out.a, block_cells hRq⟩) (fun hHeld => ?_)
    rw [ewd] at hHeld ⊢
    clear ewd
    refine wpAnyH_take (i := 0) (v := .agg y.v.toArray) rfl (by kernel_rfl) (by kernel_rfl) (by kernel_rfl) (fun _ _ _ h => h) (yieldsIf_load_mid (by rfl) _ _ rfl A 0 rfl y.v _ (fun w' h => range_of (n := 45) rfl (fun j _ => by rw [Nat.zero_add, block_cells h.1, List.getElem?_toArray])) Try.underlying48 rfl (by kernel_rfl)) hHeld ?_
    try simp only [List.getElem_toArray, List.getElem_cons_zero, Act.put, List.setIfInBounds_toArray, List.set_cons_zero, List.set_cons_succ]
    refine wpAnyH_take (i := 1) (v := ?_) rfl (by kernel_rfl) (by kernel_rfl) (by kernel_rfl) (fun _ _ _ h => h) (Or.inl ⟨by rfl, ?_⟩) hHeld ?_
    rotate_left
    · (intro wz hSw; (try dsimp only at hSw); (try simp only [List.getElem_toArray, List.getElem_cons_succ, List.getElem_cons_zero]); go_simp; try with_reducible rfl)
    try simp only [List.getElem_toArray, List.getElem_cons_succ, List.getElem_cons_zero, Act.put, List.setIfInBounds_toArray, List.set_cons_zero, List.set_cons_succ]
    refine wpAnyH_take (i := 2) (v := ?_) rfl (by kernel_rfl) (by kernel_rfl) (by kernel_rfl) (fun _ _ _ h => h) (Or.inl ⟨by rfl, ?_⟩) hHeld ?_
    rotate_left
    · (intro wz hSw; (try dsimp only at hSw); (try simp only [List.getElem_toArray, List.getElem_cons_succ, List.getElem_cons_zero]); go_simp; try with_reducible rfl)
    try simp only [List.getElem_toArray, List.getElem_cons_succ, List.getElem_cons_zero, Act.put, List.setIfInBounds_toArray, List.set_cons_zero, List.set_cons_succ]
    refine wpAnyH_take (i := 3) (v := ?_) rfl (by kernel_rfl) (by kernel_rfl) (by kernel_rfl) (fun _ _ _ h => h) (Or.inl ⟨by rfl, ?_⟩) hHeld ?_
    rotate_left
    · (intro wz hSw; (try dsimp only at hSw); (try simp only [List.getElem_toArray, List.getElem_cons_succ, List.getElem_cons_zero]); go_simp; try with_reducible rfl)
    try simp only [List.getElem_toArray, List.getElem_cons_succ, List.getElem_cons_zero, Act.put, List.setIfInBounds_toArray, List.set_cons_zero, List.set_cons_succ]
    refine wpAnyH_take (i := 4) (v := ?_) rfl (by kernel_rfl) (by kernel_rfl) (by kernel_rfl) (fun _ _ _ h => h) (Or.inl ⟨by rfl, ?_⟩) hHeld ?_
    rotate_left
    · (intro wz hSw; (try dsimp only at hSw); (try simp only [List.getElem_toArray, List.getElem_cons_succ, List.getElem_cons_zero]); go_simp; try with_reducible rfl)
    try simp only [List.getElem_toArray, List.getElem_cons_succ, List.getElem_cons_zero, Act.put, List.setIfInBounds_toArray, List.set_cons_zero, List.set_cons_succ]
    refine wpAnyH_take (i := 5) (v := ?_) rfl (by kernel_rfl) (by kernel_rfl) (by kernel_rfl) (fun _ _ _ h => h) (Or.inl ⟨by rfl, ?_⟩) hHeld ?_
    rotate_left
    · (intro wz hSw; (try dsimp only at hSw); (try simp only [List.getElem_toArray, List.getElem_cons_succ, List.getElem_cons_zero]); go_simp; try with_reducible rfl)
    try simp only [List.getElem_toArray, List.getElem_cons_succ, List.getElem_cons_zero, Act.put, List.setIfInBounds_toArray, List.set_cons_zero, List.set_cons_succ]
    refine wpAnyH_take (i := 6) (v := ?_) rfl (by kernel_rfl) (by kernel_rfl) (by kernel_rfl) (fun _ _ _ h => h) (Or.inl ⟨by rfl, ?_⟩) hHeld ?_
    rotate_left
    · (intro wz hSw; (try dsimp only at hSw); (try simp only [List.getElem_toArray, List.getElem_cons_succ, List.getElem_cons_zero]); go_simp; try with_reducible rfl)
    try simp only [List.getElem_toArray, List.getElem_cons_succ, List.getElem_cons_zero, Act.put, List.setIfInBounds_toArray, List.set_cons_zero, List.set_cons_succ]
    refine wpAnyH_take (i := 7) (v := ?_) rfl (by kernel_rfl) (by kernel_rfl) (by kernel_rfl) (fun _ _ _ h => h) (Or.inl ⟨by rfl, ?_⟩) hHeld ?_
    rotate_left
    · (intro wz hSw; (try dsimp only at hSw); (try simp only [List.getElem_toArray, List.getElem_cons_succ, List.getElem_cons_zero]); go_simp; try with_reducible rfl)
    try simp only [List.getElem_toArray, List.getElem_cons_succ, List.getElem_cons_zero, Act.put, List.setIfInBounds_toArray, List.set_cons_zero, List.set_cons_succ]
    refine wpAnyH_take (i := 8) (v := ?_) rfl (by kernel_rfl) (by kernel_rfl) (by kernel_rfl) (fun _ _ _ h => h) (Or.inl ⟨by rfl, ?_⟩) hHeld ?_
    rotate_left
    · (intro wz hSw; (try dsimp only at hSw); (try simp only [List.getElem_toArray, List.getElem_cons_succ, List.getElem_cons_zero]); go_simp; try with_reducible rfl)
    try simp only [List.getElem_toArray, List.getElem_cons_succ, List.getElem_cons_zero, Act.put, List.setIfInBounds_toArray, List.set_cons_zero, List.set_cons_succ]
    refine wpAnyH_take (i := 9) (v := ?_) rfl (by kernel_rfl) (by kernel_rfl) (by kernel_rfl) (fun _ _ _ h => h) (Or.inl ⟨by rfl, ?_⟩) hHeld ?_
    rotate_left
    · (intro wz hSw; (try dsimp only at hSw); (try simp only [List.getElem_toArray, List.getElem_cons_succ, List.getElem_cons_zero]); go_simp; try with_reducible rfl)
    try simp only [List.getElem_toArray, List.getElem_cons_succ, List.getElem_cons_zero, Act.put, List.setIfInBounds_toArray, List.set_cons_zero, List.set_cons_succ]
    refine wpAnyH_take (i := 10) (v := ?_) rfl (by kernel_rfl) (by kernel_rfl) (by kernel_rfl) (fun _ _ _ h => h) (Or.inl ⟨by rfl, ?_⟩) hHeld ?_
    rotate_left
    · (intro wz hSw; (try dsimp only at hSw); (try simp only [List.getElem_toArray, List.getElem_cons_succ, List.getElem_cons_zero]); go_simp; try with_reducible rfl)
    try simp only [List.getElem_toArray, List.getElem_cons_succ, List.getElem_cons_zero, Act.put, List.setIfInBounds_toArray, List.set_cons_zero, List.set_cons_succ]
    refine wpAnyH_take (i := 11) (v := ?_) rfl (by kernel_rfl) (by kernel_rfl) (by kernel_rfl) (fun _ _ _ h => h) (Or.inl ⟨by rfl, ?_⟩) hHeld ?_
    rotate_left
    · (intro wz hSw; (try dsimp only at hSw); (try simp only [List.getElem_toArray, List.getElem_cons_succ, List.getElem_cons_zero]); go_simp; try with_reducible rfl)
    try simp only [List.getElem_toArray, List.getElem_cons_succ, List.getElem_cons_zero, Act.put, List.setIfInBounds_toArray, List.set_cons_zero, List.set_cons_succ]
    refine wpAnyH_take (i := 12) (v := ?_) rfl (by kernel_rfl) (by kernel_rfl) (by kernel_rfl) (fun _ _ _ h => h) (Or.inl ⟨by rfl, ?_⟩) hHeld ?_
    rotate_left
    · (intro wz hSw; (try dsimp only at hSw); (try simp only [List.getElem_toArray, List.getElem_cons_succ, List.getElem_cons_zero]); go_simp; try with_reducible rfl)
    try simp only [List.getElem_toArray, List.getElem_cons_succ, List.getElem_cons_zero, Act.put, List.setIfInBounds_toArray, List.set_cons_zero, List.set_cons_succ]
    refine wpAnyH_take (i := 13) (v := ?_) rfl (by kernel_rfl) (by kernel_rfl) (by kernel_rfl) (fun _ _ _ h => h) (Or.inl ⟨by rfl, ?_⟩) hHeld ?_
    rotate_left
    · (intro wz hSw; (try dsimp only at hSw); (try simp only [List.getElem_toArray, List.getElem_cons_succ, List.getElem_cons_zero]); go_simp; try with_reducible rfl)
    try simp only [List.getElem_toArray, List.getElem_cons_succ, List.getElem_cons_zero, Act.put, List.setIfInBounds_toArray, List.set_cons_zero, List.set_cons_succ]
    refine wpAnyH_ready (rs := [14]) (by kernel_rfl) (by simp) ?_; refine AllReadyH.cons rfl (fun K hK => ?_) AllReadyH.nil
    rw [if_pos (by rfl)]
    refine wp_store_mid 48 _ _ (by rfl) Z 0 y.v.toArray (by rfl) (by rfl) (there_of_block (o := 0) (n := 45) HOD.out.z (Nat.le_of_ble_eq_true rfl)) (by kernel_rfl) (one_all rfl) ?_
    have hs := block_setCells y.v 0 HOD.out.z
    obtain ⟨we, hwe⟩ : ∃ z : World, wd.setCells Z 0 y.v = z := ⟨_, rfl⟩
    rw [hwe] at hs
    rw [show (wd.setCells Z 0 y.v.toArray.toList) = we from hwe]
    have hAe := stays_at hs.2 HOD.out.a hZA.symm
    have hRe := stays_at hs.2 hRq hRZ
    refine hK.out _ _ ⟨hAe, block_cells hRe⟩ (fun _ => ?_)
    clear hK K hHeld
    try simp only [List.getElem_toArray, List.getElem_cons_succ, List.getElem_cons_zero, Act.put]
    have hHeld : we.heap[A]? = some (.cells y.v.toArray 48 (0, 0)) ∧ ∀ j, we.cell? ⟨R, j, none⟩ = #[.slice rp ys4.length rcp, .bool false][j]? := ⟨hAe, block_cells hRe⟩
    refine wpAnyH_take (i := 15) (v := ?_) rfl (by kernel_rfl) (by kernel_rfl) (by kernel_rfl) (fun _ _ _ h => h) (Or.inl ⟨by rfl, ?_⟩) hHeld ?_
    rotate_left
    · (intro wz hSw; (try dsimp only at hSw); (try simp only [List.getElem_toArray, List.getElem_cons_succ, List.getElem_cons_zero]); go_simp; try with_reducible rfl)
    try simp only [List.getElem_toArray, List.getElem_cons_succ, List.getElem_cons_zero, Act.put, List.setIfInBounds_toArray, List.set_cons_zero, List.set_cons_succ]
    refine wpAnyH_done (by kernel_rfl) ?_ _
    have hZe : we.heap[Z]? = some (.cells y.v.toArray 48 (0, 0)) := by rw [← hwe]; exact block_all HOD.out.z rfl
    have HZe := Lib.hid hZe
    have HBe := Lib.hid (And.intro (HOD.out.bl.grown hs.2 HOD.out.lt (fun k e => by cases e; omega)) (grown_new HOD.out.g hs.2 (fun k e => by cases e; exact HOD.out.nZ)))
    have HOe := Lib.hid (HOD.out.o.kept hs.2 (own_other HOD.out.o HOD.out.z (by decide)))
    clear hHeld hs hwe hAe hRe hRq hZe
    go_wp2_with fail
    refine bodyPost_ret (v := .tuple #[.agg y.v.toArray, .bool true]) ?_ rfl ?_
    · rw [results_cell_tmp rfl]
      simp [asAddr, run_loadVar_row we Z _ _ _ _ _ HZe.out Try.underlying48 rfl (by kernel_rfl), Result.andThen]
    · refine ⟨y, ?_, HBe.out, ?_⟩
      · rw [HS.out]; rw [HY.out]; rfl
      · intro rc h; rw [HS.out] at h; exact ⟨HRC.out rc h, HOe.out⟩
  · subst hb
    have hl0 : 0 < ys4.length := List.length_pos_iff.2 hy
    have hl1 : ((ys4.length : Int) == 0) = false := by simp; exact hy
    have HY := Lib.hid hy
    clear hy
    go_upto_region 25 with fail
    obtain ⟨wd, ewd⟩ : ∃ z, wy.drew = z := ⟨_, rfl⟩
    have HOD := Lib.hid (show OnW B0 B A Z R w wd _ _ y from HOY.out.keep (by rw [← ewd]; exact (Below.refl _ _).drew))
    obtain ⟨hBR, rp, rcp, hRq, _⟩ := HOD.out.r.r
    have HZR := Lib.hid (show Z ≠ R from hRZ.symm)
    refine wp_region_held_drew (S := fun w' => w'.heap[A]? = some (.cells y.v.toArray 48 (0, 0)) ∧ ∀ j, w'.cell? ⟨R, j, none⟩ = #[.slice rp ys4.length rcp, .bool false][j]?) (by kernel_rfl) (by rw [ewd]; exact ⟨HOD.out.a, block_cells hRq⟩) (fun hHeld => ?_)
    rw [ewd] at hHeld ⊢
    clear ewd
    refine wpAnyH_take (i := 0) (v := .agg y.v.toArray) rfl (by kernel_rfl) (by kernel_rfl) (by kernel_rfl) (fun _ _ _ h => h) (yieldsIf_load_mid (by rfl) _ _ rfl A 0 rfl y.v _ (fun w' h => range_of (n := 45) rfl (fun j _ => by rw [Nat.zero_add, block_cells h.1, List.getElem?_toArray])) Try.underlying48 rfl (by kernel_rfl)) hHeld ?_
    try simp only [List.getElem_toArray, List.getElem_cons_zero, Act.put, List.setIfInBounds_toArray, List.set_cons_zero, List.set_cons_succ]
    refine wpAnyH_take (i := 1) (v := ?_) rfl (by kernel_rfl) (by kernel_rfl) (by kernel_rfl) (fun _ _ _ h => h) (Or.inl ⟨by rfl, ?_⟩) hHeld ?_
    rotate_left
    · (intro wz hSw; (try dsimp only at hSw); (try simp only [List.getElem_toArray, List.getElem_cons_succ, List.getElem_cons_zero]); go_simp; try with_reducible rfl)
    try simp only [List.getElem_toArray, List.getElem_cons_succ, List.getElem_cons_zero, Act.put, List.setIfInBounds_toArray, List.set_cons_zero, List.set_cons_succ]
    refine wpAnyH_take (i := 2) (v := ?_) rfl (by kernel_rfl) (by kernel_rfl) (by kernel_rfl) (fun _ _ _ h => h) (Or.inl ⟨by rfl, ?_⟩) hHeld ?_
    rotate_left
    · (intro wz hSw; (try dsimp only at hSw); (try simp only [List.getElem_toArray, List.getElem_cons_succ, List.getElem_cons_zero]); go_simp; try with_reducible rfl)
    try simp only [List.getElem_toArray, List.getElem_cons_succ, List.getElem_cons_zero, Act.put, List.setIfInBounds_toArray, List.set_cons_zero, List.set_cons_succ]
    refine wpAnyH_take (i := 3) (v := ?_) rfl (by kernel_rfl) (by kernel_rfl) (by kernel_rfl) (fun _ _ _ h => h) (Or.inl ⟨by rfl, ?_⟩) hHeld ?_
    rotate_left
    · (intro wz hSw; (try dsimp only at hSw); (try simp only [List.getElem_toArray, List.getElem_cons_succ, List.getElem_cons_zero]); go_simp; try with_reducible rfl)
    try simp only [List.getElem_toArray, List.getElem_cons_succ, List.getElem_cons_zero, Act.put, List.setIfInBounds_toArray, List.set_cons_zero, List.set_cons_succ]
    refine wpAnyH_take (i := 4) (v := ?_) rfl (by kernel_rfl) (by kernel_rfl) (by kernel_rfl) (fun _ _ _ h => h) (Or.inl ⟨by rfl, ?_⟩) hHeld ?_
    rotate_left
    · (intro wz hSw; (try dsimp only at hSw); (try simp only [List.getElem_toArray, List.getElem_cons_succ, List.getElem_cons_zero]); go_simp; try with_reducible rfl)
    try simp only [List.getElem_toArray, List.getElem_cons_succ, List.getElem_cons_zero, Act.put, List.setIfInBounds_toArray, List.set_cons_zero, List.set_cons_succ]
    refine wpAnyH_take (i := 5) (v := ?_) rfl (by kernel_rfl) (by kernel_rfl) (by kernel_rfl) (fun _ _ _ h => h) (Or.inl ⟨by rfl, ?_⟩) hHeld ?_
    rotate_left
    · (intro wz hSw; (try dsimp only at hSw); (try simp only [List.getElem_toArray, List.getElem_cons_succ, List.getElem_cons_zero]); go_simp; try with_reducible rfl)
    try simp only [List.getElem_toArray, List.getElem_cons_succ, List.getElem_cons_zero, Act.put, List.setIfInBounds_toArray, List.set_cons_zero, List.set_cons_succ]
    refine wpAnyH_take (i := 6) (v := ?_) rfl (by kernel_rfl) (by kernel_rfl) (by kernel_rfl) (fun _ _ _ h => h) (Or.inl ⟨by rfl, ?_⟩) hHeld ?_
    rotate_left
    · (intro wz hSw; (try dsimp only at hSw); (try simp only [List.getElem_toArray, List.getElem_cons_succ, List.getElem_cons_zero]); go_simp; try with_reducible rfl)
    try simp only [List.getElem_toArray, List.getElem_cons_succ, List.getElem_cons_zero, Act.put, List.setIfInBounds_toArray, List.set_cons_zero, List.set_cons_succ]
    refine wpAnyH_take (i := 7) (v := ?_) rfl (by kernel_rfl) (by kernel_rfl) (by kernel_rfl) (fun _ _ _ h => h) (Or.inl ⟨by rfl, ?_⟩) hHeld ?_
    rotate_left
    · (intro wz hSw; (try dsimp only at hSw); (try simp only [List.getElem_toArray, List.getElem_cons_succ, List.getElem_cons_zero]); go_simp; try with_reducible rfl)
    try simp only [List.getElem_toArray, List.getElem_cons_succ, List.getElem_cons_zero, Act.put, List.setIfInBounds_toArray, List.set_cons_zero, List.set_cons_succ]
    refine wpAnyH_take (i := 8) (v := ?_) rfl (by kernel_rfl) (by kernel_rfl) (by kernel_rfl) (fun _ _ _ h => h) (Or.inl ⟨by rfl, ?_⟩) hHeld ?_
    rotate_left
    · (intro wz hSw; (try dsimp only at hSw); (try simp only [List.getElem_toArray, List.getElem_cons_succ, List.getElem_cons_zero]); go_simp; try with_reducible rfl)
    try simp only [List.getElem_toArray, List.getElem_cons_succ, List.getElem_cons_zero, Act.put, List.setIfInBounds_toArray, List.set_cons_zero, List.set_cons_succ]
    refine wpAnyH_take (i := 9) (v := ?_) rfl (by kernel_rfl) (by kernel_rfl) (by kernel_rfl) (fun _ _ _ h => h) (Or.inl ⟨by rfl, ?_⟩) hHeld ?_
    rotate_left
    · (intro wz hSw; (try dsimp only at hSw); (try simp only [List.getElem_toArray, List.getElem_cons_succ, List.getElem_cons_zero]); go_simp; try with_reducible rfl)
    try simp only [List.getElem_toArray, List.getElem_cons_succ, List.getElem_cons_zero, Act.put, List.setIfInBounds_toArray, List.set_cons_zero, List.set_cons_succ]
    refine wpAnyH_take (i := 10) (v := ?_) rfl (by kernel_rfl) (by kernel_rfl) (by kernel_rfl) (fun _ _ _ h => h) (Or.inl ⟨by rfl, ?_⟩) hHeld ?_
    rotate_left
    · (intro wz hSw; (try dsimp only at hSw); (try simp only [List.getElem_toArray, List.getElem_cons_succ, List.getElem_cons_zero]); go_simp; try with_reducible rfl)
    try simp only [List.getElem_toArray, List.getElem_cons_succ, List.getElem_cons_zero, Act.put, List.setIfInBounds_toArray, List.set_cons_zero, List.set_cons_succ]
    refine wpAnyH_take (i := 11) (v := ?_) rfl (by kernel_rfl) (by kernel_rfl) (by kernel_rfl) (fun _ _ _ h => h) (Or.inl ⟨by rfl, ?_⟩) hHeld ?_
    rotate_left
    · (intro wz hSw; (try dsimp only at hSw); (try simp only [List.getElem_toArray, List.getElem_cons_succ, List.getElem_cons_zero]); go_simp; try with_reducible rfl)
    try simp only [List.getElem_toArray, List.getElem_cons_succ, List.getElem_cons_zero, Act.put, List.setIfInBounds_toArray, List.set_cons_zero, List.set_cons_succ]
    refine wpAnyH_take (i := 12) (v := ?_) rfl (by kernel_rfl) (by kernel_rfl) (by kernel_rfl) (fun _ _ _ h => h) (Or.inl ⟨by rfl, ?_⟩) hHeld ?_
    rotate_left
    · (intro wz hSw; (try dsimp only at hSw); (try simp only [List.getElem_toArray, List.getElem_cons_succ, List.getElem_cons_zero]); go_simp; try with_reducible rfl)
    try simp only [List.getElem_toArray, List.getElem_cons_succ, List.getElem_cons_zero, Act.put, List.setIfInBounds_toArray, List.set_cons_zero, List.set_cons_succ]
    refine wpAnyH_take (i := 13) (v := ?_) rfl (by kernel_rfl) (by kernel_rfl) (by kernel_rfl) (fun _ _ _ h => h) (Or.inl ⟨by rfl, ?_⟩) hHeld ?_
    rotate_left
    · (intro wz hSw; (try dsimp only at hSw); (try simp only [List.getElem_toArray, List.getElem_cons_succ, List.getElem_cons_zero]); go_simp; try with_reducible rfl)
    try simp only [List.getElem_toArray, List.getElem_cons_succ, List.getElem_cons_zero, Act.put, List.setIfInBounds_toArray, List.set_cons_zero, List.set_cons_succ]
    refine wpAnyH_ready (rs := [14]) (by kernel_rfl) (by simp) ?_; refine AllReadyH.cons rfl (fun K hK => ?_) AllReadyH.nil
    rw [if_pos (by rfl)]
    refine wp_store_mid 48 _ _ (by rfl) Z 0 y.v.toArray (by rfl) (by rfl) (there_of_block (o := 0) (n := 45) HOD.out.z (Nat.le_of_ble_eq_true rfl)) (by kernel_rfl) (one_all rfl) ?_
    have hs := block_setCells y.v 0 HOD.out.z
    obtain ⟨we, hwe⟩ : ∃ z : World, wd.setCells Z 0 y.v = z := ⟨_, rfl⟩
    rw [hwe] at hs
    rw [show (wd.setCells Z 0 y.v.toArray.toList) = we from hwe]
    have hAe := stays_at hs.2 HOD.out.a hZA.symm
    have hRe := stays_at hs.2 hRq hRZ
    refine hK.out _ _ ⟨hAe, block_cells hRe⟩ (fun _ => ?_)
    clear hK K hHeld
    try simp only [List.getElem_toArray, List.getElem_cons_succ, List.getElem_cons_zero, Act.put]
    have hHeld : we.heap[A]? = some (.cells y.v.toArray 48 (0, 0)) ∧ ∀ j, we.cell? ⟨R, j, none⟩ = #[.slice rp ys4.length rcp, .bool false][j]? := ⟨hAe, block_cells hRe⟩
    refine wpAnyH_take (i := 15) (v := ?_) rfl (by kernel_rfl) (by kernel_rfl) (by kernel_rfl) (fun _ _ _ h => h) (Or.inl ⟨by rfl, ?_⟩) hHeld ?_
    rotate_left
    · (intro wz hSw; (try dsimp only at hSw); (try simp only [List.getElem_toArray, List.getElem_cons_succ, List.getElem_cons_zero]); go_simp; try with_reducible rfl)
    try simp only [List.getElem_toArray, List.getElem_cons_succ, List.getElem_cons_zero, Act.put, List.setIfInBounds_toArray, List.set_cons_zero, List.set_cons_succ]
    refine wpAnyH_done (by kernel_rfl) ?_ _
    have hZe : we.heap[Z]? = some (.cells y.v.toArray 48 (0, 0)) := by rw [← hwe]; exact block_all HOD.out.z rfl
    have HZe := Lib.hid hZe
    have HBe := Lib.hid (And.intro (HOD.out.bl.grown hs.2 HOD.out.lt (fun k e => by cases e; omega)) (grown_new HOD.out.g hs.2 (fun k e => by cases e; exact HOD.out.nZ)))
    have HOe := Lib.hid (HOD.out.o.kept hs.2 (own_other HOD.out.o HOD.out.z (by decide)))
    clear hHeld hs hwe hAe hRe hRq hZe
    go_wp2_with fail
    refine bodyPost_ret (v := .tuple #[.agg y.v.toArray, .bool false]) ?_ rfl ?_
    · rw [results_cell_tmp rfl]
      simp [asAddr, run_loadVar_row we Z _ _ _ _ _ HZe.out Try.underlying48 rfl (by kernel_rfl), Result.andThen]
    · refine ⟨y, ?_, HBe.out, ?_⟩
      · rw [HS.out]; simp [allR, HY.out]
      · intro rc h; rw [HS.out] at h; exact ⟨HRC.out rc h, HOe.out⟩
end Go.Proofs.Ytjaabakobpabjaa
