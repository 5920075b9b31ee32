/- Hard: what a record says to a core, the document's: letters H, X, and none. -/
import Derived.Test.YtjaabakobpabjaaAgg2
import Derived.Test.YtjaabakobpabjaaHsB
import Derived.Test.YtjaabakobpabjaaOpenLog
import Derived.Deep.CutBlock
import Derived.Deep.RegionHeld3
import Derived.Laws.ResultCell
namespace Go.Proofs.Ytjaabakobpabjaa
open Go.ChangeShapes Go.WideShapes Go.ChangeAt Go.RowKit

/-- Other blocks than the reader's stay as they are. -/
theorem grown_belowC {w w' : World} (hb : Below w.heap.size w w') (r : Option Nat) : w.grownBy w' r := ⟨hb.os, hb.tape, hb.output, hb.size, fun k hk _ => hb.block k hk⟩
theorem grown_new {w0 w w' : World} {R : Nat} {r : Option Nat} (h : w0.grownBy w (some R)) (hg : w.grownBy w' r) (hr : ∀ k, r = some k → w0.heap.size ≤ k) : w0.grownBy w' (some R) :=
  ⟨hg.os.trans h.os, hg.tape.trans h.tape, hg.output.trans h.output, Nat.le_trans h.size hg.size, fun k hk hn => (hg.block k (Nat.lt_of_lt_of_le hk h.size) (fun e => by have := hr k e.symm; omega)).trans (h.block k hk hn)⟩
def OneE (B0 B R : Nat) (w : World) (x : CoX) (o : Option Rc) (e : Ending) (w' : World) : Prop :=
  ∃ y : CoX, e = .returned (.tuple #[.agg y.v.toArray, .bool o.isSome]) ∧ (Below B w w' ∧ w.grownBy w' (some R)) ∧ ∀ rc, o = some rc → y.c = apRc x.c rc ∧ CoOwn B0 w' y
/-- In the midst: the core's block, the result's, the reader's. -/
structure OnW (B0 B A Z R : Nat) (w0 w : World) (ys : List Int) (b : Bool) (y : CoX) : Prop where
  bl : Below B w0 w
  a : w.heap[A]? = some (.cells y.v.toArray 48 (0, 0))
  z : w.heap[Z]? = some (.cells (coL co0 none 0).toArray 48 (0, 0))
  r : RfW B w R ys b
  o : CoOwn B0 w y
  g : w0.grownBy w (some R)
  nA : w0.heap.size ≤ A
  nZ : w0.heap.size ≤ Z
theorem OnW.lt {B0 B A Z R : Nat} {w0 w : World} {ys : List Int} {b : Bool} {y : CoX} (h : OnW B0 B A Z R w0 w ys b y) : B ≤ w.heap.size := Nat.le_of_lt (Nat.lt_of_le_of_lt h.r.r.1 h.r.lt)
theorem OnW.keep {B0 B A Z R : Nat} {w0 w w' : World} {ys : List Int} {b : Bool} {y : CoX} (h : OnW B0 B A Z R w0 w ys b y) (hb : Below w.heap.size w w') : OnW B0 B A Z R w0 w' ys b y :=
  ⟨h.bl.trans (hb.mono h.lt), below_block hb (block_lt h.a) h.a, below_block hb (block_lt h.z) h.z, h.r.keep hb (Nat.le_refl _), own_keptC h.o hb, grown_transW h.g (grown_belowC hb _), h.nA, h.nZ⟩
theorem OnW.rd {B0 B A Z R : Nat} {w0 w w' : World} {ys zs : List Int} {b c : Bool} {y : CoX} (h : OnW B0 B A Z R w0 w ys b y) (hA : A ≠ R) (hZ : Z ≠ R) (hr : RfW B w' R zs c) (hg : w.grownBy w' (some R)) : OnW B0 B A Z R w0 w' zs c y := by
  obtain ⟨⟨hBR, p, cap, hR, _⟩, _, _⟩ := h.r
  exact ⟨h.bl.grown hg h.lt (fun k e => by cases e; exact hBR), stays_at hg h.a hA, stays_at hg h.z hZ, hr, h.o.kept hg (own_other h.o hR (by decide)), grown_transW h.g hg, h.nA, h.nZ⟩
theorem OnW.cell {B0 B A Z R : Nat} {w0 w : World} {ys : List Int} {b : Bool} {y : CoX} (h : OnW B0 B A Z R w0 w ys b y) (j : Nat) : w.cell? ⟨A, j, none⟩ = y.v[j]? := by rw [block_cells h.a, List.getElem?_toArray]
theorem OnW.free {B0 B A Z R : Nat} {w0 w : World} {ys : List Int} {b : Bool} {y : CoX} (h : OnW B0 B A Z R w0 w ys b y) (j : Nat) : w.frozen? ⟨A, j, none⟩ = false := block_free h.a j
/-- Some cells of the core are stored. -/
theorem OnW.puts {B0 B A Z R : Nat} {w0 w : World} {ys : List Int} {b : Bool} {x y : CoX} (h : OnW B0 B A Z R w0 w ys b x) (hB : B ≤ A) (hA : R ≠ A) (hZ : Z ≠ A) (j : Nat) (vs : List Value) (hy : y.v = setL x.v j vs) (he : CoOwn B0 w y) : OnW B0 B A Z R w0 (w.setCells A j vs) ys b y := by
  have hs := block_setCells vs j h.a
  refine ⟨h.bl.grown hs.2 h.lt (fun k e => by cases e; exact hB), ?_, stays_at hs.2 h.z hZ, h.r.far hs.2 hA hB, he.kept hs.2 (own_other he h.a (by decide)), grown_new h.g hs.2 (fun k e => by cases e; exact h.nA), h.nA, h.nZ⟩
  rw [hs.1, hy]
theorem coL_logT (x : CoX) (j : Nat) (hj : j < 14) : x.v[8 + j]? = [.int .i64 x.c.l.b, .int .i64 x.c.l.bt, .int .u16 x.c.l.j.ov, .int .u16 x.c.l.j.ox, .int .u16 x.c.l.j.ol, .int .i64 x.c.l.j.oe, .int .i64 x.c.l.j.ok, .int .u16 x.c.l.j.nv, .int .u16 x.c.l.j.nx, .int .u16 x.c.l.j.nl, .int .i64 x.c.l.j.ne, .int .i64 x.c.l.j.nk, .bool x.c.l.j.two, .slice x.p x.c.l.es.length x.k][j]? := by
  have h : x.v.drop 8 = [.int .i64 x.c.l.b, .int .i64 x.c.l.bt, .int .u16 x.c.l.j.ov, .int .u16 x.c.l.j.ox, .int .u16 x.c.l.j.ol, .int .i64 x.c.l.j.oe, .int .i64 x.c.l.j.ok, .int .u16 x.c.l.j.nv, .int .u16 x.c.l.j.nx, .int .u16 x.c.l.j.nl, .int .i64 x.c.l.j.ne, .int .i64 x.c.l.j.nk, .bool x.c.l.j.two, .slice x.p x.c.l.es.length x.k] ++ x.v.drop 22 := rfl
  have h2 : (x.v.drop 8)[j]? = x.v[8 + j]? := by rw [List.getElem?_drop]
  rw [← h2, h, List.getElem?_append_left hj]
theorem setL_eq : ∀ (vs xs : List Value) (j : Nat), j + vs.length ≤ xs.length → setL xs j vs = xs.take j ++ vs ++ xs.drop (j + vs.length)
  | [], xs, j, _ => by simp [setL]
  | v :: r, xs, j, h => by
    rw [List.length_cons] at h
    rw [setL, setL_eq r (xs.set j v) (j + 1) (by rw [List.length_set]; omega), List.length_cons, List.drop_set_of_lt (by omega), List.take_succ_eq_append_getElem (by rw [List.length_set]; omega), List.take_set_of_le (Nat.le_refl _), List.getElem_set_self, show j + (r.length + 1) = j + 1 + r.length by omega]
    simp
theorem setL_all {vs xs : List Value} (h : vs.length = xs.length) : setL xs 0 vs = vs := by
  rw [setL_eq vs xs 0 (by omega)]
  simp [h]
theorem block_all {w : World} {g : Nat} {t : TypeId} {vs : List Value} {cur : Array Value} (h : w.heap[g]? = some (.cells cur t (0, 0))) (hl : vs.length = cur.toList.length) : (w.setCells g 0 vs).heap[g]? = some (.cells vs.toArray t (0, 0)) := by
  rw [(block_setCells vs 0 h).1, setL_all hl]
set_option maxRecDepth 100000 in
set_option maxHeartbeats 16000000 in
theorem one_none (a : Int) (h72 : a ≠ 72) (h83 : a ≠ 83) (h69 : a ≠ 69) (h88 : a ≠ 88) (B0 B R : Nat) (_hB0 : B0 ≤ B) (x : CoX) (xs : List Int) (w : World) (hf : LgFit x.c.l) (ho : CoOwn B0 w x) (hr : RfW B w R xs false) :
    Calls Try.prog 34 #[.int .u8 a, .pointer (some ⟨R, 0, none⟩), .agg x.v.toArray] w (OneE B0 B R w x (sayR a xs)) := by
  obtain ⟨W0, hW0⟩ : ∃ z : World, w.alloc (.cells x.v.toArray 48) = z := ⟨_, rfl⟩
  obtain ⟨W, hW⟩ : ∃ z : World, W0.alloc (.cells (coL co0 none 0).toArray 48) = z := ⟨_, rfl⟩
  have hs0 : W0.heap.size = w.heap.size + 1 := by rw [← hW0]; simp
  have b0 : Below w.heap.size w W0 := by rw [← hW0]; exact (Below.refl _ _).alloc (Nat.le_refl _) _
  have b1 : Below W0.heap.size W0 W := by rw [← hW]; exact (Below.refl _ _).alloc (Nat.le_refl _) _
  have bW := b0.trans (b1.mono b0.size)
  have hBw : B ≤ w.heap.size := Nat.le_of_lt (Nat.lt_of_le_of_lt hr.r.1 hr.lt)
  have hA : W.heap[w.heap.size]? = some (.cells x.v.toArray 48 (0, 0)) := below_block b1 (by omega) (by rw [← hW0]; exact heap_last w _)
  have hZ : W.heap[w.heap.size + 1]? = some (.cells (coL co0 none 0).toArray 48 (0, 0)) := by rw [← hW, ← hs0]; exact heap_last W0 _
  obtain ⟨A, eA⟩ : ∃ z, w.heap.size = z := ⟨_, rfl⟩
  obtain ⟨Z, eZ⟩ : ∃ z, A + 1 = z := ⟨_, rfl⟩
  rw [eA] at hA hZ
  rw [eZ] at hZ
  have HO0 := Lib.hid (show OnW B0 B A Z R w W xs false x from ⟨bW.mono hBw, hA, hZ, hr.keep bW (Nat.le_refl _), own_keptC ho bW, grown_belowC bW _, by omega, by omega⟩)
  have hRA : R ≠ A := by have := hr.lt; omega
  have hRZ : R ≠ Z := by have := hr.lt; omega
  have hZA : Z ≠ A := by omega
  have hBA : B ≤ A := by omega
  have hBZ : B ≤ Z := by omega
  have HWG := Lib.hid (show (w.alloc (.cells x.v.toArray 48)).alloc (.cells #[.int .i64 0, .int .i64 0, .int .i64 0, .int .i64 0, .int .i64 0, .int .i64 0, .int .i64 0, .int .i64 0, .int .i64 0, .int .i64 0, .int .u16 0, .int .u16 0, .int .u16 0, .int .i64 0, .int .i64 0, .int .u16 0, .int .u16 0, .int .u16 0, .int .i64 0, .int .i64 0, .bool false, .slice none 0 0, .string ⟨#[]⟩, .int .u16 0, .int .u16 0, .int .i64 0, .int .i64 0, .int .i64 0, .int .i64 0, .int .i64 0, .int .i64 0, .int .i64 0, .int .i64 0, .int .i64 0, .int .i64 0, .int .i64 0, .int .i64 0, .int .i64 0, .int .i64 0, .int .i64 0, .int .i64 0, .int .i64 0, .int .i64 0, .int .i64 0, .int .i64 0] 48) = W by rw [hW0]; exact hW)
  have HEA := Lib.hid eA; have HEZ := Lib.hid eZ; have HW0 := Lib.hid hW0; have HW := Lib.hid hW; have HS0 := Lib.hid hs0; have HF := Lib.hid hf; have HOC := Lib.hid hr.o
  clear hW0 hW hs0 b0 b1 bW hA hZ eA eZ ho hr hf hBw
  go_enter Try.func34, Try.ntmps34
  have h1 : (a == 72) = false := by simpa using h72
  have h2 : (a == 83) = false := by simpa using h83
  have h3 : (a == 69) = false := by simpa using h69
  have h4 : (a == 88) = false := by simpa using h88
  have HS : Hid (sayR a xs = none) := by show _ = _; unfold sayR; rw [if_neg h72, if_neg h83, if_neg h69, if_neg h88]
  clear h72 h83 h69 h88
  go_upto_region 1 with fail
  rw [HWG.out, HEA.out, HEZ.out]
  have HRA := Lib.hid (show W.rangeAt A 0 x.v from range_of (n := 45) rfl (fun j _ => by rw [Nat.zero_add, HO0.out.cell]))
  have HTZ := Lib.hid (there_of_block (o := 0) (n := 45) HO0.out.z (Nat.le_of_ble_eq_true rfl))
  go_wp2_with (first | (with_reducible refine wpList_load_g (op := ⟨some 19, _, _, _, _, _⟩) (by kernel_rfl) _ _ rfl A 0 rfl x.v _ HRA.out Try.underlying48 rfl (by kernel_rfl) ?_) | (with_reducible refine wpList_store_at (op := ⟨none, .store 48 _ _, _, _, _, _⟩) rfl _ _ _ rfl Z 0 45 x.v.toArray (by kernel_rfl) rfl rfl HTZ.out (by kernel_rfl) (one_all rfl) ?_))
  have hs := block_setCells x.v 0 HO0.out.z
  have hZe : (W.setCells Z 0 x.v).heap[Z]? = some (.cells x.v.toArray 48 (0, 0)) := block_all HO0.out.z rfl
  refine bodyPost_ret (v := .tuple #[.agg x.v.toArray, .bool false]) ?_ rfl ?_
  · rw [results_cell_tmp rfl]
    simp [asAddr, run_loadVar_row (W.setCells Z 0 x.v) Z _ _ _ _ _ hZe Try.underlying48 rfl (by kernel_rfl), Result.andThen]
  · exact ⟨x, by rw [HS.out]; rfl, ⟨HO0.out.bl.grown hs.2 HO0.out.lt (fun k e => by cases e; omega), grown_new HO0.out.g hs.2 (fun k e => by cases e; exact HO0.out.nZ)⟩, fun rc h => by rw [HS.out] at h; cases h⟩
set_option maxRecDepth 100000 in
set_option maxHeartbeats 16000000 in
theorem one_H (B0 B R : Nat) (_hB0 : B0 ≤ B) (x : CoX) (xs : List Int) (w : World) (hf : LgFit x.c.l) (ho : CoOwn B0 w x) (hr : RfW B w R xs false) :
    Calls Try.prog 34 #[.int .u8 72, .pointer (some ⟨R, 0, none⟩), .agg x.v.toArray] w (OneE B0 B R w x (sayR 72 xs)) := by
  obtain ⟨⟨v1, ys1, b1⟩, e1⟩ : ∃ r, rfNm xs false = r := ⟨_, rfl⟩
  obtain ⟨⟨v2, ys2, b2⟩, e2⟩ : ∃ r, rfNm ys1 b1 = r := ⟨_, rfl⟩
  have HS : Hid (sayR 72 xs = allR ((v1, v2), ys2, b2) fun p => .hd p.1 p.2) := by show _ = _; unfold sayR hdR rd2; rw [if_pos rfl]; simp only [e1, e2]
  have E1 := Lib.hid e1; have E2 := Lib.hid e2
  clear e1 e2
  obtain ⟨W0, hW0⟩ : ∃ z : World, w.alloc (.cells x.v.toArray 48) = z := ⟨_, rfl⟩
  obtain ⟨W, hW⟩ : ∃ z : World, W0.alloc (.cells (coL co0 none 0).toArray 48) = z := ⟨_, rfl⟩
  have hs0 : W0.heap.size = w.heap.size + 1 := by rw [← hW0]; simp
  have b0 : Below w.heap.size w W0 := by rw [← hW0]; exact (Below.refl _ _).alloc (Nat.le_refl _) _
  have b1 : Below W0.heap.size W0 W := by rw [← hW]; exact (Below.refl _ _).alloc (Nat.le_refl _) _
  have bW := b0.trans (b1.mono b0.size)
  have hBw : B ≤ w.heap.size := Nat.le_of_lt (Nat.lt_of_le_of_lt hr.r.1 hr.lt)
  have hA : W.heap[w.heap.size]? = some (.cells x.v.toArray 48 (0, 0)) := below_block b1 (by omega) (by rw [← hW0]; exact heap_last w _)
  have hZ : W.heap[w.heap.size + 1]? = some (.cells (coL co0 none 0).toArray 48 (0, 0)) := by rw [← hW, ← hs0]; exact heap_last W0 _
  obtain ⟨A, eA⟩ : ∃ z, w.heap.size = z := ⟨_, rfl⟩
  obtain ⟨Z, eZ⟩ : ∃ z, A + 1 = z := ⟨_, rfl⟩
  rw [eA] at hA hZ
  rw [eZ] at hZ
  have HO0 := Lib.hid (show OnW B0 B A Z R w W xs false x from ⟨bW.mono hBw, hA, hZ, hr.keep bW (Nat.le_refl _), own_keptC ho bW, grown_belowC bW _, by omega, by omega⟩)
  have hRA : R ≠ A := by have := hr.lt; omega
  have hRZ : R ≠ Z := by have := hr.lt; omega
  have hZA : Z ≠ A := by omega
  have hBA : B ≤ A := by omega
  have hBZ : B ≤ Z := by omega
  have HWG := Lib.hid (show (w.alloc (.cells x.v.toArray 48)).alloc (.cells #[.int .i64 0, .int .i64 0, .int .i64 0, .int .i64 0, .int .i64 0, .int .i64 0, .int .i64 0, .int .i64 0, .int .i64 0, .int .i64 0, .int .u16 0, .int .u16 0, .int .u16 0, .int .i64 0, .int .i64 0, .int .u16 0, .int .u16 0, .int .u16 0, .int .i64 0, .int .i64 0, .bool false, .slice none 0 0, .string ⟨#[]⟩, .int .u16 0, .int .u16 0, .int .i64 0, .int .i64 0, .int .i64 0, .int .i64 0, .int .i64 0, .int .i64 0, .int .i64 0, .int .i64 0, .int .i64 0, .int .i64 0, .int .i64 0, .int .i64 0, .int .i64 0, .int .i64 0, .int .i64 0, .int .i64 0, .int .i64 0, .int .i64 0, .int .i64 0, .int .i64 0] 48) = W by rw [hW0]; exact hW)
  have HEA := Lib.hid eA; have HEZ := Lib.hid eZ; have HW0 := Lib.hid hW0; have HW := Lib.hid hW; have HS0 := Lib.hid hs0; have HF := Lib.hid hf; have HOC := Lib.hid hr.o
  clear hW0 hW hs0 b0 b1 bW hA hZ eA eZ ho hr hf hBw
  go_enter Try.func34, Try.ntmps34
  go_upto_region 1 with fail
  rw [HWG.out, HEA.out, HEZ.out]
  go_upto_block 0 with fail
  go_cut [] from 20 to 119 (fun wx => Hid (∃ y : CoX, OnW B0 B A Z R w wx ys2 b2 y ∧ ∀ rc, allR ((v1, v2), ys2, b2) (fun p => Rc.hd p.1 p.2) = some rc → y.c = apRc x.c rc))
  case first =>
    have HC1 := Lib.hid (rhnum_any B R xs false W HO0.out.r)
    rw [E1.out] at HC1
    go_wp2_with fail
    refine HC1.out.mono ?_; rintro e w1 ⟨rfl, h1, g1⟩
    dsimp only at h1 ⊢
    have HO1 := Lib.hid (HO0.out.rd hRA.symm hRZ.symm h1 g1)
    clear h1 g1 HC1
    have HC2 := Lib.hid (rhnum_any B R ys1 b1 w1 HO1.out.r)
    rw [E2.out] at HC2
    go_wp2_with fail
    refine HC2.out.mono ?_; rintro e w2 ⟨rfl, h2, g2⟩
    dsimp only at h2 ⊢
    have HO2 := Lib.hid (HO1.out.rd hRA.symm hRZ.symm h2 g2)
    clear h2 g2 HC2
    have k2 : w2.cell? ⟨A, 2, none⟩ = some (.int .i64 x.c.tm) := (HO2.out.cell 2).trans rfl
    have k3 : w2.cell? ⟨A, 3, none⟩ = some (.int .i64 x.c.vt) := (HO2.out.cell 3).trans rfl
    have fA := HO2.out.free
    have HP := Lib.hid (HO2.out.puts hBA hRA hZA 2 [.int .i64 v1, .int .i64 v2] (y := ⟨{ x.c with tm := v1, vt := v2 }, x.p, x.k⟩) rfl HO2.out.o)
    go_wp2_with fail
    go_meet
    case rel => exact ⟨_, HP.out, fun rc h => by unfold allR at h; split at h <;> cases h; rfl⟩
  obtain ⟨wy, rfl⟩ : ∃ z : World, z = wc := ⟨_, rfl⟩
  obtain ⟨y, hoy, hrc⟩ := hcut.out
  have HOY := Lib.hid hoy; have HRC := Lib.hid hrc
  clear hcut hoy hrc
  have hcs : (b2 = true) ∨ (b2 = false ∧ ys2 = []) ∨ (b2 = false ∧ ys2 ≠ []) := by
    cases b2
    · by_cases h : ys2 = []
      · exact .inr (.inl ⟨rfl, h⟩)
      · exact .inr (.inr ⟨rfl, h⟩)
    · exact .inl rfl
  rcases hcs with hb | ⟨hb, hy⟩ | ⟨hb, hy⟩
  · subst hb
    go_upto_region 25 with fail
    obtain ⟨wd, ewd⟩ : ∃ z, wy.drew = z := ⟨_, rfl⟩
    have HOD := Lib.hid (show OnW B0 B A Z R w wd _ _ y from HOY.out.keep (by rw [← ewd]; exact (Below.refl _ _).drew))
    obtain ⟨hBR, rp, rcp, hRq, _⟩ := HOD.out.r.r
    have HZR := Lib.hid (show Z ≠ R from hRZ.symm)
    refine wp_region_held_drew (S := fun w' => w'.heap[A]? = some (.cells y.v.toArray 48 (0, 0)) ∧ ∀ j, w'.cell? ⟨R, j, none⟩ = #[.slice rp ys2.length rcp, .bool true][j]?) (by kernel_rfl) (by rw [ewd]; exact ⟨HOD.out.a, block_cells hRq⟩) (fun hHeld => ?_)
    rw [ewd] at hHeld ⊢
    clear ewd
    refine wpAnyH_take (i := 0) (v := .agg y.v.toArray) rfl (by kernel_rfl) (by kernel_rfl) (by kernel_rfl) (fun _ _ _ h => h) (yieldsIf_load_mid (by rfl) _ _ rfl A 0 rfl y.v _ (fun w' h => range_of (n := 45) rfl (fun j _ => by rw [Nat.zero_add, block_cells h.1, List.getElem?_toArray])) Try.underlying48 rfl (by kernel_rfl)) hHeld ?_
    try simp only [List.getElem_toArray, List.getElem_cons_zero, Act.put, List.setIfInBounds_toArray, List.set_cons_zero, List.set_cons_succ]
    refine wpAnyH_take (i := 1) (v := ?_) rfl (by kernel_rfl) (by kernel_rfl) (by kernel_rfl) (fun _ _ _ h => h) (Or.inl ⟨by rfl, ?_⟩) hHeld ?_
    rotate_left
    · (intro wz hSw; (try dsimp only at hSw); (try simp only [List.getElem_toArray, List.getElem_cons_succ, List.getElem_cons_zero]); go_simp; try with_reducible rfl)
    try simp only [List.getElem_toArray, List.getElem_cons_succ, List.getElem_cons_zero, Act.put, List.setIfInBounds_toArray, List.set_cons_zero, List.set_cons_succ]
    refine wpAnyH_take (i := 2) (v := ?_) rfl (by kernel_rfl) (by kernel_rfl) (by kernel_rfl) (fun _ _ _ h => h) (Or.inl ⟨by rfl, ?_⟩) hHeld ?_
    rotate_left
    · (intro wz hSw; (try dsimp only at hSw); (try simp only [List.getElem_toArray, List.getElem_cons_succ, List.getElem_cons_zero]); go_simp; try with_reducible rfl)
    try simp only [List.getElem_toArray, List.getElem_cons_succ, List.getElem_cons_zero, Act.put, List.setIfInBounds_toArray, List.set_cons_zero, List.set_cons_succ]
    refine wpAnyH_take (i := 3) (v := ?_) rfl (by kernel_rfl) (by kernel_rfl) (by kernel_rfl) (fun _ _ _ h => h) (Or.inl ⟨by rfl, ?_⟩) hHeld ?_
    rotate_left
    · (intro wz hSw; (try dsimp only at hSw); (try simp only [List.getElem_toArray, List.getElem_cons_succ, List.getElem_cons_zero]); go_simp; try with_reducible rfl)
    try simp only [List.getElem_toArray, List.getElem_cons_succ, List.getElem_cons_zero, Act.put, List.setIfInBounds_toArray, List.set_cons_zero, List.set_cons_succ]
    refine wpAnyH_take (i := 4) (v := ?_) rfl (by kernel_rfl) (by kernel_rfl) (by kernel_rfl) (fun _ _ _ h => h) (Or.inl ⟨by rfl, ?_⟩) hHeld ?_
    rotate_left
    · (intro wz hSw; (try dsimp only at hSw); (try simp only [List.getElem_toArray, List.getElem_cons_succ, List.getElem_cons_zero]); go_simp; try with_reducible rfl)
    try simp only [List.getElem_toArray, List.getElem_cons_succ, List.getElem_cons_zero, Act.put, List.setIfInBounds_toArray, List.set_cons_zero, List.set_cons_succ]
    refine wpAnyH_take (i := 5) (v := ?_) rfl (by kernel_rfl) (by kernel_rfl) (by kernel_rfl) (fun _ _ _ h => h) (Or.inl ⟨by rfl, ?_⟩) hHeld ?_
    rotate_left
    · (intro wz hSw; (try dsimp only at hSw); (try simp only [List.getElem_toArray, List.getElem_cons_succ, List.getElem_cons_zero]); go_simp; try with_reducible rfl)
    try simp only [List.getElem_toArray, List.getElem_cons_succ, List.getElem_cons_zero, Act.put, List.setIfInBounds_toArray, List.set_cons_zero, List.set_cons_succ]
    refine wpAnyH_take (i := 6) (v := ?_) rfl (by kernel_rfl) (by kernel_rfl) (by kernel_rfl) (fun _ _ _ h => h) (Or.inl ⟨by rfl, ?_⟩) hHeld ?_
    rotate_left
    · (intro wz hSw; (try dsimp only at hSw); (try simp only [List.getElem_toArray, List.getElem_cons_succ, List.getElem_cons_zero]); go_simp; try with_reducible rfl)
    try simp only [List.getElem_toArray, List.getElem_cons_succ, List.getElem_cons_zero, Act.put, List.setIfInBounds_toArray, List.set_cons_zero, List.set_cons_succ]
    refine wpAnyH_take (i := 7) (v := undef) rfl (by kernel_rfl) (by kernel_rfl) (by kernel_rfl) (fun _ _ _ h => h) (Or.inr ⟨by rfl, rfl⟩) hHeld ?_
    try simp only [List.getElem_toArray, List.getElem_cons_succ, List.getElem_cons_zero, Act.put, List.setIfInBounds_toArray, List.set_cons_zero, List.set_cons_succ]
    refine wpAnyH_take (i := 8) (v := undef) rfl (by kernel_rfl) (by kernel_rfl) (by kernel_rfl) (fun _ _ _ h => h) (Or.inr ⟨by rfl, rfl⟩) hHeld ?_
    try simp only [List.getElem_toArray, List.getElem_cons_succ, List.getElem_cons_zero, Act.put, List.setIfInBounds_toArray, List.set_cons_zero, List.set_cons_succ]
    refine wpAnyH_take (i := 9) (v := undef) rfl (by kernel_rfl) (by kernel_rfl) (by kernel_rfl) (fun _ _ _ h => h) (Or.inr ⟨by rfl, rfl⟩) hHeld ?_
    try simp only [List.getElem_toArray, List.getElem_cons_succ, List.getElem_cons_zero, Act.put, List.setIfInBounds_toArray, List.set_cons_zero, List.set_cons_succ]
    refine wpAnyH_take (i := 10) (v := undef) rfl (by kernel_rfl) (by kernel_rfl) (by kernel_rfl) (fun _ _ _ h => h) (Or.inr ⟨by rfl, rfl⟩) hHeld ?_
    try simp only [List.getElem_toArray, List.getElem_cons_succ, List.getElem_cons_zero, Act.put, List.setIfInBounds_toArray, List.set_cons_zero, List.set_cons_succ]
    refine wpAnyH_take (i := 11) (v := undef) rfl (by kernel_rfl) (by kernel_rfl) (by kernel_rfl) (fun _ _ _ h => h) (Or.inr ⟨by rfl, rfl⟩) hHeld ?_
    try simp only [List.getElem_toArray, List.getElem_cons_succ, List.getElem_cons_zero, Act.put, List.setIfInBounds_toArray, List.set_cons_zero, List.set_cons_succ]
    refine wpAnyH_take (i := 12) (v := undef) rfl (by kernel_rfl) (by kernel_rfl) (by kernel_rfl) (fun _ _ _ h => h) (Or.inr ⟨by rfl, rfl⟩) hHeld ?_
    try simp only [List.getElem_toArray, List.getElem_cons_succ, List.getElem_cons_zero, Act.put, List.setIfInBounds_toArray, List.set_cons_zero, List.set_cons_succ]
    refine wpAnyH_take (i := 13) (v := ?_) rfl (by kernel_rfl) (by kernel_rfl) (by kernel_rfl) (fun _ _ _ h => h) (Or.inl ⟨by rfl, ?_⟩) hHeld ?_
    rotate_left
    · (intro wz hSw; (try dsimp only at hSw); (try simp only [List.getElem_toArray, List.getElem_cons_succ, List.getElem_cons_zero]); go_simp; try with_reducible rfl)
    try simp only [List.getElem_toArray, List.getElem_cons_succ, List.getElem_cons_zero, Act.put, List.setIfInBounds_toArray, List.set_cons_zero, List.set_cons_succ]
    refine wpAnyH_ready (rs := [14]) (by kernel_rfl) (by simp) ?_; refine AllReadyH.cons rfl (fun K hK => ?_) AllReadyH.nil
    rw [if_pos (by rfl)]
    refine wp_store_mid 48 _ _ (by rfl) Z 0 y.v.toArray (by rfl) (by rfl) (there_of_block (o := 0) (n := 45) HOD.out.z (Nat.le_of_ble_eq_true rfl)) (by kernel_rfl) (one_all rfl) ?_
    have hs := block_setCells y.v 0 HOD.out.z
    obtain ⟨we, hwe⟩ : ∃ z : World, wd.setCells Z 0 y.v = z := ⟨_, rfl⟩
    rw [hwe] at hs
    rw [show (wd.setCells Z 0 y.v.toArray.toList) = we from hwe]
    have hAe := stays_at hs.2 HOD.out.a hZA.symm
    have hRe := stays_at hs.2 hRq hRZ
    refine hK.out _ _ ⟨hAe, block_cells hRe⟩ (fun _ => ?_)
    clear hK K hHeld
    try simp only [List.getElem_toArray, List.getElem_cons_succ, List.getElem_cons_zero, Act.put]
    have hHeld : we.heap[A]? = some (.cells y.v.toArray 48 (0, 0)) ∧ ∀ j, we.cell? ⟨R, j, none⟩ = #[.slice rp ys2.length rcp, .bool true][j]? := ⟨hAe, block_cells hRe⟩
    refine wpAnyH_take (i := 15) (v := ?_) rfl (by kernel_rfl) (by kernel_rfl) (by kernel_rfl) (fun _ _ _ h => h) (Or.inl ⟨by rfl, ?_⟩) hHeld ?_
    rotate_left
    · (intro wz hSw; (try dsimp only at hSw); (try simp only [List.getElem_toArray, List.getElem_cons_succ, List.getElem_cons_zero]); go_simp; try with_reducible rfl)
    try simp only [List.getElem_toArray, List.getElem_cons_succ, List.getElem_cons_zero, Act.put, List.setIfInBounds_toArray, List.set_cons_zero, List.set_cons_succ]
    refine wpAnyH_done (by kernel_rfl) ?_ _
    have hZe : we.heap[Z]? = some (.cells y.v.toArray 48 (0, 0)) := by rw [← hwe]; exact block_all HOD.out.z rfl
    have HZe := Lib.hid hZe
    have HBe := Lib.hid (And.intro (HOD.out.bl.grown hs.2 HOD.out.lt (fun k e => by cases e; omega)) (grown_new HOD.out.g hs.2 (fun k e => by cases e; exact HOD.out.nZ)))
    have HOe := Lib.hid (HOD.out.o.kept hs.2 (own_other HOD.out.o HOD.out.z (by decide)))
    clear hHeld hs hwe hAe hRe hRq hZe
    go_wp2_with fail
    refine bodyPost_ret (v := .tuple #[.agg y.v.toArray, .bool false]) ?_ rfl ?_
    · rw [results_cell_tmp rfl]
      simp [asAddr, run_loadVar_row we Z _ _ _ _ _ HZe.out Try.underlying48 rfl (by kernel_rfl), Result.andThen]
    · refine ⟨y, ?_, HBe.out, ?_⟩
      · rw [HS.out]; simp [allR]
      · intro rc h; rw [HS.out] at h; exact ⟨HRC.out rc h, HOe.out⟩
  · subst hb
    have hy0 := hy
    have hl0 : ys2.length = 0 := by rw [hy]; rfl
    have hl1 : ((ys2.length : Int) == 0) = true := by rw [hl0]; rfl
    clear hy0 hy
    have hy := List.eq_nil_of_length_eq_zero hl0
    have HY := Lib.hid hy
    clear hy hl0
    go_upto_region 25 with fail
    obtain ⟨wd, ewd⟩ : ∃ z, wy.drew = z := ⟨_, rfl⟩
    have HOD := Lib.hid (show OnW B0 B A Z R w wd _ _ y from HOY.out.keep (by rw [← ewd]; exact (Below.refl _ _).drew))
    obtain ⟨hBR, rp, rcp, hRq, _⟩ := HOD.out.r.r
    have HZR := Lib.hid (show Z ≠ R from hRZ.symm)
    refine wp_region_held_drew (S := fun w' => w'.heap[A]? = some (.cells y.v.toArray 48 (0, 0)) ∧ ∀ j, w'.cell? ⟨R, j, none⟩ = #[.slice rp ys2.length rcp, .bool false][j]?) (by kernel_rfl) (by rw [ewd]; exact ⟨HOD.out.a, block_cells hRq⟩) (fun hHeld => ?_)
    rw [ewd] at hHeld ⊢
    clear ewd
    refine wpAnyH_take (i := 0) (v := .agg y.v.toArray) rfl (by kernel_rfl) (by kernel_rfl) (by kernel_rfl) (fun _ _ _ h => h) (yieldsIf_load_mid (by rfl) _ _ rfl A 0 rfl y.v _ (fun w' h => range_of (n := 45) rfl (fun j _ => by rw [Nat.zero_add, block_cells h.1, List.getElem?_toArray])) Try.underlying48 rfl (by kernel_rfl)) hHeld ?_
    try simp only [List.getElem_toArray, List.getElem_cons_zero, Act.put, List.setIfInBounds_toArray, List.set_cons_zero, List.set_cons_succ]
    refine wpAnyH_take (i := 1) (v := ?_) rfl (by kernel_rfl) (by kernel_rfl) (by kernel_rfl) (fun _ _ _ h => h) (Or.inl ⟨by rfl, ?_⟩) hHeld ?_
    rotate_left
    · (intro wz hSw; (try dsimp only at hSw); (try simp only [List.getElem_toArray, List.getElem_cons_succ, List.getElem_cons_zero]); go_simp; try with_reducible rfl)
    try simp only [List.getElem_toArray, List.getElem_cons_succ, List.getElem_cons_zero, Act.put, List.setIfInBounds_toArray, List.set_cons_zero, List.set_cons_succ]
    refine wpAnyH_take (i := 2) (v := ?_) rfl (by kernel_rfl) (by kernel_rfl) (by kernel_rfl) (fun _ _ _ h => h) (Or.inl ⟨by rfl, ?_⟩) hHeld ?_
    rotate_left
    · (intro wz hSw; (try dsimp only at hSw); (try simp only [List.getElem_toArray, List.getElem_cons_succ, List.getElem_cons_zero]); go_simp; try with_reducible rfl)
    try simp only [List.getElem_toArray, List.getElem_cons_succ, List.getElem_cons_zero, Act.put, List.setIfInBounds_toArray, List.set_cons_zero, List.set_cons_succ]
    refine wpAnyH_take (i := 3) (v := ?_) rfl (by kernel_rfl) (by kernel_rfl) (by kernel_rfl) (fun _ _ _ h => h) (Or.inl ⟨by rfl, ?_⟩) hHeld ?_
    rotate_left
    · (intro wz hSw; (try dsimp only at hSw); (try simp only [List.getElem_toArray, List.getElem_cons_succ, List.getElem_cons_zero]); go_simp; try with_reducible rfl)
    try simp only [List.getElem_toArray, List.getElem_cons_succ, List.getElem_cons_zero, Act.put, List.setIfInBounds_toArray, List.set_cons_zero, List.set_cons_succ]
    refine wpAnyH_take (i := 4) (v := ?_) rfl (by kernel_rfl) (by kernel_rfl) (by kernel_rfl) (fun _ _ _ h => h) (Or.inl ⟨by rfl, ?_⟩) hHeld ?_
    rotate_left
    · (intro wz hSw; (try dsimp only at hSw); (try simp only [List.getElem_toArray, List.getElem_cons_succ, List.getElem_cons_zero]); go_simp; try with_reducible rfl)
    try simp only [List.getElem_toArray, List.getElem_cons_succ, List.getElem_cons_zero, Act.put, List.setIfInBounds_toArray, List.set_cons_zero, List.set_cons_succ]
    refine wpAnyH_take (i := 5) (v := ?_) rfl (by kernel_rfl) (by kernel_rfl) (by kernel_rfl) (fun _ _ _ h => h) (Or.inl ⟨by rfl, ?_⟩) hHeld ?_
    rotate_left
    · (intro wz hSw; (try dsimp only at hSw); (try simp only [List.getElem_toArray, List.getElem_cons_succ, List.getElem_cons_zero]); go_simp; try with_reducible rfl)
    try simp only [List.getElem_toArray, List.getElem_cons_succ, List.getElem_cons_zero, Act.put, List.setIfInBounds_toArray, List.set_cons_zero, List.set_cons_succ]
    refine wpAnyH_take (i := 6) (v := ?_) rfl (by kernel_rfl) (by kernel_rfl) (by kernel_rfl) (fun _ _ _ h => h) (Or.inl ⟨by rfl, ?_⟩) hHeld ?_
    rotate_left
    · (intro wz hSw; (try dsimp only at hSw); (try simp only [List.getElem_toArray, List.getElem_cons_succ, List.getElem_cons_zero]); go_simp; try with_reducible rfl)
    try simp only [List.getElem_toArray, List.getElem_cons_succ, List.getElem_cons_zero, Act.put, List.setIfInBounds_toArray, List.set_cons_zero, List.set_cons_succ]
    refine wpAnyH_take (i := 7) (v := ?_) rfl (by kernel_rfl) (by kernel_rfl) (by kernel_rfl) (fun _ _ _ h => h) (Or.inl ⟨by rfl, ?_⟩) hHeld ?_
    rotate_left
    · (intro wz hSw; (try dsimp only at hSw); (try simp only [List.getElem_toArray, List.getElem_cons_succ, List.getElem_cons_zero]); go_simp; try with_reducible rfl)
    try simp only [List.getElem_toArray, List.getElem_cons_succ, List.getElem_cons_zero, Act.put, List.setIfInBounds_toArray, List.set_cons_zero, List.set_cons_succ]
    refine wpAnyH_take (i := 8) (v := ?_) rfl (by kernel_rfl) (by kernel_rfl) (by kernel_rfl) (fun _ _ _ h => h) (Or.inl ⟨by rfl, ?_⟩) hHeld ?_
    rotate_left
    · (intro wz hSw; (try dsimp only at hSw); (try simp only [List.getElem_toArray, List.getElem_cons_succ, List.getElem_cons_zero]); go_simp; try with_reducible rfl)
    try simp only [List.getElem_toArray, List.getElem_cons_succ, List.getElem_cons_zero, Act.put, List.setIfInBounds_toArray, List.set_cons_zero, List.set_cons_succ]
    refine wpAnyH_take (i := 9) (v := ?_) rfl (by kernel_rfl) (by kernel_rfl) (by kernel_rfl) (fun _ _ _ h => h) (Or.inl ⟨by rfl, ?_⟩) hHeld ?_
    rotate_left
    · (intro wz hSw; (try dsimp only at hSw); (try simp only [List.getElem_toArray, List.getElem_cons_succ, List.getElem_cons_zero]); go_simp; try with_reducible rfl)
    try simp only [List.getElem_toArray, List.getElem_cons_succ, List.getElem_cons_zero, Act.put, List.setIfInBounds_toArray, List.set_cons_zero, List.set_cons_succ]
    refine wpAnyH_take (i := 10) (v := ?_) rfl (by kernel_rfl) (by kernel_rfl) (by kernel_rfl) (fun _ _ _ h => h) (Or.inl ⟨by rfl, ?_⟩) hHeld ?_
    rotate_left
    · (intro wz hSw; (try dsimp only at hSw); (try simp only [List.getElem_toArray, List.getElem_cons_succ, List.getElem_cons_zero]); go_simp; try with_reducible rfl)
    try simp only [List.getElem_toArray, List.getElem_cons_succ, List.getElem_cons_zero, Act.put, List.setIfInBounds_toArray, List.set_cons_zero, List.set_cons_succ]
    refine wpAnyH_take (i := 11) (v := ?_) rfl (by kernel_rfl) (by kernel_rfl) (by kernel_rfl) (fun _ _ _ h => h) (Or.inl ⟨by rfl, ?_⟩) hHeld ?_
    rotate_left
    · (intro wz hSw; (try dsimp only at hSw); (try simp only [List.getElem_toArray, List.getElem_cons_succ, List.getElem_cons_zero]); go_simp; try with_reducible rfl)
    try simp only [List.getElem_toArray, List.getElem_cons_succ, List.getElem_cons_zero, Act.put, List.setIfInBounds_toArray, List.set_cons_zero, List.set_cons_succ]
    refine wpAnyH_take (i := 12) (v := ?_) rfl (by kernel_rfl) (by kernel_rfl) (by kernel_rfl) (fun _ _ _ h => h) (Or.inl ⟨by rfl, ?_⟩) hHeld ?_
    rotate_left
    · (intro wz hSw; (try dsimp only at hSw); (try simp only [List.getElem_toArray, List.getElem_cons_succ, List.getElem_cons_zero]); go_simp; try with_reducible rfl)
    try simp only [List.getElem_toArray, List.getElem_cons_succ, List.getElem_cons_zero, Act.put, List.setIfInBounds_toArray, List.set_cons_zero, List.set_cons_succ]
    refine wpAnyH_take (i := 13) (v := ?_) rfl (by kernel_rfl) (by kernel_rfl) (by kernel_rfl) (fun _ _ _ h => h) (Or.inl ⟨by rfl, ?_⟩) hHeld ?_
    rotate_left
    · (intro wz hSw; (try dsimp only at hSw); (try simp only [List.getElem_toArray, List.getElem_cons_succ, List.getElem_cons_zero]); go_simp; try with_reducible rfl)
    try simp only [List.getElem_toArray, List.getElem_cons_succ, List.getElem_cons_zero, Act.put, List.setIfInBounds_toArray, List.set_cons_zero, List.set_cons_succ]
    refine wpAnyH_ready (rs := [14]) (by kernel_rfl) (by simp) ?_; refine AllReadyH.cons rfl (fun K hK => ?_) AllReadyH.nil
    rw [if_pos (by rfl)]
    refine wp_store_mid 48 _ _ (by rfl) Z 0 y.v.toArray (by rfl) (by rfl) (there_of_block (o := 0) (n := 45) HOD.out.z (Nat.le_of_ble_eq_true rfl)) (by kernel_rfl) (one_all rfl) ?_
    have hs := block_setCells y.v 0 HOD.out.z
    obtain ⟨we, hwe⟩ : ∃ z : World, wd.setCells Z 0 y.v = z := ⟨_, rfl⟩
    rw [hwe] at hs
    rw [show (wd.setCells Z 0 y.v.toArray.toList) = we from hwe]
    have hAe := stays_at hs.2 HOD.out.a hZA.symm
    have hRe := stays_at hs.2 hRq hRZ
    refine hK.out _ _ ⟨hAe, block_cells hRe⟩ (fun _ => ?_)
    clear hK K hHeld
    try simp only [List.getElem_toArray, List.getElem_cons_succ, List.getElem_cons_zero, Act.put]
    have hHeld : we.heap[A]? = some (.cells y.v.toArray 48 (0, 0)) ∧ ∀ j, we.cell? ⟨R, j, none⟩ = #[.slice rp ys2.length rcp, .bool false][j]? := ⟨hAe, block_cells hRe⟩
    refine wpAnyH_take (i := 15) (v := ?_) rfl (by kernel_rfl) (by kernel_rfl) (by kernel_rfl) (fun _ _ _ h => h) (Or.inl ⟨by rfl, ?_⟩) hHeld ?_
    rotate_left
    · (intro wz hSw; (try dsimp only at hSw); (try simp only [List.getElem_toArray, List.getElem_cons_succ, List.getElem_cons_zero]); go_simp; try with_reducible rfl)
    try simp only [List.getElem_toArray, List.getElem_cons_succ, List.getElem_cons_zero, Act.put, List.setIfInBounds_toArray, List.set_cons_zero, List.set_cons_succ]
    refine wpAnyH_done (by kernel_rfl) ?_ _
    have hZe : we.heap[Z]? = some (.cells y.v.toArray 48 (0, 0)) := by rw [← hwe]; exact block_all HOD.out.z rfl
    have HZe := Lib.hid hZe
    have HBe := Lib.hid (And.intro (HOD.out.bl.grown hs.2 HOD.out.lt (fun k e => by cases e; omega)) (grown_new HOD.out.g hs.2 (fun k e => by cases e; exact HOD.out.nZ)))
    have HOe := Lib.hid (HOD.out.o.kept hs.2 (own_other HOD.out.o HOD.out.z (by decide)))
    clear hHeld hs hwe hAe hRe hRq hZe
    go_wp2_with fail
    refine bodyPost_ret (v := .tuple #[.agg y.v.toArray, .bool true]) ?_ rfl ?_
    · rw [results_cell_tmp rfl]
      simp [asAddr, run_loadVar_row we Z _ _ _ _ _ HZe.out Try.underlying48 rfl (by kernel_rfl), Result.andThen]
    · refine ⟨y, ?_, HBe.out, ?_⟩
      · rw [HS.out]; rw [HY.out]; rfl
      · intro rc h; rw [HS.out] at h; exact ⟨HRC.out rc h, HOe.out⟩
  · subst hb
    have hl0 : 0 < ys2.length := List.length_pos_iff.2 hy
    have hl1 : ((ys2.length : Int) == 0) = false := by simp; exact hy
    have HY := Lib.hid hy
    clear hy
    go_upto_region 25 with fail
    obtain ⟨wd, ewd⟩ : ∃ z, wy.drew = z := ⟨_, rfl⟩
    have HOD := Lib.hid (show OnW B0 B A Z R w wd _ _ y from HOY.out.keep (by rw [← ewd]; exact (Below.refl _ _).drew))
    obtain ⟨hBR, rp, rcp, hRq, _⟩ := HOD.out.r.r
    have HZR := Lib.hid (show Z ≠ R from hRZ.symm)
    refine wp_region_held_drew (S := fun w' => w'.heap[A]? = some (.cells y.v.toArray 48 (0, 0)) ∧ ∀ j, w'.cell? ⟨R, j, none⟩ = #[.slice rp ys2.length rcp, .bool false][j]?) (by kernel_rfl) (by rw [ewd]; exact ⟨HOD.out.a, block_cells hRq⟩) (fun hHeld => ?_)
    rw [ewd] at hHeld ⊢
    clear ewd
    refine wpAnyH_take (i := 0) (v := .agg y.v.toArray) rfl (by kernel_rfl) (by kernel_rfl) (by kernel_rfl) (fun _ _ _ h => h) (yieldsIf_load_mid (by rfl) _ _ rfl A 0 rfl y.v _ (fun w' h => range_of (n := 45) rfl (fun j _ => by rw [Nat.zero_add, block_cells h.1, List.getElem?_toArray])) Try.underlying48 rfl (by kernel_rfl)) hHeld ?_
    try simp only [List.getElem_toArray, List.getElem_cons_zero, Act.put, List.setIfInBounds_toArray, List.set_cons_zero, List.set_cons_succ]
    refine wpAnyH_take (i := 1) (v := ?_) rfl (by kernel_rfl) (by kernel_rfl) (by kernel_rfl) (fun _ _ _ h => h) (Or.inl ⟨by rfl, ?_⟩) hHeld ?_
    rotate_left
    · (intro wz hSw; (try dsimp only at hSw); (try simp only [List.getElem_toArray, List.getElem_cons_succ, List.getElem_cons_zero]); go_simp; try with_reducible rfl)
    try simp only [List.getElem_toArray, List.getElem_cons_succ, List.getElem_cons_zero, Act.put, List.setIfInBounds_toArray, List.set_cons_zero, List.set_cons_succ]
    refine wpAnyH_take (i := 2) (v := ?_) rfl (by kernel_rfl) (by kernel_rfl) (by kernel_rfl) (fun _ _ _ h => h) (Or.inl ⟨by rfl, ?_⟩) hHeld ?_
    rotate_left
    · (intro wz hSw; (try dsimp only at hSw); (try simp only [List.getElem_toArray, List.getElem_cons_succ, List.getElem_cons_zero]); go_simp; try with_reducible rfl)
    try simp only [List.getElem_toArray, List.getElem_cons_succ, List.getElem_cons_zero, Act.put, List.setIfInBounds_toArray, List.set_cons_zero, List.set_cons_succ]
    refine wpAnyH_take (i := 3) (v := ?_) rfl (by kernel_rfl) (by kernel_rfl) (by kernel_rfl) (fun _ _ _ h => h) (Or.inl ⟨by rfl, ?_⟩) hHeld ?_
    rotate_left
    · (intro wz hSw; (try dsimp only at hSw); (try simp only [List.getElem_toArray, List.getElem_cons_succ, List.getElem_cons_zero]); go_simp; try with_reducible rfl)
    try simp only [List.getElem_toArray, List.getElem_cons_succ, List.getElem_cons_zero, Act.put, List.setIfInBounds_toArray, List.set_cons_zero, List.set_cons_succ]
    refine wpAnyH_take (i := 4) (v := ?_) rfl (by kernel_rfl) (by kernel_rfl) (by kernel_rfl) (fun _ _ _ h => h) (Or.inl ⟨by rfl, ?_⟩) hHeld ?_
    rotate_left
    · (intro wz hSw; (try dsimp only at hSw); (try simp only [List.getElem_toArray, List.getElem_cons_succ, List.getElem_cons_zero]); go_simp; try with_reducible rfl)
    try simp only [List.getElem_toArray, List.getElem_cons_succ, List.getElem_cons_zero, Act.put, List.setIfInBounds_toArray, List.set_cons_zero, List.set_cons_succ]
    refine wpAnyH_take (i := 5) (v := ?_) rfl (by kernel_rfl) (by kernel_rfl) (by kernel_rfl) (fun _ _ _ h => h) (Or.inl ⟨by rfl, ?_⟩) hHeld ?_
    rotate_left
    · (intro wz hSw; (try dsimp only at hSw); (try simp only [List.getElem_toArray, List.getElem_cons_succ, List.getElem_cons_zero]); go_simp; try with_reducible rfl)
    try simp only [List.getElem_toArray, List.getElem_cons_succ, List.getElem_cons_zero, Act.put, List.setIfInBounds_toArray, List.set_cons_zero, List.set_cons_succ]
    refine wpAnyH_take (i := 6) (v := ?_) rfl (by kernel_rfl) (by kernel_rfl) (by kernel_rfl) (fun _ _ _ h => h) (Or.inl ⟨by rfl, ?_⟩) hHeld ?_
    rotate_left
    · (intro wz hSw; (try dsimp only at hSw); (try simp only [List.getElem_toArray, List.getElem_cons_succ, List.getElem_cons_zero]); go_simp; try with_reducible rfl)
    try simp only [List.getElem_toArray, List.getElem_cons_succ, List.getElem_cons_zero, Act.put, List.setIfInBounds_toArray, List.set_cons_zero, List.set_cons_succ]
    refine wpAnyH_take (i := 7) (v := ?_) rfl (by kernel_rfl) (by kernel_rfl) (by kernel_rfl) (fun _ _ _ h => h) (Or.inl ⟨by rfl, ?_⟩) hHeld ?_
    rotate_left
    · (intro wz hSw; (try dsimp only at hSw); (try simp only [List.getElem_toArray, List.getElem_cons_succ, List.getElem_cons_zero]); go_simp; try with_reducible rfl)
    try simp only [List.getElem_toArray, List.getElem_cons_succ, List.getElem_cons_zero, Act.put, List.setIfInBounds_toArray, List.set_cons_zero, List.set_cons_succ]
    refine wpAnyH_take (i := 8) (v := ?_) rfl (by kernel_rfl) (by kernel_rfl) (by kernel_rfl) (fun _ _ _ h => h) (Or.inl ⟨by rfl, ?_⟩) hHeld ?_
    rotate_left
    · (intro wz hSw; (try dsimp only at hSw); (try simp only [List.getElem_toArray, List.getElem_cons_succ, List.getElem_cons_zero]); go_simp; try with_reducible rfl)
    try simp only [List.getElem_toArray, List.getElem_cons_succ, List.getElem_cons_zero, Act.put, List.setIfInBounds_toArray, List.set_cons_zero, List.set_cons_succ]
    refine wpAnyH_take (i := 9) (v := ?_) rfl (by kernel_rfl) (by kernel_rfl) (by kernel_rfl) (fun _ _ _ h => h) (Or.inl ⟨by rfl, ?_⟩) hHeld ?_
    rotate_left
    · (intro wz hSw; (try dsimp only at hSw); (try simp only [List.getElem_toArray, List.getElem_cons_succ, List.getElem_cons_zero]); go_simp; try with_reducible rfl)
    try simp only [List.getElem_toArray, List.getElem_cons_succ, List.getElem_cons_zero, Act.put, List.setIfInBounds_toArray, List.set_cons_zero, List.set_cons_succ]
    refine wpAnyH_take (i := 10) (v := ?_) rfl (by kernel_rfl) (by kernel_rfl) (by kernel_rfl) (fun _ _ _ h => h) (Or.inl ⟨by rfl, ?_⟩) hHeld ?_
    rotate_left
    · (intro wz hSw; (try dsimp only at hSw); (try simp only [List.getElem_toArray, List.getElem_cons_succ, List.getElem_cons_zero]); go_simp; try with_reducible rfl)
    try simp only [List.getElem_toArray, List.getElem_cons_succ, List.getElem_cons_zero, Act.put, List.setIfInBounds_toArray, List.set_cons_zero, List.set_cons_succ]
    refine wpAnyH_take (i := 11) (v := ?_) rfl (by kernel_rfl) (by kernel_rfl) (by kernel_rfl) (fun _ _ _ h => h) (Or.inl ⟨by rfl, ?_⟩) hHeld ?_
    rotate_left
    · (intro wz hSw; (try dsimp only at hSw); (try simp only [List.getElem_toArray, List.getElem_cons_succ, List.getElem_cons_zero]); go_simp; try with_reducible rfl)
    try simp only [List.getElem_toArray, List.getElem_cons_succ, List.getElem_cons_zero, Act.put, List.setIfInBounds_toArray, List.set_cons_zero, List.set_cons_succ]
    refine wpAnyH_take (i := 12) (v := ?_) rfl (by kernel_rfl) (by kernel_rfl) (by kernel_rfl) (fun _ _ _ h => h) (Or.inl ⟨by rfl, ?_⟩) hHeld ?_
    rotate_left
    · (intro wz hSw; (try dsimp only at hSw); (try simp only [List.getElem_toArray, List.getElem_cons_succ, List.getElem_cons_zero]); go_simp; try with_reducible rfl)
    try simp only [List.getElem_toArray, List.getElem_cons_succ, List.getElem_cons_zero, Act.put, List.setIfInBounds_toArray, List.set_cons_zero, List.set_cons_succ]
    refine wpAnyH_take (i := 13) (v := ?_) rfl (by kernel_rfl) (by kernel_rfl) (by kernel_rfl) (fun _ _ _ h => h) (Or.inl ⟨by rfl, ?_⟩) hHeld ?_
    rotate_left
    · (intro wz hSw; (try dsimp only at hSw); (try simp only [List.getElem_toArray, List.getElem_cons_succ, List.getElem_cons_zero]); go_simp; try with_reducible rfl)
    try simp only [List.getElem_toArray, List.getElem_cons_succ, List.getElem_cons_zero, Act.put, List.setIfInBounds_toArray, List.set_cons_zero, List.set_cons_succ]
    refine wpAnyH_ready (rs := [14]) (by kernel_rfl) (by simp) ?_; refine AllReadyH.cons rfl (fun K hK => ?_) AllReadyH.nil
    rw [if_pos (by rfl)]
    refine wp_store_mid 48 _ _ (by rfl) Z 0 y.v.toArray (by rfl) (by rfl) (there_of_block (o := 0) (n := 45) HOD.out.z (Nat.le_of_ble_eq_true rfl)) (by kernel_rfl) (one_all rfl) ?_
    have hs := block_setCells y.v 0 HOD.out.z
    obtain ⟨we, hwe⟩ : ∃ z : World, wd.setCells Z 0 y.v = z := ⟨_, rfl⟩
    rw [hwe] at hs
    rw [show (wd.setCells Z 0 y.v.toArray.toList) = we from hwe]
    have hAe := stays_at hs.2 HOD.out.a hZA.symm
    have hRe := stays_at hs.2 hRq hRZ
    refine hK.out _ _ ⟨hAe, block_cells hRe⟩ (fun _ => ?_)
    clear hK K hHeld
    try simp only [List.getElem_toArray, List.getElem_cons_succ, List.getElem_cons_zero, Act.put]
    have hHeld : we.heap[A]? = some (.cells y.v.toArray 48 (0, 0)) ∧ ∀ j, we.cell? ⟨R, j, none⟩ = #[.slice rp ys2.length rcp, .bool false][j]? := ⟨hAe, block_cells hRe⟩
    refine wpAnyH_take (i := 15) (v := ?_) rfl (by kernel_rfl) (by kernel_rfl) (by kernel_rfl) (fun _ _ _ h => h) (Or.inl ⟨by rfl, ?_⟩) hHeld ?_
    rotate_left
    · (intro wz hSw; (try dsimp only at hSw); (try simp only [List.getElem_toArray, List.getElem_cons_succ, List.getElem_cons_zero]); go_simp; try with_reducible rfl)
    try simp only [List.getElem_toArray, List.getElem_cons_succ, List.getElem_cons_zero, Act.put, List.setIfInBounds_toArray, List.set_cons_zero, List.set_cons_succ]
    refine wpAnyH_done (by kernel_rfl) ?_ _
    have hZe : we.heap[Z]? = some (.cells y.v.toArray 48 (0, 0)) := by rw [← hwe]; exact block_all HOD.out.z rfl
    have HZe := Lib.hid hZe
    have HBe := Lib.hid (And.intro (HOD.out.bl.grown hs.2 HOD.out.lt (fun k e => by cases e; omega)) (grown_new HOD.out.g hs.2 (fun k e => by cases e; exact HOD.out.nZ)))
    have HOe := Lib.hid (HOD.out.o.kept hs.2 (own_other HOD.out.o HOD.out.z (by decide)))
    clear hHeld hs hwe hAe hRe hRq hZe
    go_wp2_with fail
    refine bodyPost_ret (v := .tuple #[.agg y.v.toArray, .bool false]) ?_ rfl ?_
    · rw [results_cell_tmp rfl]
      simp [asAddr, run_loadVar_row we Z _ _ _ _ _ HZe.out Try.underlying48 rfl (by kernel_rfl), Result.andThen]
    · refine ⟨y, ?_, HBe.out, ?_⟩
      · rw [HS.out]; simp [allR, HY.out]
      · intro rc h; rw [HS.out] at h; exact ⟨HRC.out rc h, HOe.out⟩
set_option maxRecDepth 100000 in
set_option maxHeartbeats 16000000 in
theorem one_X (B0 B R : Nat) (hB0 : B0 ≤ B) (x : CoX) (xs : List Int) (w : World) (hf : LgFit x.c.l) (ho : CoOwn B0 w x) (hr : RfW B w R xs false) :
    Calls Try.prog 34 #[.int .u8 88, .pointer (some ⟨R, 0, none⟩), .agg x.v.toArray] w (OneE B0 B R w x (sayR 88 xs)) := by
  obtain ⟨⟨v1, ys1, b1⟩, e1⟩ : ∃ r, rfNm xs false = r := ⟨_, rfl⟩
  have HS : Hid (sayR 88 xs = allR (v1, ys1, b1) fun p => .ct p) := by show _ = _; unfold sayR; rw [if_neg (by decide), if_neg (by decide), if_neg (by decide), if_pos rfl, e1]
  have hrg := rfNm_range xs false
  rw [e1] at hrg
  have E1 := Lib.hid e1
  clear e1
  obtain ⟨W0, hW0⟩ : ∃ z : World, w.alloc (.cells x.v.toArray 48) = z := ⟨_, rfl⟩
  obtain ⟨W, hW⟩ : ∃ z : World, W0.alloc (.cells (coL co0 none 0).toArray 48) = z := ⟨_, rfl⟩
  have hs0 : W0.heap.size = w.heap.size + 1 := by rw [← hW0]; simp
  have b0 : Below w.heap.size w W0 := by rw [← hW0]; exact (Below.refl _ _).alloc (Nat.le_refl _) _
  have b1 : Below W0.heap.size W0 W := by rw [← hW]; exact (Below.refl _ _).alloc (Nat.le_refl _) _
  have bW := b0.trans (b1.mono b0.size)
  have hBw : B ≤ w.heap.size := Nat.le_of_lt (Nat.lt_of_le_of_lt hr.r.1 hr.lt)
  have hA : W.heap[w.heap.size]? = some (.cells x.v.toArray 48 (0, 0)) := below_block b1 (by omega) (by rw [← hW0]; exact heap_last w _)
  have hZ : W.heap[w.heap.size + 1]? = some (.cells (coL co0 none 0).toArray 48 (0, 0)) := by rw [← hW, ← hs0]; exact heap_last W0 _
  obtain ⟨A, eA⟩ : ∃ z, w.heap.size = z := ⟨_, rfl⟩
  obtain ⟨Z, eZ⟩ : ∃ z, A + 1 = z := ⟨_, rfl⟩
  rw [eA] at hA hZ
  rw [eZ] at hZ
  have HO0 := Lib.hid (show OnW B0 B A Z R w W xs false x from ⟨bW.mono hBw, hA, hZ, hr.keep bW (Nat.le_refl _), own_keptC ho bW, grown_belowC bW _, by omega, by omega⟩)
  have hRA : R ≠ A := by have := hr.lt; omega
  have hRZ : R ≠ Z := by have := hr.lt; omega
  have hZA : Z ≠ A := by omega
  have hBA : B ≤ A := by omega
  have hBZ : B ≤ Z := by omega
  have HWG := Lib.hid (show (w.alloc (.cells x.v.toArray 48)).alloc (.cells #[.int .i64 0, .int .i64 0, .int .i64 0, .int .i64 0, .int .i64 0, .int .i64 0, .int .i64 0, .int .i64 0, .int .i64 0, .int .i64 0, .int .u16 0, .int .u16 0, .int .u16 0, .int .i64 0, .int .i64 0, .int .u16 0, .int .u16 0, .int .u16 0, .int .i64 0, .int .i64 0, .bool false, .slice none 0 0, .string ⟨#[]⟩, .int .u16 0, .int .u16 0, .int .i64 0, .int .i64 0, .int .i64 0, .int .i64 0, .int .i64 0, .int .i64 0, .int .i64 0, .int .i64 0, .int .i64 0, .int .i64 0, .int .i64 0, .int .i64 0, .int .i64 0, .int .i64 0, .int .i64 0, .int .i64 0, .int .i64 0, .int .i64 0, .int .i64 0, .int .i64 0] 48) = W by rw [hW0]; exact hW)
  have HEA := Lib.hid eA; have HEZ := Lib.hid eZ; have HW0 := Lib.hid hW0; have HW := Lib.hid hW; have HS0 := Lib.hid hs0; have HF := Lib.hid hf; have HOC := Lib.hid hr.o
  clear hW0 hW hs0 b0 b1 bW hA hZ eA eZ ho hr hf hBw
  go_enter Try.func34, Try.ntmps34
  go_upto_region 1 with fail
  rw [HWG.out, HEA.out, HEZ.out]
  go_upto_block 0 with fail
  go_cut [] from 20 to 119 (fun wx => Hid (∃ y : CoX, OnW B0 B A Z R w wx ys1 b1 y ∧ ∀ rc, allR (v1, ys1, b1) (fun p => Rc.ct p) = some rc → y.c = apRc x.c rc))
  case first =>
    have HC1 := Lib.hid (rhnum_any B R xs false W HO0.out.r)
    rw [E1.out] at HC1
    go_wp2_with fail
    refine HC1.out.mono ?_; rintro e w1 ⟨rfl, h1, g1⟩
    dsimp only at h1 ⊢
    have HO1 := Lib.hid (HO0.out.rd hRA.symm hRZ.symm h1 g1)
    clear h1 g1 HC1
    have hb0 := HF.out.b0; have hb1 := HF.out.b1
    have hE1 := EnSl.of_own HO1.out.o
    have HLR := Lib.hid (show w1.rangeAt A 8 [.int .i64 x.c.l.b, .int .i64 x.c.l.bt, .int .u16 x.c.l.j.ov, .int .u16 x.c.l.j.ox, .int .u16 x.c.l.j.ol, .int .i64 x.c.l.j.oe, .int .i64 x.c.l.j.ok, .int .u16 x.c.l.j.nv, .int .u16 x.c.l.j.nx, .int .u16 x.c.l.j.nl, .int .i64 x.c.l.j.ne, .int .i64 x.c.l.j.nk, .bool x.c.l.j.two, .slice x.p x.c.l.es.length x.k] from range_of (n := 14) rfl (fun j hj => by rw [HO1.out.cell]; exact coL_logT x j hj))
    have HC := Lib.hid (upto_any x.c.l x.p x.k v1 w1 hb0 hb1 HF.out.n hE1)
    clear hE1
    go_wp2_with (with_reducible refine wpList_load_g (op := ⟨some 33, _, _, _, _, _⟩) (by kernel_rfl) _ _ rfl A 8 rfl [.int .i64 x.c.l.b, .int .i64 x.c.l.bt, .int .u16 x.c.l.j.ov, .int .u16 x.c.l.j.ox, .int .u16 x.c.l.j.ol, .int .i64 x.c.l.j.oe, .int .i64 x.c.l.j.ok, .int .u16 x.c.l.j.nv, .int .u16 x.c.l.j.nx, .int .u16 x.c.l.j.nl, .int .i64 x.c.l.j.ne, .int .i64 x.c.l.j.nk, .bool x.c.l.j.two, .slice x.p x.c.l.es.length x.k] _ HLR.out Try.underlying45 rfl (by kernel_rfl) ?_)
    refine HC.out.mono ?_; rintro e w2 ⟨v, rfl, ho, hb⟩
    obtain ⟨q, cq, hvv⟩ := own_slice ho
    obtain ⟨mn, hmn⟩ : ∃ m, (x.c.l.es.take (v1 - x.c.l.b).toNat).length = m := ⟨_, rfl⟩
    rw [hmn] at hvv
    subst hvv
    have HMN := Lib.hid hmn
    have HO2 := Lib.hid (HO1.out.keep hb)
    have HOO := Lib.hid (ho.mono (Nat.le_trans hB0 HO1.out.lt))
    have k21 : w2.cell? ⟨A, 21, none⟩ = some (.slice x.p x.c.l.es.length x.k) := (HO2.out.cell 21).trans rfl
    have fA := HO2.out.free
    have HP := Lib.hid (HO2.out.puts hBA hRA hZA 21 [.slice q mn cq] (y := ⟨{ x.c with l := { x.c.l with es := x.c.l.es.take (v1 - x.c.l.b).toNat } }, q, cq⟩) (by rw [← HMN.out]; rfl) (show CoOwn B0 w2 _ from by unfold CoOwn; rw [HMN.out]; have h := HOO.out; rw [HMN.out] at h; exact h))
    clear ho hb HC HLR hmn
    go_wp2_with fail
    go_meet
    case rel => exact ⟨_, HP.out, fun rc h => by unfold allR at h; split at h <;> cases h; rfl⟩
  obtain ⟨wy, rfl⟩ : ∃ z : World, z = wc := ⟨_, rfl⟩
  obtain ⟨y, hoy, hrc⟩ := hcut.out
  have HOY := Lib.hid hoy; have HRC := Lib.hid hrc
  clear hcut hoy hrc
  have hcs : (b1 = true) ∨ (b1 = false ∧ ys1 = []) ∨ (b1 = false ∧ ys1 ≠ []) := by
    cases b1
    · by_cases h : ys1 = []
      · exact .inr (.inl ⟨rfl, h⟩)
      · exact .inr (.inr ⟨rfl, h⟩)
    · exact .inl rfl
  rcases hcs with hb | ⟨hb, hy⟩ | ⟨hb, hy⟩
  · subst hb
    go_upto_region 25 with fail
    obtain ⟨wd, ewd⟩ : ∃ z, wy.drew = z := ⟨_, rfl⟩
    have HOD := Lib.hid (show OnW B0 B A Z R w wd _ _ y from HOY.out.keep (by rw [← ewd]; exact (Below.refl _ _).drew))
    obtain ⟨hBR, rp, rcp, hRq, _⟩ := HOD.out.r.r
    have HZR := Lib.hid (show Z ≠ R from hRZ.symm)
    refine wp_region_held_drew (S := fun w' => w'.heap[A]? = some (.cells y.v.toArray 48 (0, 0)) ∧ ∀ j, w'.cell? ⟨R, j, none⟩ = #[.slice rp ys1.length rcp, .bool true][j]?) (by kernel_rfl) (by rw [ewd]; exact ⟨HOD.out.a, block_cells hRq⟩) (fun hHeld => ?_)
    rw [ewd] at hHeld ⊢
    clear ewd
    refine wpAnyH_take (i := 0) (v := .agg y.v.toArray) rfl (by kernel_rfl) (by kernel_rfl) (by kernel_rfl) (fun _ _ _ h => h) (yieldsIf_load_mid (by rfl) _ _ rfl A 0 rfl y.v _ (fun w' h => range_of (n := 45) rfl (fun j _ => by rw [Nat.zero_add, block_cells h.1, List.getElem?_toArray])) Try.underlying48 rfl (by kernel_rfl)) hHeld ?_
    try simp only [List.getElem_toArray, List.getElem_cons_zero, Act.put, List.setIfInBounds_toArray, List.set_cons_zero, List.set_cons_succ]
    refine wpAnyH_take (i := 1) (v := ?_) rfl (by kernel_rfl) (by kernel_rfl) (by kernel_rfl) (fun _ _ _ h => h) (Or.inl ⟨by rfl, ?_⟩) hHeld ?_
    rotate_left
    · (intro wz hSw; (try dsimp only at hSw); (try simp only [List.getElem_toArray, List.getElem_cons_succ, List.getElem_cons_zero]); go_simp; try with_reducible rfl)
    try simp only [List.getElem_toArray, List.getElem_cons_succ, List.getElem_cons_zero, Act.put, List.setIfInBounds_toArray, List.set_cons_zero, List.set_cons_succ]
    refine wpAnyH_take (i := 2) (v := ?_) rfl (by kernel_rfl) (by kernel_rfl) (by kernel_rfl) (fun _ _ _ h => h) (Or.inl ⟨by rfl, ?_⟩) hHeld ?_
    rotate_left
    · (intro wz hSw; (try dsimp only at hSw); (try simp only [List.getElem_toArray, List.getElem_cons_succ, List.getElem_cons_zero]); go_simp; try with_reducible rfl)
    try simp only [List.getElem_toArray, List.getElem_cons_succ, List.getElem_cons_zero, Act.put, List.setIfInBounds_toArray, List.set_cons_zero, List.set_cons_succ]
    refine wpAnyH_take (i := 3) (v := ?_) rfl (by kernel_rfl) (by kernel_rfl) (by kernel_rfl) (fun _ _ _ h => h) (Or.inl ⟨by rfl, ?_⟩) hHeld ?_
    rotate_left
    · (intro wz hSw; (try dsimp only at hSw); (try simp only [List.getElem_toArray, List.getElem_cons_succ, List.getElem_cons_zero]); go_simp; try with_reducible rfl)
    try simp only [List.getElem_toArray, List.getElem_cons_succ, List.getElem_cons_zero, Act.put, List.setIfInBounds_toArray, List.set_cons_zero, List.set_cons_succ]
    refine wpAnyH_take (i := 4) (v := ?_) rfl (by kernel_rfl) (by kernel_rfl) (by kernel_rfl) (fun _ _ _ h => h) (Or.inl ⟨by rfl, ?_⟩) hHeld ?_
    rotate_left
    · (intro wz hSw; (try dsimp only at hSw); (try simp only [List.getElem_toArray, List.getElem_cons_succ, List.getElem_cons_zero]); go_simp; try with_reducible rfl)
    try simp only [List.getElem_toArray, List.getElem_cons_succ, List.getElem_cons_zero, Act.put, List.setIfInBounds_toArray, List.set_cons_zero, List.set_cons_succ]
    refine wpAnyH_take (i := 5) (v := ?_) rfl (by kernel_rfl) (by kernel_rfl) (by kernel_rfl) (fun _ _ _ h => h) (Or.inl ⟨by rfl, ?_⟩) hHeld ?_
    rotate_left
    · (intro wz hSw; (try dsimp only at hSw); (try simp only [List.getElem_toArray, List.getElem_cons_succ, List.getElem_cons_zero]); go_simp; try with_reducible rfl)
    try simp only [List.getElem_toArray, List.getElem_cons_succ, List.getElem_cons_zero, Act.put, List.setIfInBounds_toArray, List.set_cons_zero, List.set_cons_succ]
    refine wpAnyH_take (i := 6) (v := ?_) rfl (by kernel_rfl) (by kernel_rfl) (by kernel_rfl) (fun _ _ _ h => h) (Or.inl ⟨by rfl, ?_⟩) hHeld ?_
    rotate_left
    · (intro wz hSw; (try dsimp only at hSw); (try simp only [List.getElem_toArray, List.getElem_cons_succ, List.getElem_cons_zero]); go_simp; try with_reducible rfl)
    try simp only [List.getElem_toArray, List.getElem_cons_succ, List.getElem_cons_zero, Act.put, List.setIfInBounds_toArray, List.set_cons_zero, List.set_cons_succ]
    refine wpAnyH_take (i := 7) (v := undef) rfl (by kernel_rfl) (by kernel_rfl) (by kernel_rfl) (fun _ _ _ h => h) (Or.inr ⟨by rfl, rfl⟩) hHeld ?_
    try simp only [List.getElem_toArray, List.getElem_cons_succ, List.getElem_cons_zero, Act.put, List.setIfInBounds_toArray, List.set_cons_zero, List.set_cons_succ]
    refine wpAnyH_take (i := 8) (v := undef) rfl (by kernel_rfl) (by kernel_rfl) (by kernel_rfl) (fun _ _ _ h => h) (Or.inr ⟨by rfl, rfl⟩) hHeld ?_
    try simp only [List.getElem_toArray, List.getElem_cons_succ, List.getElem_cons_zero, Act.put, List.setIfInBounds_toArray, List.set_cons_zero, List.set_cons_succ]
    refine wpAnyH_take (i := 9) (v := undef) rfl (by kernel_rfl) (by kernel_rfl) (by kernel_rfl) (fun _ _ _ h => h) (Or.inr ⟨by rfl, rfl⟩) hHeld ?_
    try simp only [List.getElem_toArray, List.getElem_cons_succ, List.getElem_cons_zero, Act.put, List.setIfInBounds_toArray, List.set_cons_zero, List.set_cons_succ]
    refine wpAnyH_take (i := 10) (v := undef) rfl (by kernel_rfl) (by kernel_rfl) (by kernel_rfl) (fun _ _ _ h => h) (Or.inr ⟨by rfl, rfl⟩) hHeld ?_
    try simp only [List.getElem_toArray, List.getElem_cons_succ, List.getElem_cons_zero, Act.put, List.setIfInBounds_toArray, List.set_cons_zero, List.set_cons_succ]
    refine wpAnyH_take (i := 11) (v := undef) rfl (by kernel_rfl) (by kernel_rfl) (by kernel_rfl) (fun _ _ _ h => h) (Or.inr ⟨by rfl, rfl⟩) hHeld ?_
    try simp only [List.getElem_toArray, List.getElem_cons_succ, List.getElem_cons_zero, Act.put, List.setIfInBounds_toArray, List.set_cons_zero, List.set_cons_succ]
    refine wpAnyH_take (i := 12) (v := undef) rfl (by kernel_rfl) (by kernel_rfl) (by kernel_rfl) (fun _ _ _ h => h) (Or.inr ⟨by rfl, rfl⟩) hHeld ?_
    try simp only [List.getElem_toArray, List.getElem_cons_succ, List.getElem_cons_zero, Act.put, List.setIfInBounds_toArray, List.set_cons_zero, List.set_cons_succ]
    refine wpAnyH_take (i := 13) (v := ?_) rfl (by kernel_rfl) (by kernel_rfl) (by kernel_rfl) (fun _ _ _ h => h) (Or.inl ⟨by rfl, ?_⟩) hHeld ?_
    rotate_left
    · (intro wz hSw; (try dsimp only at hSw); (try simp only [List.getElem_toArray, List.getElem_cons_succ, List.getElem_cons_zero]); go_simp; try with_reducible rfl)
    try simp only [List.getElem_toArray, List.getElem_cons_succ, List.getElem_cons_zero, Act.put, List.setIfInBounds_toArray, List.set_cons_zero, List.set_cons_succ]
    refine wpAnyH_ready (rs := [14]) (by kernel_rfl) (by simp) ?_; refine AllReadyH.cons rfl (fun K hK => ?_) AllReadyH.nil
    rw [if_pos (by rfl)]
    refine wp_store_mid 48 _ _ (by rfl) Z 0 y.v.toArray (by rfl) (by rfl) (there_of_block (o := 0) (n := 45) HOD.out.z (Nat.le_of_ble_eq_true rfl)) (by kernel_rfl) (one_all rfl) ?_
    have hs := block_setCells y.v 0 HOD.out.z
    obtain ⟨we, hwe⟩ : ∃ z : World, wd.setCells Z 0 y.v = z := ⟨_, rfl⟩
    rw [hwe] at hs
    rw [show (wd.setCells Z 0 y.v.toArray.toList) = we from hwe]
    have hAe := stays_at hs.2 HOD.out.a hZA.symm
    have hRe := stays_at hs.2 hRq hRZ
    refine hK.out _ _ ⟨hAe, block_cells hRe⟩ (fun _ => ?_)
    clear hK K hHeld
    try simp only [List.getElem_toArray, List.getElem_cons_succ, List.getElem_cons_zero, Act.put]
    have hHeld : we.heap[A]? = some (.cells y.v.toArray 48 (0, 0)) ∧ ∀ j, we.cell? ⟨R, j, none⟩ = #[.slice rp ys1.length rcp, .bool true][j]? := ⟨hAe, block_cells hRe⟩
    refine wpAnyH_take (i := 15) (v := ?_) rfl (by kernel_rfl) (by kernel_rfl) (by kernel_rfl) (fun _ _ _ h => h) (Or.inl ⟨by rfl, ?_⟩) hHeld ?_
    rotate_left
    · (intro wz hSw; (try dsimp only at hSw); (try simp only [List.getElem_toArray, List.getElem_cons_succ, List.getElem_cons_zero]); go_simp; try with_reducible rfl)
    try simp only [List.getElem_toArray, List.getElem_cons_succ, List.getElem_cons_zero, Act.put, List.setIfInBounds_toArray, List.set_cons_zero, List.set_cons_succ]
    refine wpAnyH_done (by kernel_rfl) ?_ _
    have hZe : we.heap[Z]? = some (.cells y.v.toArray 48 (0, 0)) := by rw [← hwe]; exact block_all HOD.out.z rfl
    have HZe := Lib.hid hZe
    have HBe := Lib.hid (And.intro (HOD.out.bl.grown hs.2 HOD.out.lt (fun k e => by cases e; omega)) (grown_new HOD.out.g hs.2 (fun k e => by cases e; exact HOD.out.nZ)))
    have HOe := Lib.hid (HOD.out.o.kept hs.2 (own_other HOD.out.o HOD.out.z (by decide)))
    clear hHeld hs hwe hAe hRe hRq hZe
    go_wp2_with fail
    refine bodyPost_ret (v := .tuple #[.agg y.v.toArray, .bool false]) ?_ rfl ?_
    · rw [results_cell_tmp rfl]
      simp [asAddr, run_loadVar_row we Z _ _ _ _ _ HZe.out Try.underlying48 rfl (by kernel_rfl), Result.andThen]
    · refine ⟨y, ?_, HBe.out, ?_⟩
      · rw [HS.out]; simp [allR]
      · intro rc h; rw [HS.out] at h; exact ⟨HRC.out rc h, HOe.out⟩
  · subst hb
    have hy0 := hy
    have hl0 : ys1.length = 0 := by rw [hy]; rfl
    have hl1 : ((ys1.length : Int) == 0) = true := by rw [hl0]; rfl
    clear hy0 hy
    have hy := List.eq_nil_of_length_eq_zero hl0
    have HY := Lib.hid hy
    clear hy hl0
    go_upto_region 25 with fail
    obtain ⟨wd, ewd⟩ : ∃ z, wy.drew = z := ⟨_, rfl⟩
    have HOD := Lib.hid (show OnW B0 B A Z R w wd _ _ y from HOY.out.keep (by rw [← ewd]; exact (Below.refl _ _).drew))
    obtain ⟨hBR, rp, rcp, hRq, _⟩ := HOD.out.r.r
    have HZR := Lib.hid (show Z ≠ R from hRZ.symm)
    refine wp_region_held_drew (S := fun w' => w'.heap[A]? = some (.cells y.v.toArray 48 (0, 0)) ∧ ∀ j, w'.cell? ⟨R, j, none⟩ = #[.slice rp ys1.length rcp, .bool false][j]?) (by kernel_rfl) (by rw [ewd]; exact ⟨HOD.out.a, block_cells hRq⟩) (fun hHeld => ?_)
    rw [ewd] at hHeld ⊢
    clear ewd
    refine wpAnyH_take (i := 0) (v := .agg y.v.toArray) rfl (by kernel_rfl) (by kernel_rfl) (by kernel_rfl) (fun _ _ _ h => h) (yieldsIf_load_mid (by rfl) _ _ rfl A 0 rfl y.v _ (fun w' h => range_of (n := 45) rfl (fun j _ => by rw [Nat.zero_add, block_cells h.1, List.getElem?_toArray])) Try.underlying48 rfl (by kernel_rfl)) hHeld ?_
    try simp only [List.getElem_toArray, List.getElem_cons_zero, Act.put, List.setIfInBounds_toArray, List.set_cons_zero, List.set_cons_succ]
    refine wpAnyH_take (i := 1) (v := ?_) rfl (by kernel_rfl) (by kernel_rfl) (by kernel_rfl) (fun _ _ _ h => h) (Or.inl ⟨by rfl, ?_⟩) hHeld ?_
    rotate_left
    · (intro wz hSw; (try dsimp only at hSw); (try simp only [List.getElem_toArray, List.getElem_cons_succ, List.getElem_cons_zero]); go_simp; try with_reducible rfl)
    try simp only [List.getElem_toArray, List.getElem_cons_succ, List.getElem_cons_zero, Act.put, List.setIfInBounds_toArray, List.set_cons_zero, List.set_cons_succ]
    refine wpAnyH_take (i := 2) (v := ?_) rfl (by kernel_rfl) (by kernel_rfl) (by kernel_rfl) (fun _ _ _ h => h) (Or.inl ⟨by rfl, ?_⟩) hHeld ?_
    rotate_left
    · (intro wz hSw; (try dsimp only at hSw); (try simp only [List.getElem_toArray, List.getElem_cons_succ, List.getElem_cons_zero]); go_simp; try with_reducible rfl)
    try simp only [List.getElem_toArray, List.getElem_cons_succ, List.getElem_cons_zero, Act.put, List.setIfInBounds_toArray, List.set_cons_zero, List.set_cons_succ]
    refine wpAnyH_take (i := 3) (v := ?_) rfl (by kernel_rfl) (by kernel_rfl) (by kernel_rfl) (fun _ _ _ h => h) (Or.inl ⟨by rfl, ?_⟩) hHeld ?_
    rotate_left
    · (intro wz hSw; (try dsimp only at hSw); (try simp only [List.getElem_toArray, List.getElem_cons_succ, List.getElem_cons_zero]); go_simp; try with_reducible rfl)
    try simp only [List.getElem_toArray, List.getElem_cons_succ, List.getElem_cons_zero, Act.put, List.setIfInBounds_toArray, List.set_cons_zero, List.set_cons_succ]
    refine wpAnyH_take (i := 4) (v := ?_) rfl (by kernel_rfl) (by kernel_rfl) (by kernel_rfl) (fun _ _ _ h => h) (Or.inl ⟨by rfl, ?_⟩) hHeld ?_
    rotate_left
    · (intro wz hSw; (try dsimp only at hSw); (try simp only [List.getElem_toArray, List.getElem_cons_succ, List.getElem_cons_zero]); go_simp; try with_reducible rfl)
    try simp only [List.getElem_toArray, List.getElem_cons_succ, List.getElem_cons_zero, Act.put, List.setIfInBounds_toArray, List.set_cons_zero, List.set_cons_succ]
    refine wpAnyH_take (i := 5) (v := ?_) rfl (by kernel_rfl) (by kernel_rfl) (by kernel_rfl) (fun _ _ _ h => h) (Or.inl ⟨by rfl, ?_⟩) hHeld ?_
    rotate_left
    · (intro wz hSw; (try dsimp only at hSw); (try simp only [List.getElem_toArray, List.getElem_cons_succ, List.getElem_cons_zero]); go_simp; try with_reducible rfl)
    try simp only [List.getElem_toArray, List.getElem_cons_succ, List.getElem_cons_zero, Act.put, List.setIfInBounds_toArray, List.set_cons_zero, List.set_cons_succ]
    refine wpAnyH_take (i := 6) (v := ?_) rfl (by kernel_rfl) (by kernel_rfl) (by kernel_rfl) (fun _ _ _ h => h) (Or.inl ⟨by rfl, ?_⟩) hHeld ?_
    rotate_left
    · (intro wz hSw; (try dsimp only at hSw); (try simp only [List.getElem_toArray, List.getElem_cons_succ, List.getElem_cons_zero]); go_simp; try with_reducible rfl)
    try simp only [List.getElem_toArray, List.getElem_cons_succ, List.getElem_cons_zero, Act.put, List.setIfInBounds_toArray, List.set_cons_zero, List.set_cons_succ]
    refine wpAnyH_take (i := 7) (v := ?_) rfl (by kernel_rfl) (by kernel_rfl) (by kernel_rfl) (fun _ _ _ h => h) (Or.inl ⟨by rfl, ?_⟩) hHeld ?_
    rotate_left
    · (intro wz hSw; (try dsimp only at hSw); (try simp only [List.getElem_toArray, List.getElem_cons_succ, List.getElem_cons_zero]); go_simp; try with_reducible rfl)
    try simp only [List.getElem_toArray, List.getElem_cons_succ, List.getElem_cons_zero, Act.put, List.setIfInBounds_toArray, List.set_cons_zero, List.set_cons_succ]
    refine wpAnyH_take (i := 8) (v := ?_) rfl (by kernel_rfl) (by kernel_rfl) (by kernel_rfl) (fun _ _ _ h => h) (Or.inl ⟨by rfl, ?_⟩) hHeld ?_
    rotate_left
    · (intro wz hSw; (try dsimp only at hSw); (try simp only [List.getElem_toArray, List.getElem_cons_succ, List.getElem_cons_zero]); go_simp; try with_reducible rfl)
    try simp only [List.getElem_toArray, List.getElem_cons_succ, List.getElem_cons_zero, Act.put, List.setIfInBounds_toArray, List.set_cons_zero, List.set_cons_succ]
    refine wpAnyH_take (i := 9) (v := ?_) rfl (by kernel_rfl) (by kernel_rfl) (by kernel_rfl) (fun _ _ _ h => h) (Or.inl ⟨by rfl, ?_⟩) hHeld ?_
    rotate_left
    · (intro wz hSw; (try dsimp only at hSw); (try simp only [List.getElem_toArray, List.getElem_cons_succ, List.getElem_cons_zero]); go_simp; try with_reducible rfl)
    try simp only [List.getElem_toArray, List.getElem_cons_succ, List.getElem_cons_zero, Act.put, List.setIfInBounds_toArray, List.set_cons_zero, List.set_cons_succ]
    refine wpAnyH_take (i := 10) (v := ?_) rfl (by kernel_rfl) (by kernel_rfl) (by kernel_rfl) (fun _ _ _ h => h) (Or.inl ⟨by rfl, ?_⟩) hHeld ?_
    rotate_left
    · (intro wz hSw; (try dsimp only at hSw); (try simp only [List.getElem_toArray, List.getElem_cons_succ, List.getElem_cons_zero]); go_simp; try with_reducible rfl)
    try simp only [List.getElem_toArray, List.getElem_cons_succ, List.getElem_cons_zero, Act.put, List.setIfInBounds_toArray, List.set_cons_zero, List.set_cons_succ]
    refine wpAnyH_take (i := 11) (v := ?_) rfl (by kernel_rfl) (by kernel_rfl) (by kernel_rfl) (fun _ _ _ h => h) (Or.inl ⟨by rfl, ?_⟩) hHeld ?_
    rotate_left
    · (intro wz hSw; (try dsimp only at hSw); (try simp only [List.getElem_toArray, List.getElem_cons_succ, List.getElem_cons_zero]); go_simp; try with_reducible rfl)
    try simp only [List.getElem_toArray, List.getElem_cons_succ, List.getElem_cons_zero, Act.put, List.setIfInBounds_toArray, List.set_cons_zero, List.set_cons_succ]
    refine wpAnyH_take (i := 12) (v := ?_) rfl (by kernel_rfl) (by kernel_rfl) (by kernel_rfl) (fun _ _ _ h => h) (Or.inl ⟨by rfl, ?_⟩) hHeld ?_
    rotate_left
    · (intro wz hSw; (try dsimp only at hSw); (try simp only [List.getElem_toArray, List.getElem_cons_succ, List.getElem_cons_zero]); go_simp; try with_reducible rfl)
    try simp only [List.getElem_toArray, List.getElem_cons_succ, List.getElem_cons_zero, Act.put, List.setIfInBounds_toArray, List.set_cons_zero, List.set_cons_succ]
    refine wpAnyH_take (i := 13) (v := ?_) rfl (by kernel_rfl) (by kernel_rfl) (by kernel_rfl) (fun _ _ _ h => h) (Or.inl ⟨by rfl, ?_⟩) hHeld ?_
    rotate_left
    · (intro wz hSw; (try dsimp only at hSw); (try simp only [List.getElem_toArray, List.getElem_cons_succ, List.getElem_cons_zero]); go_simp; try with_reducible rfl)
    try simp only [List.getElem_toArray, List.getElem_cons_succ, List.getElem_cons_zero, Act.put, List.setIfInBounds_toArray, List.set_cons_zero, List.set_cons_succ]
    refine wpAnyH_ready (rs := [14]) (by kernel_rfl) (by simp) ?_; refine AllReadyH.cons rfl (fun K hK => ?_) AllReadyH.nil
    rw [if_pos (by rfl)]
    refine wp_store_mid 48 _ _ (by rfl) Z 0 y.v.toArray (by rfl) (by rfl) (there_of_block (o := 0) (n := 45) HOD.out.z (Nat.le_of_ble_eq_true rfl)) (by kernel_rfl) (one_all rfl) ?_
    have hs := block_setCells y.v 0 HOD.out.z
    obtain ⟨we, hwe⟩ : ∃ z : World, wd.setCells Z 0 y.v = z := ⟨_, rfl⟩
    rw [hwe] at hs
    rw [show (wd.setCells Z 0 y.v.toArray.toList) = we from hwe]
    have hAe := stays_at hs.2 HOD.out.a hZA.symm
    have hRe := stays_at hs.2 hRq hRZ
    refine hK.out _ _ ⟨hAe, block_cells hRe⟩ (fun _ => ?_)
    clear hK K hHeld
    try simp only [List.getElem_toArray, List.getElem_cons_succ, List.getElem_cons_zero, Act.put]
    have hHeld : we.heap[A]? = some (.cells y.v.toArray 48 (0, 0)) ∧ ∀ j, we.cell? ⟨R, j, none⟩ = #[.slice rp ys1.length rcp, .bool false][j]? := ⟨hAe, block_cells hRe⟩
    refine wpAnyH_take (i := 15) (v := ?_) rfl (by kernel_rfl) (by kernel_rfl) (by kernel_rfl) (fun _ _ _ h => h) (Or.inl ⟨by rfl, ?_⟩) hHeld ?_
    rotate_left
    · (intro wz hSw; (try dsimp only at hSw); (try simp only [List.getElem_toArray, List.getElem_cons_succ, List.getElem_cons_zero]); go_simp; try with_reducible rfl)
    try simp only [List.getElem_toArray, List.getElem_cons_succ, List.getElem_cons_zero, Act.put, List.setIfInBounds_toArray, List.set_cons_zero, List.set_cons_succ]
    refine wpAnyH_done (by kernel_rfl) ?_ _
    have hZe : we.heap[Z]? = some (.cells y.v.toArray 48 (0, 0)) := by rw [← hwe]; exact block_all HOD.out.z rfl
    have HZe := Lib.hid hZe
    have HBe := Lib.hid (And.intro (HOD.out.bl.grown hs.2 HOD.out.lt (fun k e => by cases e; omega)) (grown_new HOD.out.g hs.2 (fun k e => by cases e; exact HOD.out.nZ)))
    have HOe := Lib.hid (HOD.out.o.kept hs.2 (own_other HOD.out.o HOD.out.z (by decide)))
    clear hHeld hs hwe hAe hRe hRq hZe
    go_wp2_with fail
    refine bodyPost_ret (v := .tuple #[.agg y.v.toArray, .bool true]) ?_ rfl ?_
    · rw [results_cell_tmp rfl]
      simp [asAddr, run_loadVar_row we Z _ _ _ _ _ HZe.out Try.underlying48 rfl (by kernel_rfl), Result.andThen]
    · refine ⟨y, ?_, HBe.out, ?_⟩
      · rw [HS.out]; rw [HY.out]; rfl
      · intro rc h; rw [HS.out] at h; exact ⟨HRC.out rc h, HOe.out⟩
  · subst hb
    have hl0 : 0 < ys1.length := List.length_pos_iff.2 hy
    have hl1 : ((ys1.length : Int) == 0) = false := by simp; exact hy
    have HY := Lib.hid hy
    clear hy
    go_upto_region 25 with fail
    obtain ⟨wd, ewd⟩ : ∃ z, wy.drew = z := ⟨_, rfl⟩
    have HOD := Lib.hid (show OnW B0 B A Z R w wd _ _ y from HOY.out.keep (by rw [← ewd]; exact (Below.refl _ _).drew))
    obtain ⟨hBR, rp, rcp, hRq, _⟩ := HOD.out.r.r
    have HZR := Lib.hid (show Z ≠ R from hRZ.symm)
    refine wp_region_held_drew (S := fun w' => w'.heap[A]? = some (.cells y.v.toArray 48 (0, 0)) ∧ ∀ j, w'.cell? ⟨R, j, none⟩ = #[.slice rp ys1.length rcp, .bool false][j]?) (by kernel_rfl) (by rw [ewd]; exact ⟨HOD.out.a, block_cells hRq⟩) (fun hHeld => ?_)
    rw [ewd] at hHeld ⊢
    clear ewd
    refine wpAnyH_take (i := 0) (v := .agg y.v.toArray) rfl (by kernel_rfl) (by kernel_rfl) (by kernel_rfl) (fun _ _ _ h => h) (yieldsIf_load_mid (by rfl) _ _ rfl A 0 rfl y.v _ (fun w' h => range_of (n := 45) rfl (fun j _ => by rw [Nat.zero_add, block_cells h.1, List.getElem?_toArray])) Try.underlying48 rfl (by kernel_rfl)) hHeld ?_
    try simp only [List.getElem_toArray, List.getElem_cons_zero, Act.put, List.setIfInBounds_toArray, List.set_cons_zero, List.set_cons_succ]
    refine wpAnyH_take (i := 1) (v := ?_) rfl (by kernel_rfl) (by kernel_rfl) (by kernel_rfl) (fun _ _ _ h => h) (Or.inl ⟨by rfl, ?_⟩) hHeld ?_
    rotate_left
    · (intro wz hSw; (try dsimp only at hSw); (try simp only [List.getElem_toArray, List.getElem_cons_succ, List.getElem_cons_zero]); go_simp; try with_reducible rfl)
    try simp only [List.getElem_toArray, List.getElem_cons_succ, List.getElem_cons_zero, Act.put, List.setIfInBounds_toArray, List.set_cons_zero, List.set_cons_succ]
    refine wpAnyH_take (i := 2) (v := ?_) rfl (by kernel_rfl) (by kernel_rfl) (by kernel_rfl) (fun _ _ _ h => h) (Or.inl ⟨by rfl, ?_⟩) hHeld ?_
    rotate_left
    · (intro wz hSw; (try dsimp only at hSw); (try simp only [List.getElem_toArray, List.getElem_cons_succ, List.getElem_cons_zero]); go_simp; try with_reducible rfl)
    try simp only [List.getElem_toArray, List.getElem_cons_succ, List.getElem_cons_zero, Act.put, List.setIfInBounds_toArray, List.set_cons_zero, List.set_cons_succ]
    refine wpAnyH_take (i := 3) (v := ?_) rfl (by kernel_rfl) (by kernel_rfl) (by kernel_rfl) (fun _ _ _ h => h) (Or.inl ⟨by rfl, ?_⟩) hHeld ?_
    rotate_left
    · (intro wz hSw; (try dsimp only at hSw); (try simp only [List.getElem_toArray, List.getElem_cons_succ, List.getElem_cons_zero]); go_simp; try with_reducible rfl)
    try simp only [List.getElem_toArray, List.getElem_cons_succ, List.getElem_cons_zero, Act.put, List.setIfInBounds_toArray, List.set_cons_zero, List.set_cons_succ]
    refine wpAnyH_take (i := 4) (v := ?_) rfl (by kernel_rfl) (by kernel_rfl) (by kernel_rfl) (fun _ _ _ h => h) (Or.inl ⟨by rfl, ?_⟩) hHeld ?_
    rotate_left
    · (intro wz hSw; (try dsimp only at hSw); (try simp only [List.getElem_toArray, List.getElem_cons_succ, List.getElem_cons_zero]); go_simp; try with_reducible rfl)
    try simp only [List.getElem_toArray, List.getElem_cons_succ, List.getElem_cons_zero, Act.put, List.setIfInBounds_toArray, List.set_cons_zero, List.set_cons_succ]
    refine wpAnyH_take (i := 5) (v := ?_) rfl (by kernel_rfl) (by kernel_rfl) (by kernel_rfl) (fun _ _ _ h => h) (Or.inl ⟨by rfl, ?_⟩) hHeld ?_
    rotate_left
    · (intro wz hSw; (try dsimp only at hSw); (try simp only [List.getElem_toArray, List.getElem_cons_succ, List.getElem_cons_zero]); go_simp; try with_reducible rfl)
    try simp only [List.getElem_toArray, List.getElem_cons_succ, List.getElem_cons_zero, Act.put, List.setIfInBounds_toArray, List.set_cons_zero, List.set_cons_succ]
    refine wpAnyH_take (i := 6) (v := ?_) rfl (by kernel_rfl) (by kernel_rfl) (by kernel_rfl) (fun _ _ _ h => h) (Or.inl ⟨by rfl, ?_⟩) hHeld ?_
    rotate_left
    · (intro wz hSw; (try dsimp only at hSw); (try simp only [List.getElem_toArray, List.getElem_cons_succ, List.getElem_cons_zero]); go_simp; try with_reducible rfl)
    try simp only [List.getElem_toArray, List.getElem_cons_succ, List.getElem_cons_zero, Act.put, List.setIfInBounds_toArray, List.set_cons_zero, List.set_cons_succ]
    refine wpAnyH_take (i := 7) (v := ?_) rfl (by kernel_rfl) (by kernel_rfl) (by kernel_rfl) (fun _ _ _ h => h) (Or.inl ⟨by rfl, ?_⟩) hHeld ?_
    rotate_left
    · (intro wz hSw; (try dsimp only at hSw); (try simp only [List.getElem_toArray, List.getElem_cons_succ, List.getElem_cons_zero]); go_simp; try with_reducible rfl)
    try simp only [List.getElem_toArray, List.getElem_cons_succ, List.getElem_cons_zero, Act.put, List.setIfInBounds_toArray, List.set_cons_zero, List.set_cons_succ]
    refine wpAnyH_take (i := 8) (v := ?_) rfl (by kernel_rfl) (by kernel_rfl) (by kernel_rfl) (fun _ _ _ h => h) (Or.inl ⟨by rfl, ?_⟩) hHeld ?_
    rotate_left
    · (intro wz hSw; (try dsimp only at hSw); (try simp only [List.getElem_toArray, List.getElem_cons_succ, List.getElem_cons_zero]); go_simp; try with_reducible rfl)
    try simp only [List.getElem_toArray, List.getElem_cons_succ, List.getElem_cons_zero, Act.put, List.setIfInBounds_toArray, List.set_cons_zero, List.set_cons_succ]
    refine wpAnyH_take (i := 9) (v := ?_) rfl (by kernel_rfl) (by kernel_rfl) (by kernel_rfl) (fun _ _ _ h => h) (Or.inl ⟨by rfl, ?_⟩) hHeld ?_
    rotate_left
    · (intro wz hSw; (try dsimp only at hSw); (try simp only [List.getElem_toArray, List.getElem_cons_succ, List.getElem_cons_zero]); go_simp; try with_reducible rfl)
    try simp only [List.getElem_toArray, List.getElem_cons_succ, List.getElem_cons_zero, Act.put, List.setIfInBounds_toArray, List.set_cons_zero, List.set_cons_succ]
    refine wpAnyH_take (i := 10) (v := ?_) rfl (by kernel_rfl) (by kernel_rfl) (by kernel_rfl) (fun _ _ _ h => h) (Or.inl ⟨by rfl, ?_⟩) hHeld ?_
    rotate_left
    · (intro wz hSw; (try dsimp only at hSw); (try simp only [List.getElem_toArray, List.getElem_cons_succ, List.getElem_cons_zero]); go_simp; try with_reducible rfl)
    try simp only [List.getElem_toArray, List.getElem_cons_succ, List.getElem_cons_zero, Act.put, List.setIfInBounds_toArray, List.set_cons_zero, List.set_cons_succ]
    refine wpAnyH_take (i := 11) (v := ?_) rfl (by kernel_rfl) (by kernel_rfl) (by kernel_rfl) (fun _ _ _ h => h) (Or.inl ⟨by rfl, ?_⟩) hHeld ?_
    rotate_left
    · (intro wz hSw; (try dsimp only at hSw); (try simp only [List.getElem_toArray, List.getElem_cons_succ, List.getElem_cons_zero]); go_simp; try with_reducible rfl)
    try simp only [List.getElem_toArray, List.getElem_cons_succ, List.getElem_cons_zero, Act.put, List.setIfInBounds_toArray, List.set_cons_zero, List.set_cons_succ]
    refine wpAnyH_take (i := 12) (v := ?_) rfl (by kernel_rfl) (by kernel_rfl) (by kernel_rfl) (fun _ _ _ h => h) (Or.inl ⟨by rfl, ?_⟩) hHeld ?_
    rotate_left
    · (intro wz hSw; (try dsimp only at hSw); (try simp only [List.getElem_toArray, List.getElem_cons_succ, List.getElem_cons_zero]); go_simp; try with_reducible rfl)
    try simp only [List.getElem_toArray, List.getElem_cons_succ, List.getElem_cons_zero, Act.put, List.setIfInBounds_toArray, List.set_cons_zero, List.set_cons_succ]
    refine wpAnyH_take (i := 13) (v := ?_) rfl (by kernel_rfl) (by kernel_rfl) (by kernel_rfl) (fun _ _ _ h => h) (Or.inl ⟨by rfl, ?_⟩) hHeld ?_
    rotate_left
    · (intro wz hSw; (try dsimp only at hSw); (try simp only [List.getElem_toArray, List.getElem_cons_succ, List.getElem_cons_zero]); go_simp; try with_reducible rfl)
    try simp only [List.getElem_toArray, List.getElem_cons_succ, List.getElem_cons_zero, Act.put, List.setIfInBounds_toArray, List.set_cons_zero, List.set_cons_succ]
    refine wpAnyH_ready (rs := [14]) (by kernel_rfl) (by simp) ?_; refine AllReadyH.cons rfl (fun K hK => ?_) AllReadyH.nil
    rw [if_pos (by rfl)]
    refine wp_store_mid 48 _ _ (by rfl) Z 0 y.v.toArray (by rfl) (by rfl) (there_of_block (o := 0) (n := 45) HOD.out.z (Nat.le_of_ble_eq_true rfl)) (by kernel_rfl) (one_all rfl) ?_
    have hs := block_setCells y.v 0 HOD.out.z
    obtain ⟨we, hwe⟩ : ∃ z : World, wd.setCells Z 0 y.v = z := ⟨_, rfl⟩
    rw [hwe] at hs
    rw [show (wd.setCells Z 0 y.v.toArray.toList) = we from hwe]
    have hAe := stays_at hs.2 HOD.out.a hZA.symm
    have hRe := stays_at hs.2 hRq hRZ
    refine hK.out _ _ ⟨hAe, block_cells hRe⟩ (fun _ => ?_)
    clear hK K hHeld
    try simp only [List.getElem_toArray, List.getElem_cons_succ, List.getElem_cons_zero, Act.put]
    have hHeld : we.heap[A]? = some (.cells y.v.toArray 48 (0, 0)) ∧ ∀ j, we.cell? ⟨R, j, none⟩ = #[.slice rp ys1.length rcp, .bool false][j]? := ⟨hAe, block_cells hRe⟩
    refine wpAnyH_take (i := 15) (v := ?_) rfl (by kernel_rfl) (by kernel_rfl) (by kernel_rfl) (fun _ _ _ h => h) (Or.inl ⟨by rfl, ?_⟩) hHeld ?_
    rotate_left
    · (intro wz hSw; (try dsimp only at hSw); (try simp only [List.getElem_toArray, List.getElem_cons_succ, List.getElem_cons_zero]); go_simp; try with_reducible rfl)
    try simp only [List.getElem_toArray, List.getElem_cons_succ, List.getElem_cons_zero, Act.put, List.setIfInBounds_toArray, List.set_cons_zero, List.set_cons_succ]
    refine wpAnyH_done (by kernel_rfl) ?_ _
    have hZe : we.heap[Z]? = some (.cells y.v.toArray 48 (0, 0)) := by rw [← hwe]; exact block_all HOD.out.z rfl
    have HZe := Lib.hid hZe
    have HBe := Lib.hid (And.intro (HOD.out.bl.grown hs.2 HOD.out.lt (fun k e => by cases e; omega)) (grown_new HOD.out.g hs.2 (fun k e => by cases e; exact HOD.out.nZ)))
    have HOe := Lib.hid (HOD.out.o.kept hs.2 (own_other HOD.out.o HOD.out.z (by decide)))
    clear hHeld hs hwe hAe hRe hRq hZe
    go_wp2_with fail
    refine bodyPost_ret (v := .tuple #[.agg y.v.toArray, .bool false]) ?_ rfl ?_
    · rw [results_cell_tmp rfl]
      simp [asAddr, run_loadVar_row we Z _ _ _ _ _ HZe.out Try.underlying48 rfl (by kernel_rfl), Result.andThen]
    · refine ⟨y, ?_, HBe.out, ?_⟩
      · rw [HS.out]; simp [allR, HY.out]
      · intro rc h; rw [HS.out] at h; exact ⟨HRC.out rc h, HOe.out⟩
end Go.Proofs.Ytjaabakobpabjaa
