/- Wire: are two cells the same? Package wire's. -/
import Derived.Test.YtmhmlpfkdpjlaaaWireP
namespace Go.Proofs.Ytmhmlpfkdpjlaaa
open Go.ChangeShapes Go.WideShapes Go.ChangeAt Go.RowKit

theorem eql_lk_yes (a0 : Int) (a1 : Int) (a2 : Int) (a3 : Int) (a4 : Int) (a5 : Int) (a6 : Int) (a7 : Bool) (a8 : ByteArray) (w : World) : (binOp .eql 73 (.agg #[.int .i64 a0, .int .i64 a1, .int .i64 a2, .int .i64 a3, .int .i64 a4, .int .i64 a5, .int .i64 a6, .bool a7, .string a8]) (.agg #[.int .i64 a0, .int .i64 a1, .int .i64 a2, .int .i64 a3, .int .i64 a4, .int .i64 a5, .int .i64 a6, .bool a7, .string a8])).run Try.prog w = .ok (.bool true) w := by
  simp [go_sem]
theorem eql_lk_no (a0 : Int) (a1 : Int) (a2 : Int) (a3 : Int) (a4 : Int) (a5 : Int) (a6 : Int) (a7 : Bool) (a8 : ByteArray) (b0 : Int) (b1 : Int) (b2 : Int) (b3 : Int) (b4 : Int) (b5 : Int) (b6 : Int) (b7 : Bool) (b8 : ByteArray) (w : World) (h : ¬ (a0 = b0 ∧ a1 = b1 ∧ a2 = b2 ∧ a3 = b3 ∧ a4 = b4 ∧ a5 = b5 ∧ a6 = b6 ∧ a7 = b7 ∧ a8 = b8)) : (binOp .eql 73 (.agg #[.int .i64 a0, .int .i64 a1, .int .i64 a2, .int .i64 a3, .int .i64 a4, .int .i64 a5, .int .i64 a6, .bool a7, .string a8]) (.agg #[.int .i64 b0, .int .i64 b1, .int .i64 b2, .int .i64 b3, .int .i64 b4, .int .i64 b5, .int .i64 b6, .bool b7, .string b8])).run Try.prog w = .ok (.bool false) w := by
  by_cases h0 : a0 = b0
  rotate_left
  · have hq := (by simpa using h0 : (a0 == b0) = false)
    simp [go_sem, hq]
  subst h0
  by_cases h1 : a1 = b1
  rotate_left
  · have hq := (by simpa using h1 : (a1 == b1) = false)
    simp [go_sem, hq]
  subst h1
  by_cases h2 : a2 = b2
  rotate_left
  · have hq := (by simpa using h2 : (a2 == b2) = false)
    simp [go_sem, hq]
  subst h2
  by_cases h3 : a3 = b3
  rotate_left
  · have hq := (by simpa using h3 : (a3 == b3) = false)
    simp [go_sem, hq]
  subst h3
  by_cases h4 : a4 = b4
  rotate_left
  · have hq := (by simpa using h4 : (a4 == b4) = false)
    simp [go_sem, hq]
  subst h4
  by_cases h5 : a5 = b5
  rotate_left
  · have hq := (by simpa using h5 : (a5 == b5) = false)
    simp [go_sem, hq]
  subst h5
  by_cases h6 : a6 = b6
  rotate_left
  · have hq := (by simpa using h6 : (a6 == b6) = false)
    simp [go_sem, hq]
  subst h6
  by_cases h7 : a7 = b7
  rotate_left
  · have hq := (by simpa using h7 : (a7 == b7) = false)
    simp [go_sem, hq]
  subst h7
  by_cases h8 : a8 = b8
  rotate_left
  · have hq := bytes_neW h8
    simp [go_sem, hq]
  subst h8
  exact absurd (by simp) h
set_option maxRecDepth 100000 in
set_option maxHeartbeats 8000000 in
theorem wcell_no0 (ak ald : ByteArray) (avs : List VeX) (alk alr : Bool) (ayn ayl ays aya ahm asw ast : Int) (bk bld : ByteArray) (bvs : List VeX) (blk blr : Bool) (byn byl bys bya bhm bsw bst : Int) (pa pb : Option Addr) (ca cb : Nat) (w : World) (h : ¬ (ak = bk)) :
    Calls Try.prog 34 #[.agg #[.string ak, .slice pa avs.length ca, .bool alk, .int .i64 ayn, .int .i64 ayl, .int .i64 ays, .int .i64 aya, .int .i64 ahm, .int .i64 asw, .int .i64 ast, .bool alr, .string ald], .agg #[.string bk, .slice pb bvs.length cb, .bool blk, .int .i64 byn, .int .i64 byl, .int .i64 bys, .int .i64 bya, .int .i64 bhm, .int .i64 bsw, .int .i64 bst, .bool blr, .string bld]] w fun e w' => e = .returned (.bool (decide (CeX.mk ak avs alk ayn ayl ays aya ahm asw ast alr ald = CeX.mk bk bvs blk byn byl bys bya bhm bsw bst blr bld))) ∧ Below w.heap.size w w' := by
  have hB : Below w.heap.size w ((w.alloc (.cells #[.string ak, .slice pa avs.length ca, .bool alk, .int .i64 ayn, .int .i64 ayl, .int .i64 ays, .int .i64 aya, .int .i64 ahm, .int .i64 asw, .int .i64 ast, .bool alr, .string ald] 75)).alloc (.cells #[.string bk, .slice pb bvs.length cb, .bool blk, .int .i64 byn, .int .i64 byl, .int .i64 bys, .int .i64 bya, .int .i64 bhm, .int .i64 bsw, .int .i64 bst, .bool blr, .string bld] 75)) := ((Below.refl _ _).alloc (Nat.le_refl _) _).alloc (by simp) _
  have HB := Lib.hid hB
  have HN : Hid (decide (CeX.mk ak avs alk ayn ayl ays aya ahm asw ast alr ald = CeX.mk bk bvs blk byn byl bys bya bhm bsw bst blr bld) = false) := by
    show _ = _; rw [decide_eq_false_iff_not]; intro e; injection e; exact h (by simp_all)
  have hq := bytes_neW h
  clear h hB
  have hu : undef = Value.tuple #[] := rfl
  go_enter Try.func34, Try.ntmps34
  go_wp2_with fail
  go_ret
  exact ⟨ret_boolW HN.out.symm, HB.out⟩
set_option maxRecDepth 100000 in
set_option maxHeartbeats 8000000 in
theorem wcell_no1 (ak ald : ByteArray) (avs : List VeX) (alk alr : Bool) (ayn ayl ays aya ahm asw ast : Int) (_bk bld : ByteArray) (bvs : List VeX) (blk blr : Bool) (byn byl bys bya bhm bsw bst : Int) (pa pb : Option Addr) (ca cb : Nat) (w : World) (h : ¬ (alk = blk)) :
    Calls Try.prog 34 #[.agg #[.string ak, .slice pa avs.length ca, .bool alk, .int .i64 ayn, .int .i64 ayl, .int .i64 ays, .int .i64 aya, .int .i64 ahm, .int .i64 asw, .int .i64 ast, .bool alr, .string ald], .agg #[.string ak, .slice pb bvs.length cb, .bool blk, .int .i64 byn, .int .i64 byl, .int .i64 bys, .int .i64 bya, .int .i64 bhm, .int .i64 bsw, .int .i64 bst, .bool blr, .string bld]] w fun e w' => e = .returned (.bool (decide (CeX.mk ak avs alk ayn ayl ays aya ahm asw ast alr ald = CeX.mk ak bvs blk byn byl bys bya bhm bsw bst blr bld))) ∧ Below w.heap.size w w' := by
  have hB : Below w.heap.size w ((w.alloc (.cells #[.string ak, .slice pa avs.length ca, .bool alk, .int .i64 ayn, .int .i64 ayl, .int .i64 ays, .int .i64 aya, .int .i64 ahm, .int .i64 asw, .int .i64 ast, .bool alr, .string ald] 75)).alloc (.cells #[.string ak, .slice pb bvs.length cb, .bool blk, .int .i64 byn, .int .i64 byl, .int .i64 bys, .int .i64 bya, .int .i64 bhm, .int .i64 bsw, .int .i64 bst, .bool blr, .string bld] 75)) := ((Below.refl _ _).alloc (Nat.le_refl _) _).alloc (by simp) _
  have HB := Lib.hid hB
  have HN : Hid (decide (CeX.mk ak avs alk ayn ayl ays aya ahm asw ast alr ald = CeX.mk ak bvs blk byn byl bys bya bhm bsw bst blr bld) = false) := by
    show _ = _; rw [decide_eq_false_iff_not]; intro e; injection e; exact h (by simp_all)
  have hq := (by simpa using h : (alk == blk) = false)
  clear h hB
  have hu : undef = Value.tuple #[] := rfl
  go_enter Try.func34, Try.ntmps34
  go_wp2_with fail
  go_ret
  exact ⟨ret_boolW HN.out.symm, HB.out⟩
set_option maxRecDepth 100000 in
set_option maxHeartbeats 8000000 in
theorem wcell_no2 (ak ald : ByteArray) (avs : List VeX) (alk alr : Bool) (ayn ayl ays aya ahm asw ast : Int) (_bk bld : ByteArray) (bvs : List VeX) (_blk blr : Bool) (byn byl bys bya bhm bsw bst : Int) (pa pb : Option Addr) (ca cb : Nat) (w : World) (h : ¬ (ayn = byn ∧ ayl = byl ∧ ays = bys ∧ aya = bya ∧ ahm = bhm ∧ asw = bsw ∧ ast = bst ∧ alr = blr ∧ ald = bld)) :
    Calls Try.prog 34 #[.agg #[.string ak, .slice pa avs.length ca, .bool alk, .int .i64 ayn, .int .i64 ayl, .int .i64 ays, .int .i64 aya, .int .i64 ahm, .int .i64 asw, .int .i64 ast, .bool alr, .string ald], .agg #[.string ak, .slice pb bvs.length cb, .bool alk, .int .i64 byn, .int .i64 byl, .int .i64 bys, .int .i64 bya, .int .i64 bhm, .int .i64 bsw, .int .i64 bst, .bool blr, .string bld]] w fun e w' => e = .returned (.bool (decide (CeX.mk ak avs alk ayn ayl ays aya ahm asw ast alr ald = CeX.mk ak bvs alk byn byl bys bya bhm bsw bst blr bld))) ∧ Below w.heap.size w w' := by
  have hB : Below w.heap.size w ((w.alloc (.cells #[.string ak, .slice pa avs.length ca, .bool alk, .int .i64 ayn, .int .i64 ayl, .int .i64 ays, .int .i64 aya, .int .i64 ahm, .int .i64 asw, .int .i64 ast, .bool alr, .string ald] 75)).alloc (.cells #[.string ak, .slice pb bvs.length cb, .bool alk, .int .i64 byn, .int .i64 byl, .int .i64 bys, .int .i64 bya, .int .i64 bhm, .int .i64 bsw, .int .i64 bst, .bool blr, .string bld] 75)) := ((Below.refl _ _).alloc (Nat.le_refl _) _).alloc (by simp) _
  have HB := Lib.hid hB
  have HN : Hid (decide (CeX.mk ak avs alk ayn ayl ays aya ahm asw ast alr ald = CeX.mk ak bvs alk byn byl bys bya bhm bsw bst blr bld) = false) := by
    show _ = _; rw [decide_eq_false_iff_not]; intro e; injection e; exact h (by simp_all)
  have hq := fun w => eql_lk_no ayn ayl ays aya ahm asw ast alr ald byn byl bys bya bhm bsw bst blr bld w h
  clear h hB
  have hu : undef = Value.tuple #[] := rfl
  go_enter Try.func34, Try.ntmps34
  go_wp2_with fail
  go_ret
  exact ⟨ret_boolW HN.out.symm, HB.out⟩
set_option maxRecDepth 100000 in
set_option maxHeartbeats 8000000 in
theorem wcell_yes (ak ald : ByteArray) (avs : List VeX) (alk alr : Bool) (ayn ayl ays aya ahm asw ast : Int) (_bk _bld : ByteArray) (bvs : List VeX) (_blk _blr : Bool) (_byn _byl _bys _bya _bhm _bsw _bst : Int) (pa pb : Option Addr) (ca cb : Nat) (w : World) (l1 : avs.length ≤ 1000000) (l2 : bvs.length ≤ 1000000) (h1 : VesAt w pa avs) (h2 : VesAt w pb bvs) :
    Calls Try.prog 34 #[.agg #[.string ak, .slice pa avs.length ca, .bool alk, .int .i64 ayn, .int .i64 ayl, .int .i64 ays, .int .i64 aya, .int .i64 ahm, .int .i64 asw, .int .i64 ast, .bool alr, .string ald], .agg #[.string ak, .slice pb bvs.length cb, .bool alk, .int .i64 ayn, .int .i64 ayl, .int .i64 ays, .int .i64 aya, .int .i64 ahm, .int .i64 asw, .int .i64 ast, .bool alr, .string ald]] w fun e w' => e = .returned (.bool (decide (CeX.mk ak avs alk ayn ayl ays aya ahm asw ast alr ald = CeX.mk ak bvs alk ayn ayl ays aya ahm asw ast alr ald))) ∧ Below w.heap.size w w' := by
  have hB : Below w.heap.size w ((w.alloc (.cells #[.string ak, .slice pa avs.length ca, .bool alk, .int .i64 ayn, .int .i64 ayl, .int .i64 ays, .int .i64 aya, .int .i64 ahm, .int .i64 asw, .int .i64 ast, .bool alr, .string ald] 75)).alloc (.cells #[.string ak, .slice pb bvs.length cb, .bool alk, .int .i64 ayn, .int .i64 ayl, .int .i64 ays, .int .i64 aya, .int .i64 ahm, .int .i64 asw, .int .i64 ast, .bool alr, .string ald] 75)) := ((Below.refl _ _).alloc (Nat.le_refl _) _).alloc (by simp) _
  have HB := Lib.hid hB
  have HN : Hid (decide (CeX.mk ak avs alk ayn ayl ays aya ahm asw ast alr ald = CeX.mk ak bvs alk ayn ayl ays aya ahm asw ast alr ald) = decide (avs = bvs)) := by show _ = _; simp [CeX.mk.injEq]
  have C1 := Lib.hid (eqVe_any avs bvs pa pb ca cb _ l1 l2 (h1.keep hB (Nat.le_refl _)) (h2.keep hB (Nat.le_refl _)))
  have hqt := fun w => eql_lk_yes ayn ayl ays aya ahm asw ast alr ald w
  clear hB h1 h2
  go_enter Try.func34, Try.ntmps34
  go_wp2_with fail
  refine C1.out.mono ?_; rintro r w1 ⟨rfl, hb1⟩
  have HB1 := Lib.hid (HB.out.trans (hb1.mono HB.out.size))
  clear hb1 C1
  go_wp2_with fail
  go_ret
  exact ⟨ret_boolW HN.out.symm, HB1.out⟩
theorem wcell_any (ak ald : ByteArray) (avs : List VeX) (alk alr : Bool) (ayn ayl ays aya ahm asw ast : Int) (bk bld : ByteArray) (bvs : List VeX) (blk blr : Bool) (byn byl bys bya bhm bsw bst : Int) (pa pb : Option Addr) (ca cb : Nat) (w : World) (l1 : avs.length ≤ 1000000) (l2 : bvs.length ≤ 1000000) (h1 : VesAt w pa avs) (h2 : VesAt w pb bvs) :
    Calls Try.prog 34 #[.agg #[.string ak, .slice pa avs.length ca, .bool alk, .int .i64 ayn, .int .i64 ayl, .int .i64 ays, .int .i64 aya, .int .i64 ahm, .int .i64 asw, .int .i64 ast, .bool alr, .string ald], .agg #[.string bk, .slice pb bvs.length cb, .bool blk, .int .i64 byn, .int .i64 byl, .int .i64 bys, .int .i64 bya, .int .i64 bhm, .int .i64 bsw, .int .i64 bst, .bool blr, .string bld]] w fun e w' => e = .returned (.bool (decide (CeX.mk ak avs alk ayn ayl ays aya ahm asw ast alr ald = CeX.mk bk bvs blk byn byl bys bya bhm bsw bst blr bld))) ∧ Below w.heap.size w w' := by
  by_cases h : ak = bk
  rotate_left
  · exact wcell_no0 ak ald avs alk alr ayn ayl ays aya ahm asw ast bk bld bvs blk blr byn byl bys bya bhm bsw bst pa pb ca cb w h
  subst h
  by_cases h : alk = blk
  rotate_left
  · exact wcell_no1 ak ald avs alk alr ayn ayl ays aya ahm asw ast ak bld bvs blk blr byn byl bys bya bhm bsw bst pa pb ca cb w h
  subst h
  by_cases h : ayn = byn ∧ ayl = byl ∧ ays = bys ∧ aya = bya ∧ ahm = bhm ∧ asw = bsw ∧ ast = bst ∧ alr = blr ∧ ald = bld
  rotate_left
  · exact wcell_no2 ak ald avs alk alr ayn ayl ays aya ahm asw ast ak bld bvs alk blr byn byl bys bya bhm bsw bst pa pb ca cb w h
  obtain ⟨rfl, rfl, rfl, rfl, rfl, rfl, rfl, rfl, rfl⟩ := h
  exact wcell_yes ak ald avs alk alr ayn ayl ays aya ahm asw ast ak ald bvs alk alr ayn ayl ays aya ahm asw ast pa pb ca cb w l1 l2 h1 h2
end Go.Proofs.Ytmhmlpfkdpjlaaa
