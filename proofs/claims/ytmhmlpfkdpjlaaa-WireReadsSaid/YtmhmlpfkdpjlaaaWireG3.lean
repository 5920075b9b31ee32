import Derived.Test.YtmhmlpfkdpjlaaaBackA
import Derived.Test.YtmhmlpfkdpjlaaaWireG0
/- Wire: what is read of what was written. -/
namespace Go.Proofs.Ytmhmlpfkdpjlaaa
open Go.ChangeShapes Go.WideShapes Go.ChangeAt Go.RowKit

theorem tkCmd_self {w w' : World} {c : CmX} {e : Ending} (h : TkCmd w (encCm c) e w') (hv : CmV c) : Below w.heap.size w w' ∧ ∃ (ps pw : Option Addr) (cs cw : Nat), SpsAt w' ps c.sp ∧ WrsAt w' pw c.wr ∧ e = .returned (.tuple #[.agg #[.int .i64 c.k, .int .i64 c.e, .int .i64 c.n, .int .i64 c.h, .int .i64 c.yn, .int .i64 c.yl, .int .i64 c.ys, .int .i64 c.ya, .int .i64 c.sw, .int .i64 c.st, .int .i64 c.w, .bool c.yes, .slice ps c.sp.length cs, .slice pw c.wr.length cw], .int .i64 0]) := by
  obtain ⟨hb, ⟨d, ps, pw, cs, cw, e1, hd, s1, s2, he⟩ | ⟨hn, -⟩⟩ := h
  · obtain rfl := (encCm_rd (x := []) (y := []) hd hv (by simpa using e1)).1
    exact ⟨hb, ps, pw, cs, cw, s1, s2, he⟩
  · exact absurd rfl (hn c hv)
end Go.Proofs.Ytmhmlpfkdpjlaaa
/- Wire: are two commands the same? Package wire's: they are not. -/
namespace Go.Proofs.Ytmhmlpfkdpjlaaa
open Go.ChangeShapes Go.WideShapes Go.ChangeAt Go.RowKit

set_option maxRecDepth 100000 in
set_option maxHeartbeats 16000000 in
theorem wsame_no0 (ak ae an ah ayn ayl ays aya asw ast aw bk be bn bh byn byl bys bya bsw bst bw : Int) (ab bb : Bool) (asp bsp : List SpX) (awr bwr : List WrX) (pa qa pb qb : Option Addr) (ca da cb db : Nat) (w : World) (h : ¬ (ak = bk)) :
    Calls Try.prog 10 #[.agg #[.int .i64 ak, .int .i64 ae, .int .i64 an, .int .i64 ah, .int .i64 ayn, .int .i64 ayl, .int .i64 ays, .int .i64 aya, .int .i64 asw, .int .i64 ast, .int .i64 aw, .bool ab, .slice pa asp.length ca, .slice qa awr.length da], .agg #[.int .i64 bk, .int .i64 be, .int .i64 bn, .int .i64 bh, .int .i64 byn, .int .i64 byl, .int .i64 bys, .int .i64 bya, .int .i64 bsw, .int .i64 bst, .int .i64 bw, .bool bb, .slice pb bsp.length cb, .slice qb bwr.length db]] w fun e w' => e = .returned (.bool (decide (CmX.mk ak ae an ah ayn ayl ays aya asw ast aw ab asp awr = CmX.mk bk be bn bh byn byl bys bya bsw bst bw bb bsp bwr))) ∧ Below w.heap.size w w' := by
  have HB : Hid (Below w.heap.size w ((w.alloc (.cells #[.int .i64 ak, .int .i64 ae, .int .i64 an, .int .i64 ah, .int .i64 ayn, .int .i64 ayl, .int .i64 ays, .int .i64 aya, .int .i64 asw, .int .i64 ast, .int .i64 aw, .bool ab, .slice pa asp.length ca, .slice qa awr.length da] 29)).alloc (.cells #[.int .i64 bk, .int .i64 be, .int .i64 bn, .int .i64 bh, .int .i64 byn, .int .i64 byl, .int .i64 bys, .int .i64 bya, .int .i64 bsw, .int .i64 bst, .int .i64 bw, .bool bb, .slice pb bsp.length cb, .slice qb bwr.length db] 29))) := ((Below.refl _ _).alloc (Nat.le_refl _) _).alloc (by simp) _
  have HN : Hid (decide (CmX.mk ak ae an ah ayn ayl ays aya asw ast aw ab asp awr = CmX.mk bk be bn bh byn byl bys bya bsw bst bw bb bsp bwr) = false) := by
    show _ = _; rw [decide_eq_false_iff_not]; intro e; injection e; exact h (by simp_all)
  have hq := (by simpa using h : (ak == bk) = false)
  have hu : undef = Value.tuple #[] := rfl
  clear h
  go_enter Try.func10, Try.ntmps10
  go_wp2_with fail
  go_ret
  exact ⟨ret_boolW HN.out.symm, HB.out⟩
set_option maxRecDepth 100000 in
set_option maxHeartbeats 16000000 in
theorem wsame_no1 (ak ae an ah ayn ayl ays aya asw ast aw be bn bh byn byl bys bya bsw bst bw : Int) (ab bb : Bool) (asp bsp : List SpX) (awr bwr : List WrX) (pa qa pb qb : Option Addr) (ca da cb db : Nat) (w : World) (h : ¬ (ae = be)) :
    Calls Try.prog 10 #[.agg #[.int .i64 ak, .int .i64 ae, .int .i64 an, .int .i64 ah, .int .i64 ayn, .int .i64 ayl, .int .i64 ays, .int .i64 aya, .int .i64 asw, .int .i64 ast, .int .i64 aw, .bool ab, .slice pa asp.length ca, .slice qa awr.length da], .agg #[.int .i64 ak, .int .i64 be, .int .i64 bn, .int .i64 bh, .int .i64 byn, .int .i64 byl, .int .i64 bys, .int .i64 bya, .int .i64 bsw, .int .i64 bst, .int .i64 bw, .bool bb, .slice pb bsp.length cb, .slice qb bwr.length db]] w fun e w' => e = .returned (.bool (decide (CmX.mk ak ae an ah ayn ayl ays aya asw ast aw ab asp awr = CmX.mk ak be bn bh byn byl bys bya bsw bst bw bb bsp bwr))) ∧ Below w.heap.size w w' := by
  have HB : Hid (Below w.heap.size w ((w.alloc (.cells #[.int .i64 ak, .int .i64 ae, .int .i64 an, .int .i64 ah, .int .i64 ayn, .int .i64 ayl, .int .i64 ays, .int .i64 aya, .int .i64 asw, .int .i64 ast, .int .i64 aw, .bool ab, .slice pa asp.length ca, .slice qa awr.length da] 29)).alloc (.cells #[.int .i64 ak, .int .i64 be, .int .i64 bn, .int .i64 bh, .int .i64 byn, .int .i64 byl, .int .i64 bys, .int .i64 bya, .int .i64 bsw, .int .i64 bst, .int .i64 bw, .bool bb, .slice pb bsp.length cb, .slice qb bwr.length db] 29))) := ((Below.refl _ _).alloc (Nat.le_refl _) _).alloc (by simp) _
  have HN : Hid (decide (CmX.mk ak ae an ah ayn ayl ays aya asw ast aw ab asp awr = CmX.mk ak be bn bh byn byl bys bya bsw bst bw bb bsp bwr) = false) := by
    show _ = _; rw [decide_eq_false_iff_not]; intro e; injection e; exact h (by simp_all)
  have hq := (by simpa using h : (ae == be) = false)
  have hu : undef = Value.tuple #[] := rfl
  clear h
  go_enter Try.func10, Try.ntmps10
  go_wp2_with fail
  go_ret
  exact ⟨ret_boolW HN.out.symm, HB.out⟩
set_option maxRecDepth 100000 in
set_option maxHeartbeats 16000000 in
theorem wsame_no2 (ak ae an ah ayn ayl ays aya asw ast aw bn bh byn byl bys bya bsw bst bw : Int) (ab bb : Bool) (asp bsp : List SpX) (awr bwr : List WrX) (pa qa pb qb : Option Addr) (ca da cb db : Nat) (w : World) (h : ¬ (an = bn)) :
    Calls Try.prog 10 #[.agg #[.int .i64 ak, .int .i64 ae, .int .i64 an, .int .i64 ah, .int .i64 ayn, .int .i64 ayl, .int .i64 ays, .int .i64 aya, .int .i64 asw, .int .i64 ast, .int .i64 aw, .bool ab, .slice pa asp.length ca, .slice qa awr.length da], .agg #[.int .i64 ak, .int .i64 ae, .int .i64 bn, .int .i64 bh, .int .i64 byn, .int .i64 byl, .int .i64 bys, .int .i64 bya, .int .i64 bsw, .int .i64 bst, .int .i64 bw, .bool bb, .slice pb bsp.length cb, .slice qb bwr.length db]] w fun e w' => e = .returned (.bool (decide (CmX.mk ak ae an ah ayn ayl ays aya asw ast aw ab asp awr = CmX.mk ak ae bn bh byn byl bys bya bsw bst bw bb bsp bwr))) ∧ Below w.heap.size w w' := by
  have HB : Hid (Below w.heap.size w ((w.alloc (.cells #[.int .i64 ak, .int .i64 ae, .int .i64 an, .int .i64 ah, .int .i64 ayn, .int .i64 ayl, .int .i64 ays, .int .i64 aya, .int .i64 asw, .int .i64 ast, .int .i64 aw, .bool ab, .slice pa asp.length ca, .slice qa awr.length da] 29)).alloc (.cells #[.int .i64 ak, .int .i64 ae, .int .i64 bn, .int .i64 bh, .int .i64 byn, .int .i64 byl, .int .i64 bys, .int .i64 bya, .int .i64 bsw, .int .i64 bst, .int .i64 bw, .bool bb, .slice pb bsp.length cb, .slice qb bwr.length db] 29))) := ((Below.refl _ _).alloc (Nat.le_refl _) _).alloc (by simp) _
  have HN : Hid (decide (CmX.mk ak ae an ah ayn ayl ays aya asw ast aw ab asp awr = CmX.mk ak ae bn bh byn byl bys bya bsw bst bw bb bsp bwr) = false) := by
    show _ = _; rw [decide_eq_false_iff_not]; intro e; injection e; exact h (by simp_all)
  have hq := (by simpa using h : (an == bn) = false)
  have hu : undef = Value.tuple #[] := rfl
  clear h
  go_enter Try.func10, Try.ntmps10
  go_wp2_with fail
  go_ret
  exact ⟨ret_boolW HN.out.symm, HB.out⟩
end Go.Proofs.Ytmhmlpfkdpjlaaa
/- Wire: are two commands the same? Package wire's: they are not. -/
namespace Go.Proofs.Ytmhmlpfkdpjlaaa
open Go.ChangeShapes Go.WideShapes Go.ChangeAt Go.RowKit

set_option maxRecDepth 100000 in
set_option maxHeartbeats 16000000 in
theorem wsame_no3 (ak ae an ah ayn ayl ays aya asw ast aw bh byn byl bys bya bsw bst bw : Int) (ab bb : Bool) (asp bsp : List SpX) (awr bwr : List WrX) (pa qa pb qb : Option Addr) (ca da cb db : Nat) (w : World) (h : ¬ (ah = bh)) :
    Calls Try.prog 10 #[.agg #[.int .i64 ak, .int .i64 ae, .int .i64 an, .int .i64 ah, .int .i64 ayn, .int .i64 ayl, .int .i64 ays, .int .i64 aya, .int .i64 asw, .int .i64 ast, .int .i64 aw, .bool ab, .slice pa asp.length ca, .slice qa awr.length da], .agg #[.int .i64 ak, .int .i64 ae, .int .i64 an, .int .i64 bh, .int .i64 byn, .int .i64 byl, .int .i64 bys, .int .i64 bya, .int .i64 bsw, .int .i64 bst, .int .i64 bw, .bool bb, .slice pb bsp.length cb, .slice qb bwr.length db]] w fun e w' => e = .returned (.bool (decide (CmX.mk ak ae an ah ayn ayl ays aya asw ast aw ab asp awr = CmX.mk ak ae an bh byn byl bys bya bsw bst bw bb bsp bwr))) ∧ Below w.heap.size w w' := by
  have HB : Hid (Below w.heap.size w ((w.alloc (.cells #[.int .i64 ak, .int .i64 ae, .int .i64 an, .int .i64 ah, .int .i64 ayn, .int .i64 ayl, .int .i64 ays, .int .i64 aya, .int .i64 asw, .int .i64 ast, .int .i64 aw, .bool ab, .slice pa asp.length ca, .slice qa awr.length da] 29)).alloc (.cells #[.int .i64 ak, .int .i64 ae, .int .i64 an, .int .i64 bh, .int .i64 byn, .int .i64 byl, .int .i64 bys, .int .i64 bya, .int .i64 bsw, .int .i64 bst, .int .i64 bw, .bool bb, .slice pb bsp.length cb, .slice qb bwr.length db] 29))) := ((Below.refl _ _).alloc (Nat.le_refl _) _).alloc (by simp) _
  have HN : Hid (decide (CmX.mk ak ae an ah ayn ayl ays aya asw ast aw ab asp awr = CmX.mk ak ae an bh byn byl bys bya bsw bst bw bb bsp bwr) = false) := by
    show _ = _; rw [decide_eq_false_iff_not]; intro e; injection e; exact h (by simp_all)
  have hq := (by simpa using h : (ah == bh) = false)
  have hu : undef = Value.tuple #[] := rfl
  clear h
  go_enter Try.func10, Try.ntmps10
  go_wp2_with fail
  go_ret
  exact ⟨ret_boolW HN.out.symm, HB.out⟩
set_option maxRecDepth 100000 in
set_option maxHeartbeats 16000000 in
theorem wsame_no4 (ak ae an ah ayn ayl ays aya asw ast aw byn byl bys bya bsw bst bw : Int) (ab bb : Bool) (asp bsp : List SpX) (awr bwr : List WrX) (pa qa pb qb : Option Addr) (ca da cb db : Nat) (w : World) (h : ¬ (ayn = byn ∧ ayl = byl ∧ ays = bys ∧ aya = bya)) :
    Calls Try.prog 10 #[.agg #[.int .i64 ak, .int .i64 ae, .int .i64 an, .int .i64 ah, .int .i64 ayn, .int .i64 ayl, .int .i64 ays, .int .i64 aya, .int .i64 asw, .int .i64 ast, .int .i64 aw, .bool ab, .slice pa asp.length ca, .slice qa awr.length da], .agg #[.int .i64 ak, .int .i64 ae, .int .i64 an, .int .i64 ah, .int .i64 byn, .int .i64 byl, .int .i64 bys, .int .i64 bya, .int .i64 bsw, .int .i64 bst, .int .i64 bw, .bool bb, .slice pb bsp.length cb, .slice qb bwr.length db]] w fun e w' => e = .returned (.bool (decide (CmX.mk ak ae an ah ayn ayl ays aya asw ast aw ab asp awr = CmX.mk ak ae an ah byn byl bys bya bsw bst bw bb bsp bwr))) ∧ Below w.heap.size w w' := by
  have HB : Hid (Below w.heap.size w ((w.alloc (.cells #[.int .i64 ak, .int .i64 ae, .int .i64 an, .int .i64 ah, .int .i64 ayn, .int .i64 ayl, .int .i64 ays, .int .i64 aya, .int .i64 asw, .int .i64 ast, .int .i64 aw, .bool ab, .slice pa asp.length ca, .slice qa awr.length da] 29)).alloc (.cells #[.int .i64 ak, .int .i64 ae, .int .i64 an, .int .i64 ah, .int .i64 byn, .int .i64 byl, .int .i64 bys, .int .i64 bya, .int .i64 bsw, .int .i64 bst, .int .i64 bw, .bool bb, .slice pb bsp.length cb, .slice qb bwr.length db] 29))) := ((Below.refl _ _).alloc (Nat.le_refl _) _).alloc (by simp) _
  have HN : Hid (decide (CmX.mk ak ae an ah ayn ayl ays aya asw ast aw ab asp awr = CmX.mk ak ae an ah byn byl bys bya bsw bst bw bb bsp bwr) = false) := by
    show _ = _; rw [decide_eq_false_iff_not]; intro e; injection e; exact h (by simp_all)
  have hq := fun w => eql_try_no ayn byn ayl byl ays bys aya bya w h
  have hu : undef = Value.tuple #[] := rfl
  clear h
  go_enter Try.func10, Try.ntmps10
  go_wp2_with fail
  go_ret
  exact ⟨ret_boolW HN.out.symm, HB.out⟩
set_option maxRecDepth 100000 in
set_option maxHeartbeats 16000000 in
theorem wsame_no5 (ak ae an ah ayn ayl ays aya asw ast aw bsw bst bw : Int) (ab bb : Bool) (asp bsp : List SpX) (awr bwr : List WrX) (pa qa pb qb : Option Addr) (ca da cb db : Nat) (w : World) (h : ¬ (asw = bsw ∧ ast = bst)) :
    Calls Try.prog 10 #[.agg #[.int .i64 ak, .int .i64 ae, .int .i64 an, .int .i64 ah, .int .i64 ayn, .int .i64 ayl, .int .i64 ays, .int .i64 aya, .int .i64 asw, .int .i64 ast, .int .i64 aw, .bool ab, .slice pa asp.length ca, .slice qa awr.length da], .agg #[.int .i64 ak, .int .i64 ae, .int .i64 an, .int .i64 ah, .int .i64 ayn, .int .i64 ayl, .int .i64 ays, .int .i64 aya, .int .i64 bsw, .int .i64 bst, .int .i64 bw, .bool bb, .slice pb bsp.length cb, .slice qb bwr.length db]] w fun e w' => e = .returned (.bool (decide (CmX.mk ak ae an ah ayn ayl ays aya asw ast aw ab asp awr = CmX.mk ak ae an ah ayn ayl ays aya bsw bst bw bb bsp bwr))) ∧ Below w.heap.size w w' := by
  have HB : Hid (Below w.heap.size w ((w.alloc (.cells #[.int .i64 ak, .int .i64 ae, .int .i64 an, .int .i64 ah, .int .i64 ayn, .int .i64 ayl, .int .i64 ays, .int .i64 aya, .int .i64 asw, .int .i64 ast, .int .i64 aw, .bool ab, .slice pa asp.length ca, .slice qa awr.length da] 29)).alloc (.cells #[.int .i64 ak, .int .i64 ae, .int .i64 an, .int .i64 ah, .int .i64 ayn, .int .i64 ayl, .int .i64 ays, .int .i64 aya, .int .i64 bsw, .int .i64 bst, .int .i64 bw, .bool bb, .slice pb bsp.length cb, .slice qb bwr.length db] 29))) := ((Below.refl _ _).alloc (Nat.le_refl _) _).alloc (by simp) _
  have HN : Hid (decide (CmX.mk ak ae an ah ayn ayl ays aya asw ast aw ab asp awr = CmX.mk ak ae an ah ayn ayl ays aya bsw bst bw bb bsp bwr) = false) := by
    show _ = _; rw [decide_eq_false_iff_not]; intro e; injection e; exact h (by simp_all)
  have hq := fun w => eql_st_no asw bsw ast bst w h
  have hqt := fun w => eql_try_yes ayn ayl ays aya w
  have hu : undef = Value.tuple #[] := rfl
  clear h
  go_enter Try.func10, Try.ntmps10
  go_wp2_with fail
  go_ret
  exact ⟨ret_boolW HN.out.symm, HB.out⟩
end Go.Proofs.Ytmhmlpfkdpjlaaa
/- Wire: are two commands the same? Package wire's: they are not. -/
namespace Go.Proofs.Ytmhmlpfkdpjlaaa
open Go.ChangeShapes Go.WideShapes Go.ChangeAt Go.RowKit

set_option maxRecDepth 100000 in
set_option maxHeartbeats 16000000 in
theorem wsame_no6 (ak ae an ah ayn ayl ays aya asw ast aw bw : Int) (ab bb : Bool) (asp bsp : List SpX) (awr bwr : List WrX) (pa qa pb qb : Option Addr) (ca da cb db : Nat) (w : World) (h : ¬ (aw = bw)) :
    Calls Try.prog 10 #[.agg #[.int .i64 ak, .int .i64 ae, .int .i64 an, .int .i64 ah, .int .i64 ayn, .int .i64 ayl, .int .i64 ays, .int .i64 aya, .int .i64 asw, .int .i64 ast, .int .i64 aw, .bool ab, .slice pa asp.length ca, .slice qa awr.length da], .agg #[.int .i64 ak, .int .i64 ae, .int .i64 an, .int .i64 ah, .int .i64 ayn, .int .i64 ayl, .int .i64 ays, .int .i64 aya, .int .i64 asw, .int .i64 ast, .int .i64 bw, .bool bb, .slice pb bsp.length cb, .slice qb bwr.length db]] w fun e w' => e = .returned (.bool (decide (CmX.mk ak ae an ah ayn ayl ays aya asw ast aw ab asp awr = CmX.mk ak ae an ah ayn ayl ays aya asw ast bw bb bsp bwr))) ∧ Below w.heap.size w w' := by
  have HB : Hid (Below w.heap.size w ((w.alloc (.cells #[.int .i64 ak, .int .i64 ae, .int .i64 an, .int .i64 ah, .int .i64 ayn, .int .i64 ayl, .int .i64 ays, .int .i64 aya, .int .i64 asw, .int .i64 ast, .int .i64 aw, .bool ab, .slice pa asp.length ca, .slice qa awr.length da] 29)).alloc (.cells #[.int .i64 ak, .int .i64 ae, .int .i64 an, .int .i64 ah, .int .i64 ayn, .int .i64 ayl, .int .i64 ays, .int .i64 aya, .int .i64 asw, .int .i64 ast, .int .i64 bw, .bool bb, .slice pb bsp.length cb, .slice qb bwr.length db] 29))) := ((Below.refl _ _).alloc (Nat.le_refl _) _).alloc (by simp) _
  have HN : Hid (decide (CmX.mk ak ae an ah ayn ayl ays aya asw ast aw ab asp awr = CmX.mk ak ae an ah ayn ayl ays aya asw ast bw bb bsp bwr) = false) := by
    show _ = _; rw [decide_eq_false_iff_not]; intro e; injection e; exact h (by simp_all)
  have hq := (by simpa using h : (aw == bw) = false)
  have hqt := fun w => eql_try_yes ayn ayl ays aya w
  have hqs := fun w => eql_st_yes asw ast w
  have hu : undef = Value.tuple #[] := rfl
  clear h
  go_enter Try.func10, Try.ntmps10
  go_wp2_with fail
  go_ret
  exact ⟨ret_boolW HN.out.symm, HB.out⟩
set_option maxRecDepth 100000 in
set_option maxHeartbeats 16000000 in
theorem wsame_no7 (ak ae an ah ayn ayl ays aya asw ast aw : Int) (ab bb : Bool) (asp bsp : List SpX) (awr bwr : List WrX) (pa qa pb qb : Option Addr) (ca da cb db : Nat) (w : World) (h : ¬ (ab = bb)) :
    Calls Try.prog 10 #[.agg #[.int .i64 ak, .int .i64 ae, .int .i64 an, .int .i64 ah, .int .i64 ayn, .int .i64 ayl, .int .i64 ays, .int .i64 aya, .int .i64 asw, .int .i64 ast, .int .i64 aw, .bool ab, .slice pa asp.length ca, .slice qa awr.length da], .agg #[.int .i64 ak, .int .i64 ae, .int .i64 an, .int .i64 ah, .int .i64 ayn, .int .i64 ayl, .int .i64 ays, .int .i64 aya, .int .i64 asw, .int .i64 ast, .int .i64 aw, .bool bb, .slice pb bsp.length cb, .slice qb bwr.length db]] w fun e w' => e = .returned (.bool (decide (CmX.mk ak ae an ah ayn ayl ays aya asw ast aw ab asp awr = CmX.mk ak ae an ah ayn ayl ays aya asw ast aw bb bsp bwr))) ∧ Below w.heap.size w w' := by
  have HB : Hid (Below w.heap.size w ((w.alloc (.cells #[.int .i64 ak, .int .i64 ae, .int .i64 an, .int .i64 ah, .int .i64 ayn, .int .i64 ayl, .int .i64 ays, .int .i64 aya, .int .i64 asw, .int .i64 ast, .int .i64 aw, .bool ab, .slice pa asp.length ca, .slice qa awr.length da] 29)).alloc (.cells #[.int .i64 ak, .int .i64 ae, .int .i64 an, .int .i64 ah, .int .i64 ayn, .int .i64 ayl, .int .i64 ays, .int .i64 aya, .int .i64 asw, .int .i64 ast, .int .i64 aw, .bool bb, .slice pb bsp.length cb, .slice qb bwr.length db] 29))) := ((Below.refl _ _).alloc (Nat.le_refl _) _).alloc (by simp) _
  have HN : Hid (decide (CmX.mk ak ae an ah ayn ayl ays aya asw ast aw ab asp awr = CmX.mk ak ae an ah ayn ayl ays aya asw ast aw bb bsp bwr) = false) := by
    show _ = _; rw [decide_eq_false_iff_not]; intro e; injection e; exact h (by simp_all)
  have hq := (by simpa using h : (ab == bb) = false)
  have hqt := fun w => eql_try_yes ayn ayl ays aya w
  have hqs := fun w => eql_st_yes asw ast w
  have hu : undef = Value.tuple #[] := rfl
  clear h
  go_enter Try.func10, Try.ntmps10
  go_wp2_with fail
  go_ret
  exact ⟨ret_boolW HN.out.symm, HB.out⟩
end Go.Proofs.Ytmhmlpfkdpjlaaa
