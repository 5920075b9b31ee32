/- Wire: are two commands the same? Package wire's. -/
import Derived.Test.YtmhmlpfkdpjlaaaWireG3
namespace Go.Proofs.Ytmhmlpfkdpjlaaa
open Go.ChangeShapes Go.WideShapes Go.ChangeAt Go.RowKit

set_option maxRecDepth 100000 in
set_option maxHeartbeats 16000000 in
theorem wsame_yes (ak ae an ah ayn ayl ays aya asw ast aw : Int) (ab : Bool) (asp bsp : List SpX) (awr bwr : List WrX) (pa qa pb qb : Option Addr) (ca da cb db : Nat) (w : World) (l1 : asp.length ≤ 1000000) (l2 : awr.length ≤ 1000000) (l3 : bsp.length ≤ 1000000) (l4 : bwr.length ≤ 1000000) (h1 : SpsAt w pa asp) (h2 : WrsAt w qa awr) (h3 : SpsAt w pb bsp) (h4 : WrsAt w qb bwr) :
    Calls Try.prog 10 #[.agg #[.int .i64 ak, .int .i64 ae, .int .i64 an, .int .i64 ah, .int .i64 ayn, .int .i64 ayl, .int .i64 ays, .int .i64 aya, .int .i64 asw, .int .i64 ast, .int .i64 aw, .bool ab, .slice pa asp.length ca, .slice qa awr.length da], .agg #[.int .i64 ak, .int .i64 ae, .int .i64 an, .int .i64 ah, .int .i64 ayn, .int .i64 ayl, .int .i64 ays, .int .i64 aya, .int .i64 asw, .int .i64 ast, .int .i64 aw, .bool ab, .slice pb bsp.length cb, .slice qb bwr.length db]] w fun e w' => e = .returned (.bool (decide (CmX.mk ak ae an ah ayn ayl ays aya asw ast aw ab asp awr = CmX.mk ak ae an ah ayn ayl ays aya asw ast aw ab bsp bwr))) ∧ Below w.heap.size w w' := by
  have hB : Below w.heap.size w ((w.alloc (.cells #[.int .i64 ak, .int .i64 ae, .int .i64 an, .int .i64 ah, .int .i64 ayn, .int .i64 ayl, .int .i64 ays, .int .i64 aya, .int .i64 asw, .int .i64 ast, .int .i64 aw, .bool ab, .slice pa asp.length ca, .slice qa awr.length da] 29)).alloc (.cells #[.int .i64 ak, .int .i64 ae, .int .i64 an, .int .i64 ah, .int .i64 ayn, .int .i64 ayl, .int .i64 ays, .int .i64 aya, .int .i64 asw, .int .i64 ast, .int .i64 aw, .bool ab, .slice pb bsp.length cb, .slice qb bwr.length db] 29)) := ((Below.refl _ _).alloc (Nat.le_refl _) _).alloc (by simp) _
  have HB := Lib.hid hB
  have H1 := Lib.hid (h1.keep hB (Nat.le_refl _)); have H2 := Lib.hid (h2.keep hB (Nat.le_refl _)); have H3 := Lib.hid (h3.keep hB (Nat.le_refl _)); have H4 := Lib.hid (h4.keep hB (Nat.le_refl _))
  clear h1 h2 h3 h4 hB
  have hqt := fun w => eql_try_yes ayn ayl ays aya w
  have hqs := fun w => eql_st_yes asw ast w
  have HN : Hid (decide (CmX.mk ak ae an ah ayn ayl ays aya asw ast aw ab asp awr = CmX.mk ak ae an ah ayn ayl ays aya asw ast aw ab bsp bwr) = (decide (asp = bsp) && decide (awr = bwr))) := by
    show _ = _; simp [CmX.mk.injEq]
  obtain ⟨W, hW⟩ : ∃ W : World, ((w.alloc (.cells #[.int .i64 ak, .int .i64 ae, .int .i64 an, .int .i64 ah, .int .i64 ayn, .int .i64 ayl, .int .i64 ays, .int .i64 aya, .int .i64 asw, .int .i64 ast, .int .i64 aw, .bool ab, .slice pa asp.length ca, .slice qa awr.length da] 29)).alloc (.cells #[.int .i64 ak, .int .i64 ae, .int .i64 an, .int .i64 ah, .int .i64 ayn, .int .i64 ayl, .int .i64 ays, .int .i64 aya, .int .i64 asw, .int .i64 ast, .int .i64 aw, .bool ab, .slice pb bsp.length cb, .slice qb bwr.length db] 29)) = W := ⟨_, rfl⟩
  have hA := heap_prev (.cells #[.int .i64 ak, .int .i64 ae, .int .i64 an, .int .i64 ah, .int .i64 ayn, .int .i64 ayl, .int .i64 ays, .int .i64 aya, .int .i64 asw, .int .i64 ast, .int .i64 aw, .bool ab, .slice pb bsp.length cb, .slice qb bwr.length db] 29) (heap_last w (.cells #[.int .i64 ak, .int .i64 ae, .int .i64 an, .int .i64 ah, .int .i64 ayn, .int .i64 ayl, .int .i64 ays, .int .i64 aya, .int .i64 asw, .int .i64 ast, .int .i64 aw, .bool ab, .slice pa asp.length ca, .slice qa awr.length da] 29))
  have hD := heap_last (w.alloc (.cells #[.int .i64 ak, .int .i64 ae, .int .i64 an, .int .i64 ah, .int .i64 ayn, .int .i64 ayl, .int .i64 ays, .int .i64 aya, .int .i64 asw, .int .i64 ast, .int .i64 aw, .bool ab, .slice pa asp.length ca, .slice qa awr.length da] 29)) (.cells #[.int .i64 ak, .int .i64 ae, .int .i64 an, .int .i64 ah, .int .i64 ayn, .int .i64 ayl, .int .i64 ays, .int .i64 aya, .int .i64 asw, .int .i64 ast, .int .i64 aw, .bool ab, .slice pb bsp.length cb, .slice qb bwr.length db] 29)
  have sz : (w.alloc (.cells #[.int .i64 ak, .int .i64 ae, .int .i64 an, .int .i64 ah, .int .i64 ayn, .int .i64 ayl, .int .i64 ays, .int .i64 aya, .int .i64 asw, .int .i64 ast, .int .i64 aw, .bool ab, .slice pa asp.length ca, .slice qa awr.length da] 29)).heap.size = w.heap.size + 1 := by simp
  rw [hW] at hA hD
  rw [sz] at hD
  have HA := Lib.hid hA; have HD := Lib.hid hD
  clear sz hA hD
  rw [hW] at H1 H2 H3 H4 HB
  have C1 := Lib.hid (eqSp_any asp bsp pa pb ca cb W l1 l3 H1.out H3.out)
  obtain ⟨b1, hb1⟩ : ∃ b, decide (asp = bsp) = b := ⟨_, rfl⟩
  obtain ⟨b2, hb2⟩ : ∃ b, decide (awr = bwr) = b := ⟨_, rfl⟩
  have C2 : Hid (∀ w', Below W.heap.size W w' → Calls Try.prog 33 #[.slice qa awr.length da, .slice qb bwr.length db] w' fun r w'' => r = .returned (.bool b2) ∧ Below w'.heap.size w' w'') := fun w' h => by
    have := eqWr_any awr bwr qa qb da db w' l2 l4 (H2.out.keep h (Nat.le_refl _)) (H4.out.keep h (Nat.le_refl _)); rw [hb2] at this; exact this
  rw [hb1] at C1 HN
  rw [hb2] at HN
  have HW := Lib.hid hW
  have hu : undef = Value.tuple #[] := rfl
  clear hb1 hb2 hW
  go_enter Try.func10, Try.ntmps10
  go_wp2_with fail
  rw [HW.out]
  refine C1.out.mono ?_; rintro r w1 ⟨rfl, hb1⟩
  have kA := block_cells (below_block hb1 (block_lt HA.out) HA.out)
  have kD := block_cells (below_block hb1 (block_lt HD.out) HD.out)
  have HB1 := Lib.hid (HB.out.trans (hb1.mono HB.out.size))
  have HC2 := Lib.hid (C2.out w1 hb1)
  clear hb1 C1 C2 HA HD HW
  cases b1 with
  | false =>
    have hu : undef = Value.tuple #[] := rfl
    go_wp2_with fail
    go_ret
    exact ⟨ret_boolW HN.out.symm, HB1.out⟩
  | true =>
    go_wp2_with fail
    refine HC2.out.mono ?_; rintro r w2 ⟨rfl, hb2⟩
    have HB2 := Lib.hid (HB1.out.trans (hb2.mono HB1.out.size))
    clear hb2 HC2 kA kD
    go_wp2_with fail
    go_ret
    exact ⟨ret_boolW (by rw [HN.out]; rfl), HB2.out⟩
theorem wsameCmd_any (c d : CmX) (ps pw qs qw : Option Addr) (cs cw ds dw : Nat) (w : World) (lc : c.sp.length ≤ 1000000 ∧ c.wr.length ≤ 1000000) (ld : d.sp.length ≤ 1000000 ∧ d.wr.length ≤ 1000000) (hsp : SpsAt w ps c.sp) (hwr : WrsAt w pw c.wr) (hsp2 : SpsAt w qs d.sp) (hwr2 : WrsAt w qw d.wr) :
    Calls Try.prog 10 #[.agg #[.int .i64 c.k, .int .i64 c.e, .int .i64 c.n, .int .i64 c.h, .int .i64 c.yn, .int .i64 c.yl, .int .i64 c.ys, .int .i64 c.ya, .int .i64 c.sw, .int .i64 c.st, .int .i64 c.w, .bool c.yes, .slice ps c.sp.length cs, .slice pw c.wr.length cw], .agg #[.int .i64 d.k, .int .i64 d.e, .int .i64 d.n, .int .i64 d.h, .int .i64 d.yn, .int .i64 d.yl, .int .i64 d.ys, .int .i64 d.ya, .int .i64 d.sw, .int .i64 d.st, .int .i64 d.w, .bool d.yes, .slice qs d.sp.length ds, .slice qw d.wr.length dw]] w fun e w' => e = .returned (.bool (decide (c = d))) ∧ Below w.heap.size w w' := by
  obtain ⟨ak, ae, an, ah, ayn, ayl, ays, aya, asw, ast, aw, ab, asp, awr⟩ := c
  obtain ⟨bk, be, bn, bh, byn, byl, bys, bya, bsw, bst, bw, bb, bsp, bwr⟩ := d
  dsimp only at lc ld hsp hwr hsp2 hwr2 ⊢
  by_cases h : ak = bk
  rotate_left
  · exact wsame_no0 ak ae an ah ayn ayl ays aya asw ast aw bk be bn bh byn byl bys bya bsw bst bw ab bb asp bsp awr bwr ps pw qs qw cs cw ds dw w h
  subst h
  by_cases h : ae = be
  rotate_left
  · exact wsame_no1 ak ae an ah ayn ayl ays aya asw ast aw be bn bh byn byl bys bya bsw bst bw ab bb asp bsp awr bwr ps pw qs qw cs cw ds dw w h
  subst h
  by_cases h : an = bn
  rotate_left
  · exact wsame_no2 ak ae an ah ayn ayl ays aya asw ast aw bn bh byn byl bys bya bsw bst bw ab bb asp bsp awr bwr ps pw qs qw cs cw ds dw w h
  subst h
  by_cases h : ah = bh
  rotate_left
  · exact wsame_no3 ak ae an ah ayn ayl ays aya asw ast aw bh byn byl bys bya bsw bst bw ab bb asp bsp awr bwr ps pw qs qw cs cw ds dw w h
  subst h
  by_cases h : ayn = byn ∧ ayl = byl ∧ ays = bys ∧ aya = bya
  rotate_left
  · exact wsame_no4 ak ae an ah ayn ayl ays aya asw ast aw byn byl bys bya bsw bst bw ab bb asp bsp awr bwr ps pw qs qw cs cw ds dw w h
  obtain ⟨rfl, rfl, rfl, rfl⟩ := h
  by_cases h : asw = bsw ∧ ast = bst
  rotate_left
  · exact wsame_no5 ak ae an ah ayn ayl ays aya asw ast aw bsw bst bw ab bb asp bsp awr bwr ps pw qs qw cs cw ds dw w h
  obtain ⟨rfl, rfl⟩ := h
  by_cases h : aw = bw
  rotate_left
  · exact wsame_no6 ak ae an ah ayn ayl ays aya asw ast aw bw ab bb asp bsp awr bwr ps pw qs qw cs cw ds dw w h
  subst h
  by_cases h : ab = bb
  rotate_left
  · exact wsame_no7 ak ae an ah ayn ayl ays aya asw ast aw ab bb asp bsp awr bwr ps pw qs qw cs cw ds dw w h
  subst h
  exact wsame_yes ak ae an ah ayn ayl ays aya asw ast aw ab asp bsp awr bwr ps pw qs qw cs cw ds dw w lc.1 lc.2 ld.1 ld.2 hsp hwr hsp2 hwr2
end Go.Proofs.Ytmhmlpfkdpjlaaa
