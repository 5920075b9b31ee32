/- StampLater: of two clocks that read between a true time and it plus their offset, a limit taken behind another one was ripe is greater; for all numbers, no condition. -/
import Derived.Test.YtmdeegbbclcloaaBegun6
import Derived.Test.YtmdeegbbclcloaaOpenStamp
import Derived.Test.YtmdeegbbclcloaaRows
namespace Go.Proofs.Ytmdeegbbclcloaa
open Go.ChangeShapes Go.WideShapes Go.ChangeAt Go.RowKit

set_option maxRecDepth 100000 in
set_option maxHeartbeats 8000000 in
theorem later_walk (first second offset a b : Int) (w : World) :
    Calls Try.prog 5 #[.int .i64 first, .int .i64 second, .int .i64 offset, .int .i64 a, .int .i64 b] w fun r w' => r = .returned (.bool true) ∧ Below w.heap.size w w' := by
  by_cases t0 : offset < 0
  · go_enter Try.func5, Try.ntmps5
    go_wp2_with fail
    refine (begun_any _).mono ?_; rintro r w1 ⟨rfl, hb⟩
    go_wp2_with fail
    go_ret
    exact ⟨rfl, hb⟩
  by_cases t1 : first < 0
  · go_enter Try.func5, Try.ntmps5
    go_wp2_with fail
    refine (begun_any _).mono ?_; rintro r w1 ⟨rfl, hb⟩
    go_wp2_with fail
    go_ret
    exact ⟨rfl, hb⟩
  by_cases t2 : second < first
  · go_enter Try.func5, Try.ntmps5
    go_wp2_with fail
    refine (begun_any _).mono ?_; rintro r w1 ⟨rfl, hb⟩
    go_wp2_with fail
    go_ret
    exact ⟨rfl, hb⟩
  by_cases t3 : 1099511627776 < second
  · go_enter Try.func5, Try.ntmps5
    go_wp2_with fail
    refine (begun_any _).mono ?_; rintro r w1 ⟨rfl, hb⟩
    go_wp2_with fail
    go_ret
    exact ⟨rfl, hb⟩
  by_cases t4 : 1099511627776 < offset
  · go_enter Try.func5, Try.ntmps5
    go_wp2_with fail
    refine (begun_any _).mono ?_; rintro r w1 ⟨rfl, hb⟩
    go_wp2_with fail
    go_ret
    exact ⟨rfl, hb⟩
  by_cases t5 : a < 0
  · go_enter Try.func5, Try.ntmps5
    go_wp2_with fail
    refine (begun_any _).mono ?_; rintro r w1 ⟨rfl, hb⟩
    go_wp2_with fail
    go_ret
    exact ⟨rfl, hb⟩
  by_cases t6 : offset < a
  · go_enter Try.func5, Try.ntmps5
    go_wp2_with fail
    refine (begun_any _).mono ?_; rintro r w1 ⟨rfl, hb⟩
    go_wp2_with fail
    go_ret
    exact ⟨rfl, hb⟩
  by_cases t7 : b < 0
  · go_enter Try.func5, Try.ntmps5
    go_wp2_with fail
    refine (begun_any _).mono ?_; rintro r w1 ⟨rfl, hb⟩
    go_wp2_with fail
    go_ret
    exact ⟨rfl, hb⟩
  by_cases t8 : offset < b
  · go_enter Try.func5, Try.ntmps5
    go_wp2_with fail
    refine (begun_any _).mono ?_; rintro r w1 ⟨rfl, hb⟩
    go_wp2_with fail
    go_ret
    exact ⟨rfl, hb⟩
  have R1 := Lib.hid (show readI 0 (first + a) = first + a by unfold readI; omega)
  have R2 := Lib.hid (show readI 0 (second + b) = second + b by unfold readI; omega)
  have L0 := Lib.hid (show limE (second + b) offset = 0 by unfold limE; rw [if_neg]; omega)
  have L1 := Lib.hid (show limI (second + b) offset = second + b + offset + 1 by unfold limI; rw [if_pos L0.out])
  go_enter Try.func5, Try.ntmps5
  go_wp2_with fail
  refine (begun_any _).mono ?_; rintro r w1 ⟨rfl, hb1⟩
  go_wp2_with fail
  refine (read_any _ _ _ _).mono ?_; rintro r w2 ⟨rfl, hb2⟩; rw [R1.out]
  replace hb2 := hb1.trans (hb2.mono hb1.size)
  have HA := heap_last w2 (.cells #[.int .i64 (first + a), .int .i64 offset] 31)
  go_wp2_with fail
  refine (read_any _ _ _ _).mono ?_; rintro r w3 ⟨rfl, hb3⟩; rw [R2.out]
  have hs3 := hb3.size
  simp only [World.size_alloc] at hb3 hs3
  have HB := heap_last w3 (.cells #[.int .i64 (second + b), .int .i64 offset] 31)
  replace HA := below_block hb3 (by omega) HA
  replace hb3 := (hb2.alloc hb2.size _).trans (hb3.mono (by have := hb2.size; omega))
  have HA2 := heap_prev (.cells #[.int .i64 (second + b), .int .i64 offset] 31) HA
  have kB := block_cells HB
  go_wp2_with fail
  refine (lim_any _ _ _ (by omega) (by omega) (by omega) (by omega)).mono ?_; rintro r w4 ⟨rfl, hb4⟩; rw [L0.out, L1.out]
  simp only [World.size_alloc] at hb4
  replace HA := below_block hb4 (by omega) HA2
  replace hb4 := (hb3.alloc hb3.size _).trans (hb4.mono (by have := hb3.size; omega))
  clear HB HA2 kB
  have kA := block_cells HA
  go_wp2_with fail
  refine (ripe_any _ _ _ _).mono ?_; rintro r w5 ⟨rfl, hb5⟩; rw [decide_eq_true (show first + a ≤ first + a by omega)]
  replace HA := below_block hb5 (block_lt HA) HA
  replace hb5 := hb4.trans (hb5.mono hb4.size)
  clear kA
  have kA := block_cells HA
  go_wp2_with fail
  refine (ripe_any _ _ _ _).mono ?_; rintro r w6 ⟨rfl, hb6⟩; rw [decide_eq_false (show ¬ first + a + 1 ≤ first + a by omega)]
  replace HA := below_block hb6 (block_lt HA) HA
  replace hb6 := hb5.trans (hb6.mono hb5.size)
  clear kA
  have kA := block_cells HA
  go_wp2_with fail
  go_ret
  exact ⟨ret_bool (by simp; omega), hb6⟩


set_option maxRecDepth 100000 in
theorem later_lifted (os : Os) (started : os.Started) (H : Type) (enc : TypeId × Value → H) :
    ReturnsInHanded {} Try.checked os 5 .any (Rows.stampLaterSpec.pre6 enc Try.prog Try.f5 Rows.stampLaterRow.domain false) (Rows.stampLaterSpec.post enc Try.prog Try.f5 false true false false) := by
  refine lift_law (C := Try.checked) (tb := 4) (by kernel_rfl) started (by kernel_rfl) Try.func5 (ChangeSpec.witness6 (enc := enc) (C := Try.checked) false ⟨#[], #[.int .i64 0, .int .i64 0, .int .i64 0, .int .i64 0, .int .i64 0], []⟩ 8 (by kernel_rfl) (by kernel_rfl) (by kernel_rfl) (by kernel_rfl)) (by kernel_rfl) (by kernel_rfl) rfl Try.underlying4 rfl ?_ ?_
  · intro ds h
    match ds, h with
    | [_, _, _, _, _], _ => rfl
  · intro W base args ds ps hval0 hA0 hlt hsz
    have hval : ∀ (j : Nat) t v, Try.f5.params[j]? = some t → args[j]? = some v → Value.okWide Try.prog W .any base t v := hval0
    have hA : DataW.TrodAll enc Try.prog W 0 (fun _ => true) true Try.f5.params.toList args.toList ds ps := hA0
    rw [Try.params5] at hA hval
    obtain ⟨v0, vs0, d0, ds0, p0, q0, hargs, rfl, rfl, h0, r0⟩ := trodAll_cons hA
    obtain ⟨v1, vs1, d1, ds1, p1, q1, rfl, rfl, rfl, h1, r1⟩ := trodAll_cons r0
    obtain ⟨v2, vs2, d2, ds2, p2, q2, rfl, rfl, rfl, h2, r2⟩ := trodAll_cons r1
    obtain ⟨v3, vs3, d3, ds3, p3, q3, rfl, rfl, rfl, h3, r3⟩ := trodAll_cons r2
    obtain ⟨v4, vs4, d4, ds4, p4, q4, rfl, rfl, rfl, h4, r4⟩ := trodAll_cons r3
    obtain ⟨rfl, rfl, rfl⟩ := trodAll_nil r4
    obtain ⟨args⟩ := args; obtain rfl : args = _ := hargs
    obtain ⟨first, rfl, rfl, rfl, wfirst⟩ := open_int Try.underlying2 (hval 0 2 v0 rfl rfl) h0
    obtain ⟨second, rfl, rfl, rfl, wsecond⟩ := open_int Try.underlying2 (hval 1 2 v1 rfl rfl) h1
    obtain ⟨offset, rfl, rfl, rfl, woffset⟩ := open_int Try.underlying2 (hval 2 2 v2 rfl rfl) h2
    obtain ⟨a, rfl, rfl, rfl, wa⟩ := open_int Try.underlying2 (hval 3 2 v3 rfl rfl) h3
    obtain ⟨b, rfl, rfl, rfl, wb⟩ := open_int Try.underlying2 (hval 4 2 v4 rfl rfl) h4
    exact later_walk first second offset a b W

theorem later_holds : Rows.StampLaterSaid :=
  OpenClaim.holds_of_wide 5 Try.f5 rfl rfl rfl rfl rfl rfl rfl ⟨rfl, rfl, rfl, rfl, rfl⟩ rfl rfl rfl rfl rfl (by kernel_rfl) Try.func5 (by kernel_rfl)
    (of_decide_eq_true (by kernel_rfl)) (by unfold Func.isWrapper; first | (rw [if_pos (by decide +kernel)]; kernel_rfl) | (rw [if_neg (by decide +kernel)]; exact ⟨rfl, rfl⟩))
    (fun os started H enc _ => later_lifted os started H enc)
#print axioms later_holds

end Go.Proofs.Ytmdeegbbclcloaa
