/- StampTies: for any two attempts: the ties are the document's, and no two attempts that have one have the same; no condition. -/
import Derived.Test.YtmdeegbbclcloaaBegun6
import Derived.Test.YtmdeegbbclcloaaOpenStamp
import Derived.Test.YtmdeegbbclcloaaRows
namespace Go.Proofs.Ytmdeegbbclcloaa
open Go.ChangeShapes Go.WideShapes Go.ChangeAt Go.RowKit

set_option maxRecDepth 100000 in
set_option maxHeartbeats 8000000 in
theorem ties_walk (n l s a m k t b : Int) (w : World) :
    Calls Try.prog 3 #[.agg #[.int .i64 n, .int .i64 l, .int .i64 s, .int .i64 a], .agg #[.int .i64 m, .int .i64 k, .int .i64 t, .int .i64 b]] w fun r w' => r = .returned (.bool true) ∧ Below w.heap.size w w' := by
  cases h1 : tieOk n l s a <;> cases h2 : tieOk m k t b
  all_goals
    have H1 := Lib.hid h1; have H2 := Lib.hid h2
    clear h1 h2
    go_enter Try.func3, Try.ntmps3
    go_wp2_with fail
    refine (begun_any _).mono ?_; rintro r w1 ⟨rfl, hb⟩
    simp only [World.size_alloc] at hb
    have HA := below_block hb (by omega) (heap_prev _ (heap_last w _))
    have HB := below_block hb (by simp) (heap_last (w.alloc _) _)
    simp only [World.size_alloc] at HB
    have FIN := Lib.hid ((below_two w _ _).trans (hb.mono (by omega)))
    clear hb
    have kA := block_cells HA
    have kB := block_cells HB
    clear HA HB
    go_wp2_with fail
    first
    | (refine (tie_ok n l s a _ H1.out).mono ?_; rintro r w2 ⟨rfl, rfl⟩; go_wp2_with fail; refine (refTie_ok n l s a _ H1.out).mono ?_; rintro r w2 ⟨rfl, rfl⟩)
    | (refine (tie_no n l s a _ H1.out).mono ?_; rintro r w2 ⟨rfl, rfl⟩; go_wp2_with fail; refine (refTie_no n l s a _ H1.out).mono ?_; rintro r w2 ⟨rfl, rfl⟩)
    go_wp2_with fail
    first
    | (refine (tie_ok m k t b _ H2.out).mono ?_; rintro r w2 ⟨rfl, rfl⟩)
    | (refine (tie_no m k t b _ H2.out).mono ?_; rintro r w2 ⟨rfl, rfl⟩)
    go_wp2_with fail
    all_goals
      go_ret
      first
      | exact ⟨rfl, FIN.out⟩
      | exact ⟨ret_bool (by have b1 := tieOk_bd H1.out; have b2 := tieOk_bd H2.out; simp [tieI]; omega), FIN.out⟩


set_option maxRecDepth 100000 in
theorem ties_lifted (os : Os) (started : os.Started) (H : Type) (enc : TypeId × Value → H) :
    ReturnsInHanded {} Try.checked os 3 .any (Rows.stampTiesSpec.pre6 enc Try.prog Try.f3 Rows.stampTiesRow.domain false) (Rows.stampTiesSpec.post enc Try.prog Try.f3 false true false false) := by
  refine lift_law (C := Try.checked) (tb := 4) (by kernel_rfl) started (by kernel_rfl) Try.func3 (ChangeSpec.witness6 (enc := enc) (C := Try.checked) false ⟨#[], #[.agg #[.int .i64 0, .int .i64 0, .int .i64 0, .int .i64 0], .agg #[.int .i64 0, .int .i64 0, .int .i64 0, .int .i64 0]], []⟩ 8 (by kernel_rfl) (by kernel_rfl) (by kernel_rfl) (by kernel_rfl)) (by kernel_rfl) (by kernel_rfl) rfl Try.underlying4 rfl ?_ ?_
  · intro ds h
    match ds, h with
    | [_, _], _ => rfl
  · intro W base args ds ps hval0 hA0 hlt hsz
    have hval : ∀ (j : Nat) t v, Try.f3.params[j]? = some t → args[j]? = some v → Value.okWide Try.prog W .any base t v := hval0
    have hA : DataW.TrodAll enc Try.prog W 0 (fun _ => true) true Try.f3.params.toList args.toList ds ps := hA0
    rw [Try.params3] at hA hval
    obtain ⟨v0, v1, d0, d1, p0, p1, rfl, rfl, rfl, h0, h1⟩ := trodAll_two hA
    obtain ⟨n, l, s, a, rfl⟩ := open_try (hval 0 23 v0 rfl rfl) h0
    obtain ⟨m, k, t, b, rfl⟩ := open_try (hval 1 23 v1 rfl rfl) h1
    exact ties_walk n l s a m k t b W

theorem ties_holds : Rows.StampTiesSaid :=
  OpenClaim.holds_of_wide 3 Try.f3 rfl rfl rfl rfl rfl rfl rfl ⟨rfl, rfl, rfl, rfl, rfl⟩ rfl rfl rfl rfl rfl (by kernel_rfl) Try.func3 (by kernel_rfl)
    (of_decide_eq_true (by kernel_rfl)) (by unfold Func.isWrapper; first | (rw [if_pos (by decide +kernel)]; kernel_rfl) | (rw [if_neg (by decide +kernel)]; exact ⟨rfl, rfl⟩))
    (fun os started H enc _ => ties_lifted os started H enc)
#print axioms ties_holds

end Go.Proofs.Ytmdeegbbclcloaa
