/- BitsSums: for every two numbers: which sums and products there are, and which are no int64, is what the reference answers; no condition. -/
import Derived.Test.YtejcihffmhmpcaaSums
import Derived.Test.YtejcihffmhmpcaaFrame
import Derived.Test.YtejcihffmhmpcaaRows
namespace Go.Proofs.Ytejcihffmhmpcaa
open Go.ChangeShapes Go.WideShapes Go.ChangeAt Go.RowKit

theorem wf_i64 {n : Int} (h : (Lit.int .i64 n).wf = true) : -9223372036854775808 ≤ n ∧ n ≤ 9223372036854775807 := by
  have h1 : IntKind.i64.min = -9223372036854775808 := rfl
  have h2 : IntKind.i64.max = 9223372036854775807 := rfl
  simp only [Lit.wf, Bool.and_eq_true, decide_eq_true_eq] at h; omega
theorem wf_u64 {n : Int} (h : (Lit.int .u64 n).wf = true) : 0 ≤ n ∧ n ≤ 18446744073709551615 := by
  have h1 : IntKind.u64.min = 0 := rfl
  have h2 : IntKind.u64.max = 18446744073709551615 := rfl
  simp only [Lit.wf, Bool.and_eq_true, decide_eq_true_eq] at h; omega

set_option maxHeartbeats 4000000 in
theorem sums_walk (a b : Int) (a0 : -9223372036854775808 ≤ a) (a1 : a ≤ 9223372036854775807) (b0 : -9223372036854775808 ≤ b) (b1 : b ≤ 9223372036854775807) (w : World) :
    Calls Try.prog 7 #[.int .i64 a, .int .i64 b] w fun r w' => r = .returned (.bool true) ∧ Below w.heap.size w w' := by
  by_cases hs : inI (a + b) <;> by_cases hm : inI (a * b)
  · have HS := Lib.hid hs; have HM := Lib.hid hm
    clear hs hm
    go_enter Try.func7, Try.ntmps7
    go_wp2_with (first | (go_at_call 34; refine (add_ok a b _ a0 a1 b0 b1 HS.out).mono ?_; rintro r w' ⟨rfl, rfl⟩) | (go_at_call 35; refine (refAdd_ok a b _ a0 a1 b0 b1 HS.out).mono ?_; rintro r w' ⟨rfl, rfl⟩) | (go_at_call 36; refine (mul_ok a b _ a0 a1 b0 b1 HM.out).mono ?_; rintro r w' ⟨rfl, rfl⟩) | (go_at_call 37; refine (refMul_ok a b _ a0 a1 b0 b1 HM.out).mono ?_; rintro r w' ⟨rfl, rfl⟩))
    refine (begun_any _).mono ?_; rintro r w1 ⟨rfl, hb⟩
    go_wp2_with fail
    go_ret
    exact ⟨rfl, hb⟩
  · have HS := Lib.hid hs; have HM := Lib.hid hm
    clear hs hm
    go_enter Try.func7, Try.ntmps7
    go_wp2_with (first | (go_at_call 34; refine (add_ok a b _ a0 a1 b0 b1 HS.out).mono ?_; rintro r w' ⟨rfl, rfl⟩) | (go_at_call 35; refine (refAdd_ok a b _ a0 a1 b0 b1 HS.out).mono ?_; rintro r w' ⟨rfl, rfl⟩) | (go_at_call 36; refine (mul_no a b _ a0 a1 b0 b1 HM.out).mono ?_; rintro r w' ⟨rfl, rfl⟩) | (go_at_call 37; refine (refMul_no a b _ a0 a1 b0 b1 HM.out).mono ?_; rintro r w' ⟨rfl, rfl⟩))
    refine (begun_any _).mono ?_; rintro r w1 ⟨rfl, hb⟩
    go_wp2_with fail
    go_ret
    exact ⟨rfl, hb⟩
  · have HS := Lib.hid hs; have HM := Lib.hid hm
    clear hs hm
    go_enter Try.func7, Try.ntmps7
    go_wp2_with (first | (go_at_call 34; refine (add_no a b _ a0 a1 b0 b1 HS.out).mono ?_; rintro r w' ⟨rfl, rfl⟩) | (go_at_call 35; refine (refAdd_no a b _ a0 a1 b0 b1 HS.out).mono ?_; rintro r w' ⟨rfl, rfl⟩) | (go_at_call 36; refine (mul_ok a b _ a0 a1 b0 b1 HM.out).mono ?_; rintro r w' ⟨rfl, rfl⟩) | (go_at_call 37; refine (refMul_ok a b _ a0 a1 b0 b1 HM.out).mono ?_; rintro r w' ⟨rfl, rfl⟩))
    refine (begun_any _).mono ?_; rintro r w1 ⟨rfl, hb⟩
    go_wp2_with fail
    go_ret
    exact ⟨rfl, hb⟩
  · have HS := Lib.hid hs; have HM := Lib.hid hm
    clear hs hm
    go_enter Try.func7, Try.ntmps7
    go_wp2_with (first | (go_at_call 34; refine (add_no a b _ a0 a1 b0 b1 HS.out).mono ?_; rintro r w' ⟨rfl, rfl⟩) | (go_at_call 35; refine (refAdd_no a b _ a0 a1 b0 b1 HS.out).mono ?_; rintro r w' ⟨rfl, rfl⟩) | (go_at_call 36; refine (mul_no a b _ a0 a1 b0 b1 HM.out).mono ?_; rintro r w' ⟨rfl, rfl⟩) | (go_at_call 37; refine (refMul_no a b _ a0 a1 b0 b1 HM.out).mono ?_; rintro r w' ⟨rfl, rfl⟩))
    refine (begun_any _).mono ?_; rintro r w1 ⟨rfl, hb⟩
    go_wp2_with fail
    go_ret
    exact ⟨rfl, hb⟩

set_option maxRecDepth 100000 in
theorem sums_lifted (os : Os) (started : os.Started) (H : Type) (enc : TypeId × Value → H) :
    ReturnsInHanded {} Try.checked os 7 .any (Rows.bitsSumsSpec.pre6 enc Try.prog Try.f7 Rows.bitsSumsRow.domain false) (Rows.bitsSumsSpec.post enc Try.prog Try.f7 false true false false) := by
  refine lift_law (C := Try.checked) (tb := 4) (by kernel_rfl) started (by kernel_rfl) Try.func7 (ChangeSpec.witness6 (enc := enc) (C := Try.checked) false ⟨#[], #[.int .i64 0, .int .i64 0], []⟩ 8 (by kernel_rfl) (by kernel_rfl) (by kernel_rfl) (by kernel_rfl)) (by kernel_rfl) (by kernel_rfl) rfl Try.underlying4 rfl ?_ ?_
  · intro ds h
    match ds, h with
    | [_, _], _ => rfl
  · intro W base args ds ps hval0 hA0 hlt hsz
    have hval : ∀ (j : Nat) t v, Try.f7.params[j]? = some t → args[j]? = some v → Value.okWide Try.prog W .any base t v := hval0
    have hA : DataW.TrodAll enc Try.prog W 0 (fun _ => true) true Try.f7.params.toList args.toList ds ps := hA0
    rw [Try.params7] at hA hval
    obtain ⟨v0, v1, d0, d1, p0, p1, rfl, rfl, rfl, h0, h1⟩ := trodAll_two hA
    obtain ⟨a, rfl, rfl, rfl, wa⟩ := open_int Try.underlying2 (hval 0 2 v0 rfl rfl) h0
    obtain ⟨b, rfl, rfl, rfl, wb⟩ := open_int Try.underlying2 (hval 1 2 v1 rfl rfl) h1
    exact sums_walk a b (wf_i64 wa).1 (wf_i64 wa).2 (wf_i64 wb).1 (wf_i64 wb).2 W

theorem sums_holds : Rows.BitsSumsSaid :=
  OpenClaim.holds_of_wide 7 Try.f7 rfl rfl rfl rfl rfl rfl rfl ⟨rfl, rfl, rfl, rfl, rfl⟩ rfl rfl rfl rfl rfl (by kernel_rfl) Try.func7 (by kernel_rfl)
    (of_decide_eq_true (by kernel_rfl)) (by unfold Func.isWrapper; first | (rw [if_pos (by decide +kernel)]; kernel_rfl) | (rw [if_neg (by decide +kernel)]; exact ⟨rfl, rfl⟩))
    (fun os started H enc _ => sums_lifted os started H enc)
#print axioms sums_holds
end Go.Proofs.Ytejcihffmhmpcaa
