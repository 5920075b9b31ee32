/- BitsTurns: for every number: signs are laid aside and back as the reference has it; no condition. -/
import Derived.Test.YtejcihffmhmpcaaBits
import Derived.Test.YtejcihffmhmpcaaFrame
import Derived.Test.YtejcihffmhmpcaaRows
namespace Go.Proofs.Ytejcihffmhmpcaa
open Go.ChangeShapes Go.WideShapes Go.ChangeAt Go.RowKit

theorem wf_i64 {n : Int} (h : (Lit.int .i64 n).wf = true) : -9223372036854775808 ≤ n ∧ n ≤ 9223372036854775807 := by
  have h1 : IntKind.i64.min = -9223372036854775808 := rfl
  have h2 : IntKind.i64.max = 9223372036854775807 := rfl
  simp only [Lit.wf, Bool.and_eq_true, decide_eq_true_eq] at h; omega
theorem wf_u64 {n : Int} (h : (Lit.int .u64 n).wf = true) : 0 ≤ n ∧ n ≤ 18446744073709551615 := by
  have h1 : IntKind.u64.min = 0 := rfl
  have h2 : IntKind.u64.max = 18446744073709551615 := rfl
  simp only [Lit.wf, Bool.and_eq_true, decide_eq_true_eq] at h; omega

set_option maxHeartbeats 2000000 in
theorem turns_walk (v u : Int) (h0 : -9223372036854775808 ≤ v) (h1 : v ≤ 9223372036854775807) (g0 : 0 ≤ u) (g1 : u ≤ 18446744073709551615) (w : World) :
    Calls Try.prog 3 #[.int .i64 v, .int .u64 u] w fun r w' => r = .returned (.bool true) ∧ Below w.heap.size w w' := by
  go_enter Try.func3, Try.ntmps3
  go_wp2_with fail
  refine (begun_any _).mono ?_; rintro r w1 ⟨rfl, hb⟩
  go_wp2_with (first | (go_at_call 11; refine (zig_any _ _ h0 h1).mono ?_; rintro r w' ⟨rfl, rfl⟩) | (go_at_call 12; refine (refZig_any _ _ h0 h1).mono ?_; rintro r w' ⟨rfl, rfl⟩) | (go_at_call 13; refine (zag_any _ _ g0 g1).mono ?_; rintro r w' ⟨rfl, rfl⟩) | (go_at_call 14; refine (refZag_any _ _ g0 g1).mono ?_; rintro r w' ⟨rfl, rfl⟩) | (go_at_call 15; refine (order_any _ _ h0 h1).mono ?_; rintro r w' ⟨rfl, rfl⟩) | (go_at_call 16; refine (refOrder_any _ _ h0 h1).mono ?_; rintro r w' ⟨rfl, rfl⟩) | (go_at_call 17; refine (back_any _ _ g0 g1).mono ?_; rintro r w' ⟨rfl, rfl⟩) | (go_at_call 18; refine (refBack_any _ _ g0 g1).mono ?_; rintro r w' ⟨rfl, rfl⟩))
  go_ret
  exact ⟨rfl, hb⟩

set_option maxRecDepth 100000 in
theorem turns_lifted (os : Os) (started : os.Started) (H : Type) (enc : TypeId × Value → H) :
    ReturnsInHanded {} Try.checked os 3 .any (Rows.bitsTurnsSpec.pre6 enc Try.prog Try.f3 Rows.bitsTurnsRow.domain false) (Rows.bitsTurnsSpec.post enc Try.prog Try.f3 false true false false) := by
  refine lift_law (C := Try.checked) (tb := 4) (by kernel_rfl) started (by kernel_rfl) Try.func3 (ChangeSpec.witness6 (enc := enc) (C := Try.checked) false ⟨#[], #[.int .i64 0, .int .u64 0], []⟩ 8 (by kernel_rfl) (by kernel_rfl) (by kernel_rfl) (by kernel_rfl)) (by kernel_rfl) (by kernel_rfl) rfl Try.underlying4 rfl ?_ ?_
  · intro ds h
    match ds, h with
    | [_, _], _ => rfl
  · intro W base args ds ps hval0 hA0 hlt hsz
    have hval : ∀ (j : Nat) t v, Try.f3.params[j]? = some t → args[j]? = some v → Value.okWide Try.prog W .any base t v := hval0
    have hA : DataW.TrodAll enc Try.prog W 0 (fun _ => true) true Try.f3.params.toList args.toList ds ps := hA0
    rw [Try.params3] at hA hval
    obtain ⟨v0, v1, d0, d1, p0, p1, rfl, rfl, rfl, h0, h1⟩ := trodAll_two hA
    obtain ⟨v, rfl, rfl, rfl, wv⟩ := open_int Try.underlying2 (hval 0 2 v0 rfl rfl) h0
    obtain ⟨u, rfl, rfl, rfl, wu⟩ := open_int Try.underlying22 (hval 1 22 v1 rfl rfl) h1
    exact turns_walk v u (wf_i64 wv).1 (wf_i64 wv).2 (wf_u64 wu).1 (wf_u64 wu).2 W

theorem turns_holds : Rows.BitsTurnsSaid :=
  OpenClaim.holds_of_wide 3 Try.f3 rfl rfl rfl rfl rfl rfl rfl ⟨rfl, rfl, rfl, rfl, rfl⟩ rfl rfl rfl rfl rfl (by kernel_rfl) Try.func3 (by kernel_rfl)
    (of_decide_eq_true (by kernel_rfl)) (by unfold Func.isWrapper; first | (rw [if_pos (by decide +kernel)]; kernel_rfl) | (rw [if_neg (by decide +kernel)]; exact ⟨rfl, rfl⟩))
    (fun os started H enc _ => turns_lifted os started H enc)
#print axioms turns_holds
end Go.Proofs.Ytejcihffmhmpcaa
