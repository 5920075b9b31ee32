/- BitsRing: for every two numbers: sums and products that there are do not hang on the order, what is added can be taken away, and multiplied divided; no condition. -/
import Derived.Test.YtejcihffmhmpcaaRingA
import Derived.Test.YtejcihffmhmpcaaRingB
import Derived.Test.YtejcihffmhmpcaaRingC
import Derived.Test.YtejcihffmhmpcaaFrame
import Derived.Test.YtejcihffmhmpcaaRows
namespace Go.Proofs.Ytejcihffmhmpcaa
open Go.ChangeShapes Go.WideShapes Go.ChangeAt Go.RowKit

theorem wf_i64 {n : Int} (h : (Lit.int .i64 n).wf = true) : -9223372036854775808 ≤ n ∧ n ≤ 9223372036854775807 := by
  have h1 : IntKind.i64.min = -9223372036854775808 := rfl
  have h2 : IntKind.i64.max = 9223372036854775807 := rfl
  simp only [Lit.wf, Bool.and_eq_true, decide_eq_true_eq] at h; omega
theorem wf_u64 {n : Int} (h : (Lit.int .u64 n).wf = true) : 0 ≤ n ∧ n ≤ 18446744073709551615 := by
  have h1 : IntKind.u64.min = 0 := rfl
  have h2 : IntKind.u64.max = 18446744073709551615 := rfl
  simp only [Lit.wf, Bool.and_eq_true, decide_eq_true_eq] at h; omega

theorem tdiv_mul (a b : Int) (h : b ≠ 0) : (a * b).tdiv b = a := Int.mul_tdiv_cancel a h
theorem tmod_mul (a b : Int) : (a * b).tmod b = 0 := by rw [Int.mul_comm]; exact Int.mul_tmod_right b a

theorem ring_core (a b x v e g : Int) (a0 : -9223372036854775808 ≤ a) (a1 : a ≤ 9223372036854775807) (b0 : -9223372036854775808 ≤ b) (b1 : b ≤ 9223372036854775807) (w : World)
    (he : e = 0 ∧ x - b = a ∨ e = 5 ∧ x = 0) (hg : g = 0 ∧ (b = 0 ∧ v = 0 ∨ b ≠ 0 ∧ v.tmod b = 0 ∧ v.tdiv b = a) ∨ g = 5 ∧ v = 0)
    (SA : Hid (∀ w, Calls Try.prog 34 #[.int .i64 a, .int .i64 b] w fun r w' => r = .returned (.tuple #[.int .i64 x, .int .i64 e]) ∧ w = w'))
    (SB : Hid (∀ w, Calls Try.prog 34 #[.int .i64 b, .int .i64 a] w fun r w' => r = .returned (.tuple #[.int .i64 x, .int .i64 e]) ∧ w = w'))
    (MA : Hid (∀ w, Calls Try.prog 36 #[.int .i64 a, .int .i64 b] w fun r w' => r = .returned (.tuple #[.int .i64 v, .int .i64 g]) ∧ w = w'))
    (MB : Hid (∀ w, Calls Try.prog 36 #[.int .i64 b, .int .i64 a] w fun r w' => r = .returned (.tuple #[.int .i64 v, .int .i64 g]) ∧ w = w')) :
    Calls Try.prog 8 #[.int .i64 a, .int .i64 b] w fun r w' => r = .returned (.bool true) ∧ Below w.heap.size w w' := by
  rcases he with ⟨rfl, hx⟩ | ⟨rfl, rfl⟩ <;> rcases hg with ⟨rfl, ⟨rfl, rfl⟩ | ⟨hb, hm, hd⟩⟩ | ⟨rfl, rfl⟩
  · obtain rfl : x = a := (by omega)
    exact ring_A x a0 a1 w SA SB MA MB
  · exact ring_B a b x v a0 a1 hx hb hm hd w SA SB MA MB
  · exact ring_C a b x a0 a1 hx w SA SB MA MB
  · exact ring_D a w SA SB MA MB
  · exact ring_E a b v a0 a1 hb hm hd w SA SB MA MB
  · exact ring_F a b w SA SB MA MB
theorem ring_walk (a b : Int) (a0 : -9223372036854775808 ≤ a) (a1 : a ≤ 9223372036854775807) (b0 : -9223372036854775808 ≤ b) (b1 : b ≤ 9223372036854775807) (w : World) :
    Calls Try.prog 8 #[.int .i64 a, .int .i64 b] w fun r w' => r = .returned (.bool true) ∧ Below w.heap.size w w' := by
  have c1 : b + a = a + b := Int.add_comm b a
  have c2 : b * a = a * b := Int.mul_comm b a
  have hv : b = 0 ∧ a * b = 0 ∨ b ≠ 0 ∧ (a * b).tmod b = 0 ∧ (a * b).tdiv b = a := by
    by_cases hz : b = 0
    · exact .inl ⟨hz, by rw [hz, Int.mul_zero]⟩
    · exact .inr ⟨hz, tmod_mul a b, tdiv_mul a b hz⟩
  by_cases hs : inI (a + b) <;> by_cases hm : inI (a * b)
  · refine ring_core a b (a + b) (a * b) 0 0 a0 a1 b0 b1 w (.inl ⟨rfl, by omega⟩) (.inl ⟨rfl, hv⟩) (fun w => add_ok a b w a0 a1 b0 b1 hs) (fun w => ?_) (fun w => mul_ok a b w a0 a1 b0 b1 hm) (fun w => ?_)
    · have := add_ok b a w b0 b1 a0 a1 (by rw [c1]; exact hs); rw [c1] at this; exact this
    · have := mul_ok b a w b0 b1 a0 a1 (by rw [c2]; exact hm); rw [c2] at this; exact this
  · refine ring_core a b (a + b) 0 0 5 a0 a1 b0 b1 w (.inl ⟨rfl, by omega⟩) (.inr ⟨rfl, rfl⟩) (fun w => add_ok a b w a0 a1 b0 b1 hs) (fun w => ?_) (fun w => mul_no a b w a0 a1 b0 b1 hm) (fun w => mul_no b a w b0 b1 a0 a1 (by rw [c2]; exact hm))
    have := add_ok b a w b0 b1 a0 a1 (by rw [c1]; exact hs); rw [c1] at this; exact this
  · refine ring_core a b 0 (a * b) 5 0 a0 a1 b0 b1 w (.inr ⟨rfl, rfl⟩) (.inl ⟨rfl, hv⟩) (fun w => add_no a b w a0 a1 b0 b1 hs) (fun w => add_no b a w b0 b1 a0 a1 (by rw [c1]; exact hs)) (fun w => mul_ok a b w a0 a1 b0 b1 hm) (fun w => ?_)
    have := mul_ok b a w b0 b1 a0 a1 (by rw [c2]; exact hm); rw [c2] at this; exact this
  · exact ring_core a b 0 0 5 5 a0 a1 b0 b1 w (.inr ⟨rfl, rfl⟩) (.inr ⟨rfl, rfl⟩) (fun w => add_no a b w a0 a1 b0 b1 hs) (fun w => add_no b a w b0 b1 a0 a1 (by rw [c1]; exact hs)) (fun w => mul_no a b w a0 a1 b0 b1 hm) (fun w => mul_no b a w b0 b1 a0 a1 (by rw [c2]; exact hm))

set_option maxRecDepth 100000 in
theorem ring_lifted (os : Os) (started : os.Started) (H : Type) (enc : TypeId × Value → H) :
    ReturnsInHanded {} Try.checked os 8 .any (Rows.bitsRingSpec.pre6 enc Try.prog Try.f8 Rows.bitsRingRow.domain false) (Rows.bitsRingSpec.post enc Try.prog Try.f8 false true false false) := by
  refine lift_law (C := Try.checked) (tb := 4) (by kernel_rfl) started (by kernel_rfl) Try.func8 (ChangeSpec.witness6 (enc := enc) (C := Try.checked) false ⟨#[], #[.int .i64 0, .int .i64 0], []⟩ 8 (by kernel_rfl) (by kernel_rfl) (by kernel_rfl) (by kernel_rfl)) (by kernel_rfl) (by kernel_rfl) rfl Try.underlying4 rfl ?_ ?_
  · intro ds h
    match ds, h with
    | [_, _], _ => rfl
  · intro W base args ds ps hval0 hA0 hlt hsz
    have hval : ∀ (j : Nat) t v, Try.f8.params[j]? = some t → args[j]? = some v → Value.okWide Try.prog W .any base t v := hval0
    have hA : DataW.TrodAll enc Try.prog W 0 (fun _ => true) true Try.f8.params.toList args.toList ds ps := hA0
    rw [Try.params8] at hA hval
    obtain ⟨v0, v1, d0, d1, p0, p1, rfl, rfl, rfl, h0, h1⟩ := trodAll_two hA
    obtain ⟨a, rfl, rfl, rfl, wa⟩ := open_int Try.underlying2 (hval 0 2 v0 rfl rfl) h0
    obtain ⟨b, rfl, rfl, rfl, wb⟩ := open_int Try.underlying2 (hval 1 2 v1 rfl rfl) h1
    exact ring_walk a b (wf_i64 wa).1 (wf_i64 wa).2 (wf_i64 wb).1 (wf_i64 wb).2 W

theorem ring_holds : Rows.BitsRingSaid :=
  OpenClaim.holds_of_wide 8 Try.f8 rfl rfl rfl rfl rfl rfl rfl ⟨rfl, rfl, rfl, rfl, rfl⟩ rfl rfl rfl rfl rfl (by kernel_rfl) Try.func8 (by kernel_rfl)
    (of_decide_eq_true (by kernel_rfl)) (by unfold Func.isWrapper; first | (rw [if_pos (by decide +kernel)]; kernel_rfl) | (rw [if_neg (by decide +kernel)]; exact ⟨rfl, rfl⟩))
    (fun os started H enc _ => ring_lifted os started H enc)
#print axioms ring_holds
end Go.Proofs.Ytejcihffmhmpcaa
