/- Contracts of clocks: of package stamp and of its reference. -/
import Derived.Test.YtmdeegbbclcloaaStampD
namespace Go.Proofs.Ytmdeegbbclcloaa
open Go.RowKit

theorem ret_two {k k' : IntKind} {a a' b b' : Int} (h : a = a') (g : b = b') : Ending.returned (.tuple #[.int k a, .int k' b]) = .returned (.tuple #[.int k a', .int k' b']) := by rw [h, g]
theorem below_one (w : World) (o : Obj) : Below w.heap.size w (w.alloc o) := (Below.refl _ _).alloc (Nat.le_refl _) _

set_option maxHeartbeats 1000000 in
theorem read_any (c o r : Int) (w : World) :
    Calls Try.prog 16 #[.agg #[.int .i64 c, .int .i64 o], .int .i64 r] w fun e w' => e = .returned (.agg #[.int .i64 (readI c r), .int .i64 o]) ∧ Below w.heap.size w w' := by
  go_enter Try.func16, Try.ntmps16
  go_wp2_with fail
  all_goals
    refine bodyPost_ret (v := .agg #[.int .i64 (readI c r), .int .i64 o]) ?_ rfl ⟨rfl, below_two w _ _⟩
    simp [results, Try.results16, go_sem]
    unfold readI
    omega

set_option maxHeartbeats 1000000 in
theorem refRead_any (c o r : Int) (w : World) :
    Calls Try.prog 17 #[.agg #[.int .i64 c, .int .i64 o], .int .i64 r] w fun e w' => e = .returned (.agg #[.int .i64 (readI c r), .int .i64 o]) ∧ Below w.heap.size w w' := by
  go_enter Try.func17, Try.ntmps17
  go_wp2_with fail
  all_goals
    refine bodyPost_ret (v := .agg #[.int .i64 (readI c r), .int .i64 o]) ?_ rfl ⟨rfl, below_two w _ _⟩
    simp [results, Try.results17, go_sem]
    unfold readI
    omega

set_option maxHeartbeats 1000000 in
theorem ripe_any (c o r : Int) (w : World) :
    Calls Try.prog 15 #[.agg #[.int .i64 c, .int .i64 o], .int .i64 r] w fun e w' => e = .returned (.bool (decide (r ≤ c))) ∧ Below w.heap.size w w' := by
  go_enter Try.func15, Try.ntmps15
  go_wp2_with fail
  go_ret
  exact ⟨rfl, below_one _ _⟩

set_option maxHeartbeats 1000000 in
theorem lim_any (c o : Int) (w : World) (c0 : -9223372036854775808 ≤ c) (c1 : c ≤ 9223372036854775807) (o0 : -9223372036854775808 ≤ o) (o1 : o ≤ 9223372036854775807) :
    Calls Try.prog 13 #[.agg #[.int .i64 c, .int .i64 o]] w fun e w' => e = .returned (.tuple #[.int .i64 (limI c o), .int .i64 (limE c o)]) ∧ Below w.heap.size w w' := by
  by_cases h1 : c < 0
  · have HO : Hid (limI c o = 0 ∧ limE c o = 5) := by show _ ∧ _; unfold limI limE; simp [h1]
    go_enter Try.func13, Try.ntmps13
    go_wp2_with fail
    go_ret2
    exact ⟨ret_two HO.out.1.symm HO.out.2.symm, below_one _ _⟩
  · by_cases h2 : o < 0
    · have HO : Hid (limI c o = 0 ∧ limE c o = 5) := by show _ ∧ _; unfold limI limE; simp [h2]
      go_enter Try.func13, Try.ntmps13
      go_wp2_with fail
      go_ret2
      exact ⟨ret_two HO.out.1.symm HO.out.2.symm, below_one _ _⟩
    · have h1' : 0 ≤ c := by omega
      have h2' : 0 ≤ o := by omega
      by_cases h3 : 4611686018427387904 < c + o + 1
      · have HO : Hid (limI c o = 0 ∧ limE c o = 5) := by show _ ∧ _; unfold limI limE; simp [h3]
        skip
        all_goals
          go_enter Try.func13, Try.ntmps13
          go_wp2_with fail
          go_ret2
          exact ⟨ret_two HO.out.1.symm HO.out.2.symm, below_one _ _⟩
      · have HO : Hid (limI c o = c + o + 1 ∧ limE c o = 0) := by show _ ∧ _; unfold limI limE; simp; omega
        skip
        go_enter Try.func13, Try.ntmps13
        go_wp2_with fail
        go_ret2
        exact ⟨ret_two HO.out.1.symm HO.out.2.symm, below_one _ _⟩

set_option maxHeartbeats 1000000 in
theorem refLim_any (c o : Int) (w : World) (c0 : -9223372036854775808 ≤ c) (c1 : c ≤ 9223372036854775807) (o0 : -9223372036854775808 ≤ o) (o1 : o ≤ 9223372036854775807) :
    Calls Try.prog 14 #[.agg #[.int .i64 c, .int .i64 o]] w fun e w' => e = .returned (.tuple #[.int .i64 (limI c o), .int .i64 (limE c o)]) ∧ Below w.heap.size w w' := by
  by_cases h1 : c < 0
  · have HO : Hid (limI c o = 0 ∧ limE c o = 5) := by show _ ∧ _; unfold limI limE; simp [h1]
    go_enter Try.func14, Try.ntmps14
    go_wp2_with fail
    go_ret2
    exact ⟨ret_two HO.out.1.symm HO.out.2.symm, below_one _ _⟩
  · by_cases h2 : o < 0
    · have HO : Hid (limI c o = 0 ∧ limE c o = 5) := by show _ ∧ _; unfold limI limE; simp [h2]
      go_enter Try.func14, Try.ntmps14
      go_wp2_with fail
      go_ret2
      exact ⟨ret_two HO.out.1.symm HO.out.2.symm, below_one _ _⟩
    · have h1' : 0 ≤ c := by omega
      have h2' : 0 ≤ o := by omega
      by_cases h3 : 4611686018427387904 < c + o + 1
      · have HO : Hid (limI c o = 0 ∧ limE c o = 5) := by show _ ∧ _; unfold limI limE; simp [h3]
        by_cases h4 : 4611686018427387904 ≤ c
        all_goals
          go_enter Try.func14, Try.ntmps14
          go_wp2_with fail
          go_ret2
          exact ⟨ret_two HO.out.1.symm HO.out.2.symm, below_one _ _⟩
      · have HO : Hid (limI c o = c + o + 1 ∧ limE c o = 0) := by show _ ∧ _; unfold limI limE; simp; omega
        have h4 : ¬ 4611686018427387904 ≤ c := by omega
        go_enter Try.func14, Try.ntmps14
        go_wp2_with fail
        go_ret2
        exact ⟨ret_two HO.out.1.symm HO.out.2.symm, below_one _ _⟩
end Go.Proofs.Ytmdeegbbclcloaa
