/- Wire: attempts, stamps compared. -/
import Derived.Test.YtmhmlpfkdpjlaaaWireF
namespace Go.Proofs.Ytmhmlpfkdpjlaaa
open Go.ChangeShapes Go.WideShapes Go.ChangeAt Go.RowKit

theorem eql_try_yes (a0 a1 a2 a3 : Int) (w : World) : (binOp .eql 23 (.agg #[.int .i64 a0, .int .i64 a1, .int .i64 a2, .int .i64 a3]) (.agg #[.int .i64 a0, .int .i64 a1, .int .i64 a2, .int .i64 a3])).run Try.prog w = .ok (.bool true) w := by
  simp [go_sem]
theorem eql_try_no (a0 b0 a1 b1 a2 b2 a3 b3 : Int) (w : World) (h : ¬ (a0 = b0 ∧ a1 = b1 ∧ a2 = b2 ∧ a3 = b3)) : (binOp .eql 23 (.agg #[.int .i64 a0, .int .i64 a1, .int .i64 a2, .int .i64 a3]) (.agg #[.int .i64 b0, .int .i64 b1, .int .i64 b2, .int .i64 b3])).run Try.prog w = .ok (.bool false) w := by
  by_cases h0 : a0 = b0
  rotate_left
  · have hq := (by simpa using h0 : (a0 == b0) = false)
    simp [go_sem, hq]
  subst h0
  by_cases h1 : a1 = b1
  rotate_left
  · have hq := (by simpa using h1 : (a1 == b1) = false)
    simp [go_sem, hq]
  subst h1
  by_cases h2 : a2 = b2
  rotate_left
  · have hq := (by simpa using h2 : (a2 == b2) = false)
    simp [go_sem, hq]
  subst h2
  by_cases h3 : a3 = b3
  rotate_left
  · have hq := (by simpa using h3 : (a3 == b3) = false)
    simp [go_sem, hq]
  subst h3
  exact absurd (by simp) h
theorem eql_st_yes (a0 a1 : Int) (w : World) : (binOp .eql 25 (.agg #[.int .i64 a0, .int .i64 a1]) (.agg #[.int .i64 a0, .int .i64 a1])).run Try.prog w = .ok (.bool true) w := by
  simp [go_sem]
theorem eql_st_no (a0 b0 a1 b1 : Int) (w : World) (h : ¬ (a0 = b0 ∧ a1 = b1)) : (binOp .eql 25 (.agg #[.int .i64 a0, .int .i64 a1]) (.agg #[.int .i64 b0, .int .i64 b1])).run Try.prog w = .ok (.bool false) w := by
  by_cases h0 : a0 = b0
  rotate_left
  · have hq := (by simpa using h0 : (a0 == b0) = false)
    simp [go_sem, hq]
  subst h0
  by_cases h1 : a1 = b1
  rotate_left
  · have hq := (by simpa using h1 : (a1 == b1) = false)
    simp [go_sem, hq]
  subst h1
  exact absurd (by simp) h
end Go.Proofs.Ytmhmlpfkdpjlaaa
