/- How a stamp and an attempt read as data: their numbers. -/
import Derived.Test.YtmdeegbbclcloaaFrame
import Derived.Test.YtmdeegbbclcloaaProg
namespace Go.Proofs.Ytmdeegbbclcloaa
open Go.ChangeShapes Go.WideShapes Go.ChangeAt Go.RowKit

section
variable {H : Type} {enc : TypeId × Value → H} {P : Program} {w : World} {base : Nat} {spare : Nat → Bool} {held : Bool} {fuel : Nat} {t : TypeId} {cs : List Value} {o : Nat}
theorem leaf_at {x : Value} (h : (cs.drop o).take 1 = [x]) : cs[o]? = some x := by
  have := congrArg (·[0]?) h
  simpa using this
theorem leaf_int {k : IntKind} {x : DataW H × List MemPlace} (ht : P.underlying t = some (.int k)) (h : DataW.trod enc P w base spare held fuel t ((cs.drop o).take 1) = some x) : ∃ n, cs[o]? = some (.int k n) ∧ (Lit.int k n).wf = true := by
  obtain ⟨n, h1, _, h3⟩ := DataW.trod_int ht h
  exact ⟨n, leaf_at h1, h3⟩
theorem some_of_length {α : Type} {xs : List α} {n i : Nat} (h : xs.length = n) (hi : i < n) : ∃ x, xs[i]? = some x := ⟨xs[i]'(by omega), List.getElem?_eq_getElem (by omega)⟩
end
theorem wf_i64 {n : Int} (h : (Lit.int .i64 n).wf = true) : -9223372036854775808 ≤ n ∧ n ≤ 9223372036854775807 := by
  have h1 : IntKind.i64.min = -9223372036854775808 := rfl
  have h2 : IntKind.i64.max = 9223372036854775807 := rfl
  simp only [Lit.wf, Bool.and_eq_true, decide_eq_true_eq] at h; omega

section
variable {H : Type} {enc : TypeId × Value → H} {w : World} {base : Nat} {spare : Nat → Bool} {held : Bool}
theorem open_stamp {b0 : Nat} {v : Value} {d : DataW H} {ps : List MemPlace} (hv : Value.okWide Try.prog w .any b0 40 v) (h : DataW.Trod enc Try.prog w base spare held 40 v d ps) :
    ∃ a b, v = .agg #[.int .i64 a, .int .i64 b] ∧ (Lit.int .i64 a).wf = true ∧ (Lit.int .i64 b).wf = true := by
  obtain ⟨cs, rfl, hsz⟩ := okWide_struct Try.underlying40 hv
  obtain ⟨fuel, hf⟩ := h
  obtain ⟨xs, n, _, _, _, hlen, hf⟩ := DataW.trod_struct Try.underlying40 hf
  obtain ⟨y0, e0⟩ := some_of_length hlen (i := 0) (by decide)
  obtain ⟨y1, e1⟩ := some_of_length hlen (i := 1) (by decide)
  obtain ⟨a, c0, w0⟩ := leaf_int Try.underlying2 ((hf 0 _ rfl).trans e0)
  obtain ⟨b, c1, w1⟩ := leaf_int Try.underlying2 ((hf 1 _ rfl).trans e1)
  obtain ⟨cs⟩ := cs
  have hsz' : cs.length = 2 := hsz
  match cs, hsz' with
  | [a0, a1], _ =>
    simp only [Value.cells] at c0 c1
    simp at c0 c1
    subst c0 c1
    exact ⟨a, b, rfl, w0, w1⟩
theorem open_try {b0 : Nat} {v : Value} {d : DataW H} {ps : List MemPlace} (hv : Value.okWide Try.prog w .any b0 23 v) (h : DataW.Trod enc Try.prog w base spare held 23 v d ps) :
    ∃ a b c e, v = .agg #[.int .i64 a, .int .i64 b, .int .i64 c, .int .i64 e] := by
  obtain ⟨cs, rfl, hsz⟩ := okWide_struct Try.underlying23 hv
  obtain ⟨fuel, hf⟩ := h
  obtain ⟨xs, n, _, _, _, hlen, hf⟩ := DataW.trod_struct Try.underlying23 hf
  obtain ⟨y0, e0⟩ := some_of_length hlen (i := 0) (by decide)
  obtain ⟨y1, e1⟩ := some_of_length hlen (i := 1) (by decide)
  obtain ⟨y2, e2⟩ := some_of_length hlen (i := 2) (by decide)
  obtain ⟨y3, e3⟩ := some_of_length hlen (i := 3) (by decide)
  obtain ⟨a, c0, w0⟩ := leaf_int Try.underlying3 ((hf 0 _ rfl).trans e0)
  obtain ⟨b, c1, w1⟩ := leaf_int Try.underlying3 ((hf 1 _ rfl).trans e1)
  obtain ⟨c, c2, w2⟩ := leaf_int Try.underlying3 ((hf 2 _ rfl).trans e2)
  obtain ⟨e, c3, w3⟩ := leaf_int Try.underlying3 ((hf 3 _ rfl).trans e3)
  obtain ⟨cs⟩ := cs
  have hsz' : cs.length = 4 := hsz
  match cs, hsz' with
  | [a0, a1, a2, a3], _ =>
    simp only [Value.cells] at c0 c1 c2 c3
    simp at c0 c1 c2 c3
    subst c0 c1 c2 c3
    exact ⟨a, b, c, e, rfl⟩
end
end Go.Proofs.Ytmdeegbbclcloaa
