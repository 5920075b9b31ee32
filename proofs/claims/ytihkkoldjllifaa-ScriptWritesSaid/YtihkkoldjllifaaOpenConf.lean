/- How a configuration and a joint read as data: their numbers. -/
import Derived.Test.YtihkkoldjllifaaFrame
import Derived.Test.YtihkkoldjllifaaProg
import Derived.Test.YtihkkoldjllifaaPlainConf
namespace Go.Proofs.Ytihkkoldjllifaa
open Go.ChangeShapes Go.WideShapes Go.ChangeAt Go.RowKit

section
variable {H : Type} {enc : TypeId × Value → H} {P : Program} {w : World} {base : Nat} {spare : Nat → Bool} {held : Bool} {fuel : Nat} {t : TypeId} {cs : List Value} {o : Nat}
theorem leaf_at {x : Value} (h : (cs.drop o).take 1 = [x]) : cs[o]? = some x := by
  have := congrArg (·[0]?) h
  simpa using this
theorem leaf_int {k : IntKind} {x : DataW H × List MemPlace} (ht : P.underlying t = some (.int k)) (h : DataW.trod enc P w base spare held fuel t ((cs.drop o).take 1) = some x) : ∃ n, cs[o]? = some (.int k n) ∧ (Lit.int k n).wf = true := by
  obtain ⟨n, h1, _, h3⟩ := DataW.trod_int ht h
  exact ⟨n, leaf_at h1, h3⟩
theorem leaf_bool {x : DataW H × List MemPlace} (ht : P.underlying t = some .bool) (h : DataW.trod enc P w base spare held fuel t ((cs.drop o).take 1) = some x) : ∃ b, cs[o]? = some (.bool b) := by
  obtain ⟨n, h1, _⟩ := DataW.trod_bool ht h
  exact ⟨n, leaf_at h1⟩
theorem part_at {m i : Nat} (hi : i < m) : ((cs.drop o).take m)[i]? = cs[o + i]? := by
  rw [List.getElem?_take, if_pos hi, List.getElem?_drop]
theorem some_of_length {α : Type} {xs : List α} {n i : Nat} (h : xs.length = n) (hi : i < n) : ∃ x, xs[i]? = some x := ⟨xs[i]'(by omega), List.getElem?_eq_getElem (by omega)⟩
end
theorem wf_u16 {n : Int} (h : (Lit.int .u16 n).wf = true) : 0 ≤ n ∧ n ≤ 65535 := by
  have h1 : IntKind.u16.min = 0 := rfl
  have h2 : IntKind.u16.max = 65535 := rfl
  simp only [Lit.wf, Bool.and_eq_true, decide_eq_true_eq] at h; omega
theorem wf_i64 {n : Int} (h : (Lit.int .i64 n).wf = true) : -9223372036854775808 ≤ n ∧ n ≤ 9223372036854775807 := by
  have h1 : IntKind.i64.min = -9223372036854775808 := rfl
  have h2 : IntKind.i64.max = 9223372036854775807 := rfl
  simp only [Lit.wf, Bool.and_eq_true, decide_eq_true_eq] at h; omega

/-- The numbers of a configuration, at its cells. -/
def CellsC (cs : List Value) (o : Nat) (v x l e k : Int) : Prop :=
  cs[o]? = some (.int .u16 v) ∧ cs[o + 1]? = some (.int .u16 x) ∧ cs[o + 2]? = some (.int .u16 l) ∧ cs[o + 3]? = some (.int .i64 e) ∧ cs[o + 4]? = some (.int .i64 k)

section
variable {H : Type} {enc : TypeId × Value → H} {w : World} {base : Nat} {spare : Nat → Bool} {held : Bool}
theorem cells_cfg {fuel : Nat} {cs : List Value} {x : DataW H × List MemPlace} (h : DataW.trod enc Try.prog w base spare held fuel 39 cs = some x) :
    ∃ v x l e k, CellsC cs 0 v x l e k ∧ FitC v x l := by
  obtain ⟨xs, n, _, _, _, hlen, hf⟩ := DataW.trod_struct Try.underlying39 h
  obtain ⟨y0, e0⟩ := some_of_length hlen (i := 0) (by decide)
  obtain ⟨y1, e1⟩ := some_of_length hlen (i := 1) (by decide)
  obtain ⟨y2, e2⟩ := some_of_length hlen (i := 2) (by decide)
  obtain ⟨y3, e3⟩ := some_of_length hlen (i := 3) (by decide)
  obtain ⟨y4, e4⟩ := some_of_length hlen (i := 4) (by decide)
  obtain ⟨v, c0, w0⟩ := leaf_int Try.underlying37 ((hf 0 _ rfl).trans e0)
  obtain ⟨x, c1, w1⟩ := leaf_int Try.underlying37 ((hf 1 _ rfl).trans e1)
  obtain ⟨l, c2, w2⟩ := leaf_int Try.underlying37 ((hf 2 _ rfl).trans e2)
  obtain ⟨e, c3, w3⟩ := leaf_int Try.underlying3 ((hf 3 _ rfl).trans e3)
  obtain ⟨k, c4, w4⟩ := leaf_int Try.underlying3 ((hf 4 _ rfl).trans e4)
  exact ⟨v, x, l, e, k, ⟨c0, c1, c2, c3, c4⟩, ⟨(wf_u16 w0).1, (wf_u16 w0).2, (wf_u16 w1).1, (wf_u16 w1).2, (wf_u16 w2).1, (wf_u16 w2).2⟩⟩

theorem open_cfg {b0 : Nat} {v : Value} {d : DataW H} {ps : List MemPlace} (hv : Value.okWide Try.prog w .any b0 39 v) (h : DataW.Trod enc Try.prog w base spare held 39 v d ps) :
    ∃ cv cx cl ce ck, v = .agg #[.int .u16 cv, .int .u16 cx, .int .u16 cl, .int .i64 ce, .int .i64 ck] ∧ FitC cv cx cl := by
  obtain ⟨cs, rfl, hsz⟩ := okWide_struct Try.underlying39 hv
  obtain ⟨fuel, hf⟩ := h
  obtain ⟨v, x, l, e, k, ⟨c0, c1, c2, c3, c4⟩, fit⟩ := cells_cfg hf
  obtain ⟨cs⟩ := cs
  have hsz' : cs.length = 5 := hsz
  match cs, hsz' with
  | [a0, a1, a2, a3, a4], _ =>
    simp only [Value.cells] at c0 c1 c2 c3 c4
    simp at c0 c1 c2 c3 c4
    subst c0 c1 c2 c3 c4
    exact ⟨v, x, l, e, k, rfl, fit⟩

theorem open_joint {b0 : Nat} {v : Value} {d : DataW H} {ps : List MemPlace} (hv : Value.okWide Try.prog w .any b0 57 v) (h : DataW.Trod enc Try.prog w base spare held 57 v d ps) :
    ∃ jov jox jol joe jok jnv jnx jnl jne jnk jt, v = .agg #[.int .u16 jov, .int .u16 jox, .int .u16 jol, .int .i64 joe, .int .i64 jok, .int .u16 jnv, .int .u16 jnx, .int .u16 jnl, .int .i64 jne, .int .i64 jnk, .bool jt] ∧ FitC jov jox jol ∧ FitC jnv jnx jnl := by
  obtain ⟨cs, rfl, hsz⟩ := okWide_struct Try.underlying57 hv
  obtain ⟨fuel, hf⟩ := h
  obtain ⟨xs, n, _, _, _, hlen, hf⟩ := DataW.trod_struct Try.underlying57 hf
  obtain ⟨y0, e0⟩ := some_of_length hlen (i := 0) (by decide)
  obtain ⟨y1, e1⟩ := some_of_length hlen (i := 1) (by decide)
  obtain ⟨y2, e2⟩ := some_of_length hlen (i := 2) (by decide)
  obtain ⟨av, ax, al, ae, ak, ⟨a0, a1, a2, a3, a4⟩, fa⟩ := cells_cfg ((hf 0 _ rfl).trans e0)
  obtain ⟨bv, bx, bl, be, bk, ⟨b0, b1, b2, b3, b4⟩, fb⟩ := cells_cfg ((hf 1 _ rfl).trans e1)
  obtain ⟨t, c0⟩ := leaf_bool Try.underlying4 ((hf 2 _ rfl).trans e2)
  obtain ⟨cs⟩ := cs
  have hsz' : cs.length = 11 := hsz
  match cs, hsz' with
  | [x0, x1, x2, x3, x4, x5, x6, x7, x8, x9, x10], _ =>
    refine ⟨av, ax, al, ae, ak, bv, bx, bl, be, bk, t, ?_, fa, fb⟩
    have z0 := a0; have z1 := a1; have z2 := a2; have z3 := a3; have z4 := a4
    clear a0 a1 a2 a3 a4
    change some x0 = _ at z0; change some x1 = _ at z1; change some x2 = _ at z2; change some x3 = _ at z3; change some x4 = _ at z4
    change some x5 = _ at b0; change some x6 = _ at b1; change some x7 = _ at b2; change some x8 = _ at b3; change some x9 = _ at b4
    change some x10 = _ at c0
    simp only [Option.some.injEq] at z0 z1 z2 z3 z4 b0 b1 b2 b3 b4 c0
    rw [z0, z1, z2, z3, z4, b0, b1, b2, b3, b4, c0]
end
end Go.Proofs.Ytihkkoldjllifaa
