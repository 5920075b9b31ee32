/- An argument that is a zone: its lists and numbers. -/
import Derived.Test.YtihkkoldjllifaaZoneF
import Derived.Test.YtihkkoldjllifaaOpenConf
namespace Go.Proofs.Ytihkkoldjllifaa
open Go.ChangeShapes Go.WideShapes Go.ChangeAt Go.RowKit

section
variable {H : Type} {enc : TypeId × Value → H} {P : Program} {w : World}
theorem field_nums {t e : TypeId} {n : Nat} {v : Value} {y : DataW H × List MemPlace} (ht : P.underlying t = some (.slice e)) (he : P.underlying e = some (.int .i64)) (hc : P.cellsOf e = 1)
    (h : DataW.trod enc P w 0 (fun _ => true) true n t [v] = some y) : ∃ (xs : List Int) (p : Option Addr) (cap : Nat), v = .slice p xs.length cap ∧ xs.length ≤ maxLen ∧ NumsAt w p xs := by
  rcases open_ints ht he hc h with ⟨hcs, _⟩ | ⟨a, len', cap', zs, hcs, _, hl, hm, hz, hx, hcell, hwz⟩
  · simp at hcs
    subst hcs
    exact ⟨[], none, 0, rfl, Nat.zero_le _, NumsAt.nil _ _⟩
  · simp at hcs
    subst hcs
    simp only [if_true] at hz
    have hlen : (zs.take len').length = len' := by rw [List.length_take]; omega
    refine ⟨zs.take len', some a, cap', by rw [hlen], by omega, fun j hj => ?_⟩
    have hj' : j < len' := by omega
    obtain ⟨b, off, spot⟩ := a
    have hspot : spot = none := by simpa [Addr.add] using World.cell?_spot (hcell 0 (by omega))
    subst hspot
    have hb := World.block_lt_of_cell? w _ (hcell j (by omega))
    refine ⟨b, off, rfl, by simpa [add_plain] using hb, ?_⟩
    rw [← add_plain, hcell j (by omega)]
    simp [List.getD, List.getElem?_eq_getElem (show j < zs.length by omega)]
theorem open_zone {b0 : Nat} {v : Value} {d : DataW H} {ps : List MemPlace} (hv : Value.okWide Try.prog w .any b0 43 v) (h : DataW.Trod enc Try.prog w 0 (fun _ => true) true 43 v d ps) :
    ∃ (z : Zn) (pv pw pl : Option Addr) (cv cw cl : Nat), v = .agg #[.slice pv z.v.length cv, .slice pw z.w.length cw, .slice pl z.l.length cl, .int .i64 z.e, .int .i64 z.k, .int .i64 z.s] ∧ ZoneAt w z pv pw pl ∧ z.v.length ≤ maxLen ∧ z.w.length ≤ maxLen ∧ z.l.length ≤ maxLen := by
  obtain ⟨cs, rfl, hsz⟩ := okWide_struct Try.underlying43 hv
  obtain ⟨fuel, hf⟩ := h
  obtain ⟨xs, n, _, _, _, hlen, hf⟩ := DataW.trod_struct Try.underlying43 hf
  obtain ⟨y0, e0⟩ := some_of_length hlen (i := 0) (by decide)
  obtain ⟨y1, e1⟩ := some_of_length hlen (i := 1) (by decide)
  obtain ⟨y2, e2⟩ := some_of_length hlen (i := 2) (by decide)
  obtain ⟨y3, e3⟩ := some_of_length hlen (i := 3) (by decide)
  obtain ⟨y4, e4⟩ := some_of_length hlen (i := 4) (by decide)
  obtain ⟨y5, e5⟩ := some_of_length hlen (i := 5) (by decide)
  obtain ⟨a, c3, w3⟩ := leaf_int Try.underlying3 ((hf 3 _ rfl).trans e3)
  obtain ⟨b, c4, w4⟩ := leaf_int Try.underlying3 ((hf 4 _ rfl).trans e4)
  obtain ⟨c, c5, w5⟩ := leaf_int Try.underlying3 ((hf 5 _ rfl).trans e5)
  have f0 := (hf 0 _ rfl).trans e0
  have f1 := (hf 1 _ rfl).trans e1
  have f2 := (hf 2 _ rfl).trans e2
  obtain ⟨cs⟩ := cs
  have hsz' : cs.length = 6 := hsz
  match cs, hsz' with
  | [a0, a1, a2, a3, a4, a5], _ =>
    simp only [Value.cells] at c3 c4 c5
    simp at c3 c4 c5
    subst c3 c4 c5
    obtain ⟨xv, pv, cv, rfl, m0, n0⟩ := field_nums Try.underlying35 Try.underlying3 (by kernel_rfl) (show DataW.trod enc Try.prog w 0 (fun _ => true) true n 35 [a0] = some y0 from f0)
    obtain ⟨xw, pw, cw, rfl, m1, n1⟩ := field_nums Try.underlying35 Try.underlying3 (by kernel_rfl) (show DataW.trod enc Try.prog w 0 (fun _ => true) true n 35 [a1] = some y1 from f1)
    obtain ⟨xl, pl, cl, rfl, m2, n2⟩ := field_nums Try.underlying35 Try.underlying3 (by kernel_rfl) (show DataW.trod enc Try.prog w 0 (fun _ => true) true n 35 [a2] = some y2 from f2)
    exact ⟨⟨xv, xw, xl, a, b, c⟩, pv, pw, pl, cv, cw, cl, rfl, ⟨n0, n1, n2⟩, m0, m1, m2⟩
end
end Go.Proofs.Ytihkkoldjllifaa
