/- An argument that is a list of configurations: its numbers. -/
import Derived.Test.YtaaagidooieejaaOpenConf
import Derived.Test.YtaaagidooieejaaPlainHolds
import Derived.Deep.Slices
import Derived.Deep.Fields
import Derived.ChangeSame
namespace Go.Proofs.Ytaaagidooieejaa
open Go.ChangeShapes Go.WideShapes Go.Deep Go.RowKit

section
variable {H : Type} {enc : TypeId × Value → H} {P : Program} {w : World} {base : Nat} {spare : Nat → Bool} {held : Bool}
theorem open_rows {t e : TypeId} {fs : Array Field} {fuel : Nat} {cs : List Value} {x : DataW H × List MemPlace} (ht : P.underlying t = some (.slice e)) (he : P.underlying e = some (.struct fs))
    (hone : oneCellFields P fs = true) (hC : P.cellsOf e = fs.size) (h : DataW.trod enc P w base spare held fuel t cs = some x) :
    (cs = [.slice none 0 0]) ∨
    ∃ (a : Addr) (len cap m : Nat), cs = [.slice (some a) len cap] ∧ len ≤ cap ∧ cap ≤ maxLen ∧ m = (if spare a.block then cap else len) ∧
      ∀ i, i < m → ∃ n : Nat, ∀ (j : Nat) (f : Field), fs[j]? = some f → ∃ (v : Value) (y : DataW H × List MemPlace), w.cell? (a.add (i * fs.size + j)) = some v ∧ DataW.trod enc P w base spare held n f.type [v] = some y := by
  rcases open_slice ht h with ⟨h0, _⟩ | ⟨a, len, cap, m, n, D, Pl, hcs, hb, hl, hm, hmm, hx, hi⟩
  · exact .inl h0
  · refine .inr ⟨a, len, cap, m, hcs, hl, hm, hmm, fun i him => ?_⟩
    obtain ⟨cs', hc, ht'⟩ := hi i him
    rw [hC] at hc
    obtain ⟨ys, n', hn', hy, hlen, hyl, hf⟩ := DataW.trod_struct he ht'
    obtain ⟨_, hcl, hat⟩ := World.cells?_some hc
    refine ⟨n', fun j f hj => ?_⟩
    obtain ⟨ho, hk⟩ := hone_of hone j f hj
    have hjl : j < fs.size := (Array.getElem?_eq_some_iff.1 hj).1
    have hcell := hat j hjl
    have hv : cs'[j]? = some (cs'[j]'(by omega)) := List.getElem?_eq_getElem (by omega)
    have h1 := hf j f hj
    rw [ho, hk] at h1
    have hone' : (cs'.drop j).take 1 = [cs'[j]'(by omega)] := by
      rw [List.drop_eq_getElem_cons (by omega)]
      rfl
    rw [hone'] at h1
    have hys : ys[j]? = some (ys[j]'(by omega)) := List.getElem?_eq_getElem (by omega)
    refine ⟨_, _, ?_, h1.trans hys⟩
    rw [← Go.Deep.add_add, hcell, hv]
theorem one_int {k : IntKind} {t : TypeId} {n : Nat} {v : Value} {y : DataW H × List MemPlace} (ht : P.underlying t = some (.int k)) (h : DataW.trod enc P w base spare held n t [v] = some y) : ∃ m, v = .int k m ∧ (Lit.int k m).wf = true := by
  obtain ⟨m, h1, _, h3⟩ := DataW.trod_int ht h
  exact ⟨m, by simpa using h1, h3⟩
end

section
variable {H : Type} {enc : TypeId × Value → H} {w : World}
/-- The cells of a list's elements. -/
def CfgsAt (w : World) (p : Option Addr) (ts : List Cfg) : Prop := ∀ j, (hj : j < ts.length) → ∃ g o, p = some ⟨g, o, none⟩ ∧ g < w.heap.size ∧
  w.cell? ⟨g, o + j * 5, none⟩ = some (.int .u16 ts[j].v) ∧ w.cell? ⟨g, o + j * 5 + 1, none⟩ = some (.int .u16 ts[j].x) ∧ w.cell? ⟨g, o + j * 5 + 2, none⟩ = some (.int .u16 ts[j].l) ∧
  w.cell? ⟨g, o + j * 5 + 3, none⟩ = some (.int .i64 ts[j].e) ∧ w.cell? ⟨g, o + j * 5 + 4, none⟩ = some (.int .i64 ts[j].k)
theorem CfgsAt.keep {w w' : World} {p : Option Addr} {ts : List Cfg} (h : CfgsAt w p ts) {B : Nat} (hb : Below B w w') (hB : w.heap.size ≤ B) : CfgsAt w' p ts := fun j hj => by
  obtain ⟨g, o, e, hg, h1, h2, h3, h4, h5⟩ := h j hj
  have k := fun (x : Nat) => hb.cell (p := ⟨g, x, none⟩) (by show g < B; omega)
  exact ⟨g, o, e, Nat.lt_of_lt_of_le hg hb.size, (k _).trans h1, (k _).trans h2, (k _).trans h3, (k _).trans h4, (k _).trans h5⟩
theorem open_cfgs {b0 : Nat} {v : Value} {d : DataW H} {ps : List MemPlace} (hv : Value.okWide Try.prog w .any b0 48 v) (h : DataW.Trod enc Try.prog w 0 (fun _ => true) true 48 v d ps) :
    ∃ (ts : List Cfg) (p : Option Addr) (cap : Nat), v = .slice p ts.length cap ∧ ts.length ≤ maxLen ∧ (∀ j, (hj : j < ts.length) → FitC ts[j].v ts[j].x ts[j].l) ∧ CfgsAt w p ts := by
  obtain ⟨a0, len, cap, rfl⟩ := okWide_slice Try.underlying48 hv
  obtain ⟨fuel, hf⟩ := h
  rcases open_rows Try.underlying48 Try.underlying33 (by kernel_rfl) (by kernel_rfl) hf with hcs | ⟨a, len', cap', m, hcs, hl, hm, hmm, hi⟩
  · simp [Value.cells] at hcs
    obtain ⟨rfl, rfl, rfl⟩ := hcs
    exact ⟨[], none, 0, rfl, Nat.zero_le _, fun j hj => absurd hj (by simp), fun j hj => absurd hj (by simp)⟩
  · simp [Value.cells] at hcs
    obtain ⟨rfl, rfl, rfl⟩ := hcs
    simp only [if_true] at hmm
    subst hmm
    have key : ∀ j : Fin len, ∃ t : Cfg, FitC t.v t.x t.l ∧ w.cell? (a.add (j.val * 5)) = some (.int .u16 t.v) ∧ w.cell? (a.add (j.val * 5 + 1)) = some (.int .u16 t.x) ∧ w.cell? (a.add (j.val * 5 + 2)) = some (.int .u16 t.l) ∧
        w.cell? (a.add (j.val * 5 + 3)) = some (.int .i64 t.e) ∧ w.cell? (a.add (j.val * 5 + 4)) = some (.int .i64 t.k) := fun j => by
      obtain ⟨n, hn⟩ := hi j.val (by omega)
      obtain ⟨v0, y0, c0, t0⟩ := hn 0 _ rfl
      obtain ⟨v1, y1, c1, t1⟩ := hn 1 _ rfl
      obtain ⟨v2, y2, c2, t2⟩ := hn 2 _ rfl
      obtain ⟨v3, y3, c3, t3⟩ := hn 3 _ rfl
      obtain ⟨v4, y4, c4, t4⟩ := hn 4 _ rfl
      obtain ⟨m0, rfl, w0⟩ := one_int Try.underlying23 t0
      obtain ⟨m1, rfl, w1⟩ := one_int Try.underlying23 t1
      obtain ⟨m2, rfl, w2⟩ := one_int Try.underlying23 t2
      obtain ⟨m3, rfl, w3⟩ := one_int Try.underlying3 t3
      obtain ⟨m4, rfl, w4⟩ := one_int Try.underlying3 t4
      exact ⟨⟨m0, m1, m2, m3, m4⟩, ⟨(wf_u16 w0).1, (wf_u16 w0).2, (wf_u16 w1).1, (wf_u16 w1).2, (wf_u16 w2).1, (wf_u16 w2).2⟩, c0, c1, c2, c3, c4⟩
    obtain ⟨F, hF⟩ := Classical.axiomOfChoice key
    clear key
    refine ⟨List.ofFn F, some a, m, by simp, by simp; omega, fun j hj => ?_, fun j hj => ?_⟩
    · have hj' : j < len := by simpa using hj
      rw [show (List.ofFn F)[j] = F ⟨j, hj'⟩ by simp]
      exact (hF ⟨j, hj'⟩).1
    · have hj' : j < len := by simpa using hj
      rw [show (List.ofFn F)[j] = F ⟨j, hj'⟩ by simp]
      obtain ⟨-, k0, k1, k2, k3, k4⟩ := hF ⟨j, hj'⟩
      obtain ⟨g, o, spot⟩ := a
      have hspot : spot = none := by simpa [Addr.add] using World.cell?_spot (hF ⟨0, by omega⟩).2.1
      subst hspot
      have hb := World.block_lt_of_cell? w _ k0
      simp only [add_plain, ← Nat.add_assoc] at k0 k1 k2 k3 k4 hb
      exact ⟨g, o, rfl, hb, k0, k1, k2, k3, k4⟩
end
end Go.Proofs.Ytaaagidooieejaa
