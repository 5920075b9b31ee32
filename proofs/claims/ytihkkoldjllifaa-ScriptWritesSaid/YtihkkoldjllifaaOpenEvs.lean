/- An argument that is a list of events: its events. -/
import Derived.Test.YtihkkoldjllifaaScriptG
import Derived.Test.YtihkkoldjllifaaOpenConf
import Derived.Deep.Slices
import Derived.Deep.Fields
import Derived.ChangeSame
namespace Go.Proofs.Ytihkkoldjllifaa
open Go.ChangeShapes Go.WideShapes Go.ChangeAt Go.RowKit Go.Deep

section
variable {H : Type} {enc : TypeId × Value → H} {P : Program} {w : World}
theorem field_numsE {t e : TypeId} {n : Nat} {v : Value} {y : DataW H × List MemPlace} (ht : P.underlying t = some (.slice e)) (he : P.underlying e = some (.int .i64)) (hc : P.cellsOf e = 1)
    (h : DataW.trod enc P w 0 (fun _ => true) true n t [v] = some y) : ∃ (xs : List Int) (p : Option Addr) (cap : Nat), v = .slice p xs.length cap ∧ xs.length ≤ maxLen ∧ NumsAt w p xs := by
  rcases open_ints ht he hc h with ⟨hcs, _⟩ | ⟨a, len', cap', zs, hcs, _, hl, hm, hz, hx, hcell, hwz⟩
  · simp at hcs
    subst hcs
    exact ⟨[], none, 0, rfl, Nat.zero_le _, NumsAt.nil _ _⟩
  · simp at hcs
    subst hcs
    simp only [if_true] at hz
    have hlen : (zs.take len').length = len' := by rw [List.length_take]; omega
    refine ⟨zs.take len', some a, cap', by rw [hlen], by omega, fun j hj => ?_⟩
    have hj' : j < len' := by omega
    obtain ⟨b, off, spot⟩ := a
    have hspot : spot = none := by simpa [Addr.add] using World.cell?_spot (hcell 0 (by omega))
    subst hspot
    have hb := World.block_lt_of_cell? w _ (hcell j (by omega))
    refine ⟨b, off, rfl, by simpa [add_plain] using hb, ?_⟩
    rw [← add_plain, hcell j (by omega)]
    simp [List.getD, List.getElem?_eq_getElem (show j < zs.length by omega)]
theorem leaf_str {fuel : Nat} {t : TypeId} {cs : List Value} {o : Nat} {x : DataW H × List MemPlace} (ht : P.underlying t = some .string) (h : DataW.trod enc P w 0 (fun _ => true) true fuel t ((cs.drop o).take 1) = some x) : ∃ s, cs[o]? = some (.string s) ∧ s.size ≤ maxLen := by
  obtain ⟨s, h1, _, h3⟩ := DataW.trod_string ht h
  exact ⟨s, leaf_at h1, h3⟩
end
section
variable {H : Type} {enc : TypeId × Value → H} {w : World}
/-- An event's cells. -/
theorem cells_ev {fuel : Nat} {cs : List Value} {x : DataW H × List MemPlace} (h : DataW.trod enc Try.prog w 0 (fun _ => true) true fuel 41 cs = some x) :
    ∃ (e : Ev) (p : Option Addr) (c : Nat), cs = evC e p c ∧ NumsAt w p e.ks ∧ e.ks.length ≤ maxLen ∧ e.t.size ≤ maxLen := by
  obtain ⟨xs, n, _, _, hsz, hlen, hf⟩ := DataW.trod_struct Try.underlying41 h
  obtain ⟨y0, e0⟩ := some_of_length hlen (i := 0) (by decide)
  obtain ⟨y1, e1⟩ := some_of_length hlen (i := 1) (by decide)
  obtain ⟨y2, e2⟩ := some_of_length hlen (i := 2) (by decide)
  obtain ⟨y3, e3⟩ := some_of_length hlen (i := 3) (by decide)
  obtain ⟨y4, e4⟩ := some_of_length hlen (i := 4) (by decide)
  obtain ⟨y5, e5⟩ := some_of_length hlen (i := 5) (by decide)
  obtain ⟨y6, e6⟩ := some_of_length hlen (i := 6) (by decide)
  obtain ⟨k, c0, -⟩ := leaf_int Try.underlying3 ((hf 0 _ rfl).trans e0)
  obtain ⟨m, c1, -⟩ := leaf_int Try.underlying3 ((hf 1 _ rfl).trans e1)
  obtain ⟨i, c2, -⟩ := leaf_int Try.underlying3 ((hf 2 _ rfl).trans e2)
  obtain ⟨wl, c3, -⟩ := leaf_int Try.underlying2 ((hf 3 _ rfl).trans e3)
  obtain ⟨t, c4, ht⟩ := leaf_str Try.underlying9 ((hf 4 _ rfl).trans e4)
  have f5 := (hf 5 _ rfl).trans e5
  obtain ⟨av, ax, al, ae, ak, ⟨a0, a1, a2, a3, a4⟩, -⟩ := cells_cfg ((hf 6 _ rfl).trans e6)
  have hsz' : cs.length = 11 := hsz.trans (by kernel_rfl)
  match cs, hsz' with
  | [x0, x1, x2, x3, x4, x5, x6, x7, x8, x9, x10], _ =>
    obtain ⟨ks, p, c, hx5, hl, hn⟩ := field_numsE Try.underlying35 Try.underlying3 (by kernel_rfl) (show DataW.trod enc Try.prog w 0 (fun _ => true) true n 35 [x5] = some y5 from f5)
    refine ⟨⟨k, m, i, wl, t, ks, av, ax, al, ae, ak⟩, p, c, ?_, hn, hl, ht⟩
    change some x0 = _ at c0; change some x1 = _ at c1; change some x2 = _ at c2; change some x3 = _ at c3; change some x4 = _ at c4
    change some x6 = _ at a0; change some x7 = _ at a1; change some x8 = _ at a2; change some x9 = _ at a3; change some x10 = _ at a4
    simp only [Option.some.injEq] at c0 c1 c2 c3 c4 a0 a1 a2 a3 a4
    rw [c0, c1, c2, c3, c4, hx5, a0, a1, a2, a3, a4]
    rfl
theorem open_evs {b0 : Nat} {v : Value} {d : DataW H} {ps : List MemPlace} (hv : Value.okWide Try.prog w .any b0 25 v) (h : DataW.Trod enc Try.prog w 0 (fun _ => true) true 25 v d ps) :
    ∃ L : List EvX, EvSl w v L ∧ (∀ x ∈ L, x.1.ks.length ≤ maxLen ∧ x.1.t.size ≤ maxLen) := by
  obtain ⟨a0, len, cap, rfl⟩ := okWide_slice Try.underlying25 hv
  obtain ⟨fuel, hf⟩ := h
  have hC : Try.prog.cellsOf 41 = 11 := by kernel_rfl
  rcases open_slice Try.underlying25 hf with ⟨hcs, _⟩ | ⟨a, len', cap', m, n, D, Pl, hcs, _, hl, hm, hmm, _, hi⟩
  · simp [Value.cells] at hcs
    obtain ⟨rfl, rfl, rfl⟩ := hcs
    exact ⟨[], ⟨⟨rfl, .inl ⟨rfl, rfl⟩⟩, fun x hx => by cases hx⟩, fun x hx => by cases hx⟩
  · simp [Value.cells] at hcs
    obtain ⟨rfl, rfl, rfl⟩ := hcs
    simp only [if_true] at hmm
    subst hmm
    have key : ∀ j : Fin len, ∃ x : EvX, (∀ i, i < 11 → w.cell? ((a.add (j.val * 11)).add i) = (evC x.1 x.2.1 x.2.2)[i]?) ∧ NumsAt w x.2.1 x.1.ks ∧ x.1.ks.length ≤ maxLen ∧ x.1.t.size ≤ maxLen := fun j => by
      obtain ⟨cs', hc, ht⟩ := hi j.val (by omega)
      rw [hC] at hc
      obtain ⟨_, hcl, hat⟩ := World.cells?_some hc
      obtain ⟨e, p, c, rfl, hn, h1, h2⟩ := cells_ev ht
      exact ⟨(e, p, c), fun i hi => hat i (by omega), hn, h1, h2⟩
    obtain ⟨F, hF⟩ := Classical.axiomOfChoice key
    clear key hi
    refine ⟨List.ofFn F, ⟨?_, ?_⟩, ?_⟩
    · rw [List.length_ofFn]
      refine ⟨by rw [evRow_len, List.length_ofFn], .inr ⟨a, _, rfl, hl, hm, fun hpos => ?_⟩⟩
      obtain ⟨b, off, spot⟩ := a
      have h00 := (hF ⟨0, hpos⟩).1 0 (by decide)
      have hspot : spot = none := by
        have : w.cell? ((⟨b, off, spot⟩ : Addr).add (0 * 11 + 0)) = some (.int .i64 (F ⟨0, hpos⟩).1.k) := by simpa [Addr.add, evC] using h00
        simpa [Addr.add] using World.cell?_spot this
      subst hspot
      simp only [add_plain] at hF h00
      have hb := World.block_lt_of_cell? w _ (show w.cell? ⟨b, off + 0 * 11 + 0, none⟩ = some (.int .i64 (F ⟨0, hpos⟩).1.k) from h00)
      refine ⟨b, off, rfl, hb, fun j hj => ?_⟩
      have hk : j / 11 < len := by omega
      have e1 := (hF ⟨j / 11, hk⟩).1 (j % 11) (Nat.mod_lt _ (by decide))
      have e2 := evRow_get (L := List.ofFn F) (k := j / 11) (j := j % 11) (by rw [List.length_ofFn]; exact hk) (Nat.mod_lt _ (by decide))
      rw [show j / 11 * 11 + j % 11 = j by omega] at e2
      rw [e2]
      simp only [List.getElem_ofFn]
      rw [← e1]
      congr 2
      simp only []
      omega
    · intro x hx
      obtain ⟨j, rfl⟩ := (List.mem_ofFn.1 hx)
      exact (hF j).2.1
    · intro x hx
      obtain ⟨j, rfl⟩ := (List.mem_ofFn.1 hx)
      exact (hF j).2.2
end
end Go.Proofs.Ytihkkoldjllifaa
