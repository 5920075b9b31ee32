/- Logs: the plain law of EntriesMerge: what a merge tells, told of what it is. -/
import Derived.Test.YtabiccpodnjieaaPlainMergeM
namespace Go.Proofs.Ytabiccpodnjieaa

/-- Do the terms agree, of the first k of the entries? -/
def smB (l : Lg) (P : Int) (es : List Ent) : Nat → Bool
  | 0 => true
  | k + 1 => smB l P es k && ((termL l (P + 1 + k)).2 && decide ((termL l (P + 1 + k)).1 = (es.getD k ent0).t))
theorem smB_all {l : Lg} {P : Int} {es : List Ent} {n : Nat} (h : smB l P es n = true) : ∀ j < n, termL l (P + 1 + j) = ((es.getD j ent0).t, true) := by
  induction n with
  | zero => intro j hj; omega
  | succ n ih =>
    simp only [smB, Bool.and_eq_true, decide_eq_true_eq] at h
    intro j hj
    by_cases e : j = n
    · subst e
      obtain ⟨-, h1, h2⟩ := h
      exact Prod.ext h2 h1
    · exact ih h.1 j (by omega)
/-- What follows of a merge, at a base of nothing. -/
structure MergeSays (l : Lg) (P term : Int) (es : List Ent) (m : Lg) (last : Int) (ok : Bool) : Prop where
  no : ok = false → (termL l P).2 = false ∨ (termL l P).1 ≠ term
  last' : ok = true → last = P + es.length
  again : ok = true → mergeL m P term es = (m, last, true)
  most : ok = true → last ≤ m.last
  has : ok = true → ∀ k : Nat, k < es.length → (atL m (P + 1 + k)).1.t = (es.getD k ent0).t
  same : ok = true → smB l P es es.length = true → m = l
  b : m.b = 0
  n : m.es.length ≤ l.es.length + es.length
theorem merge_says {l : Lg} {P term : Int} {es : List Ent} {m : Lg} {last : Int} {ok : Bool} (hb : l.b = 0) (h0 : 0 ≤ P) (hx : mergeL l P term es = (m, last, ok)) : MergeSays l P term es m last ok := by
  have hbP : l.b ≤ P := by omega
  by_cases hy : (termL l P).2 = true ∧ (termL l P).1 = term
  · obtain ⟨h1, h2⟩ := hy
    have hl := (termL_known h1).2
    rw [mergeL_ok h0 hbP hl h2] at hx
    simp only [Prod.mk.injEq] at hx
    obtain ⟨rfl, rfl, rfl⟩ := hx
    have hjb := (joinL_b (l := l) (prev := P) (es := es))
    have hml := joinL_len (es := es) hbP hl
    refine ⟨fun h => by simp at h, fun _ => rfl, fun _ => ?_, fun _ => hml, fun _ k hk => ?_, fun _ hs => ?_, by rw [hjb.1, hb], ?_⟩
    · rw [mergeL_ok h0 (by rw [hjb.1]; exact hbP) (by omega) (by rw [joinL_at hbP hl (Int.le_refl _)]; exact h2), joinL_twice hbP hl]
    · have := joinL_has (es := es) hbP hl hk
      rw [termL_not (by rw [hjb.1]; omega)] at this
      have := congrArg Prod.fst this
      simp only at this
      rw [this]; simp [List.getD, List.getElem?_eq_getElem hk]
    · refine joinL_same fun j hj => ?_
      rw [smB_all hs j hj]; simp [List.getD, List.getElem?_eq_getElem hj]
    · unfold joinL
      split
      · rename_i k hk
        obtain ⟨n, hn, hnl⟩ := cut_in hbP hl hk
        rw [hn, Int.toNat_natCast, frontL_len hnl, List.length_drop]; omega
      · omega
  · have hz : (termL l P).2 = false ∨ (termL l P).1 ≠ term := by
      rcases Bool.eq_false_or_eq_true (termL l P).2 with g | g
      · right; intro e; exact hy ⟨g, e⟩
      · left; exact g
    rw [mergeL_no h0 hbP hz] at hx
    simp only [Prod.mk.injEq] at hx
    obtain ⟨rfl, rfl, rfl⟩ := hx
    exact ⟨fun _ => hz, fun h => by simp at h, fun h => by simp at h, fun h => by simp at h, fun h => by simp at h, fun h => by simp at h, hb, by omega⟩
end Go.Proofs.Ytabiccpodnjieaa
