/- Logs: the plain law of EntriesPieces: piece by piece a log comes to have another one's terms. -/
import Derived.Test.YtabiccpodnjieaaPlainMergeM
import Derived.Test.YtabiccpodnjieaaLogK
namespace Go.Proofs.Ytabiccpodnjieaa

/-- Up to a number, two logs of no base have the same terms. -/
structure Agree (l o : Lg) (a : Int) : Prop where
  b : l.b = 0
  last : a ≤ l.last
  same : ∀ i, 0 ≤ i → i ≤ a → termL l i = termL o i
theorem joinL_size0 {l : Lg} {P : Int} {es : List Ent} {n : Nat} (hb : l.b = 0) (h0 : 0 ≤ P) (hl : P ≤ l.last) (h1 : l.es.length ≤ n) (h2 : P + es.length ≤ n) : (joinL l P es).es.length ≤ n := by
  unfold joinL
  split
  · rename_i k hk
    have hkl := (cutAt_is hk).1
    obtain ⟨q, hq, hql⟩ := cut_in (by omega) hl hk
    rw [hq, Int.toNat_natCast, frontL_len hql, List.length_drop]; omega
  · exact h1
theorem piece_is {o : Lg} {a : Int} {n : Int} (hb : o.b = 0) (h0 : 0 ≤ a) (h1 : a ≤ o.last) : sliceL o (a + 1) n = (o.es.drop a.toNat).take n.toNat := by
  unfold sliceL fromK
  unfold Lg.last at h1
  rw [if_pos (by omega), show min (a + 1 - o.b - 1).toNat o.es.length = a.toNat by omega]
/-- One piece more. -/
theorem piece_step {l o : Lg} {a n : Int} (hob : o.b = 0) (h0 : 0 ≤ a) (h1 : a ≤ o.last) (H : Agree l o a) {es : List Ent} (hes : sliceL o (a + 1) n = es) :
    mergeL l a (termL o a).1 es = (joinL l a es, a + es.length, true) ∧ Agree (joinL l a es) o (a + es.length) ∧ a + es.length ≤ o.last ∧ (0 < n → a < o.last → 0 < es.length) := by
  rw [piece_is hob h0 h1] at hes
  have hl : es.length = min n.toNat (o.es.length - a.toNat) := by rw [← hes, List.length_take, List.length_drop]
  have hoL : o.last = o.es.length := by unfold Lg.last; omega
  have hla : l.b ≤ a := by rw [H.b]; exact h0
  refine ⟨mergeL_ok h0 hla H.last (by rw [H.same a h0 (Int.le_refl _)]), ⟨joinL_b.1.trans H.b, joinL_len hla H.last, fun i hi0 hi => ?_⟩, by omega, by omega⟩
  by_cases hia : i ≤ a
  · rw [joinL_at hla H.last hia]; exact H.same i hi0 hia
  · obtain ⟨j, hj⟩ : ∃ j : Nat, i = a + 1 + j := ⟨(i - a - 1).toNat, by omega⟩
    have hjl : j < es.length := by omega
    rw [hj, joinL_has hla H.last hjl]
    have hk : a.toNat + j < o.es.length := by omega
    have := termL_of (l := o) (i := a + 1 + j) (k := a.toNat + j) (by omega) hk
    rw [this]
    have e1 : es[j] = o.es[a.toNat + j] := by
      subst hes
      rw [List.getElem_take, List.getElem_drop]
    rw [e1]
theorem agree_at {l o : Lg} (H : Agree l o o.last) (hob : o.b = 0) {k : Nat} (hk : k < o.es.length) : (atL l (1 + k)).2 = true ∧ (atL l (1 + k)).1.t = (atL o (1 + k)).1.t := by
  have hoL : o.last = o.es.length := by unfold Lg.last; omega
  have h := H.same (1 + k) (by omega) (by omega)
  have hk2 := termL_of (l := o) (i := 1 + k) (k := k) (by omega) hk
  have hb := H.b
  rw [termL_not (by omega), termL_not (by omega)] at h
  rw [termL_not (by omega)] at hk2
  rw [hk2] at h
  have h1 := congrArg Prod.fst h
  have h2 := congrArg Prod.snd h
  have h3 := congrArg Prod.fst hk2
  simp only at h1 h2 h3
  exact ⟨h2, by rw [h1, h3]⟩
theorem agree_start {l o : Lg} (hl : l.b = 0) (ho : o.b = 0) (h : l.bt = o.bt) : Agree l o 0 := by
  refine ⟨hl, by unfold Lg.last; omega, fun i h0 h1 => ?_⟩
  have : i = 0 := by omega
  subst this
  rw [termL_base hl.symm, termL_base ho.symm, h]
end Go.Proofs.Ytabiccpodnjieaa
