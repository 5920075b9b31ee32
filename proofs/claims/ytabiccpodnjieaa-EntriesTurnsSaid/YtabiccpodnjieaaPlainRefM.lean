/- Logs: the plain law of the reference's Merge. -/
import Derived.Test.YtabiccpodnjieaaPlainMergeW
namespace Go.Proofs.Ytabiccpodnjieaa

/-- Behind the base: where the first entry is put. -/
theorem mergeL_from {l : Lg} {prev term : Int} {es : List Ent} {s : Nat} (h1 : prev ≤ l.last) (h0 : 0 ≤ prev) (hs : (l.b ≤ prev ∧ s = 0 ∧ (termL l prev).1 = term) ∨ (prev < l.b ∧ prev + s = l.b ∧ s ≤ es.length)) :
    mergeL l prev term es = (joinL l (prev + s) (es.drop s), prev + es.length, true) := by
  rcases hs with ⟨h2, h3, h4⟩ | ⟨h2, h3, h4⟩
  · subst h3
    rw [mergeL_ok h0 h2 h1 h4]; simp
  · unfold mergeL refusedL
    rw [if_neg (by omega), if_neg (by simp; omega), if_pos h2, show (l.b - prev).toNat = s by omega, h3]
theorem bad_yes {l : Lg} {P : Int} {E : List Ent} {k : Nat} {t : Int} {is : Bool} {e : Ent} (h : termL l (P + 1 + k) = (t, is)) (he : E.getD k ent0 = e) : badL l P E k = (!is || (t != e.t)) := by
  unfold badL; rw [h, he]
  cases is with
  | false => rw [bne_iff_ne.2 (by simp)]; rfl
  | true =>
    by_cases g : t = e.t
    · subst g; simp
    · have h1 : (t != e.t) = true := by simpa using g
      rw [h1, bne_iff_ne.2 (by simp [g])]; rfl
theorem joinL_cut {l : Lg} {P : Int} {E : List Ent} {k : Nat} (hk : k < E.length) (hb : badL l P E k = true) (h : ∀ j < k, badL l P E j = false) : joinL l P E = frontL l (P - l.b + k).toNat (E.drop k) := by
  unfold joinL; rw [cutAt_some hk hb h]
theorem joinL_none {l : Lg} {P : Int} {E : List Ent} (h : ∀ j < E.length, badL l P E j = false) : joinL l P E = l := by
  unfold joinL; rw [cutAt_none h]
end Go.Proofs.Ytabiccpodnjieaa
