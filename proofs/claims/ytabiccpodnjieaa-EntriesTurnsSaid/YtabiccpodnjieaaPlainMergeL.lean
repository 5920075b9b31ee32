/- Logs: the plain law: what becomes of a log when another one's entries are merged, and when it is compacted. -/
import Derived.Test.YtabiccpodnjieaaPlainConfL
namespace Go.Proofs.Ytabiccpodnjieaa

def frontL (l : Lg) (n : Nat) (L2 : List Ent) : Lg := ⟨l.b, l.bt, l.j, l.es.take n ++ L2⟩
theorem frontL_all (l : Lg) : frontL l l.es.length [] = l := by cases l; simp [frontL]
/-- Is the k-th of the entries another one, or none? -/
def badL (l : Lg) (prev : Int) (es : List Ent) (k : Nat) : Bool := termL l (prev + 1 + k) != ((es.getD k ent0).t, true)
def cutAt (l : Lg) (prev : Int) (es : List Ent) : Option Nat := (List.range es.length).find? (badL l prev es)
theorem cutAt_some {l : Lg} {prev : Int} {es : List Ent} {k : Nat} (hk : k < es.length) (hb : badL l prev es k = true) (h : ∀ j < k, badL l prev es j = false) : cutAt l prev es = some k := by
  unfold cutAt
  rw [List.find?_range_eq_some]
  exact ⟨hb, List.mem_range.2 hk, fun j hj => by simp [h j hj]⟩
theorem cutAt_none {l : Lg} {prev : Int} {es : List Ent} (h : ∀ j < es.length, badL l prev es j = false) : cutAt l prev es = none := by
  unfold cutAt
  rw [List.find?_eq_none]
  intro j hj
  simp [h j (List.mem_range.1 hj)]
theorem cutAt_is {l : Lg} {prev : Int} {es : List Ent} {k : Nat} (h : cutAt l prev es = some k) : k < es.length ∧ badL l prev es k = true ∧ ∀ j < k, badL l prev es j = false := by
  unfold cutAt at h
  rw [List.find?_range_eq_some] at h
  exact ⟨List.mem_range.1 h.2.1, h.1, fun j hj => by simpa using h.2.2 j hj⟩
theorem cutAt_isnone {l : Lg} {prev : Int} {es : List Ent} (h : cutAt l prev es = none) : ∀ j < es.length, badL l prev es j = false := by
  unfold cutAt at h
  rw [List.find?_eq_none] at h
  intro j hj
  simpa using h j (List.mem_range.2 hj)
/-- Behind prev, which the log has (or its base). -/
def joinL (l : Lg) (prev : Int) (es : List Ent) : Lg := match cutAt l prev es with
  | some k => frontL l (prev - l.b + k).toNat (es.drop k)
  | none => l
def refusedL (l : Lg) (prev term : Int) (n : Nat) : Bool := (decide (l.b ≤ prev) && (!(termL l prev).2 || decide ((termL l prev).1 ≠ term))) || (decide (prev < l.b) && decide ((n : Int) < l.b - prev))
def mergeL (l : Lg) (prev term : Int) (es : List Ent) : Lg × Int × Bool :=
  if l.last < prev ∨ prev < 0 then (l, 0, false)
  else if refusedL l prev term es.length then (l, 0, false)
  else if prev < l.b then (joinL l l.b (es.drop (l.b - prev).toNat), prev + es.length, true)
  else (joinL l prev es, prev + es.length, true)
/-- Entries up to a number are forgotten. -/
def compactL (l : Lg) (to : Int) : Lg × Int :=
  if (termL l to).2 then (⟨to, (termL l to).1, confF l.j (l.es.take (to - l.b).toNat), l.es.drop (to - l.b).toNat⟩, 0) else (⟨0, 0, jn0, []⟩, 1)
/-- A number that a log knows: it is from its base to its last. -/
theorem termL_known {l : Lg} {i : Int} (h : (termL l i).2 = true) : l.b ≤ i ∧ i ≤ l.last := by
  unfold termL at h
  split at h
  · subst_vars; unfold Lg.last; omega
  · unfold atL at h
    split at h
    · simp at h
    · split at h
      · rename_i h1 h2 e he
        obtain ⟨hl, -⟩ := List.getElem?_eq_some_iff.1 he
        unfold Lg.last; omega
      · simp at h
theorem termL_has {l : Lg} {i : Int} (h1 : l.b ≤ i) (h2 : i ≤ l.last) : (termL l i).2 = true := by
  unfold Lg.last at h2
  by_cases h : i = l.b
  · rw [termL_base h]
  · rw [termL_not h, atL_in (k := (i - l.b - 1).toNat) (by omega) (by omega)]
theorem termL_in {l : Lg} {k : Nat} (hk : k < l.es.length) : termL l (l.b + 1 + k) = (l.es[k].t, true) := by
  rw [termL_not (by omega), atL_in (k := k) (by omega) hk]
end Go.Proofs.Ytabiccpodnjieaa
