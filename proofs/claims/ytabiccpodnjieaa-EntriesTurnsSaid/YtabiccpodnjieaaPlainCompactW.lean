/- Logs: the plain law of EntriesCompact: a compacted log tells the same of all that is behind, and merges the same. -/
import Derived.Test.YtabiccpodnjieaaPlainMergeM
namespace Go.Proofs.Ytabiccpodnjieaa

/-- What a log is from TO on, where it knows TO. -/
def cutL (l : Lg) (n : Nat) : Lg := ⟨n, (termL l n).1, confF l.j (l.es.take n), l.es.drop n⟩
theorem compactL_cut {l : Lg} {n : Nat} (hb : l.b = 0) (h : (n : Int) ≤ l.last) : compactL l n = (cutL l n, 0) := by
  have hh := termL_has (l := l) (i := n) (by omega) h
  unfold compactL cutL
  rw [if_pos hh, show ((n : Int) - l.b).toNat = n by omega]
theorem cutL_last {l : Lg} {n : Nat} (hb : l.b = 0) (h : (n : Int) ≤ l.last) : (cutL l n).last = l.last := by
  unfold Lg.last at h ⊢
  show (n : Int) + ((l.es.drop n).length : Nat) = _
  rw [List.length_drop]; omega
theorem cutL_conf (l : Lg) (n : Nat) : confL (cutL l n) = confL l := by
  show confF (confF l.j (l.es.take n)) (l.es.drop n) = confF l.j l.es
  rw [← confF_app, List.take_append_drop]
theorem cutL_term {l : Lg} {n : Nat} (hb : l.b = 0) (h : (n : Int) ≤ l.last) {i : Int} (hi : (n : Int) ≤ i) : termL (cutL l n) i = termL l i := by
  by_cases e : i = n
  · subst e
    rw [termL_base (l := cutL l n) (show (n : Int) = (cutL l n).b from rfl)]
    exact Prod.ext rfl (termL_has (by omega) h).symm
  · rw [termL_not (l := cutL l n) (show i ≠ (n : Int) from e), termL_not (l := l) (by omega)]
    have : atL (cutL l n) i = atL l i := by
      have h2 : (cutL l n).es[(i - (cutL l n).b - 1).toNat]? = l.es[(i - l.b - 1).toNat]? := by
        show (l.es.drop n)[(i - (n : Int) - 1).toNat]? = _
        rw [List.getElem?_drop, show n + (i - (n : Int) - 1).toNat = (i - l.b - 1).toNat by omega]
      unfold atL
      rw [if_neg (show ¬ i ≤ (cutL l n).b by show ¬ i ≤ (n : Int); omega), if_neg (by omega), h2]
    rw [this]
theorem cutL_merge {l : Lg} {n : Nat} (hb : l.b = 0) (h : (n : Int) ≤ l.last) {P : Int} (hP : (n : Int) ≤ P) (hP1 : P ≤ l.last) (es : List Ent) : cutL (joinL l P es) n = joinL (cutL l n) P es := by
  have hcut : cutAt (cutL l n) P es = cutAt l P es := by
    unfold cutAt
    congr 1
    funext k
    unfold badL
    rw [cutL_term hb h (by omega)]
  have ht : (termL (joinL l P es) n).1 = (termL l n).1 := by rw [joinL_at (by omega) hP1 hP]
  unfold cutL at *
  rw [ht]
  unfold joinL at *
  rw [hcut]
  cases hk : cutAt l P es with
  | none => rfl
  | some k =>
    obtain ⟨q, hq, hql⟩ := cut_in (by omega) hP1 hk
    simp only
    rw [show (P - l.b + (k : Int)).toNat = q by omega, show (P - (n : Int) + (k : Int)).toNat = q - n by omega]
    unfold frontL
    simp only [Lg.mk.injEq, true_and]
    refine ⟨?_, ?_⟩
    · rw [List.take_append_of_le_length (by rw [List.length_take]; omega), List.take_take, Nat.min_eq_left (by omega)]
    · rw [List.drop_append_of_le_length (by rw [List.length_take]; omega), List.drop_take]
theorem joinL_size {l : Lg} {P : Int} {es : List Ent} (hb : l.b ≤ P) (hl : P ≤ l.last) : (joinL l P es).es.length ≤ l.es.length + es.length := by
  unfold joinL
  split
  · rename_i k hk
    obtain ⟨n, hn, hnl⟩ := cut_in hb hl hk
    rw [hn, Int.toNat_natCast, frontL_len hnl, List.length_drop]; omega
  · omega
/-- The terms of a log that is made. -/
theorem madeE_fit (ss : List Int) (t : Int) (h : Oct ss) : ∀ k, (hk : k < (madeE ss t).length) → t ≤ (madeE ss t)[k].t ∧ (madeE ss t)[k].t ≤ t + 2 * ss.length := by
  induction ss generalizing t with
  | nil => intro k hk; simp [madeE] at hk
  | cons s ss ih =>
    intro k hk
    have hs := h s (by simp)
    cases k with
    | zero => simp [madeE]; omega
    | succ k =>
      have := ih (t + s % 3) (fun x hx => h x (by simp [hx])) k (by simpa [madeE] using hk)
      simp [madeE]; omega
theorem made_term {ss : List Int} (h : Oct ss) (i : Int) : 0 ≤ (termL (madeL ss 0 0) i).1 ∧ (termL (madeL ss 0 0) i).1 ≤ 1 + 2 * ss.length := by
  unfold termL
  split
  · show 0 ≤ (0 : Int) ∧ (0 : Int) ≤ _; omega
  · unfold atL
    split
    · show 0 ≤ (0 : Int) ∧ (0 : Int) ≤ _; omega
    · split
      · rename_i e he
        obtain ⟨hk, rfl⟩ := List.getElem?_eq_some_iff.1 he
        have := madeE_fit ss (max1 0) h _ hk
        have h1 : max1 0 = 1 := rfl
        simp only [h1] at this
        have h2 : 1 ≤ ((madeL ss 0 0).es[(i - (madeL ss 0 0).b - 1).toNat]).t ∧ ((madeL ss 0 0).es[(i - (madeL ss 0 0).b - 1).toNat]).t ≤ 1 + 2 * ss.length := this
        simp only
        omega
      · show 0 ≤ (0 : Int) ∧ (0 : Int) ≤ _; omega
end Go.Proofs.Ytabiccpodnjieaa
