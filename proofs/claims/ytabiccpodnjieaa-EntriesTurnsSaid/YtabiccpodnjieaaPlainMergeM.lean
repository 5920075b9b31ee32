/- Logs: the plain law: what follows of a merge: that it is had, that once more changes nothing, and that nothing is cut off where terms agree; and that it goes with a compacting. -/
import Derived.Test.YtabiccpodnjieaaPlainMergeL
import Derived.Test.YtabiccpodnjieaaPlainMade
namespace Go.Proofs.Ytabiccpodnjieaa

theorem termL_of {l : Lg} {i : Int} {k : Nat} (h : i = l.b + 1 + k) (hk : k < l.es.length) : termL l i = (l.es[k].t, true) := by subst h; exact termL_in hk
theorem termL_out {l : Lg} {i : Int} {k : Nat} (h : i = l.b + 1 + k) (hk : l.es.length ≤ k) : termL l i = (0, false) := by
  subst h
  rw [termL_not (by omega)]
  have : atL l (l.b + 1 + k) = (ent0, false) := by
    unfold atL; rw [if_neg (by omega), List.getElem?_eq_none (by omega)]
  rw [this]; rfl
theorem termL_fit {l : Lg} {i : Int} (h : l.b ≤ i) : (∃ k : Nat, i = l.b + 1 + k) ∨ i = l.b := by
  by_cases e : i = l.b
  · exact .inr e
  · exact .inl ⟨(i - l.b - 1).toNat, by omega⟩
/-- What a merge leaves, entry by entry. -/
theorem frontL_get {l : Lg} {n j : Nat} {L2 : List Ent} (hn : n ≤ l.es.length) (hj : j < n) : (frontL l n L2).es[j]? = l.es[j]? := by
  unfold frontL
  simp only
  rw [List.getElem?_append_left (by rw [List.length_take]; omega), List.getElem?_take, if_pos hj]
theorem frontL_get2 {l : Lg} {n j : Nat} {L2 : List Ent} (hn : n ≤ l.es.length) (hj : n ≤ j) : (frontL l n L2).es[j]? = L2[j - n]? := by
  unfold frontL
  simp only
  rw [List.getElem?_append_right (by rw [List.length_take]; omega), List.length_take, Nat.min_eq_left hn]
theorem frontL_len {l : Lg} {n : Nat} {L2 : List Ent} (hn : n ≤ l.es.length) : (frontL l n L2).es.length = n + L2.length := by
  unfold frontL
  simp only
  rw [List.length_append, List.length_take, Nat.min_eq_left hn]
theorem termL_get {l m : Lg} {i : Int} (hb : m.b = l.b) (ht : m.bt = l.bt) (h : ∀ k : Nat, i = l.b + 1 + k → m.es[k]? = l.es[k]?) : termL m i = termL l i := by
  by_cases e : i = l.b
  · rw [termL_base e, termL_base (e.trans hb.symm), ht]
  · rw [termL_not e, termL_not (by omega)]
    unfold atL
    rw [hb]
    split
    · rfl
    · rw [h (i - l.b - 1).toNat (by omega)]
/-- The cut lies within the log. -/
theorem cut_in {l : Lg} {prev : Int} {es : List Ent} {k : Nat} (hb : l.b ≤ prev) (hl : prev ≤ l.last) (h : cutAt l prev es = some k) : ∃ n : Nat, prev - l.b + k = n ∧ n ≤ l.es.length := by
  obtain ⟨hk, -, hg⟩ := cutAt_is h
  refine ⟨(prev - l.b + k).toNat, by omega, ?_⟩
  unfold Lg.last at hl
  rcases Nat.eq_zero_or_pos k with h0 | h0
  · omega
  · have hj := hg (k - 1) (by omega)
    unfold badL at hj
    have h1 : (termL l (prev + 1 + ((k - 1 : Nat) : Int))).2 = true := by simp only [bne_eq_false_iff_eq] at hj; rw [hj]
    have h2 := (termL_known h1).2
    unfold Lg.last at h2
    omega
theorem joinL_b {l : Lg} {prev : Int} {es : List Ent} : (joinL l prev es).b = l.b ∧ (joinL l prev es).bt = l.bt ∧ (joinL l prev es).j = l.j := by
  unfold joinL; split <;> simp [frontL]
/-- Behind a merge the entries are had. -/
theorem joinL_has {l : Lg} {prev : Int} {es : List Ent} (hb : l.b ≤ prev) (hl : prev ≤ l.last) {j : Nat} (hj : j < es.length) : termL (joinL l prev es) (prev + 1 + j) = (es[j].t, true) := by
  have hgd : es.getD j ent0 = es[j] := by simp [List.getD, List.getElem?_eq_getElem hj]
  unfold joinL
  cases h : cutAt l prev es with
  | none =>
    have := cutAt_isnone h j hj
    unfold badL at this
    simp only [bne_eq_false_iff_eq] at this
    rw [hgd] at this
    exact this
  | some k =>
    obtain ⟨n, hn, hnl⟩ := cut_in hb hl h
    obtain ⟨hk, -, hg⟩ := cutAt_is h
    simp only
    rw [hn, Int.toNat_natCast]
    rcases Nat.lt_or_ge j k with hjk | hjk
    · have := hg j hjk
      unfold badL at this
      simp only [bne_eq_false_iff_eq] at this
      rw [hgd] at this
      rw [← this]
      exact termL_get rfl rfl fun q hq => frontL_get hnl (by omega)
    · have hlen : (frontL l n (es.drop k)).es.length = n + (es.length - k) := by rw [frontL_len hnl, List.length_drop]
      have hbb : (frontL l n (es.drop k)).b = l.b := rfl
      have hq : ∃ q : Nat, prev - l.b + j = q := ⟨(prev - l.b + j).toNat, by omega⟩
      obtain ⟨q, hq⟩ := hq
      have hql : q < (frontL l n (es.drop k)).es.length := by rw [hlen]; omega
      rw [termL_of (k := q) (by rw [hbb]; omega) hql]
      have hg2 := frontL_get2 (l := l) (n := n) (j := q) (L2 := es.drop k) hnl (by omega)
      rw [List.getElem?_eq_getElem hql, List.getElem?_drop, show k + (q - n) = j by omega, List.getElem?_eq_getElem hj] at hg2
      rw [Option.some.inj hg2]
theorem joinL_len {l : Lg} {prev : Int} {es : List Ent} (hb : l.b ≤ prev) (hl : prev ≤ l.last) : prev + es.length ≤ (joinL l prev es).last := by
  unfold joinL
  cases h : cutAt l prev es with
  | none =>
    simp only
    rcases Nat.eq_zero_or_pos es.length with h0 | h0
    · omega
    · have hj := cutAt_isnone h (es.length - 1) (by omega)
      unfold badL at hj
      have h1 : (termL l (prev + 1 + ((es.length - 1 : Nat) : Int))).2 = true := by simp only [bne_eq_false_iff_eq] at hj; rw [hj]
      have h2 := (termL_known h1).2
      omega
  | some k =>
    obtain ⟨n, hn, hnl⟩ := cut_in hb hl h
    obtain ⟨hk, -, hg⟩ := cutAt_is h
    simp only
    rw [hn, Int.toNat_natCast]
    unfold Lg.last
    rw [frontL_len hnl, List.length_drop]
    show _ ≤ l.b + _
    omega
theorem joinL_at {l : Lg} {prev : Int} {es : List Ent} (hb : l.b ≤ prev) (hl : prev ≤ l.last) {i : Int} (hi : i ≤ prev) : termL (joinL l prev es) i = termL l i := by
  unfold joinL
  cases h : cutAt l prev es with
  | none => rfl
  | some k =>
    obtain ⟨n, hn, hnl⟩ := cut_in hb hl h
    simp only
    rw [hn, Int.toNat_natCast]
    exact termL_get rfl rfl fun q hq => frontL_get hnl (by omega)
/-- Once more changes nothing. -/
theorem joinL_twice {l : Lg} {prev : Int} {es : List Ent} (hb : l.b ≤ prev) (hl : prev ≤ l.last) : joinL (joinL l prev es) prev es = joinL l prev es := by
  have h : cutAt (joinL l prev es) prev es = none := cutAt_none fun j hj => by
    unfold badL
    rw [joinL_has hb hl hj]
    simp [List.getD, List.getElem?_eq_getElem hj]
  rw [joinL, h]
/-- Where all terms agree, nothing is cut off. -/
theorem joinL_same {l : Lg} {prev : Int} {es : List Ent} (h : ∀ j, (hj : j < es.length) → termL l (prev + 1 + j) = (es[j].t, true)) : joinL l prev es = l := by
  have h : cutAt l prev es = none := cutAt_none fun j hj => by
    unfold badL
    rw [h j hj]
    simp [List.getD, List.getElem?_eq_getElem hj]
  rw [joinL, h]
/-- A merge that is well, of entries behind prev, at prev or behind the base. -/
theorem mergeL_ok {l : Lg} {prev term : Int} {es : List Ent} (h0 : 0 ≤ prev) (hb : l.b ≤ prev) (hl : prev ≤ l.last) (ht : (termL l prev).1 = term) : mergeL l prev term es = (joinL l prev es, prev + es.length, true) := by
  have hh := termL_has hb hl
  unfold mergeL refusedL
  rw [if_neg (by omega), if_neg (by rw [hh, ht]; simp; omega), if_neg (by omega)]
theorem mergeL_no {l : Lg} {prev term : Int} {es : List Ent} (_h0 : 0 ≤ prev) (hb : l.b ≤ prev) (h : (termL l prev).2 = false ∨ (termL l prev).1 ≠ term) : mergeL l prev term es = (l, 0, false) := by
  unfold mergeL refusedL
  split
  · rfl
  · rw [if_pos]
    rcases h with h | h <;> simp [hb, h]
theorem mergeL_iff {l : Lg} {prev term : Int} {es : List Ent} (h0 : 0 ≤ prev) (hb : l.b ≤ prev) : (mergeL l prev term es).2.2 = true ↔ (termL l prev).2 = true ∧ (termL l prev).1 = term := by
  constructor
  · intro h
    by_cases h1 : (termL l prev).2 = true ∧ (termL l prev).1 = term
    · exact h1
    · rw [mergeL_no h0 hb (by rcases Bool.eq_false_or_eq_true (termL l prev).2 with g | g <;> simp_all)] at h
      simp at h
  · rintro ⟨h1, h2⟩
    rw [mergeL_ok h0 hb (termL_known h1).2 h2]
theorem termL_snd {l : Lg} {i : Int} (hb : l.b ≤ i) : (termL l i).2 = decide (i ≤ l.last) := by
  by_cases h : i ≤ l.last
  · rw [termL_has hb h, decide_eq_true h]
  · rw [decide_eq_false h]
    by_cases g : (termL l i).2 = true
    · exact absurd (termL_known g).2 h
    · simpa using g
end Go.Proofs.Ytabiccpodnjieaa
