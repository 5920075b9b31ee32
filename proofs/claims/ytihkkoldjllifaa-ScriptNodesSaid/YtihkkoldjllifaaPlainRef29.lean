/- Script: the plain law: the reference reads the same events. -/
import Derived.Test.YtihkkoldjllifaaPlainDec
namespace Go.Proofs.Ytihkkoldjllifaa

/-- How long an event is, by its first bytes; 0: not told. -/
def longR (xs : List Int) : Nat :=
  let k := xs.getD 0 0 % 16
  if k = 4 then 4 else if k = 5 ∨ k = 6 ∨ k = 7 ∨ k = 8 ∨ k = 9 then 2 else if k = 10 then (if xs.length < 3 then 0 else 3 + (xs.getD 2 0).toNat) else if k = 11 then 4 else if k = 13 then 3 else if k = 14 then 5 else if k = 15 then 1 else 2
def oneR (nodes : Int) (xs : List Int) : Ev :=
  let k := xs.getD 0 0 % 16
  let m := xs.getD 1 0 % nodes + 1
  if k = 15 then evO 0 0 0 0 ⟨#[]⟩ []
  else if k = 4 then evO 2 m 0 (xs.getD 2 0 * 256 + xs.getD 3 0) ⟨#[]⟩ []
  else if k = 5 ∨ k = 6 ∨ k = 7 then evO 3 0 (xs.getD 1 0) 0 ⟨#[]⟩ []
  else if k = 8 then evO 4 0 (xs.getD 1 0) 0 ⟨#[]⟩ []
  else if k = 9 then evO 5 0 (xs.getD 1 0) 0 ⟨#[]⟩ []
  else if k = 10 then evO 6 m 0 0 (strOfNums (xs.drop 3)) []
  else if k = 11 then evO 7 m 0 0 ⟨#[]⟩ [xs.getD 2 0, xs.getD 3 0]
  else if k = 12 then evO 8 m 0 0 ⟨#[]⟩ []
  else if k = 13 then evO 9 m (xs.getD 2 0) 0 ⟨#[]⟩ []
  else if k = 14 then evO 12 m (xs.getD 2 0) (xs.getD 3 0 * 256 + xs.getD 4 0) ⟨#[]⟩ []
  else evO 1 m 0 0 ⟨#[]⟩ []
theorem k_cases {x : Int} (_h : 0 ≤ x) : x % 16 = 0 ∨ x % 16 = 1 ∨ x % 16 = 2 ∨ x % 16 = 3 ∨ x % 16 = 4 ∨ x % 16 = 5 ∨ x % 16 = 6 ∨ x % 16 = 7 ∨ x % 16 = 8 ∨ x % 16 = 9 ∨ x % 16 = 10 ∨ x % 16 = 11 ∨ x % 16 = 12 ∨ x % 16 = 13 ∨ x % 16 = 14 ∨ x % 16 = 15 := by omega
theorem ref_text (n : Int) (x : Int) (t : List Int) (hx : Oct (x :: t)) (hk : x % 16 = 10) :
    if longR (x :: t) = 0 ∨ (x :: t).length < longR (x :: t) then (evP n (x :: t, false)).2.2 = true
    else evP n (x :: t, false) = ((oneR n ((x :: t).take (longR (x :: t))), true), ((x :: t).drop (longR (x :: t)), false)) := by
  match t, hx with
  | [], _ => simp [longR, hk, evP, rdB, rdN, rdT]
  | [a], _ => simp [longR, hk, evP, rdB, rdN, rdT]
  | a :: b :: t, hx =>
    have hb := hx b (by simp)
    obtain ⟨b, rfl⟩ := Int.eq_ofNat_of_zero_le hb.1
    have hL : longR (x :: a :: (b : Int) :: t) = 3 + b := by simp [longR, hk]; omega
    rw [hL]
    by_cases h : t.length < b
    · rw [if_pos (by simp; omega)]
      have h' : (t.length : Int) < (b : Int) := by omega
      simp [evP, hk, rdB, rdN, rdT, h]
    · rw [if_neg (by simp; omega)]
      have e1 : (x :: a :: (b : Int) :: t).take (3 + b) = x :: a :: (b : Int) :: t.take b := by rw [show 3 + b = b + 1 + 1 + 1 by omega]; simp
      have e2 : (x :: a :: (b : Int) :: t).drop (3 + b) = t.drop b := by rw [show 3 + b = b + 1 + 1 + 1 by omega]; simp
      rw [e1, e2]
      have h' : ¬ (t.length : Int) < (b : Int) := by omega
      simp [evP, oneR, hk, rdB, rdN, rdT, h]
theorem ref_both (n : Int) (x : Int) (t : List Int) (hx : Oct (x :: t)) :
    if longR (x :: t) = 0 ∨ (x :: t).length < longR (x :: t) then (evP n (x :: t, false)).2.2 = true
    else evP n (x :: t, false) = ((oneR n ((x :: t).take (longR (x :: t))), decide (x % 16 ≠ 15)), ((x :: t).drop (longR (x :: t)), false)) := by
  have h0 := (hx x (by simp)).1
  by_cases h10 : x % 16 = 10
  · have := ref_text n x t hx h10
    rw [h10]; exact this
  · rcases k_cases h0 with hk | hk | hk | hk | hk | hk | hk | hk | hk | hk | hk | hk | hk | hk | hk | hk
    all_goals first
      | exact absurd hk h10
      | (rcases t with _ | ⟨a, _ | ⟨b, _ | ⟨c, _ | ⟨d, t⟩⟩⟩⟩ <;> simp [longR, hk, evP, oneR, rdB, rdN, rdW] <;> omega)
      | (rcases t with _ | ⟨a, _ | ⟨b, _ | ⟨c, _ | ⟨d, t⟩⟩⟩⟩ <;> simp [longR, hk, evP, oneR, rdB, rdN, rdW])
theorem dec_short (n : Int) (xs : List Int) (hx : Oct xs) (h : longR xs = 0 ∨ xs.length < longR xs) : decE n xs = [] := by
  cases xs with
  | nil => rfl
  | cons x t =>
    have := ref_both n x t hx
    rw [if_pos h] at this
    obtain ⟨⟨⟨e, is⟩, ys, sh⟩, he⟩ : ∃ r, evP n (x :: t, false) = r := ⟨_, rfl⟩
    rw [he] at this
    simp only at this
    subst this
    exact decE_short he
theorem dec_fine (n : Int) (xs : List Int) (hne : xs ≠ []) (hx : Oct xs) (h : ¬ (longR xs = 0 ∨ xs.length < longR xs)) : decE n xs = (if xs.getD 0 0 % 16 ≠ 15 then [oneR n (xs.take (longR xs))] else []) ++ decE n (xs.drop (longR xs)) := by
  cases xs with
  | nil => exact absurd rfl hne
  | cons x t =>
    have := ref_both n x t hx
    rw [if_neg h] at this
    rw [decE_step (by simp) this]
    simp
theorem oneR_kind (n : Int) (xs : List Int) (h0 : 0 ≤ xs.getD 0 0) : (0 < (oneR n xs).k) ↔ xs.getD 0 0 % 16 ≠ 15 := by
  rcases k_cases h0 with hk | hk | hk | hk | hk | hk | hk | hk | hk | hk | hk | hk | hk | hk | hk | hk <;> (unfold oneR; simp only [hk]; simp [evO])
theorem getD_take {xs : List Int} {n j : Nat} (h : j < n) : (xs.take n).getD j 0 = xs.getD j 0 := by
  simp only [List.getD_eq_getElem?_getD, List.getElem?_take, if_pos h]
theorem long_pos {xs : List Int} (h : longR xs ≠ 0) : 0 < longR xs := Nat.pos_of_ne_zero h
def longF (k : Int) (l : Nat) (b : Int) : Nat :=
  if k = 4 then 4 else if k = 5 ∨ k = 6 ∨ k = 7 ∨ k = 8 ∨ k = 9 then 2 else if k = 10 then (if l < 3 then 0 else 3 + b.toNat) else if k = 11 then 4 else if k = 13 then 3 else if k = 14 then 5 else if k = 15 then 1 else 2
theorem longR_eq (xs : List Int) : longR xs = longF (xs.getD 0 0 % 16) xs.length (xs.getD 2 0) := rfl
theorem longF_ten (l : Nat) (b : Int) : longF 10 l b = if l < 3 then 0 else 3 + b.toNat := by unfold longF; simp
theorem longF_not {k : Int} (h : k ≠ 10) (l l' : Nat) (b b' : Int) : longF k l b = longF k l' b' := by unfold longF; simp only [if_neg h]
theorem take_long {xs : List Int} (h : ¬ (longR xs = 0 ∨ xs.length < longR xs)) : longR (xs.take (longR xs)) = longR xs := by
  obtain ⟨M, hM⟩ : ∃ M, longR xs = M := ⟨_, rfl⟩
  rw [hM] at h ⊢
  have hl : (xs.take M).length = M := by rw [List.length_take]; omega
  have e0 := getD_take (xs := xs) (n := M) (j := 0) (by omega)
  rw [longR_eq, e0, hl]
  rw [longR_eq] at hM
  by_cases hk : xs.getD 0 0 % 16 = 10
  · rw [hk, longF_ten] at hM ⊢
    have h3 : 3 ≤ M := by split at hM <;> omega
    rw [getD_take (xs := xs) (n := M) (j := 2) (by omega), if_neg (by omega)]
    rw [if_neg (by omega)] at hM; exact hM
  · rw [longF_not hk M xs.length _ (xs.getD 2 0)]; exact hM
theorem evP_ks (n : Int) (s : List Int × Bool) : (evP n s).1.1.ks.length ≤ 2 := by
  unfold evP
  simp only []
  repeat' split
  all_goals simp [evO]
theorem decE_ks_mem (n : Int) : ∀ (f : Nat) (xs : List Int), ∀ e ∈ decP n f xs, e.ks.length ≤ 2
  | 0, _, e, h => by cases h
  | f + 1, xs, e, h => by
    unfold decP at h
    split at h
    · cases h
    · split at h
      · cases h
      · rcases List.mem_append.1 h with h | h
        · split at h
          · simp only [List.mem_singleton] at h; rw [h]; exact evP_ks n _
          · cases h
        · exact decE_ks_mem n f _ e h
theorem decE_ks (n : Int) (xs : List Int) (L : List Ev) (h : L = decE n xs) : ∀ e ∈ L, e.ks.length ≤ 2 := by rw [h]; exact decE_ks_mem n _ xs
end Go.Proofs.Ytihkkoldjllifaa
