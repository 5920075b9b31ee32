/- Script: the plain law: all events out of bytes. -/
import Derived.Test.YtihkkoldjllifaaPlainScript
namespace Go.Proofs.Ytihkkoldjllifaa

theorem rdT_le (s : List Int × Bool) : (rdT s).2.1.length ≤ s.1.length := by
  unfold rdT
  have := rdB_le s
  split
  · exact this
  · simp only [List.length_drop]; omega
theorem rdN_le (n : Int) (s : List Int × Bool) : (rdN n s).2.1.length ≤ s.1.length := rdB_le s
theorem rdW_le (s : List Int × Bool) : (rdW s).2.1.length ≤ s.1.length := Nat.le_trans (rdB_le _) (rdB_le s)
theorem rdW_oct {s : List Int × Bool} (h : Oct s.1) : Oct (rdW s).2.1 := rdB_oct (rdB_oct h)
theorem rdN_oct {n : Int} {s : List Int × Bool} (h : Oct s.1) : Oct (rdN n s).2.1 := rdB_oct h
theorem evP_rest (P : List Int × Bool → Prop) {n : Int} {s : List Int × Bool} (hb : ∀ s, P s → P (rdB s).2) (ht : ∀ s, P s → P (rdT s).2) (h : P (rdB s).2) : P (evP n s).2 := by
  have hn : ∀ s, P s → P (rdN n s).2 := fun s h => hb s h
  have hw : ∀ s, P s → P (rdW s).2 := fun s h => hb _ (hb s h)
  unfold evP
  simp only []
  repeat' split
  all_goals first | exact h | exact hb _ h | exact hw _ (hn _ h) | exact hn _ h | exact ht _ (hn _ h) | exact hb _ (hb _ (hn _ h)) | exact hb _ (hn _ h) | exact hw _ (hb _ (hn _ h))
theorem evP_less {n : Int} {s : List Int × Bool} (h : s.1 ≠ []) : (evP n s).2.1.length < s.1.length := by
  obtain ⟨xs, b⟩ := s
  cases xs with
  | nil => exact absurd rfl h
  | cons x t =>
    exact evP_rest (P := fun s => s.1.length < (x :: t).length) (fun s hs => Nat.lt_of_le_of_lt (rdB_le s) hs) (fun s hs => Nat.lt_of_le_of_lt (rdT_le s) hs) (by simp [rdB])
theorem evP_oct {n : Int} {s : List Int × Bool} (h : Oct s.1) : Oct (evP n s).2.1 :=
  evP_rest (P := fun s => Oct s.1) (fun _ hs => rdB_oct hs) (fun _ hs => rdT_oct hs) (rdB_oct h)
/-- All events. -/
def decP (nodes : Int) : Nat → List Int → List Ev
  | 0, _ => []
  | f + 1, xs => if xs = [] then [] else if (evP nodes (xs, false)).2.2 = true then [] else (if (evP nodes (xs, false)).1.2 = true then [(evP nodes (xs, false)).1.1] else []) ++ decP nodes f (evP nodes (xs, false)).2.1
theorem decP_fuel (n : Int) : ∀ (f g : Nat) (xs : List Int), xs.length ≤ f → xs.length ≤ g → decP n f xs = decP n g xs
  | 0, 0, _, _, _ => rfl
  | 0, g + 1, xs, h, _ => by
    have : xs = [] := List.eq_nil_of_length_eq_zero (by omega)
    subst this; simp [decP]
  | f + 1, 0, xs, _, h => by
    have : xs = [] := List.eq_nil_of_length_eq_zero (by omega)
    subst this; simp [decP]
  | f + 1, g + 1, xs, hf, hg => by
    unfold decP
    by_cases h : xs = []
    · simp [h]
    · rw [if_neg h, if_neg h]
      have := evP_less (n := n) (s := (xs, false)) h
      simp only at this
      rw [decP_fuel n f g _ (by omega) (by omega)]
def normN (nodes : Int) : Int := if nodes < 1 ∨ 9 < nodes then 1 else nodes
theorem normN_fit (n : Int) : 1 ≤ normN n ∧ normN n ≤ 9 := by unfold normN; split <;> omega
def decE (n : Int) (xs : List Int) : List Ev := decP n xs.length xs
def decA (nodes : Int) (xs : List Int) : List Ev := decE (normN nodes) xs
theorem decE_nil (n : Int) : decE n [] = [] := rfl
theorem decE_short {n : Int} {xs : List Int} {e : Ev} {is : Bool} {ys : List Int} (h : evP n (xs, false) = ((e, is), (ys, true))) : decE n xs = [] := by
  unfold decE
  cases xs with
  | nil => rfl
  | cons x t => simp only [List.length_cons]; unfold decP; rw [if_neg (by simp), h]; simp
theorem decE_step {n : Int} {xs : List Int} {e : Ev} {is : Bool} {ys : List Int} (hx : xs ≠ []) (h : evP n (xs, false) = ((e, is), (ys, false))) : decE n xs = (if is = true then [e] else []) ++ decE n ys := by
  have hl := evP_less (n := n) (s := (xs, false)) hx
  rw [h] at hl
  simp only at hl
  unfold decE
  obtain ⟨m, hm⟩ : ∃ m, xs.length = m + 1 := ⟨xs.length - 1, by omega⟩
  rw [hm]
  conv => lhs; unfold decP
  rw [if_neg hx, h]
  simp only [Bool.false_eq_true, if_false]
  rw [decP_fuel n m ys.length ys (by omega) (Nat.le_refl _)]
end Go.Proofs.Ytihkkoldjllifaa
