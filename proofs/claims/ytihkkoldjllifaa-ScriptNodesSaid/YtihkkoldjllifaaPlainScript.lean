/- Script: the plain law: events, and a reader's steps over bytes. -/
import Derived.Test.YtihkkoldjllifaaParts
namespace Go.Proofs.Ytihkkoldjllifaa

/-- An event. -/
structure Ev where
  k : Int
  n : Int
  i : Int
  w : Int
  t : ByteArray
  ks : List Int
  cv : Int
  cx : Int
  cl : Int
  ce : Int
  ck : Int
deriving DecidableEq
def evO (k n i w : Int) (t : ByteArray) (ks : List Int) : Ev := ⟨k, n, i, w, t, ks, 0, 0, 0, 0, 0⟩
/-- A reader's steps: what is left, and whether it was too short. -/
def rdB (s : List Int × Bool) : Int × List Int × Bool :=
  match s.1 with
  | [] => (0, [], true)
  | x :: t => (x, t, s.2)
def rdN (nodes : Int) (s : List Int × Bool) : Int × List Int × Bool := ((rdB s).1 % nodes + 1, (rdB s).2)
def rdW (s : List Int × Bool) : Int × List Int × Bool := ((rdB s).1 * 256 + (rdB (rdB s).2).1, (rdB (rdB s).2).2)
def rdT (s : List Int × Bool) : ByteArray × List Int × Bool :=
  if ((rdB s).2.1.length : Int) < (rdB s).1 then (⟨#[]⟩, (rdB s).2.1, true)
  else (strOfNums ((rdB s).2.1.take (rdB s).1.toNat), (rdB s).2.1.drop (rdB s).1.toNat, (rdB s).2.2)
/-- Bytes. -/
def Oct (xs : List Int) : Prop := ∀ x ∈ xs, 0 ≤ x ∧ x ≤ 255
theorem Oct.tail {x : Int} {xs : List Int} (h : Oct (x :: xs)) : Oct xs := fun y hy => h y (List.mem_cons_of_mem _ hy)
theorem Oct.drop {xs : List Int} (h : Oct xs) (n : Nat) : Oct (xs.drop n) := fun y hy => h y (List.mem_of_mem_drop hy)
theorem Oct.take {xs : List Int} (h : Oct xs) (n : Nat) : Oct (xs.take n) := fun y hy => h y (List.mem_of_mem_take hy)
theorem rdB_oct {s : List Int × Bool} (h : Oct s.1) : Oct (rdB s).2.1 := by
  obtain ⟨xs, b⟩ := s
  cases xs with
  | nil => exact h
  | cons x t => exact Oct.tail h
theorem rdB_fit {s : List Int × Bool} (h : Oct s.1) : 0 ≤ (rdB s).1 ∧ (rdB s).1 ≤ 255 := by
  obtain ⟨xs, b⟩ := s
  cases xs with
  | nil => exact ⟨by simp [rdB], by simp [rdB]⟩
  | cons x t => exact h x (by simp)
theorem rdT_oct {s : List Int × Bool} (h : Oct s.1) : Oct (rdT s).2.1 := by
  unfold rdT; split
  · exact rdB_oct h
  · exact (rdB_oct h).drop _
theorem rdB_le (s : List Int × Bool) : (rdB s).2.1.length ≤ s.1.length := by
  obtain ⟨xs, b⟩ := s
  cases xs <;> simp [rdB]
/-- What the next bytes say. -/
def evP (nodes : Int) (s : List Int × Bool) : (Ev × Bool) × List Int × Bool :=
  let k := (rdB s).1 % 16
  let a := (rdB s).2
  let m := rdN nodes a
  if k = 4 then ((evO 2 m.1 0 (rdW m.2).1 ⟨#[]⟩ [], true), (rdW m.2).2)
  else if k = 5 ∨ k = 6 ∨ k = 7 then ((evO 3 0 (rdB a).1 0 ⟨#[]⟩ [], true), (rdB a).2)
  else if k = 8 then ((evO 4 0 (rdB a).1 0 ⟨#[]⟩ [], true), (rdB a).2)
  else if k = 9 then ((evO 5 0 (rdB a).1 0 ⟨#[]⟩ [], true), (rdB a).2)
  else if k = 10 then ((evO 6 m.1 0 0 (rdT m.2).1 [], true), (rdT m.2).2)
  else if k = 11 then ((evO 7 m.1 0 0 ⟨#[]⟩ [(rdB m.2).1, (rdB (rdB m.2).2).1], true), (rdB (rdB m.2).2).2)
  else if k = 12 then ((evO 8 m.1 0 0 ⟨#[]⟩ [], true), m.2)
  else if k = 13 then ((evO 9 m.1 (rdB m.2).1 0 ⟨#[]⟩ [], true), (rdB m.2).2)
  else if k = 14 then ((evO 12 m.1 (rdB m.2).1 (rdW (rdB m.2).2).1 ⟨#[]⟩ [], true), (rdW (rdB m.2).2).2)
  else if k = 15 then ((evO 0 0 0 0 ⟨#[]⟩ [], false), a)
  else ((evO 1 m.1 0 0 ⟨#[]⟩ [], true), m.2)
end Go.Proofs.Ytihkkoldjllifaa
