/- Script: the plain law: an event's bytes. -/
import Derived.Test.YtihkkoldjllifaaPlainRef29
namespace Go.Proofs.Ytihkkoldjllifaa

def u8w (x : Int) : Int := IntKind.u8.wrap x
def nodeB (n : Int) : Int := IntKind.u8.wrap (IntKind.i64.wrap (n - 1))
theorem u8w_fit (x : Int) : 0 ≤ u8w x ∧ u8w x ≤ 255 := by unfold u8w; rw [IntKind.wrap_u8]; omega
theorem nodeB_fit (n : Int) : 0 ≤ nodeB n ∧ nodeB n ≤ 255 := u8w_fit _
def txt (t : ByteArray) : List Int := t.data.toList.map fun b => (b.toNat : Int)
theorem txt_len (t : ByteArray) : (txt t).length = t.size := by unfold txt; rw [List.length_map, Array.length_toList]; rfl
theorem txt_oct (t : ByteArray) : Oct (txt t) := by
  intro x hx
  simp only [txt, List.mem_map] at hx
  obtain ⟨b, _, rfl⟩ := hx
  have := b.toNat_lt
  omega
theorem str_txt (t : ByteArray) : strOfNums (txt t) = t := by
  have h : (txt t).map (fun n => UInt8.ofNat n.toNat) = t.data.toList := by
    unfold txt
    rw [List.map_map]
    have : ((fun n : Int => UInt8.ofNat n.toNat) ∘ fun b : UInt8 => (b.toNat : Int)) = id := by
      funext b; simp
    rw [this, List.map_id]
  show (⟨((txt t).map fun n => UInt8.ofNat n.toNat).toArray⟩ : ByteArray) = t
  rw [h]
/-- The bytes that are tried. -/
def progB (e : Ev) : List Int :=
  if e.k = 1 then [0, nodeB e.n]
  else if e.k = 2 then [4, nodeB e.n] ++ [u8w (e.w / 256), u8w e.w]
  else if e.k = 3 then [5, u8w e.i]
  else if e.k = 4 then [8, u8w e.i]
  else if e.k = 5 then [9, u8w e.i]
  else if e.k = 6 then [10, nodeB e.n, u8w e.t.size] ++ txt e.t
  else if e.k = 7 then [11, nodeB e.n] ++ e.ks.map u8w
  else if e.k = 8 then [12, nodeB e.n]
  else if e.k = 9 then [13, nodeB e.n, u8w e.i]
  else if e.k = 12 then [14, nodeB e.n, u8w e.i] ++ [u8w (e.w / 256), u8w e.w]
  else []
def encP (e : Ev) : List Int := if decE 9 (progB e) = [e] then progB e else []
theorem encP_yes {e : Ev} {xs : List Int} (h : progB e = xs) (hd : decE 9 xs = [e]) : encP e = xs := by unfold encP; rw [h, if_pos hd]
theorem encP_no {e : Ev} {xs : List Int} (h : progB e = xs) (hd : decE 9 xs ≠ [e]) : encP e = [] := by unfold encP; rw [h, if_neg hd]
theorem oct_cons {x : Int} {xs : List Int} (hx : 0 ≤ x ∧ x ≤ 255) (h : Oct xs) : Oct (x :: xs) := fun y hy => by
  rcases List.mem_cons.1 hy with rfl | hy
  · exact hx
  · exact h y hy
theorem oct_nil : Oct [] := fun _ h => by cases h
theorem oct_append {xs ys : List Int} (h : Oct xs) (k : Oct ys) : Oct (xs ++ ys) := fun y hy => by
  rcases List.mem_append.1 hy with hy | hy
  · exact h y hy
  · exact k y hy
theorem oct_map (ks : List Int) : Oct (ks.map u8w) := fun y hy => by
  obtain ⟨x, _, rfl⟩ := List.mem_map.1 hy; exact u8w_fit x
theorem progB_oct (e : Ev) : Oct (progB e) := by
  have n := nodeB_fit e.n
  have i := u8w_fit e.i
  have w1 := u8w_fit (e.w / 256)
  have w0 := u8w_fit e.w
  have s := u8w_fit e.t.size
  unfold progB
  repeat' split
  all_goals (repeat (first | exact oct_nil | exact txt_oct _ | exact oct_map _ | refine oct_append ?_ ?_ | (refine oct_cons (by first | assumption | decide) ?_)))
theorem progB_len (e : Ev) : (progB e).length ≤ e.t.size + e.ks.length + 5 := by
  unfold progB
  repeat' split
  all_goals simp [txt_len]
  all_goals omega
theorem encP_len (e : Ev) : (encP e).length ≤ e.t.size + e.ks.length + 5 := by
  unfold encP; split
  · exact progB_len e
  · simp
def encAll (l : List Ev) : List Int := l.flatMap encP
theorem encAll_snoc (l : List Ev) (e : Ev) : encAll (l ++ [e]) = encAll l ++ encP e := by simp [encAll]
theorem encAll_len (l : List Ev) (h : ∀ e ∈ l, e.ks.length ≤ 1000 ∧ e.t.size ≤ 100000) : (encAll l).length ≤ l.length * 101005 := by
  induction l with
  | nil => simp [encAll]
  | cons e t ih =>
    have h1 := encP_len e
    have h2 := h e (by simp)
    have h3 := ih fun e he => h e (by simp [he])
    simp only [encAll, List.flatMap_cons, List.length_append, List.length_cons] at h3 ⊢
    omega
theorem decA_nine (xs : List Int) : decA 9 xs = decE 9 xs := rfl
end Go.Proofs.Ytihkkoldjllifaa
