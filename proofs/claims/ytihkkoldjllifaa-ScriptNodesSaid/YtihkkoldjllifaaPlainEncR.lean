/- Script: the plain law: the reference's bytes of an event. -/
import Derived.Test.YtihkkoldjllifaaPlainEnc
namespace Go.Proofs.Ytihkkoldjllifaa

def smallB (n m : Int) : Bool := decide (0 ≤ n) && decide (n ≤ m)
/-- The reference's bytes, or none. -/
def refB (e : Ev) : Option (List Int) :=
  if e.k = 1 then some [0, nodeB e.n]
  else if e.k = 2 then some [4, nodeB e.n, u8w (e.w.tdiv 256), u8w (e.w.tmod 256)]
  else if e.k = 3 then some [5, u8w e.i]
  else if e.k = 4 then some [8, u8w e.i]
  else if e.k = 5 then some [9, u8w e.i]
  else if e.k = 6 then (if 255 < e.t.size then none else some ([10, nodeB e.n, u8w e.t.size] ++ txt e.t))
  else if e.k = 7 then (if e.ks.length = 2 ∧ smallB (e.ks.getD 0 0) 255 = true ∧ smallB (e.ks.getD 1 0) 255 = true then some [11, nodeB e.n, u8w (e.ks.getD 0 0), u8w (e.ks.getD 1 0)] else none)
  else if e.k = 8 then some [12, nodeB e.n]
  else if e.k = 9 then some [13, nodeB e.n, u8w e.i]
  else if e.k = 12 then some [14, nodeB e.n, u8w e.i, u8w (e.w.tdiv 256), u8w (e.w.tmod 256)]
  else none
def encR (e : Ev) : List Int × Bool := match refB e with
  | none => ([], false)
  | some xs => (xs, decide (decE 9 xs = [e]))
theorem encR_none {e : Ev} (h : refB e = none) : encR e = ([], false) := by unfold encR; rw [h]
theorem encR_some {e : Ev} {xs : List Int} (h : refB e = some xs) : encR e = (xs, decide (decE 9 xs = [e])) := by unfold encR; rw [h]
theorem refB_oct {e : Ev} {xs : List Int} (h : refB e = some xs) : Oct xs := by
  have n := nodeB_fit e.n
  have i := u8w_fit e.i
  have w1 := u8w_fit (e.w.tdiv 256)
  have w0 := u8w_fit (e.w.tmod 256)
  have s := u8w_fit e.t.size
  have k0 := u8w_fit (e.ks.getD 0 0)
  have k1 := u8w_fit (e.ks.getD 1 0)
  unfold refB at h
  repeat' split at h
  all_goals first | (cases h; done) | skip
  all_goals (injection h with h; subst h; repeat (first | exact oct_nil | exact txt_oct _ | refine oct_append ?_ ?_ | (refine oct_cons (by first | assumption | decide) ?_)))
/-- What an event of these bytes has. -/
theorem dec_one {n : Int} {xs : List Int} {e : Ev} (hx : Oct xs) (hne : xs ≠ []) (hk : xs.getD 0 0 % 16 ≠ 15) (h : decE n xs = [e]) : ¬ (longR xs = 0 ∨ xs.length < longR xs) ∧ oneR n (xs.take (longR xs)) = e ∧ decE n (xs.drop (longR xs)) = [] := by
  by_cases hs : longR xs = 0 ∨ xs.length < longR xs
  · rw [dec_short n xs hx hs] at h; cases h
  · rw [dec_fine n xs hne hx hs, if_pos hk] at h
    simp only [List.cons_append, List.nil_append, List.cons.injEq] at h
    exact ⟨hs, h.1, h.2⟩
theorem wall_same {w : Int} (h : w = u8w (w / 256) * 256 + u8w w) : u8w (w.tdiv 256) = u8w (w / 256) ∧ u8w (w.tmod 256) = u8w w := by
  have h1 := u8w_fit (w / 256)
  have h0 := u8w_fit w
  have hw : 0 ≤ w := by omega
  rw [Int.tdiv_eq_ediv_of_nonneg hw, Int.tmod_eq_emod_of_nonneg hw]
  refine ⟨rfl, ?_⟩
  unfold u8w; rw [IntKind.wrap_u8, IntKind.wrap_u8]; omega
theorem wall_back {w : Int} (h : w = u8w (w.tdiv 256) * 256 + u8w (w.tmod 256)) : u8w (w / 256) = u8w (w.tdiv 256) ∧ u8w w = u8w (w.tmod 256) := by
  have h1 := u8w_fit (w.tdiv 256)
  have h0 := u8w_fit (w.tmod 256)
  have hw : 0 ≤ w := by omega
  rw [Int.tdiv_eq_ediv_of_nonneg hw, Int.tmod_eq_emod_of_nonneg hw]
  refine ⟨rfl, ?_⟩
  unfold u8w; rw [IntKind.wrap_u8, IntKind.wrap_u8]; omega
end Go.Proofs.Ytihkkoldjllifaa
