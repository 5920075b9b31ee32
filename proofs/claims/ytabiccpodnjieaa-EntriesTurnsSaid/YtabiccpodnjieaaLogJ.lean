/- Entries from k on. -/
import Derived.Test.YtabiccpodnjieaaLogF
namespace Go.Proofs.Ytabiccpodnjieaa
open Go.ChangeShapes Go.WideShapes Go.ChangeAt Go.RowKit

theorem entRow_drop (L : List Ent) (n : Nat) : entRow (L.drop n) = (entRow L).drop (n * 14) := by
  induction L generalizing n with
  | nil => simp [entRow]
  | cons x t ih =>
    cases n with
    | zero => simp
    | succ m =>
      have hl : (entC x).length = 14 := rfl
      have h2 : entRow (x :: t) = entC x ++ entRow t := rfl
      have h3 : (x :: t).drop (m + 1) = t.drop m := rfl
      rw [h3, h2, ih, List.drop_append, hl, List.drop_eq_nil_of_le (show (entC x).length ≤ (m + 1) * 14 by rw [hl]; omega), show (m + 1) * 14 - 14 = m * 14 by omega]
      rfl
/-- From k on: the address goes up by k entries. -/
theorem EnSl.drop {w : World} {p : Option Addr} {c : Nat} {L : List Ent} (h : EnSl w (.slice p L.length c) L) {k : Nat} (hk : k ≤ L.length) : EnSl w (.slice (Option.map (fun x => x.add (k * 14)) p) (L.drop k).length (c - k)) (L.drop k) := by
  have hln : (L.drop k).length = L.length - k := by rw [List.length_drop]
  unfold EnSl at h ⊢
  rw [hln]
  refine ⟨by rw [entRow_len, hln], ?_⟩
  rcases h.2 with ⟨h2, h3⟩ | ⟨ad, cap, h2, h3, h4, h5⟩
  · left
    simp only [Value.slice.injEq] at h2
    obtain ⟨rfl, h6, rfl⟩ := h2
    exact ⟨by simp [h6], by omega⟩
  · right
    simp only [Value.slice.injEq] at h2
    obtain ⟨rfl, -, rfl⟩ := h2
    refine ⟨ad.add (k * 14), c - k, rfl, by omega, by omega, fun h0 => ?_⟩
    obtain ⟨g, o, rfl, h7, h8⟩ := h5 (by omega)
    refine ⟨g, o + k * 14, by unfold Addr.add; split <;> simp_all, h7, fun j hj => ?_⟩
    rw [Nat.add_assoc, h8 _ (by omega), entRow_drop, List.getElem?_drop]
/-- Nothing is left: any address. -/
theorem EnSl.drop0 {w : World} {q : Option Addr} {c' : Nat} {L : List Ent} {k : Nat} (hk : L.length ≤ k) (hc : c' ≤ maxLen) (hq : q = none → c' = 0) : EnSl w (.slice q (L.drop k).length c') (L.drop k) := by
  have hd : L.drop k = [] := List.drop_eq_nil_of_le hk
  rw [hd]
  refine ⟨rfl, ?_⟩
  cases q with
  | none => left; rw [hq rfl]; exact ⟨rfl, rfl⟩
  | some a => right; exact ⟨a, c', rfl, Nat.zero_le _, hc, fun h => absurd h (Nat.lt_irrefl 0)⟩
/-- From k on, as the program has it: at the capacity's end the address stays. -/
theorem EnSl.drop_if {w : World} {p : Option Addr} {c : Nat} {L : List Ent} (h : EnSl w (.slice p L.length c) L) {k : Nat} (hk : k ≤ L.length) : EnSl w (.slice (if c = k then p else Option.map (fun x => x.add (k * 14)) p) (L.length - k) (c - k)) (L.drop k) := by
  have hln : L.length - k = (L.drop k).length := by rw [List.length_drop]
  rw [hln]
  split
  · rename_i hc
    obtain ⟨p', c', he, hc1, hc2⟩ := h.form
    simp only [Value.slice.injEq] at he
    obtain ⟨rfl, -, rfl⟩ := he
    exact EnSl.drop0 (by omega) (by omega) (fun _ => by omega)
  · exact h.drop hk
end Go.Proofs.Ytabiccpodnjieaa
