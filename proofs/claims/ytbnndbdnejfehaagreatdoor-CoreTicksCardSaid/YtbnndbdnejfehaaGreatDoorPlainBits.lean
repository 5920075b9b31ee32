import Derived.Laws.Entries
import Derived.RowKit
/- Numbers in seven bits a byte: the bytes, how they are read, and that reading gives back what was written; no program in sight. -/
namespace Go.Proofs.YtbnndbdnejfehaaGreatDoor
open Go Go.RowKit

/-- The bytes of a number. -/
def varN (v : Nat) : List Int := if v < 128 then [(v : Int)] else ((v % 128 + 128 : Nat) : Int) :: varN (v / 128)
termination_by v
decreasing_by omega
theorem varN_small (v : Nat) (h : v < 128) : varN v = [(v : Int)] := by rw [varN, if_pos h]
theorem varN_step (v : Nat) (h : ¬ v < 128) : varN v = ((v % 128 + 128 : Nat) : Int) :: varN (v / 128) := by rw [varN, if_neg h]
/-- What bytes read as: the number, how many bytes, the error; from byte i on, v having been read, a bit's worth u. -/
def takeGo : List Int → Nat → Int → Int → Int × Int × Int
  | [], _, _, _ => (0, 0, 2)
  | c :: cs, i, v, u =>
    if i = 9 ∧ 1 < c then (0, 0, 5)
    else if 128 ≤ c then takeGo cs (i + 1) (v + c % 128 * u) (u * 128)
    else if c = 0 ∧ 0 < i then (0, 0, 9)
    else (v + c % 128 * u, i + 1, 0)
def takeV (xs : List Int) : Int × Int × Int := takeGo xs 0 0 1
/-- What was written is read, whatever stands behind it. -/
theorem takeGo_var : ∀ (v i : Nat) (a u : Int) (rest : List Int), (v = 0 → i = 0) → v < 128 ^ (9 - i) * 2 → i ≤ 9 → takeGo (varN v ++ rest) i a u = (a + v * u, ((i + (varN v).length : Nat) : Int), 0) := by
  intro v
  induction v using Nat.strongRecOn with
  | _ v ih =>
    intro i a u rest h0 h1 hi
    by_cases hv : v < 128
    · rw [varN_small v hv]
      show (if i = 9 ∧ (1 : Int) < v then _ else _) = _
      rw [if_neg (fun ⟨h, g⟩ => by subst h; simp at h1; omega), if_neg (by omega), if_neg (fun ⟨h, g⟩ => by have := h0 (by omega); omega)]
      rw [show (v : Int) % 128 = v by omega]
      rfl
    · have hi9 : i < 9 := Nat.lt_of_le_of_ne hi (fun h => by subst h; simp at h1; omega)
      rw [varN_step v hv, List.cons_append]
      show (if i = 9 ∧ (1 : Int) < ((v % 128 + 128 : Nat) : Int) then _ else if (128 : Int) ≤ ((v % 128 + 128 : Nat) : Int) then _ else _) = _
      rw [if_neg (by omega), if_pos (by omega), ih (v / 128) (by omega) (i + 1) _ _ rest (by omega) ?_ (by omega)]
      · rw [List.length_cons]
        refine Prod.ext ?_ (Prod.ext ?_ rfl)
        · show a + ((v % 128 + 128 : Nat) : Int) % 128 * u + ((v / 128 : Nat) : Int) * (u * 128) = a + v * u
          have e1 : ((v % 128 + 128 : Nat) : Int) % 128 = (v : Int) % 128 := by omega
          have e2 : ((v / 128 : Nat) : Int) * (u * 128) = ((v : Int) / 128 * 128) * u := by rw [Int.mul_comm u 128, ← Int.mul_assoc]; rfl
          rw [e1, e2, Int.add_assoc, ← Int.add_mul]
          congr 2; omega
        · show ((i + 1 + (varN (v / 128)).length : Nat) : Int) = ((i + ((varN (v / 128)).length + 1) : Nat) : Int)
          omega
      · have e : 128 ^ (9 - i) = 128 ^ (9 - (i + 1)) * 128 := by rw [← Nat.pow_succ]; congr 1; omega
        rw [e] at h1; omega
theorem takeV_var (v : Nat) (h : v ≤ 18446744073709551615) (rest : List Int) : takeV (varN v ++ rest) = ((v : Int), ((varN v).length : Int), 0) := by
  have := takeGo_var v 0 0 1 rest (fun _ => rfl) (by have : 128 ^ (9 - 0) * 2 = 18446744073709551616 := by decide
                                                     omega) (by omega)
  unfold takeV; rw [this]; simp
end Go.Proofs.YtbnndbdnejfehaaGreatDoor
/- The plain law of signs, sums and products; no program in sight. -/
namespace Go.Proofs.YtbnndbdnejfehaaGreatDoor
open Go Go.RowKit

/-- Signs laid aside, and back; the sign's bit turned, and back. -/
def zigI (v : Int) : Int := if 0 ≤ v then 2 * v else -2 * v - 1
def zagI (u : Int) : Int := if u % 2 = 0 then u / 2 else -(u / 2) - 1
def orderI (v : Int) : Int := v + 9223372036854775808
end Go.Proofs.YtbnndbdnejfehaaGreatDoor
