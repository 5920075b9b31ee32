/- The least node of a set, by the table; a set's list, from the least one on: the plain laws. -/
import Derived.Test.YtbnndbdnejfehaaGreatDoorPlainConf
namespace Go.Proofs.YtbnndbdnejfehaaGreatDoor

def tabD : List Int := [0, 1, 28, 2, 29, 14, 24, 3, 30, 22, 20, 15, 25, 17, 4, 8, 31, 27, 13, 23, 21, 19, 16, 7, 26, 12, 18, 6, 11, 5, 10, 9]
abbrev tzIx (x : Int) : Int := bits .and .u16 x (IntKind.u16.wrap (-x)) % 4294967296 * 125613361 % 4294967296 / 134217728
def tzI (x : Int) : Int := tabD.getD (tzIx x).toNat 0
theorem tz_all : ∀ i : Fin 511, lst (2 * (i.val + 1)) 9 = tzI (2 * (i.val + 1)) :: lst (bits .and .u16 (2 * (i.val + 1)) (2 * (i.val + 1) - 1)) 9 ∧
    bits .and .u16 (2 * (i.val + 1)) (2 * (i.val + 1) - 1) % 2 = 0 ∧ bits .and .u16 (2 * (i.val + 1)) (2 * (i.val + 1) - 1) ≤ 1023 ∧ 0 ≤ tzIx (2 * (i.val + 1)) ∧ tzIx (2 * (i.val + 1)) ≤ 31 := by decide +kernel
theorem tz_step (x : Int) (h0 : 0 < x) (h1 : x ≤ 1023) (he : x % 2 = 0) : lst x 9 = tzI x :: lst (bits .and .u16 x (x - 1)) 9 ∧ bits .and .u16 x (x - 1) % 2 = 0 ∧ bits .and .u16 x (x - 1) ≤ 1023 ∧ 0 ≤ tzIx x ∧ tzIx x ≤ 31 := by
  have := tz_all ⟨(x / 2 - 1).toNat, by omega⟩
  rw [show (2 * ((((x / 2 - 1).toNat : Nat) : Int) + 1)) = x by omega] at this
  exact this
theorem lst_none : lst 0 9 = [] := by decide +kernel
end Go.Proofs.YtbnndbdnejfehaaGreatDoor
