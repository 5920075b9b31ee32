import Derived.Laws.Entries
import Derived.RowKit
/- Numbers in seven bits a byte: the bytes, how they are read, and that reading gives back what was written; no program in sight. -/
namespace Go.Proofs.Ytjaabakobpabjaa
open Go Go.RowKit

/-- The bytes of a number. -/
def varN (v : Nat) : List Int := if v < 128 then [(v : Int)] else ((v % 128 + 128 : Nat) : Int) :: varN (v / 128)
termination_by v
decreasing_by omega
theorem varN_small (v : Nat) (h : v < 128) : varN v = [(v : Int)] := by rw [varN, if_pos h]
theorem varN_step (v : Nat) (h : ¬ v < 128) : varN v = ((v % 128 + 128 : Nat) : Int) :: varN (v / 128) := by rw [varN, if_neg h]
theorem varN_len : ∀ (n v : Nat), v < 128 ^ n → 1 ≤ n → 1 ≤ (varN v).length ∧ (varN v).length ≤ n
  | 0, _, _, h => absurd h (by omega)
  | n + 1, v, h, _ => by
    by_cases hv : v < 128
    · rw [varN_small v hv]; simp
    · rw [varN_step v hv, List.length_cons]
      have h1 : v / 128 < 128 ^ n := by rw [Nat.pow_succ] at h; omega
      by_cases hn : 1 ≤ n
      · have := varN_len n (v / 128) h1 hn; omega
      · have : n = 0 := by omega
        subst this
        simp at h1; omega
theorem varN_bd (v : Nat) : ∀ x ∈ varN v, 0 ≤ x ∧ x ≤ 255 := by
  induction v using Nat.strongRecOn with
  | _ v ih =>
    intro x hx
    by_cases hv : v < 128
    · rw [varN_small v hv, List.mem_singleton] at hx; omega
    · rw [varN_step v hv, List.mem_cons] at hx
      rcases hx with rfl | hx
      · omega
      · exact ih (v / 128) (by omega) x hx

/-- What bytes read as: the number, how many bytes, the error; from byte i on, v having been read, a bit's worth u. -/
def takeGo : List Int → Nat → Int → Int → Int × Int × Int
  | [], _, _, _ => (0, 0, 2)
  | c :: cs, i, v, u =>
    if i = 9 ∧ 1 < c then (0, 0, 5)
    else if 128 ≤ c then takeGo cs (i + 1) (v + c % 128 * u) (u * 128)
    else if c = 0 ∧ 0 < i then (0, 0, 9)
    else (v + c % 128 * u, i + 1, 0)
def takeV (xs : List Int) : Int × Int × Int := takeGo xs 0 0 1
/-- What was written is read, whatever stands behind it. -/
theorem takeGo_var : ∀ (v i : Nat) (a u : Int) (rest : List Int), (v = 0 → i = 0) → v < 128 ^ (9 - i) * 2 → i ≤ 9 → takeGo (varN v ++ rest) i a u = (a + v * u, ((i + (varN v).length : Nat) : Int), 0) := by
  intro v
  induction v using Nat.strongRecOn with
  | _ v ih =>
    intro i a u rest h0 h1 hi
    by_cases hv : v < 128
    · rw [varN_small v hv]
      show (if i = 9 ∧ (1 : Int) < v then _ else _) = _
      rw [if_neg (fun ⟨h, g⟩ => by subst h; simp at h1; omega), if_neg (by omega), if_neg (fun ⟨h, g⟩ => by have := h0 (by omega); omega)]
      rw [show (v : Int) % 128 = v by omega]
      rfl
    · have hi9 : i < 9 := Nat.lt_of_le_of_ne hi (fun h => by subst h; simp at h1; omega)
      rw [varN_step v hv, List.cons_append]
      show (if i = 9 ∧ (1 : Int) < ((v % 128 + 128 : Nat) : Int) then _ else if (128 : Int) ≤ ((v % 128 + 128 : Nat) : Int) then _ else _) = _
      rw [if_neg (by omega), if_pos (by omega), ih (v / 128) (by omega) (i + 1) _ _ rest (by omega) ?_ (by omega)]
      · rw [List.length_cons]
        refine Prod.ext ?_ (Prod.ext ?_ rfl)
        · show a + ((v % 128 + 128 : Nat) : Int) % 128 * u + ((v / 128 : Nat) : Int) * (u * 128) = a + v * u
          have e1 : ((v % 128 + 128 : Nat) : Int) % 128 = (v : Int) % 128 := by omega
          have e2 : ((v / 128 : Nat) : Int) * (u * 128) = ((v : Int) / 128 * 128) * u := by rw [Int.mul_comm u 128, ← Int.mul_assoc]; rfl
          rw [e1, e2, Int.add_assoc, ← Int.add_mul]
          congr 2; omega
        · show ((i + 1 + (varN (v / 128)).length : Nat) : Int) = ((i + ((varN (v / 128)).length + 1) : Nat) : Int)
          omega
      · have e : 128 ^ (9 - i) = 128 ^ (9 - (i + 1)) * 128 := by rw [← Nat.pow_succ]; congr 1; omega
        rw [e] at h1; omega
theorem takeV_var (v : Nat) (h : v ≤ 18446744073709551615) (rest : List Int) : takeV (varN v ++ rest) = ((v : Int), ((varN v).length : Int), 0) := by
  have := takeGo_var v 0 0 1 rest (fun _ => rfl) (by have : 128 ^ (9 - 0) * 2 = 18446744073709551616 := by decide
                                                     omega) (by omega)
  unfold takeV; rw [this]; simp
/-- A read number's bounds. -/
theorem takeGo_ok : ∀ (xs : List Int) (i : Nat) (a u : Int), i ≤ 9 → (∀ x ∈ xs, 0 ≤ x ∧ x ≤ 255) → 0 ≤ a → a < u → u = 128 ^ i →
    0 ≤ (takeGo xs i a u).1 ∧ (takeGo xs i a u).1 ≤ 18446744073709551615 ∧ 0 ≤ (takeGo xs i a u).2.1 ∧ (takeGo xs i a u).2.1 ≤ i + xs.length ∧ 0 ≤ (takeGo xs i a u).2.2 ∧ (takeGo xs i a u).2.2 ≤ 9
  | [], i, a, u, _, _, _, _, _ => by simp [takeGo]
  | c :: cs, i, a, u, hi, hx, h0, h1, hu => by
    have hc := hx c (List.mem_cons_self ..)
    have hcs := fun x hm => hx x (List.mem_cons_of_mem _ hm)
    have hm0 : 0 ≤ c % 128 * u := Int.mul_nonneg (by omega) (by omega)
    unfold takeGo
    by_cases g1 : i = 9 ∧ 1 < c
    · rw [if_pos g1]; simp; omega
    · rw [if_neg g1]
      by_cases g2 : 128 ≤ c
      · rw [if_pos g2]
        have hi' : i ≠ 9 := fun h => g1 ⟨h, by omega⟩
        have hm1 : c % 128 * u ≤ 127 * u := Int.mul_le_mul_of_nonneg_right (by omega) (by omega)
        have := takeGo_ok cs (i + 1) (a + c % 128 * u) (u * 128) (by omega) hcs (by omega) (by omega) (by rw [hu, Int.pow_succ])
        rw [List.length_cons]; omega
      · rw [if_neg g2]
        by_cases g3 : c = 0 ∧ 0 < i
        · rw [if_pos g3]; simp; omega
        · rw [if_neg g3]
          have hb : c % 128 * u ≤ (if i = 9 then 1 else 127) * u := Int.mul_le_mul_of_nonneg_right (by split <;> omega) (by omega)
          have hu9 : u ≤ if i = 9 then 9223372036854775808 else 72057594037927936 := by
            rw [hu]
            have : i = 0 ∨ i = 1 ∨ i = 2 ∨ i = 3 ∨ i = 4 ∨ i = 5 ∨ i = 6 ∨ i = 7 ∨ i = 8 ∨ i = 9 := by omega
            rcases this with h | h | h | h | h | h | h | h | h | h <;> subst h <;> decide
          simp only [List.length_cons]
          split at hb <;> split at hu9 <;> omega
end Go.Proofs.Ytjaabakobpabjaa
/- The plain law of signs, sums and products; no program in sight. -/
namespace Go.Proofs.Ytjaabakobpabjaa
open Go Go.RowKit

theorem wrap_u64 (n : Int) : IntKind.u64.wrap n = n % 18446744073709551616 := by simp [IntKind.wrap, IntKind.bits, IntKind.signed]
theorem ofInt64 (a : Int) (h0 : 0 ≤ a) (h1 : a ≤ 18446744073709551615) : (BitVec.ofInt 64 a).toNat = a.toNat := by
  obtain ⟨n, rfl⟩ := Int.eq_ofNat_of_zero_le h0
  rw [BitVec.ofInt_natCast, BitVec.toNat_ofNat]; omega
theorem xor64 (a b : Int) : bits .xor .u64 a b = ((BitVec.ofInt 64 a ^^^ BitVec.ofInt 64 b).toNat : Int) := by
  show IntKind.u64.wrap ((BitVec.ofInt 64 a ^^^ BitVec.ofInt 64 b).toNat : Int) = _
  have := (BitVec.ofInt 64 a ^^^ BitVec.ofInt 64 b).isLt
  rw [wrap_u64]; omega
theorem xor_none (a : Int) (h0 : 0 ≤ a) (h1 : a ≤ 18446744073709551615) : bits .xor .u64 a 0 = a := by
  rw [xor64]
  have e : BitVec.ofInt 64 0 = 0#64 := by decide
  rw [e, BitVec.xor_zero, ofInt64 a h0 h1]; omega
theorem xor_all (a : Int) (h0 : 0 ≤ a) (h1 : a ≤ 18446744073709551615) : bits .xor .u64 a 18446744073709551615 = 18446744073709551615 - a := by
  rw [xor64]
  have e : BitVec.ofInt 64 18446744073709551615 = BitVec.allOnes 64 := by decide
  rw [e, BitVec.xor_allOnes, BitVec.toNat_not, ofInt64 a h0 h1]; omega
/-- Signs laid aside, and back; the sign's bit turned, and back. -/
def zigI (v : Int) : Int := if 0 ≤ v then 2 * v else -2 * v - 1
def zagI (u : Int) : Int := if u % 2 = 0 then u / 2 else -(u / 2) - 1
def orderI (v : Int) : Int := v + 9223372036854775808
theorem zig_prog (v : Int) (h0 : -9223372036854775808 ≤ v) (h1 : v ≤ 9223372036854775807) :
    bits .xor .u64 (IntKind.u64.wrap (IntKind.u64.wrap v * 2)) (IntKind.u64.wrap (v / 9223372036854775808)) = zigI v := by
  unfold zigI
  by_cases h : 0 ≤ v
  · have e : v / 9223372036854775808 = 0 := by omega
    rw [e, wrap_u64 0, if_pos h, wrap_u64, wrap_u64]
    rw [show (0 : Int) % 18446744073709551616 = 0 from rfl, xor_none _ (by omega) (by omega)]; omega
  · have e : v / 9223372036854775808 = -1 := by omega
    rw [e, if_neg h, wrap_u64, wrap_u64, wrap_u64]
    rw [show (-1 : Int) % 18446744073709551616 = 18446744073709551615 from rfl, xor_all _ (by omega) (by omega)]; omega
theorem and_one (u : Int) (h0 : 0 ≤ u) (h1 : u ≤ 18446744073709551615) : bits .and .u64 u 1 = u % 2 := by
  show IntKind.u64.wrap ((BitVec.ofInt 64 u &&& BitVec.ofInt 64 1).toNat : Int) = _
  have e : BitVec.ofInt 64 1 = 1#64 := by decide
  rw [e, BitVec.toNat_and, ofInt64 u h0 h1, show (1#64).toNat = 1 from rfl, Nat.and_one_is_mod, wrap_u64]; omega
theorem zag_prog (u : Int) (h0 : 0 ≤ u) (h1 : u ≤ 18446744073709551615) : bits .xor .i64 (u / 2) (wrap64 (-wrap64 (bits .and .u64 u 1))) = zagI u := by
  rw [and_one u h0 h1]
  unfold zagI
  show IntKind.i64.wrap ((BitVec.ofInt 64 (u / 2) ^^^ BitVec.ofInt 64 (wrap64 (-wrap64 (u % 2)))).toNat : Int) = _
  have hw : ∀ n : Int, IntKind.i64.wrap n = wrap64 n := fun n => by simp [IntKind.wrap, IntKind.bits, IntKind.signed, wrap64]; split <;> omega
  by_cases h : u % 2 = 0
  · rw [if_pos h, h]
    have e : BitVec.ofInt 64 (wrap64 (-wrap64 0)) = 0#64 := by decide
    rw [e, BitVec.xor_zero, ofInt64 _ (by omega) (by omega), hw]; unfold wrap64; omega
  · have h2 : u % 2 = 1 := by omega
    rw [if_neg h, h2]
    have e : BitVec.ofInt 64 (wrap64 (-wrap64 1)) = BitVec.allOnes 64 := by decide
    rw [e, BitVec.xor_allOnes, BitVec.toNat_not, ofInt64 _ (by omega) (by omega), hw]; unfold wrap64; omega
end Go.Proofs.Ytjaabakobpabjaa
