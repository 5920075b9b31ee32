/- The plain law of signs, sums and products; no program in sight. -/
import Derived.Laws.Entries
import Derived.RowKit
namespace Go.Proofs.Ytmhmlpfkdpjlaaa
open Go Go.RowKit

theorem wrap_u64 (n : Int) : IntKind.u64.wrap n = n % 18446744073709551616 := by simp [IntKind.wrap, IntKind.bits, IntKind.signed]
theorem ofInt64 (a : Int) (h0 : 0 ≤ a) (h1 : a ≤ 18446744073709551615) : (BitVec.ofInt 64 a).toNat = a.toNat := by
  obtain ⟨n, rfl⟩ := Int.eq_ofNat_of_zero_le h0
  rw [BitVec.ofInt_natCast, BitVec.toNat_ofNat]; omega
theorem xor64 (a b : Int) : bits .xor .u64 a b = ((BitVec.ofInt 64 a ^^^ BitVec.ofInt 64 b).toNat : Int) := by
  show IntKind.u64.wrap ((BitVec.ofInt 64 a ^^^ BitVec.ofInt 64 b).toNat : Int) = _
  have := (BitVec.ofInt 64 a ^^^ BitVec.ofInt 64 b).isLt
  rw [wrap_u64]; omega
theorem xor_none (a : Int) (h0 : 0 ≤ a) (h1 : a ≤ 18446744073709551615) : bits .xor .u64 a 0 = a := by
  rw [xor64]
  have e : BitVec.ofInt 64 0 = 0#64 := by decide
  rw [e, BitVec.xor_zero, ofInt64 a h0 h1]; omega
theorem xor_all (a : Int) (h0 : 0 ≤ a) (h1 : a ≤ 18446744073709551615) : bits .xor .u64 a 18446744073709551615 = 18446744073709551615 - a := by
  rw [xor64]
  have e : BitVec.ofInt 64 18446744073709551615 = BitVec.allOnes 64 := by decide
  rw [e, BitVec.xor_allOnes, BitVec.toNat_not, ofInt64 a h0 h1]; omega
theorem top_bit (v : BitVec 64) (h : v.toNat < 9223372036854775808) : (v ^^^ 9223372036854775808#64) = v + 9223372036854775808#64 := by
  have hz : v &&& 9223372036854775808#64 = 0#64 := by
    apply BitVec.eq_of_getLsbD_eq
    intro i hi
    rw [BitVec.getLsbD_and]
    by_cases e : i = 63
    · subst e
      have : v.getLsbD 63 = false := by
        unfold BitVec.getLsbD; exact Nat.testBit_lt_two_pow (by omega)
      rw [this]; simp
    · have : (9223372036854775808#64).getLsbD i = false := by
        have h2 : (9223372036854775808#64) = BitVec.twoPow 64 63 := by decide
        rw [h2, BitVec.getLsbD_twoPow]; simp; omega
      rw [this]; simp
  rw [BitVec.add_eq_or_of_and_eq_zero _ _ hz]
  apply BitVec.eq_of_getLsbD_eq
  intro i hi
  have := congrArg (fun z => BitVec.getLsbD z i) hz
  simp only [BitVec.getLsbD_and, BitVec.getLsbD_zero] at this
  rw [BitVec.getLsbD_xor, BitVec.getLsbD_or]
  cases h1 : v.getLsbD i <;> cases h2 : (9223372036854775808#64).getLsbD i <;> simp_all
theorem xor_top (a : Int) (h0 : 0 ≤ a) (h1 : a ≤ 18446744073709551615) : bits .xor .u64 a 9223372036854775808 = (a + 9223372036854775808) % 18446744073709551616 := by
  rw [xor64]
  have e : BitVec.ofInt 64 9223372036854775808 = 9223372036854775808#64 := by decide
  rw [e]
  by_cases h : a < 9223372036854775808
  · rw [top_bit _ (by rw [ofInt64 a h0 h1]; omega), BitVec.toNat_add, ofInt64 a h0 h1]
    have : (9223372036854775808#64).toNat = 9223372036854775808 := by decide
    rw [this]; omega
  · have hv : (BitVec.ofInt 64 (a - 9223372036854775808) ^^^ 9223372036854775808#64) = BitVec.ofInt 64 a := by
      rw [top_bit _ (by rw [ofInt64 _ (by omega) (by omega)]; omega)]
      apply BitVec.eq_of_toNat_eq
      rw [BitVec.toNat_add, ofInt64 _ (by omega) (by omega), ofInt64 a h0 h1]
      have : (9223372036854775808#64).toNat = 9223372036854775808 := by decide
      rw [this]; omega
    rw [← hv, BitVec.xor_assoc, BitVec.xor_self, BitVec.xor_zero, ofInt64 _ (by omega) (by omega)]
    omega

/-- Signs laid aside, and back; the sign's bit turned, and back. -/
def zigI (v : Int) : Int := if 0 ≤ v then 2 * v else -2 * v - 1
def zagI (u : Int) : Int := if u % 2 = 0 then u / 2 else -(u / 2) - 1
def orderI (v : Int) : Int := v + 9223372036854775808
def backI (u : Int) : Int := u - 9223372036854775808

theorem zig_prog (v : Int) (h0 : -9223372036854775808 ≤ v) (h1 : v ≤ 9223372036854775807) :
    bits .xor .u64 (IntKind.u64.wrap (IntKind.u64.wrap v * 2)) (IntKind.u64.wrap (v / 9223372036854775808)) = zigI v := by
  unfold zigI
  by_cases h : 0 ≤ v
  · have e : v / 9223372036854775808 = 0 := by omega
    rw [e, wrap_u64 0, if_pos h, wrap_u64, wrap_u64]
    rw [show (0 : Int) % 18446744073709551616 = 0 from rfl, xor_none _ (by omega) (by omega)]; omega
  · have e : v / 9223372036854775808 = -1 := by omega
    rw [e, if_neg h, wrap_u64, wrap_u64, wrap_u64]
    rw [show (-1 : Int) % 18446744073709551616 = 18446744073709551615 from rfl, xor_all _ (by omega) (by omega)]; omega
theorem order_prog (v : Int) (h0 : -9223372036854775808 ≤ v) (h1 : v ≤ 9223372036854775807) : bits .xor .u64 (IntKind.u64.wrap v) 9223372036854775808 = orderI v := by
  rw [wrap_u64, xor_top _ (by omega) (by omega)]; unfold orderI; omega
theorem back_prog (u : Int) (h0 : 0 ≤ u) (h1 : u ≤ 18446744073709551615) : wrap64 (bits .xor .u64 u 9223372036854775808) = backI u := by
  rw [xor_top _ h0 h1]; unfold backI wrap64; omega
theorem and_one (u : Int) (h0 : 0 ≤ u) (h1 : u ≤ 18446744073709551615) : bits .and .u64 u 1 = u % 2 := by
  show IntKind.u64.wrap ((BitVec.ofInt 64 u &&& BitVec.ofInt 64 1).toNat : Int) = _
  have e : BitVec.ofInt 64 1 = 1#64 := by decide
  rw [e, BitVec.toNat_and, ofInt64 u h0 h1, show (1#64).toNat = 1 from rfl, Nat.and_one_is_mod, wrap_u64]; omega
theorem zag_prog (u : Int) (h0 : 0 ≤ u) (h1 : u ≤ 18446744073709551615) : bits .xor .i64 (u / 2) (wrap64 (-wrap64 (bits .and .u64 u 1))) = zagI u := by
  rw [and_one u h0 h1]
  unfold zagI
  show IntKind.i64.wrap ((BitVec.ofInt 64 (u / 2) ^^^ BitVec.ofInt 64 (wrap64 (-wrap64 (u % 2)))).toNat : Int) = _
  have hw : ∀ n : Int, IntKind.i64.wrap n = wrap64 n := fun n => by simp [IntKind.wrap, IntKind.bits, IntKind.signed, wrap64]; split <;> omega
  by_cases h : u % 2 = 0
  · rw [if_pos h, h]
    have e : BitVec.ofInt 64 (wrap64 (-wrap64 0)) = 0#64 := by decide
    rw [e, BitVec.xor_zero, ofInt64 _ (by omega) (by omega), hw]; unfold wrap64; omega
  · have h2 : u % 2 = 1 := by omega
    rw [if_neg h, h2]
    have e : BitVec.ofInt 64 (wrap64 (-wrap64 1)) = BitVec.allOnes 64 := by decide
    rw [e, BitVec.xor_allOnes, BitVec.toNat_not, ofInt64 _ (by omega) (by omega), hw]; unfold wrap64; omega
end Go.Proofs.Ytmhmlpfkdpjlaaa
