/- Bytes in the order of the numbers that they lay. -/
import Derived.Test.YtmhmlpfkdpjlaaaBits
import Derived.Laws.BytesArg
import Derived.Test.YtmhmlpfkdpjlaaaRefBits
namespace Go.Proofs.Ytmhmlpfkdpjlaaa
open Go.RowKit

theorem beVal_acc : ∀ (l : List Int) (a : Int), l.foldl (fun a c => a * 256 + c) a = a * 256 ^ l.length + beVal l
  | [], a => by simp [beVal]
  | c :: l, a => by
    rw [List.foldl_cons, beVal_acc l, List.length_cons, Int.pow_succ]
    have e : beVal (c :: l) = (0 * 256 + c) * 256 ^ l.length + beVal l := by
      show (c :: l).foldl _ 0 = _
      rw [List.foldl_cons, beVal_acc l]
    rw [e, Int.add_mul, Int.add_mul, Int.mul_comm (256 ^ l.length) 256, ← Int.mul_assoc a 256]
    omega
theorem beVal_cons (c : Int) (l : List Int) : beVal (c :: l) = c * 256 ^ l.length + beVal l := by
  show (c :: l).foldl _ 0 = _
  rw [List.foldl_cons, beVal_acc]; simp
theorem beVal_app (xs ys : List Int) : beVal (xs ++ ys) = beVal xs * 256 ^ ys.length + beVal ys := by
  show (xs ++ ys).foldl _ 0 = _
  rw [List.foldl_append, beVal_acc]; rfl
theorem beVal_pre (v : Int) (n : Nat) : ∀ k : Nat, k ≤ n → 0 ≤ v → v < 2 ^ (8 * n) → beVal (bePre v n k) = v / 2 ^ (8 * (n - k))
  | 0, _, h0, h1 => by
    rw [Int.ediv_eq_zero_of_lt h0 (by simpa using h1)]; rfl
  | k + 1, hk, h0, h1 => by
    rw [bePre, beVal_snoc, beVal_pre v n k (by omega) h0 h1, show (8 * ((n : Int) - 1 - k)).toNat = 8 * (n - (k + 1)) by omega, show n - k = n - (k + 1) + 1 by omega, ← div_step]
    omega
theorem beVal_8 (v : Int) (h0 : 0 ≤ v) (h1 : v ≤ 18446744073709551615) : beVal (bePre v 8 8) = v := by
  have := beVal_pre v 8 8 (Nat.le_refl _) h0 (by have : ((2 : Int) ^ (8 * 8)) = 18446744073709551616 := by decide
                                                 omega)
  simpa using this
theorem bePre_bd (v n : Int) (k : Nat) : ∀ x ∈ bePre v n k, 0 ≤ x ∧ x ≤ 255 := by
  induction k with
  | zero => intro x hx; cases hx
  | succ k ih =>
    intro x hx
    rw [bePre, List.mem_append, List.mem_singleton] at hx
    rcases hx with hx | rfl
    · exact ih x hx
    · omega
def bs (xs : List Int) : List UInt8 := xs.map fun n => UInt8.ofNat n.toNat
theorem u8_lt (x y : Int) (hx : 0 ≤ x ∧ x ≤ 255) (hy : 0 ≤ y ∧ y ≤ 255) : (UInt8.ofNat x.toNat < UInt8.ofNat y.toNat) ↔ x < y := by
  rw [UInt8.lt_iff_toNat_lt, UInt8.toNat_ofNat', UInt8.toNat_ofNat']; omega
theorem u8_eq (x y : Int) (hx : 0 ≤ x ∧ x ≤ 255) (hy : 0 ≤ y ∧ y ≤ 255) : (UInt8.ofNat x.toNat = UInt8.ofNat y.toNat) ↔ x = y := by
  rw [← UInt8.toNat_inj, UInt8.toNat_ofNat', UInt8.toNat_ofNat']; omega
theorem bytesLess_val : ∀ (xs ys : List Int), xs.length = ys.length → (∀ x ∈ xs, 0 ≤ x ∧ x ≤ 255) → (∀ y ∈ ys, 0 ≤ y ∧ y ≤ 255) → Op.bytesLess (bs xs) (bs ys) = decide (beVal xs < beVal ys)
  | [], [], _, _, _ => rfl
  | x :: xs, y :: ys, hl, hx, hy => by
    have hl' : xs.length = ys.length := by simpa using hl
    have ih := bytesLess_val xs ys hl' (fun z hz => hx z (List.mem_cons_of_mem _ hz)) (fun z hz => hy z (List.mem_cons_of_mem _ hz))
    have b1 := beVal_bound xs.length xs rfl (fun z hz => hx z (List.mem_cons_of_mem _ hz))
    have b2 := beVal_bound xs.length ys hl'.symm (fun z hz => hy z (List.mem_cons_of_mem _ hz))
    have hx0 := hx x (List.mem_cons_self ..)
    have hy0 := hy y (List.mem_cons_self ..)
    show (decide (UInt8.ofNat x.toNat < UInt8.ofNat y.toNat) || (UInt8.ofNat x.toNat == UInt8.ofNat y.toNat && Op.bytesLess (bs xs) (bs ys))) = _
    rw [ih, beVal_cons, beVal_cons, ← hl', Bool.eq_iff_iff]
    simp only [Bool.or_eq_true, Bool.and_eq_true, decide_eq_true_eq, beq_iff_eq, u8_lt x y hx0 hy0, u8_eq x y hx0 hy0]
    generalize (256 : Int) ^ xs.length = p at b1 b2
    rcases Int.lt_trichotomy x y with h | h | h
    · have : (x + 1) * p ≤ y * p := Int.mul_le_mul_of_nonneg_right (by omega) (by omega)
      rw [Int.add_mul] at this
      omega
    · subst h; omega
    · have : (y + 1) * p ≤ x * p := Int.mul_le_mul_of_nonneg_right (by omega) (by omega)
      rw [Int.add_mul] at this
      omega
  | [], _ :: _, hl, _, _ => by simp at hl
  | _ :: _, [], hl, _, _ => by simp at hl
theorem str_toList (xs : List Int) : (strOfNums xs).toList = bs xs := by rw [ByteArray.toList_eq]; simp [strOfNums, bs]
end Go.Proofs.Ytmhmlpfkdpjlaaa
