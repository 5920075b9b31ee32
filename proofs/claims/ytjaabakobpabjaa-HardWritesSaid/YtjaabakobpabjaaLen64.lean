import Derived.Test.YtjaabakobpabjaaCalmTail
import Derived.Outline
import Derived.Test.YtjaabakobpabjaaLogD
/- Contracts of stamp.Less, of the reference's, and of the two of attempts. -/
namespace Go.Proofs.Ytjaabakobpabjaa
open Go.RowKit

end Go.Proofs.Ytjaabakobpabjaa
/- Contracts of package stamp and of its reference: the later one of two stamps; ties. -/
namespace Go.Proofs.Ytjaabakobpabjaa
open Go.RowKit

end Go.Proofs.Ytjaabakobpabjaa
/- The contract of math/bits.Len64. -/
namespace Go.Proofs.Ytjaabakobpabjaa
open Go.RowKit

theorem bitLen_step (x : Int) (k : Nat) (h0 : 0 ≤ x) (h1 : x < 18446744073709551616) (h : (2 : Int) ^ k ≤ x) : (Lib.bitLen x.toNat : Int) = k + Lib.bitLen (x / 2 ^ k).toNat := by
  obtain ⟨n, rfl⟩ := Int.eq_ofNat_of_zero_le h0
  have e : ((n : Int) / 2 ^ k).toNat = n / 2 ^ k := by
    have : ((n : Int) / 2 ^ k) = ((n / 2 ^ k : Nat) : Int) := by simp
    rw [this]; rfl
  rw [e, Int.toNat_natCast, Lib.bitLen_shift k n (by exact_mod_cast h) (by omega)]
  simp

set_option maxRecDepth 100000 in
set_option maxHeartbeats 4000000 in
theorem len64_any (x : Int) (w : World) (h0 : 0 ≤ x) (h1 : x ≤ 18446744073709551615) :
    Calls Try.prog 88 #[.int .u64 x] w fun e w' => e = .returned (.int .i64 (Lib.bitLen x.toNat)) ∧ w = w' := by
  have EQ : Hid ((Lib.bitLen x.toNat : Int) = 0 + Lib.bitLen x.toNat) := by show _ = _; omega
  by_cases h32 : 4294967296 ≤ x
  · have EQ : Hid ((Lib.bitLen x.toNat : Int) = 32 + Lib.bitLen (x / 4294967296).toNat) := by
      show _ = _
      have h : (Lib.bitLen (x).toNat : Int) = 32 + Lib.bitLen (x / 4294967296).toNat := by simpa using bitLen_step (x) 32 (by omega) (by omega) (by omega)
      have h' := EQ.out
      omega
    by_cases h16 : 65536 ≤ x / 4294967296
    · have EQ : Hid ((Lib.bitLen x.toNat : Int) = 48 + Lib.bitLen (x / 4294967296 / 65536).toNat) := by
        show _ = _
        have h : (Lib.bitLen (x / 4294967296).toNat : Int) = 16 + Lib.bitLen (x / 4294967296 / 65536).toNat := by simpa using bitLen_step (x / 4294967296) 16 (by omega) (by omega) (by omega)
        have h' := EQ.out
        omega
      by_cases h8 : 256 ≤ x / 4294967296 / 65536
      · have EQ : Hid ((Lib.bitLen x.toNat : Int) = 56 + Lib.bitLen (x / 4294967296 / 65536 / 256).toNat) := by
          show _ = _
          have h : (Lib.bitLen (x / 4294967296 / 65536).toNat : Int) = 8 + Lib.bitLen (x / 4294967296 / 65536 / 256).toNat := by simpa using bitLen_step (x / 4294967296 / 65536) 8 (by omega) (by omega) (by omega)
          have h' := EQ.out
          omega
        have hz0 : 0 ≤ x / 4294967296 / 65536 / 256 := by omega
        have hz1 : x / 4294967296 / 65536 / 256 ≤ 255 := by omega
        have HL : Hid (Lib.len8 (x / 4294967296 / 65536 / 256) = Lib.bitLen (x / 4294967296 / 65536 / 256).toNat) := Lib.len8_of (x / 4294967296 / 65536 / 256) hz0 hz1
        have hl0 := Lib.bitLen_le8' (x / 4294967296 / 65536 / 256) hz0 hz1
        obtain ⟨hb0, hb1⟩ : 0 ≤ Lib.len8 (x / 4294967296 / 65536 / 256) ∧ Lib.len8 (x / 4294967296 / 65536 / 256) ≤ 8 := by rw [HL.out]; omega
        go_enter Try.func88, Try.ntmps88
        go_wp2
        go_ret
        exact ⟨congrArg (fun z => Ending.returned (Value.int .i64 z)) (by have := HL.out; have := EQ.out; omega), rfl⟩
      · have hz0 : 0 ≤ x / 4294967296 / 65536 := by omega
        have hz1 : x / 4294967296 / 65536 ≤ 255 := by omega
        have HL : Hid (Lib.len8 (x / 4294967296 / 65536) = Lib.bitLen (x / 4294967296 / 65536).toNat) := Lib.len8_of (x / 4294967296 / 65536) hz0 hz1
        have hl0 := Lib.bitLen_le8' (x / 4294967296 / 65536) hz0 hz1
        obtain ⟨hb0, hb1⟩ : 0 ≤ Lib.len8 (x / 4294967296 / 65536) ∧ Lib.len8 (x / 4294967296 / 65536) ≤ 8 := by rw [HL.out]; omega
        go_enter Try.func88, Try.ntmps88
        go_wp2
        go_ret
        exact ⟨congrArg (fun z => Ending.returned (Value.int .i64 z)) (by have := HL.out; have := EQ.out; omega), rfl⟩
    · by_cases h8 : 256 ≤ x / 4294967296
      · have EQ : Hid ((Lib.bitLen x.toNat : Int) = 40 + Lib.bitLen (x / 4294967296 / 256).toNat) := by
          show _ = _
          have h : (Lib.bitLen (x / 4294967296).toNat : Int) = 8 + Lib.bitLen (x / 4294967296 / 256).toNat := by simpa using bitLen_step (x / 4294967296) 8 (by omega) (by omega) (by omega)
          have h' := EQ.out
          omega
        have hz0 : 0 ≤ x / 4294967296 / 256 := by omega
        have hz1 : x / 4294967296 / 256 ≤ 255 := by omega
        have HL : Hid (Lib.len8 (x / 4294967296 / 256) = Lib.bitLen (x / 4294967296 / 256).toNat) := Lib.len8_of (x / 4294967296 / 256) hz0 hz1
        have hl0 := Lib.bitLen_le8' (x / 4294967296 / 256) hz0 hz1
        obtain ⟨hb0, hb1⟩ : 0 ≤ Lib.len8 (x / 4294967296 / 256) ∧ Lib.len8 (x / 4294967296 / 256) ≤ 8 := by rw [HL.out]; omega
        go_enter Try.func88, Try.ntmps88
        go_wp2
        go_ret
        exact ⟨congrArg (fun z => Ending.returned (Value.int .i64 z)) (by have := HL.out; have := EQ.out; omega), rfl⟩
      · have hz0 : 0 ≤ x / 4294967296 := by omega
        have hz1 : x / 4294967296 ≤ 255 := by omega
        have HL : Hid (Lib.len8 (x / 4294967296) = Lib.bitLen (x / 4294967296).toNat) := Lib.len8_of (x / 4294967296) hz0 hz1
        have hl0 := Lib.bitLen_le8' (x / 4294967296) hz0 hz1
        obtain ⟨hb0, hb1⟩ : 0 ≤ Lib.len8 (x / 4294967296) ∧ Lib.len8 (x / 4294967296) ≤ 8 := by rw [HL.out]; omega
        go_enter Try.func88, Try.ntmps88
        go_wp2
        go_ret
        exact ⟨congrArg (fun z => Ending.returned (Value.int .i64 z)) (by have := HL.out; have := EQ.out; omega), rfl⟩
  · by_cases h16 : 65536 ≤ x
    · have EQ : Hid ((Lib.bitLen x.toNat : Int) = 16 + Lib.bitLen (x / 65536).toNat) := by
        show _ = _
        have h : (Lib.bitLen (x).toNat : Int) = 16 + Lib.bitLen (x / 65536).toNat := by simpa using bitLen_step (x) 16 (by omega) (by omega) (by omega)
        have h' := EQ.out
        omega
      by_cases h8 : 256 ≤ x / 65536
      · have EQ : Hid ((Lib.bitLen x.toNat : Int) = 24 + Lib.bitLen (x / 65536 / 256).toNat) := by
          show _ = _
          have h : (Lib.bitLen (x / 65536).toNat : Int) = 8 + Lib.bitLen (x / 65536 / 256).toNat := by simpa using bitLen_step (x / 65536) 8 (by omega) (by omega) (by omega)
          have h' := EQ.out
          omega
        have hz0 : 0 ≤ x / 65536 / 256 := by omega
        have hz1 : x / 65536 / 256 ≤ 255 := by omega
        have HL : Hid (Lib.len8 (x / 65536 / 256) = Lib.bitLen (x / 65536 / 256).toNat) := Lib.len8_of (x / 65536 / 256) hz0 hz1
        have hl0 := Lib.bitLen_le8' (x / 65536 / 256) hz0 hz1
        obtain ⟨hb0, hb1⟩ : 0 ≤ Lib.len8 (x / 65536 / 256) ∧ Lib.len8 (x / 65536 / 256) ≤ 8 := by rw [HL.out]; omega
        go_enter Try.func88, Try.ntmps88
        go_wp2
        go_ret
        exact ⟨congrArg (fun z => Ending.returned (Value.int .i64 z)) (by have := HL.out; have := EQ.out; omega), rfl⟩
      · have hz0 : 0 ≤ x / 65536 := by omega
        have hz1 : x / 65536 ≤ 255 := by omega
        have HL : Hid (Lib.len8 (x / 65536) = Lib.bitLen (x / 65536).toNat) := Lib.len8_of (x / 65536) hz0 hz1
        have hl0 := Lib.bitLen_le8' (x / 65536) hz0 hz1
        obtain ⟨hb0, hb1⟩ : 0 ≤ Lib.len8 (x / 65536) ∧ Lib.len8 (x / 65536) ≤ 8 := by rw [HL.out]; omega
        go_enter Try.func88, Try.ntmps88
        go_wp2
        go_ret
        exact ⟨congrArg (fun z => Ending.returned (Value.int .i64 z)) (by have := HL.out; have := EQ.out; omega), rfl⟩
    · by_cases h8 : 256 ≤ x
      · have EQ : Hid ((Lib.bitLen x.toNat : Int) = 8 + Lib.bitLen (x / 256).toNat) := by
          show _ = _
          have h : (Lib.bitLen (x).toNat : Int) = 8 + Lib.bitLen (x / 256).toNat := by simpa using bitLen_step (x) 8 (by omega) (by omega) (by omega)
          have h' := EQ.out
          omega
        have hz0 : 0 ≤ x / 256 := by omega
        have hz1 : x / 256 ≤ 255 := by omega
        have HL : Hid (Lib.len8 (x / 256) = Lib.bitLen (x / 256).toNat) := Lib.len8_of (x / 256) hz0 hz1
        have hl0 := Lib.bitLen_le8' (x / 256) hz0 hz1
        obtain ⟨hb0, hb1⟩ : 0 ≤ Lib.len8 (x / 256) ∧ Lib.len8 (x / 256) ≤ 8 := by rw [HL.out]; omega
        go_enter Try.func88, Try.ntmps88
        go_wp2
        go_ret
        exact ⟨congrArg (fun z => Ending.returned (Value.int .i64 z)) (by have := HL.out; have := EQ.out; omega), rfl⟩
      · have hz0 : 0 ≤ x := by omega
        have hz1 : x ≤ 255 := by omega
        have HL : Hid (Lib.len8 (x) = Lib.bitLen (x).toNat) := Lib.len8_of (x) hz0 hz1
        have hl0 := Lib.bitLen_le8' (x) hz0 hz1
        obtain ⟨hb0, hb1⟩ : 0 ≤ Lib.len8 (x) ∧ Lib.len8 (x) ≤ 8 := by rw [HL.out]; omega
        go_enter Try.func88, Try.ntmps88
        go_wp2
        go_ret
        exact ⟨congrArg (fun z => Ending.returned (Value.int .i64 z)) (by have := HL.out; have := EQ.out; omega), rfl⟩
end Go.Proofs.Ytjaabakobpabjaa
