import Derived.Test.YtmhmlpfkdpjlaaaProg
import Derived.Test.YtmhmlpfkdpjlaaaSlices
import Derived.BigQuiet
import Derived.Deep.QuietTactic
import Derived.Lib.Hide
import Derived.IntWalk
import Derived.Outline
import Derived.Lib.Tables
import Derived.Lib.BitFns
/- Contracts of package bits: bytes laid behind bytes. -/
namespace Go.Proofs.Ytmhmlpfkdpjlaaa
open Go.RowKit

theorem Try.infoU8 : (Try.prog.info? 5).map (fun i => (i.zero, i.size, i.bytes)) = some (some (.int .u8 0), 1, 1) := by kernel_rfl
/-- Bytes as cells. -/
def byt (xs : List Int) : List Value := xs.map (.int .u8)
theorem byt_len (xs : List Int) : (byt xs).length = xs.length := by simp [byt]
theorem byt_app (xs ys : List Int) : byt xs ++ byt ys = byt (xs ++ ys) := by simp [byt]
theorem byt_one (xs : List Int) : ∀ u ∈ byt xs, u.oneCell' = true := by intro u hu; simp [byt] at hu; obtain ⟨x, _, rfl⟩ := hu; rfl

set_option maxHeartbeats 1000000 in
theorem room_any (B : Nat) (v : Value) (xs : List Int) (n : Int) (w : World) (hs : Sl B w v 1 xs.length (byt xs)) (hB : B ≤ w.heap.size) (hn : 0 ≤ n) (hb : (xs.length : Int) + n ≤ 140737488355328) :
    Calls Try.prog 84 #[v, .int .i64 n] w fun e w' => ∃ v', e = .returned v' ∧ w'.ownsRow w.heap.size 5 1 v' xs.length (byt xs) ∧ Below w.heap.size w w' := by
  obtain ⟨i0, hi, hz0, hz1, hz2⟩ := info_parts Try.infoU8
  have hs0 := hs
  obtain ⟨a, cap, rfl, h1, h2, h3, -⟩ := hs.form
  clear hs
  have HS := Lib.hid hs0; clear hs0 h3
  go_enter Try.func84, Try.ntmps84
  go_wp2_with (at_make; refine wpList_make_own _ rfl _ _ 46 rfl w.heap.size 5 i0 (.int .u8 0) 1 Try.underlying46 hi hz0 hz1 .i64 .i64 ((xs.length : Int) + n) (xs.length + n.toNat) rfl rfl ?c1 ?c2 ?c3 ?c4 ?_)
  case c1 => omega
  case c2 => rw [hz2]; omega
  case c3 => unfold maxLen; omega
  case c4 => exact Nat.le_refl _
  intro w1 hown hgrow
  have hb1 : Below w.heap.size w w1 := (Below.refl _ _).grown hgrow (Nat.le_refl _) (fun k h => by cases h)
  have HS1 := Lib.hid (HS.out.keep (hb1.mono hB))
  have hsz := hb1.size
  clear HS
  go_wp2_with (at_builtin; refine wpList_append_sl rfl _ _ 46 rfl w.heap.size 5 i0 (.int .u8 0) 1 1 Try.underlying46 hi hz0 hz1 hz2 rfl (by decide) _ 0 [] rfl hown B _ xs.length (byt xs) rfl HS1.out (byt_one _) ?d1 ?d2 ?d3 ?_)
  case d1 => unfold maxLen; omega
  case d2 => omega
  case d3 => exact hsz
  intro v' w2 hown2 hgrow2
  have hb2 : Below w.heap.size w w2 := hb1.grown hgrow2 hsz (fun k h => (hown.lt k h).1)
  clear hgrow hgrow2 hown HS1
  go_wp2
  go_ret
  exact ⟨v', rfl, hown2, hb2⟩
end Go.Proofs.Ytmhmlpfkdpjlaaa
/- The contract of math/bits.Len64. -/
namespace Go.Proofs.Ytmhmlpfkdpjlaaa
open Go.RowKit

theorem bitLen_step (x : Int) (k : Nat) (h0 : 0 ≤ x) (h1 : x < 18446744073709551616) (h : (2 : Int) ^ k ≤ x) : (Lib.bitLen x.toNat : Int) = k + Lib.bitLen (x / 2 ^ k).toNat := by
  obtain ⟨n, rfl⟩ := Int.eq_ofNat_of_zero_le h0
  have e : ((n : Int) / 2 ^ k).toNat = n / 2 ^ k := by
    have : ((n : Int) / 2 ^ k) = ((n / 2 ^ k : Nat) : Int) := by simp
    rw [this]; rfl
  rw [e, Int.toNat_natCast, Lib.bitLen_shift k n (by exact_mod_cast h) (by omega)]
  simp

set_option maxRecDepth 100000 in
set_option maxHeartbeats 4000000 in
theorem len64_any (x : Int) (w : World) (h0 : 0 ≤ x) (h1 : x ≤ 18446744073709551615) :
    Calls Try.prog 83 #[.int .u64 x] w fun e w' => e = .returned (.int .i64 (Lib.bitLen x.toNat)) ∧ w = w' := by
  have EQ : Hid ((Lib.bitLen x.toNat : Int) = 0 + Lib.bitLen x.toNat) := by show _ = _; omega
  by_cases h32 : 4294967296 ≤ x
  · have EQ : Hid ((Lib.bitLen x.toNat : Int) = 32 + Lib.bitLen (x / 4294967296).toNat) := by
      show _ = _
      have h : (Lib.bitLen (x).toNat : Int) = 32 + Lib.bitLen (x / 4294967296).toNat := by simpa using bitLen_step (x) 32 (by omega) (by omega) (by omega)
      have h' := EQ.out
      omega
    by_cases h16 : 65536 ≤ x / 4294967296
    · have EQ : Hid ((Lib.bitLen x.toNat : Int) = 48 + Lib.bitLen (x / 4294967296 / 65536).toNat) := by
        show _ = _
        have h : (Lib.bitLen (x / 4294967296).toNat : Int) = 16 + Lib.bitLen (x / 4294967296 / 65536).toNat := by simpa using bitLen_step (x / 4294967296) 16 (by omega) (by omega) (by omega)
        have h' := EQ.out
        omega
      by_cases h8 : 256 ≤ x / 4294967296 / 65536
      · have EQ : Hid ((Lib.bitLen x.toNat : Int) = 56 + Lib.bitLen (x / 4294967296 / 65536 / 256).toNat) := by
          show _ = _
          have h : (Lib.bitLen (x / 4294967296 / 65536).toNat : Int) = 8 + Lib.bitLen (x / 4294967296 / 65536 / 256).toNat := by simpa using bitLen_step (x / 4294967296 / 65536) 8 (by omega) (by omega) (by omega)
          have h' := EQ.out
          omega
        have hz0 : 0 ≤ x / 4294967296 / 65536 / 256 := by omega
        have hz1 : x / 4294967296 / 65536 / 256 ≤ 255 := by omega
        have HL : Hid (Lib.len8 (x / 4294967296 / 65536 / 256) = Lib.bitLen (x / 4294967296 / 65536 / 256).toNat) := Lib.len8_of (x / 4294967296 / 65536 / 256) hz0 hz1
        have hl0 := Lib.bitLen_le8' (x / 4294967296 / 65536 / 256) hz0 hz1
        obtain ⟨hb0, hb1⟩ : 0 ≤ Lib.len8 (x / 4294967296 / 65536 / 256) ∧ Lib.len8 (x / 4294967296 / 65536 / 256) ≤ 8 := by rw [HL.out]; omega
        go_enter Try.func83, Try.ntmps83
        go_wp2
        go_ret
        exact ⟨congrArg (fun z => Ending.returned (Value.int .i64 z)) (by have := HL.out; have := EQ.out; omega), rfl⟩
      · have hz0 : 0 ≤ x / 4294967296 / 65536 := by omega
        have hz1 : x / 4294967296 / 65536 ≤ 255 := by omega
        have HL : Hid (Lib.len8 (x / 4294967296 / 65536) = Lib.bitLen (x / 4294967296 / 65536).toNat) := Lib.len8_of (x / 4294967296 / 65536) hz0 hz1
        have hl0 := Lib.bitLen_le8' (x / 4294967296 / 65536) hz0 hz1
        obtain ⟨hb0, hb1⟩ : 0 ≤ Lib.len8 (x / 4294967296 / 65536) ∧ Lib.len8 (x / 4294967296 / 65536) ≤ 8 := by rw [HL.out]; omega
        go_enter Try.func83, Try.ntmps83
        go_wp2
        go_ret
        exact ⟨congrArg (fun z => Ending.returned (Value.int .i64 z)) (by have := HL.out; have := EQ.out; omega), rfl⟩
    · by_cases h8 : 256 ≤ x / 4294967296
      · have EQ : Hid ((Lib.bitLen x.toNat : Int) = 40 + Lib.bitLen (x / 4294967296 / 256).toNat) := by
          show _ = _
          have h : (Lib.bitLen (x / 4294967296).toNat : Int) = 8 + Lib.bitLen (x / 4294967296 / 256).toNat := by simpa using bitLen_step (x / 4294967296) 8 (by omega) (by omega) (by omega)
          have h' := EQ.out
          omega
        have hz0 : 0 ≤ x / 4294967296 / 256 := by omega
        have hz1 : x / 4294967296 / 256 ≤ 255 := by omega
        have HL : Hid (Lib.len8 (x / 4294967296 / 256) = Lib.bitLen (x / 4294967296 / 256).toNat) := Lib.len8_of (x / 4294967296 / 256) hz0 hz1
        have hl0 := Lib.bitLen_le8' (x / 4294967296 / 256) hz0 hz1
        obtain ⟨hb0, hb1⟩ : 0 ≤ Lib.len8 (x / 4294967296 / 256) ∧ Lib.len8 (x / 4294967296 / 256) ≤ 8 := by rw [HL.out]; omega
        go_enter Try.func83, Try.ntmps83
        go_wp2
        go_ret
        exact ⟨congrArg (fun z => Ending.returned (Value.int .i64 z)) (by have := HL.out; have := EQ.out; omega), rfl⟩
      · have hz0 : 0 ≤ x / 4294967296 := by omega
        have hz1 : x / 4294967296 ≤ 255 := by omega
        have HL : Hid (Lib.len8 (x / 4294967296) = Lib.bitLen (x / 4294967296).toNat) := Lib.len8_of (x / 4294967296) hz0 hz1
        have hl0 := Lib.bitLen_le8' (x / 4294967296) hz0 hz1
        obtain ⟨hb0, hb1⟩ : 0 ≤ Lib.len8 (x / 4294967296) ∧ Lib.len8 (x / 4294967296) ≤ 8 := by rw [HL.out]; omega
        go_enter Try.func83, Try.ntmps83
        go_wp2
        go_ret
        exact ⟨congrArg (fun z => Ending.returned (Value.int .i64 z)) (by have := HL.out; have := EQ.out; omega), rfl⟩
  · by_cases h16 : 65536 ≤ x
    · have EQ : Hid ((Lib.bitLen x.toNat : Int) = 16 + Lib.bitLen (x / 65536).toNat) := by
        show _ = _
        have h : (Lib.bitLen (x).toNat : Int) = 16 + Lib.bitLen (x / 65536).toNat := by simpa using bitLen_step (x) 16 (by omega) (by omega) (by omega)
        have h' := EQ.out
        omega
      by_cases h8 : 256 ≤ x / 65536
      · have EQ : Hid ((Lib.bitLen x.toNat : Int) = 24 + Lib.bitLen (x / 65536 / 256).toNat) := by
          show _ = _
          have h : (Lib.bitLen (x / 65536).toNat : Int) = 8 + Lib.bitLen (x / 65536 / 256).toNat := by simpa using bitLen_step (x / 65536) 8 (by omega) (by omega) (by omega)
          have h' := EQ.out
          omega
        have hz0 : 0 ≤ x / 65536 / 256 := by omega
        have hz1 : x / 65536 / 256 ≤ 255 := by omega
        have HL : Hid (Lib.len8 (x / 65536 / 256) = Lib.bitLen (x / 65536 / 256).toNat) := Lib.len8_of (x / 65536 / 256) hz0 hz1
        have hl0 := Lib.bitLen_le8' (x / 65536 / 256) hz0 hz1
        obtain ⟨hb0, hb1⟩ : 0 ≤ Lib.len8 (x / 65536 / 256) ∧ Lib.len8 (x / 65536 / 256) ≤ 8 := by rw [HL.out]; omega
        go_enter Try.func83, Try.ntmps83
        go_wp2
        go_ret
        exact ⟨congrArg (fun z => Ending.returned (Value.int .i64 z)) (by have := HL.out; have := EQ.out; omega), rfl⟩
      · have hz0 : 0 ≤ x / 65536 := by omega
        have hz1 : x / 65536 ≤ 255 := by omega
        have HL : Hid (Lib.len8 (x / 65536) = Lib.bitLen (x / 65536).toNat) := Lib.len8_of (x / 65536) hz0 hz1
        have hl0 := Lib.bitLen_le8' (x / 65536) hz0 hz1
        obtain ⟨hb0, hb1⟩ : 0 ≤ Lib.len8 (x / 65536) ∧ Lib.len8 (x / 65536) ≤ 8 := by rw [HL.out]; omega
        go_enter Try.func83, Try.ntmps83
        go_wp2
        go_ret
        exact ⟨congrArg (fun z => Ending.returned (Value.int .i64 z)) (by have := HL.out; have := EQ.out; omega), rfl⟩
    · by_cases h8 : 256 ≤ x
      · have EQ : Hid ((Lib.bitLen x.toNat : Int) = 8 + Lib.bitLen (x / 256).toNat) := by
          show _ = _
          have h : (Lib.bitLen (x).toNat : Int) = 8 + Lib.bitLen (x / 256).toNat := by simpa using bitLen_step (x) 8 (by omega) (by omega) (by omega)
          have h' := EQ.out
          omega
        have hz0 : 0 ≤ x / 256 := by omega
        have hz1 : x / 256 ≤ 255 := by omega
        have HL : Hid (Lib.len8 (x / 256) = Lib.bitLen (x / 256).toNat) := Lib.len8_of (x / 256) hz0 hz1
        have hl0 := Lib.bitLen_le8' (x / 256) hz0 hz1
        obtain ⟨hb0, hb1⟩ : 0 ≤ Lib.len8 (x / 256) ∧ Lib.len8 (x / 256) ≤ 8 := by rw [HL.out]; omega
        go_enter Try.func83, Try.ntmps83
        go_wp2
        go_ret
        exact ⟨congrArg (fun z => Ending.returned (Value.int .i64 z)) (by have := HL.out; have := EQ.out; omega), rfl⟩
      · have hz0 : 0 ≤ x := by omega
        have hz1 : x ≤ 255 := by omega
        have HL : Hid (Lib.len8 (x) = Lib.bitLen (x).toNat) := Lib.len8_of (x) hz0 hz1
        have hl0 := Lib.bitLen_le8' (x) hz0 hz1
        obtain ⟨hb0, hb1⟩ : 0 ≤ Lib.len8 (x) ∧ Lib.len8 (x) ≤ 8 := by rw [HL.out]; omega
        go_enter Try.func83, Try.ntmps83
        go_wp2
        go_ret
        exact ⟨congrArg (fun z => Ending.returned (Value.int .i64 z)) (by have := HL.out; have := EQ.out; omega), rfl⟩
end Go.Proofs.Ytmhmlpfkdpjlaaa
