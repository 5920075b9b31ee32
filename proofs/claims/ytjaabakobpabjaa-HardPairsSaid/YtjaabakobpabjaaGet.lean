import Derived.Test.YtjaabakobpabjaaCalmTail
import Derived.Outline
import Derived.Test.YtjaabakobpabjaaLogD
/- Contracts of stamp.Less, of the reference's, and of the two of attempts. -/
namespace Go.Proofs.Ytjaabakobpabjaa
open Go.RowKit

end Go.Proofs.Ytjaabakobpabjaa
/- Contracts of package stamp and of its reference: the later one of two stamps; ties. -/
namespace Go.Proofs.Ytjaabakobpabjaa
open Go.RowKit

end Go.Proofs.Ytjaabakobpabjaa
/- The contract of math/bits.Len64. -/
namespace Go.Proofs.Ytjaabakobpabjaa
open Go.RowKit

theorem bitLen_step (x : Int) (k : Nat) (h0 : 0 ≤ x) (h1 : x < 18446744073709551616) (h : (2 : Int) ^ k ≤ x) : (Lib.bitLen x.toNat : Int) = k + Lib.bitLen (x / 2 ^ k).toNat := by
  obtain ⟨n, rfl⟩ := Int.eq_ofNat_of_zero_le h0
  have e : ((n : Int) / 2 ^ k).toNat = n / 2 ^ k := by
    have : ((n : Int) / 2 ^ k) = ((n / 2 ^ k : Nat) : Int) := by simp
    rw [this]; rfl
  rw [e, Int.toNat_natCast, Lib.bitLen_shift k n (by exact_mod_cast h) (by omega)]
  simp

set_option maxRecDepth 100000 in
set_option maxHeartbeats 4000000 in
theorem len64_any (x : Int) (w : World) (h0 : 0 ≤ x) (h1 : x ≤ 18446744073709551615) :
    Calls Try.prog 88 #[.int .u64 x] w fun e w' => e = .returned (.int .i64 (Lib.bitLen x.toNat)) ∧ w = w' := by
  have EQ : Hid ((Lib.bitLen x.toNat : Int) = 0 + Lib.bitLen x.toNat) := by show _ = _; omega
  by_cases h32 : 4294967296 ≤ x
  · have EQ : Hid ((Lib.bitLen x.toNat : Int) = 32 + Lib.bitLen (x / 4294967296).toNat) := by
      show _ = _
      have h : (Lib.bitLen (x).toNat : Int) = 32 + Lib.bitLen (x / 4294967296).toNat := by simpa using bitLen_step (x) 32 (by omega) (by omega) (by omega)
      have h' := EQ.out
      omega
    by_cases h16 : 65536 ≤ x / 4294967296
    · have EQ : Hid ((Lib.bitLen x.toNat : Int) = 48 + Lib.bitLen (x / 4294967296 / 65536).toNat) := by
        show _ = _
        have h : (Lib.bitLen (x / 4294967296).toNat : Int) = 16 + Lib.bitLen (x / 4294967296 / 65536).toNat := by simpa using bitLen_step (x / 4294967296) 16 (by omega) (by omega) (by omega)
        have h' := EQ.out
        omega
      by_cases h8 : 256 ≤ x / 4294967296 / 65536
      · have EQ : Hid ((Lib.bitLen x.toNat : Int) = 56 + Lib.bitLen (x / 4294967296 / 65536 / 256).toNat) := by
          show _ = _
          have h : (Lib.bitLen (x / 4294967296 / 65536).toNat : Int) = 8 + Lib.bitLen (x / 4294967296 / 65536 / 256).toNat := by simpa using bitLen_step (x / 4294967296 / 65536) 8 (by omega) (by omega) (by omega)
          have h' := EQ.out
          omega
        have hz0 : 0 ≤ x / 4294967296 / 65536 / 256 := by omega
        have hz1 : x / 4294967296 / 65536 / 256 ≤ 255 := by omega
        have HL : Hid (Lib.len8 (x / 4294967296 / 65536 / 256) = Lib.bitLen (x / 4294967296 / 65536 / 256).toNat) := Lib.len8_of (x / 4294967296 / 65536 / 256) hz0 hz1
        have hl0 := Lib.bitLen_le8' (x / 4294967296 / 65536 / 256) hz0 hz1
        obtain ⟨hb0, hb1⟩ : 0 ≤ Lib.len8 (x / 4294967296 / 65536 / 256) ∧ Lib.len8 (x / 4294967296 / 65536 / 256) ≤ 8 := by rw [HL.out]; omega
        go_enter Try.func88, Try.ntmps88
        go_wp2
        go_ret
        exact ⟨congrArg (fun z => Ending.returned (Value.int .i64 z)) (by have := HL.out; have := EQ.out; omega), rfl⟩
      · have hz0 : 0 ≤ x / 4294967296 / 65536 := by omega
        have hz1 : x / 4294967296 / 65536 ≤ 255 := by omega
        have HL : Hid (Lib.len8 (x / 4294967296 / 65536) = Lib.bitLen (x / 4294967296 / 65536).toNat) := Lib.len8_of (x / 4294967296 / 65536) hz0 hz1
        have hl0 := Lib.bitLen_le8' (x / 4294967296 / 65536) hz0 hz1
        obtain ⟨hb0, hb1⟩ : 0 ≤ Lib.len8 (x / 4294967296 / 65536) ∧ Lib.len8 (x / 4294967296 / 65536) ≤ 8 := by rw [HL.out]; omega
        go_enter Try.func88, Try.ntmps88
        go_wp2
        go_ret
        exact ⟨congrArg (fun z => Ending.returned (Value.int .i64 z)) (by have := HL.out; have := EQ.out; omega), rfl⟩
    · by_cases h8 : 256 ≤ x / 4294967296
      · have EQ : Hid ((Lib.bitLen x.toNat : Int) = 40 + Lib.bitLen (x / 4294967296 / 256).toNat) := by
          show _ = _
          have h : (Lib.bitLen (x / 4294967296).toNat : Int) = 8 + Lib.bitLen (x / 4294967296 / 256).toNat := by simpa using bitLen_step (x / 4294967296) 8 (by omega) (by omega) (by omega)
          have h' := EQ.out
          omega
        have hz0 : 0 ≤ x / 4294967296 / 256 := by omega
        have hz1 : x / 4294967296 / 256 ≤ 255 := by omega
        have HL : Hid (Lib.len8 (x / 4294967296 / 256) = Lib.bitLen (x / 4294967296 / 256).toNat) := Lib.len8_of (x / 4294967296 / 256) hz0 hz1
        have hl0 := Lib.bitLen_le8' (x / 4294967296 / 256) hz0 hz1
        obtain ⟨hb0, hb1⟩ : 0 ≤ Lib.len8 (x / 4294967296 / 256) ∧ Lib.len8 (x / 4294967296 / 256) ≤ 8 := by rw [HL.out]; omega
        go_enter Try.func88, Try.ntmps88
        go_wp2
        go_ret
        exact ⟨congrArg (fun z => Ending.returned (Value.int .i64 z)) (by have := HL.out; have := EQ.out; omega), rfl⟩
      · have hz0 : 0 ≤ x / 4294967296 := by omega
        have hz1 : x / 4294967296 ≤ 255 := by omega
        have HL : Hid (Lib.len8 (x / 4294967296) = Lib.bitLen (x / 4294967296).toNat) := Lib.len8_of (x / 4294967296) hz0 hz1
        have hl0 := Lib.bitLen_le8' (x / 4294967296) hz0 hz1
        obtain ⟨hb0, hb1⟩ : 0 ≤ Lib.len8 (x / 4294967296) ∧ Lib.len8 (x / 4294967296) ≤ 8 := by rw [HL.out]; omega
        go_enter Try.func88, Try.ntmps88
        go_wp2
        go_ret
        exact ⟨congrArg (fun z => Ending.returned (Value.int .i64 z)) (by have := HL.out; have := EQ.out; omega), rfl⟩
  · by_cases h16 : 65536 ≤ x
    · have EQ : Hid ((Lib.bitLen x.toNat : Int) = 16 + Lib.bitLen (x / 65536).toNat) := by
        show _ = _
        have h : (Lib.bitLen (x).toNat : Int) = 16 + Lib.bitLen (x / 65536).toNat := by simpa using bitLen_step (x) 16 (by omega) (by omega) (by omega)
        have h' := EQ.out
        omega
      by_cases h8 : 256 ≤ x / 65536
      · have EQ : Hid ((Lib.bitLen x.toNat : Int) = 24 + Lib.bitLen (x / 65536 / 256).toNat) := by
          show _ = _
          have h : (Lib.bitLen (x / 65536).toNat : Int) = 8 + Lib.bitLen (x / 65536 / 256).toNat := by simpa using bitLen_step (x / 65536) 8 (by omega) (by omega) (by omega)
          have h' := EQ.out
          omega
        have hz0 : 0 ≤ x / 65536 / 256 := by omega
        have hz1 : x / 65536 / 256 ≤ 255 := by omega
        have HL : Hid (Lib.len8 (x / 65536 / 256) = Lib.bitLen (x / 65536 / 256).toNat) := Lib.len8_of (x / 65536 / 256) hz0 hz1
        have hl0 := Lib.bitLen_le8' (x / 65536 / 256) hz0 hz1
        obtain ⟨hb0, hb1⟩ : 0 ≤ Lib.len8 (x / 65536 / 256) ∧ Lib.len8 (x / 65536 / 256) ≤ 8 := by rw [HL.out]; omega
        go_enter Try.func88, Try.ntmps88
        go_wp2
        go_ret
        exact ⟨congrArg (fun z => Ending.returned (Value.int .i64 z)) (by have := HL.out; have := EQ.out; omega), rfl⟩
      · have hz0 : 0 ≤ x / 65536 := by omega
        have hz1 : x / 65536 ≤ 255 := by omega
        have HL : Hid (Lib.len8 (x / 65536) = Lib.bitLen (x / 65536).toNat) := Lib.len8_of (x / 65536) hz0 hz1
        have hl0 := Lib.bitLen_le8' (x / 65536) hz0 hz1
        obtain ⟨hb0, hb1⟩ : 0 ≤ Lib.len8 (x / 65536) ∧ Lib.len8 (x / 65536) ≤ 8 := by rw [HL.out]; omega
        go_enter Try.func88, Try.ntmps88
        go_wp2
        go_ret
        exact ⟨congrArg (fun z => Ending.returned (Value.int .i64 z)) (by have := HL.out; have := EQ.out; omega), rfl⟩
    · by_cases h8 : 256 ≤ x
      · have EQ : Hid ((Lib.bitLen x.toNat : Int) = 8 + Lib.bitLen (x / 256).toNat) := by
          show _ = _
          have h : (Lib.bitLen (x).toNat : Int) = 8 + Lib.bitLen (x / 256).toNat := by simpa using bitLen_step (x) 8 (by omega) (by omega) (by omega)
          have h' := EQ.out
          omega
        have hz0 : 0 ≤ x / 256 := by omega
        have hz1 : x / 256 ≤ 255 := by omega
        have HL : Hid (Lib.len8 (x / 256) = Lib.bitLen (x / 256).toNat) := Lib.len8_of (x / 256) hz0 hz1
        have hl0 := Lib.bitLen_le8' (x / 256) hz0 hz1
        obtain ⟨hb0, hb1⟩ : 0 ≤ Lib.len8 (x / 256) ∧ Lib.len8 (x / 256) ≤ 8 := by rw [HL.out]; omega
        go_enter Try.func88, Try.ntmps88
        go_wp2
        go_ret
        exact ⟨congrArg (fun z => Ending.returned (Value.int .i64 z)) (by have := HL.out; have := EQ.out; omega), rfl⟩
      · have hz0 : 0 ≤ x := by omega
        have hz1 : x ≤ 255 := by omega
        have HL : Hid (Lib.len8 (x) = Lib.bitLen (x).toNat) := Lib.len8_of (x) hz0 hz1
        have hl0 := Lib.bitLen_le8' (x) hz0 hz1
        obtain ⟨hb0, hb1⟩ : 0 ≤ Lib.len8 (x) ∧ Lib.len8 (x) ≤ 8 := by rw [HL.out]; omega
        go_enter Try.func88, Try.ntmps88
        go_wp2
        go_ret
        exact ⟨congrArg (fun z => Ending.returned (Value.int .i64 z)) (by have := HL.out; have := EQ.out; omega), rfl⟩
end Go.Proofs.Ytjaabakobpabjaa
/- The contract of bits.Put. -/
namespace Go.Proofs.Ytjaabakobpabjaa
open Go.RowKit

/-- The first k of the n bytes of v, the highest first. -/
def bePre (v n : Int) : Nat → List Int
  | 0 => []
  | k + 1 => bePre v n k ++ [v / 2 ^ (8 * (n - 1 - k)).toNat % 256]
theorem bePre_len (v n : Int) (k : Nat) : (bePre v n k).length = k := by
  induction k with
  | zero => rfl
  | succ k ih => simp [bePre, ih]
theorem len_small (v : Int) (n : Int) (h0 : 0 ≤ v) (h1 : v ≤ 18446744073709551615) (hn : 1 ≤ n) (hn' : n ≤ 8) : (8 * n < (Lib.bitLen v.toNat : Int)) ↔ 2 ^ (8 * n).toNat ≤ v := by
  obtain ⟨m, rfl⟩ := Int.eq_ofNat_of_zero_le h0
  have e : ((2 : Int) ^ (8 * n).toNat) = ((2 ^ (8 * n).toNat : Nat) : Int) := by simp
  rw [e, Int.toNat_natCast]
  constructor
  · intro h
    apply Classical.byContradiction
    intro hc
    have := Lib.bitLen_le m (8 * n).toNat (by omega) (by omega)
    omega
  · intro h
    have h2 : 2 ^ (8 * n).toNat ≤ m := by omega
    have h3 := Lib.bitLen_shift (8 * n).toNat m h2 (by omega)
    have h4 : 0 < m / 2 ^ (8 * n).toNat := Nat.div_pos h2 (Nat.pow_pos (by decide))
    have h5 : Lib.bitLen (m / 2 ^ (8 * n).toNat) ≠ 0 := by
      intro hz
      have h6 : m / 2 ^ (8 * n).toNat < 2 ^ 64 := Nat.lt_of_le_of_lt (Nat.div_le_self _ _) (by omega)
      have := Lib.bitLen_half (m / 2 ^ (8 * n).toNat) (by omega) h6
      omega
    omega

/-- Bytes handed back with no error: a row of the call's own. -/
def PutOk (w : World) (n : Nat) (ys : List Int) (e : Ending) (w' : World) : Prop := ∃ v', e = .returned (.tuple #[v', .int .i64 0]) ∧ w'.ownsRow w.heap.size 5 1 v' n (byt ys) ∧ Below w.heap.size w w'

set_option maxRecDepth 100000 in
set_option maxHeartbeats 2000000 in
theorem put_ok (B : Nat) (v : Value) (xs : List Int) (x n : Int) (w : World) (hs : Sl B w v 1 xs.length (byt xs)) (hB : B ≤ w.heap.size) (hb : (xs.length : Int) ≤ 140737488355320)
    (h0 : 0 ≤ x) (h1 : x ≤ 18446744073709551615) (hn : 1 ≤ n) (hn' : n ≤ 8) (h : x < 2 ^ (8 * n).toNat) :
    Calls Try.prog 71 #[v, .int .u64 x, .int .i64 n] w (PutOk w (xs.length + n.toNat) (xs ++ bePre x n n.toNat)) := by
  obtain ⟨i0, hi, hz0, hz1, hz2⟩ := info_parts Try.infoU8
  have hl : (Lib.bitLen x.toNat : Int) ≤ 8 * n := Int.not_lt.1 fun hc => by have := (len_small x n h0 h1 hn hn').1 hc; omega
  have HS := Lib.hid hs
  clear h hs
  go_enter Try.func71, Try.ntmps71
  go_wp2_with fail
  refine (len64_any _ _ h0 h1).mono ?_; rintro e w' ⟨rfl, rfl⟩
  go_wp2_with fail
  refine (room_any B v xs n _ HS.out hB (by omega) (by omega)).mono ?_
  rintro e w1 ⟨v1, rfl, hown1, hb1⟩
  clear hl HS
  go_wp2_with fail
  go_loopw [8, 9] (fun u s wr => ∃ k : Nat, (k : Int) ≤ n ∧ s = .int .i64 (8 * (n - 1 - k)) ∧ wr.ownsRow w.heap.size 5 1 u (xs.length + k) (byt (xs ++ bePre x n k)) ∧ Below w.heap.size w wr) (fun _ s _ => (intOf s + 8).toNat)
  case atStart => exact ⟨0, by omega, by go_num, by simpa [bePre] using hown1, hb1⟩
  case round =>
    obtain ⟨k, hk, rfl, hown, hbel⟩ := hrel
    have hsz := hbel.size
    by_cases hlt : (k : Int) < n
    · have hsh : 0 ≤ 8 * (n - 1 - (k : Int)) := by omega
      have hsh1 : 8 * (n - 1 - (k : Int)) ≤ 63 := by omega
      go_wp2_with (at_builtin; refine wpList_append_own _ rfl _ _ 32 rfl w.heap.size 5 i0 (.int .u8 0) 1 1 Try.underlying32 hi hz0 hz1 hz2 rfl (by decide) _ _ _ rfl (hown.alloc _) ⟨_, 0, none⟩ 1 1 [.int .u8 (x / 2 ^ (8 * (n - 1 - (k : Int))).toNat % 256)] rfl rfl (cell_one_new _ _ _) ?c2 ?c3 ?c4 ?c5 ?_)
      case c2 => simp [Value.oneCell']
      case c3 => unfold maxLen; omega
      case c4 => omega
      case c5 => simp; omega
      intro v' w2 hown' hgrow _
      have hb2 : Below w.heap.size w w2 := (hbel.alloc hsz _).grown hgrow (by simp; omega) (fun j hj => (hown.lt j hj).1)
      have HO : Hid (w2.ownsRow w.heap.size 5 1 v' (xs.length + (k + 1)) (byt (xs ++ bePre x n (k + 1)))) := by
        show World.ownsRow _ _ _ _ _ _ _
        simp only [bePre]
        rw [← List.append_assoc, ← byt_app (xs ++ bePre x n k)]
        exact hown'
      clear hown' hgrow hbel hown
      go_wp2
      go_roundw
      case rel => exact ⟨k + 1, by omega, by go_num, HO.out, hb2⟩
      case measure => simp [intOf]; omega
    · obtain rfl : n = k := by omega
      go_wp2
      go_ret2
      exact ⟨_, rfl, by simpa using hown, hbel⟩
end Go.Proofs.Ytjaabakobpabjaa
/- The contract of bits.Get. -/
namespace Go.Proofs.Ytjaabakobpabjaa
open Go.RowKit

/-- The number that bytes are, the highest first. -/
def beVal : List Int → Int
  | l => l.foldl (fun a c => a * 256 + c) 0
theorem beVal_snoc (l : List Int) (c : Int) : beVal (l ++ [c]) = beVal l * 256 + c := by simp [beVal, List.foldl_append]
theorem beVal_bound : ∀ (n : Nat) (l : List Int), l.length = n → (∀ x ∈ l, 0 ≤ x ∧ x ≤ 255) → 0 ≤ beVal l ∧ beVal l < 256 ^ n := by
  intro n
  induction n with
  | zero => intro l hl _; obtain rfl := List.eq_nil_of_length_eq_zero hl; simp [beVal]
  | succ n ih =>
    intro l hl hx
    have hne : l ≠ [] := by intro h; rw [h] at hl; simp at hl
    have e := List.dropLast_concat_getLast hne
    have h1 := ih l.dropLast (by simp [hl]) (fun x hm => hx x (List.dropLast_subset _ hm))
    have h2 := hx (l.getLast hne) (List.getLast_mem hne)
    rw [← e, beVal_snoc, Int.pow_succ]
    omega
theorem beVal_56 (l : List Int) (h : l.length ≤ 7) (hx : ∀ x ∈ l, 0 ≤ x ∧ x ≤ 255) : 0 ≤ beVal l ∧ beVal l ≤ 72057594037927935 := by
  have h1 := beVal_bound l.length l rfl hx
  have h2 : (256 : Int) ^ l.length ≤ 256 ^ 7 := by
    generalize l.length = k at h
    have : k = 0 ∨ k = 1 ∨ k = 2 ∨ k = 3 ∨ k = 4 ∨ k = 5 ∨ k = 6 ∨ k = 7 := by omega
    rcases this with h | h | h | h | h | h | h | h <;> subst h <;> decide
  have h3 : (256 : Int) ^ 7 = 72057594037927936 := by decide
  omega

set_option maxHeartbeats 1000000 in
theorem get_short (B : Nat) (v : Value) (xs : List Int) (p n : Int) (w : World) (hs : Sl B w v 1 xs.length (byt xs)) (hn : 1 ≤ n) (hn' : n ≤ 8) (hp : 0 ≤ p) (h : (xs.length : Int) - n < p) :
    Calls Try.prog 105 #[v, .int .i64 p, .int .i64 n] w fun e w' => e = .returned (.tuple #[.int .u64 0, .int .i64 2]) ∧ w = w' := by
  obtain ⟨a, cap, rfl, h1, h2, -, -⟩ := hs.form
  clear hs
  unfold maxLen at h2
  go_enter Try.func105, Try.ntmps105
  go_wp2
  go_ret2
  exact ⟨rfl, rfl⟩

set_option maxHeartbeats 1000000 in
theorem get_ok (B : Nat) (v : Value) (xs : List Int) (hx : ∀ x ∈ xs, 0 ≤ x ∧ x ≤ 255) (p n : Nat) (w : World) (hs : Sl B w v 1 xs.length (byt xs)) (hn : 1 ≤ n) (hn' : n ≤ 8) (h : p + n ≤ xs.length) :
    Calls Try.prog 105 #[v, .int .i64 p, .int .i64 n] w fun e w' => e = .returned (.tuple #[.int .u64 (beVal ((xs.drop p).take n)), .int .i64 0]) ∧ w = w' := by
  have HX := Lib.hid (fun k => fun x (hm : x ∈ ((xs.drop p).take n).take k) => hx x (List.mem_of_mem_drop (List.mem_of_mem_take (List.mem_of_mem_take hm))))
  obtain ⟨a, cap, rfl, h1, h2, -, h3⟩ := hs.form
  obtain ⟨g, o, rfl, hg, -⟩ := h3 0 (by omega)
  have hcell : ∀ j, j < xs.length → w.cell? ⟨g, o + j, none⟩ = some (.int .u8 (xs.getD j 0)) := fun j hj => by
    obtain ⟨g', o', e, _, hc⟩ := h3 j hj
    simp only [Option.some.injEq, Addr.mk.injEq, and_true] at e
    obtain ⟨rfl, rfl⟩ := e
    rw [hc]; simp [byt, hj, List.getD]
  have HC := Lib.hid hcell
  clear hs h3 hcell hx
  unfold maxLen at h2
  have hlen : ((xs.drop p).take n).length = n := by rw [List.length_take, List.length_drop]; omega
  have HLEN := Lib.hid hlen
  clear hlen
  go_enter Try.func105, Try.ntmps105
  go_wp2
  go_loop [8, 36] (fun y i => ∃ (k : Nat) (s : Int), k ≤ n ∧ i = .int .i64 k ∧ y = .int .u64 s ∧ Hid (s = beVal (((xs.drop p).take n).take k))) (fun _ i => n - (intOf i).toNat)
  case atStart => exact ⟨0, 0, by omega, rfl, rfl, rfl⟩
  case round =>
    obtain ⟨k, s, hk, rfl, rfl, hs⟩ := hrel
    by_cases hlt : k < n
    · have hb : 0 ≤ s ∧ s ≤ 72057594037927935 := by rw [hs.out]; exact beVal_56 _ (by rw [List.length_take]; omega) (HX.out k)
      obtain ⟨hb0, hb1⟩ := hb
      obtain ⟨c, hc0, hc1, hcell, HS⟩ : ∃ c : Int, 0 ≤ c ∧ c ≤ 255 ∧ w.cell? ⟨g, o + p + k, none⟩ = some (.int .u8 c) ∧ Hid (beVal (((xs.drop p).take n).take (k + 1)) = s * 256 + c) := by
        have e : (((xs.drop p).take n))[k]'(by rw [HLEN.out]; exact hlt) = xs[p + k]'(by omega) := by rw [List.getElem_take, List.getElem_drop]
        have e2 : ((xs.drop p).take n).take (k + 1) = ((xs.drop p).take n).take k ++ [xs[p + k]'(by omega)] := by
          rw [List.take_add_one, List.getElem?_eq_getElem (by rw [HLEN.out]; exact hlt), e]; rfl
        have hm := HX.out (k + 1) (xs[p + k]'(by omega)) (by rw [e2]; simp)
        refine ⟨xs[p + k]'(by omega), hm.1, hm.2, ?_, ?_⟩
        · rw [Nat.add_assoc, HC.out (p + k) (by omega)]; simp [List.getD, List.getElem?_eq_getElem (show p + k < xs.length by omega)]
        · show _ = _
          rw [e2, beVal_snoc, hs.out]
      go_wp2
      go_round
      case rel => exact ⟨k + 1, s * 256 + c, by omega, by go_num, rfl, HS.out.symm⟩
      case measure => simp [intOf]; omega
    · obtain rfl : k = n := by omega
      go_wp2
      go_ret2
      refine ⟨congrArg (fun z => Ending.returned (Value.tuple #[Value.int .u64 z, Value.int .i64 0])) ?_, rfl⟩
      rw [hs.out, List.take_of_length_le (Nat.le_of_eq HLEN.out)]
end Go.Proofs.Ytjaabakobpabjaa
