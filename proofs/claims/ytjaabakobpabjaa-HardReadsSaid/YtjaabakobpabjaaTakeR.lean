import Derived.Test.YtjaabakobpabjaaNums
/- Contracts: how numbers in seven bits a byte are read, by package bits. -/
namespace Go.Proofs.Ytjaabakobpabjaa
open Go.RowKit

theorem andNot_more (c : Int) (h0 : 0 ≤ c) (h1 : c ≤ 255) : bits .andNot .u8 c 128 = c % 128 := by
  obtain ⟨n, rfl⟩ := Int.eq_ofNat_of_zero_le h0
  have h : n < 256 := by omega
  have : ∀ k : Fin 256, bits .andNot .u8 (k.val : Int) 128 = (k.val : Int) % 128 := by decide +kernel
  exact this ⟨n, h⟩

theorem or_add (m y k : Nat) (h : y < 2 ^ k) : (m * 2 ^ k) ||| y = m * 2 ^ k + y := by
  rw [Nat.mul_comm]; exact (Nat.two_pow_add_eq_or_of_lt h m).symm
theorem or_u64 (x y : Nat) (hx : x < 2 ^ 64) (hy : y < 2 ^ 64) : bits .or .u64 x y = ((x ||| y : Nat) : Int) := by
  have e : bits .or .u64 x y = IntKind.u64.wrap (((BitVec.ofInt 64 x ||| BitVec.ofInt 64 y).toNat : Nat) : Int) := rfl
  have hor : x ||| y < 2 ^ 64 := Nat.or_lt_two_pow hx hy
  have ex : (BitVec.ofInt 64 (x : Int)).toNat = x := by rw [BitVec.toNat_ofInt]; omega
  have ey : (BitVec.ofInt 64 (y : Int)).toNat = y := by rw [BitVec.toNat_ofInt]; omega
  rw [e, BitVec.toNat_or, ex, ey]
  have hw : ∀ n : Int, 0 ≤ n → n < 2 ^ 64 → IntKind.u64.wrap n = n := fun n h0 h1 => by simp [IntKind.wrap, IntKind.bits, IntKind.signed]; omega
  exact hw _ (by omega) (by omega)
theorem or_var (k : Nat) (a d : Int) (hk : k ≤ 9) (a0 : 0 ≤ a) (a1 : a < 128 ^ k) (d0 : 0 ≤ d) (d1 : d ≤ 127) (d9 : k = 9 → d ≤ 1) :
    bits .or .u64 a (IntKind.u64.wrap (d * 2 ^ (7 * k))) = a + d * 128 ^ k ∧ a + d * 128 ^ k ≤ 18446744073709551615 ∧ (k < 9 → a + d * 128 ^ k < 128 ^ (k + 1)) := by
  obtain ⟨a, rfl⟩ := Int.eq_ofNat_of_zero_le a0
  obtain ⟨d, rfl⟩ := Int.eq_ofNat_of_zero_le d0
  have e : (128 : Int) ^ k = ((2 ^ (7 * k) : Nat) : Int) := by rw [Nat.pow_mul]; simp
  have e2 : (2 : Int) ^ (7 * k) = ((2 ^ (7 * k) : Nat) : Int) := by simp
  have hp : 2 ^ (7 * k) ≤ (if k = 9 then 2 ^ 63 else 2 ^ 56) ∧ 0 < 2 ^ (7 * k) := by
    have : k = 0 ∨ k = 1 ∨ k = 2 ∨ k = 3 ∨ k = 4 ∨ k = 5 ∨ k = 6 ∨ k = 7 ∨ k = 8 ∨ k = 9 := by omega
    rcases this with h | h | h | h | h | h | h | h | h | h <;> subst h <;> decide
  have ha : a < 2 ^ (7 * k) := by rw [e] at a1; exact Int.ofNat_lt.1 a1
  have hor := or_add d a (7 * k) ha
  rw [Int.pow_succ, e, e2]
  generalize 2 ^ (7 * k) = p at hp ha hor
  have hd : d * p ≤ (if k = 9 then 1 else 127) * p := Nat.mul_le_mul_right p (by split <;> omega)
  have hlt : d * p + a < 2 ^ 64 := by split at hd <;> rename_i h <;> simp only [h, if_true, if_false] at hp <;> omega
  have hw : IntKind.u64.wrap ((d : Int) * (p : Int)) = ((d * p : Nat) : Int) := by
    simp [IntKind.wrap, IntKind.bits, IntKind.signed]; rw [← Int.natCast_mul]; omega
  rw [hw]
  refine ⟨?_, ?_, ?_⟩
  · rw [or_u64 a (d * p) (by omega) (by omega), Nat.or_comm, hor]; simp; omega
  · rw [← Int.natCast_mul]; omega
  · intro h9
    rw [← Int.natCast_mul]
    rw [if_neg (by omega)] at hd
    omega
theorem ret_three {k k' k'' : IntKind} {a a' b b' c c' : Int} (h : a = a') (g : b = b') (f : c = c') : Ending.returned (.tuple #[.int k a, .int k' b, .int k'' c]) = .returned (.tuple #[.int k a', .int k' b', .int k'' c']) := by rw [h, g, f]

set_option maxRecDepth 100000 in
set_option maxHeartbeats 4000000 in
theorem takeVar_any (B : Nat) (v : Value) (xs : List Int) (hx : ∀ x ∈ xs, 0 ≤ x ∧ x ≤ 255) (w : World) (hs : Sl B w v 1 xs.length (byt xs)) :
    Calls Try.prog 54 #[v] w fun e w' => e = .returned (.tuple #[.int .u64 (takeV xs).1, .int .i64 (takeV xs).2.1, .int .i64 (takeV xs).2.2]) ∧ w = w' := by
  obtain ⟨p, cap, rfl, h1, h2, -, h3⟩ := hs.form
  have H3 := Lib.hid h3
  have HX := Lib.hid hx
  unfold maxLen at h2
  clear hs h3 hx
  go_enter Try.func54, Try.ntmps54
  go_wp2_with fail
  go_loop [2, 9] (fun q i => ∃ (k : Nat) (a : Int), k ≤ xs.length ∧ k ≤ 9 ∧ i = .int .i64 k ∧ q = .int .u64 a ∧ 0 ≤ a ∧ a ≤ 18446744073709551615 ∧ Hid (a < 128 ^ k ∧ takeGo (xs.drop k) k a (128 ^ k) = takeV xs)) (fun _ i => xs.length - (intOf i).toNat)
  case atStart => exact ⟨0, 0, by omega, by omega, rfl, rfl, by omega, by omega, ⟨by decide, rfl⟩⟩
  case round =>
    obtain ⟨k, a, hk, hk9, rfl, rfl, a0, a1, HT⟩ := hrel
    by_cases hlt : k < xs.length
    · obtain ⟨g, o, rfl, -, hcell⟩ := H3.out k hlt
      obtain ⟨c, hc⟩ : ∃ c, xs[k]? = some c := ⟨xs[k], List.getElem?_eq_getElem hlt⟩
      obtain ⟨c0, c1⟩ := HX.out c (List.mem_of_getElem? hc)
      have hcell' : w.cell? ⟨g, o + k, none⟩ = some (.int .u8 c) := by rw [hcell]; simp [byt, hc]
      have HD : Hid (takeV xs = if k = 9 ∧ 1 < c then (0, 0, 5) else if 128 ≤ c then takeGo (xs.drop (k + 1)) (k + 1) (a + c % 128 * 128 ^ k) (128 ^ k * 128) else if c = 0 ∧ 0 < k then (0, 0, 9) else (a + c % 128 * 128 ^ k, k + 1, 0)) := by
        show _ = _
        rw [← HT.out.2, List.drop_eq_getElem_cons hlt, (List.getElem_eq_iff hlt).2 hc]; rfl
      have hn := andNot_more c c0 c1
      have m0 : 0 ≤ 7 * (k : Int) := by omega
      have m1 : 7 * (k : Int) ≤ 63 := by omega
      have OV := Lib.hid (or_var k a (c % 128) hk9 a0 HT.out.1 (by omega) (by omega))
      clear hcell hc
      by_cases h9 : k = 9 ∧ 1 < c
      · have HE := Lib.hid (HD.out.trans (if_pos h9))
        obtain ⟨rfl, h9⟩ := h9
        clear HD OV
        go_wp2_with fail
        go_ret3
        exact ⟨ret_three (by rw [HE.out]) (by rw [HE.out]) (by rw [HE.out]), rfl⟩
      · have h9' : k < 9 ∨ c ≤ 1 := by omega
        have HD2 := Lib.hid (HD.out.trans (if_neg h9))
        have OW := Lib.hid (OV.out (fun h => by omega))
        clear HD OV h9
        by_cases h128 : 128 ≤ c
        · have hlt9 : k < 9 := by omega
          have hn9 : ((k : Int) == 9) = false := by simp; omega
          have HE := Lib.hid (HD2.out.trans (if_pos h128))
          have hor := OW.out.1
          have b0 : 0 ≤ a + c % 128 * 128 ^ k := Int.add_nonneg a0 (Int.mul_nonneg (by omega) (Int.le_of_lt (Int.pow_pos (by decide))))
          have HF := Lib.hid (And.intro b0 OW.out.2.1)
          have HG : Hid (a + c % 128 * 128 ^ k < 128 ^ (k + 1) ∧ takeGo (xs.drop (k + 1)) (k + 1) (a + c % 128 * 128 ^ k) (128 ^ (k + 1)) = takeV xs) := ⟨OW.out.2.2 hlt9, by rw [Int.pow_succ]; exact HE.out.symm⟩
          obtain ⟨y, hy⟩ : ∃ y, a + c % 128 * 128 ^ k = y := ⟨_, rfl⟩
          rw [hy] at hor HF HG
          clear hy b0 HD2 OW HE h9'
          go_wp2_with fail
          go_round
          case rel => exact ⟨k + 1, y, by omega, by omega, by go_num, rfl, HF.out.1, HF.out.2, HG⟩
          case measure => simp [intOf]; omega
        · have HD3 := Lib.hid (HD2.out.trans (if_neg h128))
          have hor := OW.out.1
          obtain ⟨y, hy⟩ : ∃ y, a + c % 128 * 128 ^ k = y := ⟨_, rfl⟩
          rw [hy] at hor HD3
          clear hy OW HD2
          by_cases hz : c = 0 ∧ 0 < k
          · have HE := Lib.hid (HD3.out.trans (if_pos hz))
            obtain ⟨rfl, hz⟩ := hz
            clear HD3
            have hn9 : k = 9 ∨ ((k : Int) == 9) = false := by rcases Nat.lt_or_ge k 9 with h | h; exact .inr (by simp; omega); exact .inl (by omega)
            rcases hn9 with rfl | hn9
            all_goals
              go_wp2_with fail
              go_ret3
              exact ⟨ret_three (by rw [HE.out]) (by rw [HE.out]) (by rw [HE.out]), rfl⟩
          · have HE := Lib.hid (HD3.out.trans (if_neg hz))
            clear HD3
            by_cases hc0 : c = 0
            · have hk0 : ¬ 0 < k := fun h => hz ⟨hc0, h⟩
              have hk1 : decide (0 < k) = false := by simpa using hk0
              have hn9 : ((k : Int) == 9) = false := by simp; omega
              subst hc0
              have hw : IntKind.u64.wrap ((0 : Int) % 128 * 2 ^ (7 * k)) = 0 := by rw [Int.zero_emod, Int.zero_mul]; decide
              rw [hw] at hor
              have HO := Lib.hid hor
              clear hz hor hw
              go_wp2_with fail
              go_ret3
              exact ⟨ret_three (by rw [HE.out]; exact HO.out) (by rw [HE.out]) (by rw [HE.out]), rfl⟩
            · have hc1 : (c == 0) = false := by simpa using hc0
              have hn9 : k = 9 ∨ ((k : Int) == 9) = false := by rcases Nat.lt_or_ge k 9 with h | h; exact .inr (by simp; omega); exact .inl (by omega)
              rcases hn9 with rfl | hn9
              · obtain rfl : c = 1 := by omega
                have hw : IntKind.u64.wrap ((1 : Int) % 128 * 2 ^ (7 * 9)) = 9223372036854775808 := by decide
                rw [hw] at hor
                have HO := Lib.hid hor
                clear hz hc0 hor hw
                go_wp2_with fail
                go_ret3
                exact ⟨ret_three (by rw [HE.out]; exact HO.out) (by rw [HE.out]; rfl) (by rw [HE.out]), rfl⟩
              · clear hz hc0
                go_wp2_with fail
                go_ret3
                exact ⟨ret_three (by rw [HE.out]) (by rw [HE.out]) (by rw [HE.out]), rfl⟩
    · obtain rfl : k = xs.length := by omega
      have HE : Hid (takeV xs = (0, 0, 2)) := by show _ = _; rw [← HT.out.2, List.drop_length]; rfl
      go_wp2_with fail
      go_ret3
      exact ⟨ret_three (by rw [HE.out]) (by rw [HE.out]) (by rw [HE.out]), rfl⟩
end Go.Proofs.Ytjaabakobpabjaa
/- Contracts: how numbers in seven bits a byte are read, by the reference. -/
namespace Go.Proofs.Ytjaabakobpabjaa
open Go.RowKit

theorem wrap_u64_in (n : Int) (h0 : 0 ≤ n) (h1 : n ≤ 18446744073709551615) : IntKind.u64.wrap n = n := by simp [IntKind.wrap, IntKind.bits, IntKind.signed]; omega
theorem pow128 (k : Nat) (hk : k ≤ 9) : (1 : Int) ≤ 128 ^ k ∧ (128 : Int) ^ k ≤ 9223372036854775808 ∧ (k < 9 → (128 : Int) ^ k ≤ 72057594037927936) := by
  have : k = 0 ∨ k = 1 ∨ k = 2 ∨ k = 3 ∨ k = 4 ∨ k = 5 ∨ k = 6 ∨ k = 7 ∨ k = 8 ∨ k = 9 := by omega
  rcases this with h | h | h | h | h | h | h | h | h | h <;> subst h <;> decide

set_option maxRecDepth 100000 in
set_option maxHeartbeats 4000000 in
theorem refTakeVar_any (B : Nat) (v : Value) (xs : List Int) (hx : ∀ x ∈ xs, 0 ≤ x ∧ x ≤ 255) (w : World) (hs : Sl B w v 1 xs.length (byt xs)) :
    Calls Try.prog 61 #[v] w fun e w' => e = .returned (.tuple #[.int .u64 (takeV xs).1, .int .i64 (takeV xs).2.1, .int .i64 (takeV xs).2.2]) ∧ w = w' := by
  obtain ⟨p, cap, rfl, h1, h2, -, h3⟩ := hs.form
  have H3 := Lib.hid h3
  have HX := Lib.hid hx
  unfold maxLen at h2
  clear hs h3 hx
  go_enter Try.func61, Try.ntmps61
  go_wp2_with fail
  go_loop [5, 6, 7] (fun q r i => ∃ (k : Nat) (a u : Int), k ≤ 9 ∧ i = .int .i64 k ∧ q = .int .u64 a ∧ r = .int .u64 u ∧ 0 ≤ a ∧ a ≤ 18446744073709551615 ∧ 1 ≤ u ∧ u ≤ 9223372036854775808 ∧ k ≤ xs.length ∧ Hid (u = 128 ^ k ∧ a < 128 ^ k ∧ takeGo (xs.drop k) k a (128 ^ k) = takeV xs)) (fun _ _ i => 10 - (intOf i).toNat)
  case atStart => exact ⟨0, 0, 1, by omega, rfl, rfl, rfl, by omega, by omega, by omega, by omega, by omega, ⟨rfl, by decide, rfl⟩⟩
  case round =>
    obtain ⟨k, a, u, hk9, rfl, rfl, rfl, a0, a1, u0, u1, hk, HT⟩ := hrel
    by_cases hlt : k < xs.length
    · obtain ⟨g, o, rfl, -, hcell⟩ := H3.out k hlt
      obtain ⟨c, hc⟩ : ∃ c, xs[k]? = some c := ⟨xs[k], List.getElem?_eq_getElem hlt⟩
      obtain ⟨c0, c1⟩ := HX.out c (List.mem_of_getElem? hc)
      have hcell' : w.cell? ⟨g, o + k, none⟩ = some (.int .u8 c) := by rw [hcell]; simp [byt, hc]
      have HD : Hid (takeV xs = if k = 9 ∧ 1 < c then (0, 0, 5) else if 128 ≤ c then takeGo (xs.drop (k + 1)) (k + 1) (a + c % 128 * 128 ^ k) (128 ^ k * 128) else if c = 0 ∧ 0 < k then (0, 0, 9) else (a + c % 128 * 128 ^ k, k + 1, 0)) := by
        show _ = _
        rw [← HT.out.2.2, List.drop_eq_getElem_cons hlt, (List.getElem_eq_iff hlt).2 hc]; rfl
      have OV := Lib.hid (or_var k a (c % 128) hk9 a0 HT.out.2.1 (by omega) (by omega))
      clear hcell hc
      by_cases h9 : k = 9 ∧ 1 < c
      · have HE := Lib.hid (HD.out.trans (if_pos h9))
        obtain ⟨rfl, h9⟩ := h9
        clear HD OV
        go_wp2_with fail
        go_ret3
        exact ⟨ret_three (by rw [HE.out]) (by rw [HE.out]) (by rw [HE.out]), rfl⟩
      · have h9' : k < 9 ∨ c ≤ 1 := by omega
        have HD2 := Lib.hid (HD.out.trans (if_neg h9))
        have OW := Lib.hid (OV.out (fun h => by omega))
        have hm0 : 0 ≤ c % 128 * 128 ^ k := Int.mul_nonneg (by omega) (Int.le_of_lt (Int.pow_pos (by decide)))
        have hm1 : a + c % 128 * 128 ^ k ≤ 18446744073709551615 := OW.out.2.1
        have hm2 := wrap_u64_in (c % 128 * 128 ^ k) hm0 (by omega)
        obtain ⟨m, hm⟩ : ∃ m, c % 128 * 128 ^ k = m := ⟨_, rfl⟩
        rw [← HT.out.1] at hm2
        rw [hm] at hm0 hm1 HD2 OW
        have hmu : IntKind.u64.wrap (c % 128 * u) = m := by rw [hm2, HT.out.1]; exact hm
        have HM := Lib.hid hm
        clear HD OV h9 hm hm2
        by_cases h128 : 128 ≤ c
        · have hlt9 : k < 9 := by omega
          have hn9 : ((k : Int) == 9) = false := by simp; omega
          have HE := Lib.hid (HD2.out.trans (if_pos h128))
          have u2 : u ≤ 72057594037927936 := by rw [HT.out.1]; exact (pow128 k hk9).2.2 hlt9
          have HG : Hid (u * 128 = 128 ^ (k + 1) ∧ a + m < 128 ^ (k + 1) ∧ takeGo (xs.drop (k + 1)) (k + 1) (a + m) (128 ^ (k + 1)) = takeV xs) := ⟨by rw [HT.out.1, Int.pow_succ], OW.out.2.2 hlt9, by rw [Int.pow_succ]; exact HE.out.symm⟩
          clear HD2 OW HE h9'
          go_wp2_with fail
          go_round
          case rel => exact ⟨k + 1, a + m, u * 128, by omega, by go_num, rfl, rfl, by omega, hm1, by omega, by omega, by omega, HG⟩
          case measure => simp [intOf]; omega
        · have HD3 := Lib.hid (HD2.out.trans (if_neg h128))
          clear OW HD2
          by_cases hz : c = 0 ∧ 0 < k
          · have HE := Lib.hid (HD3.out.trans (if_pos hz))
            obtain ⟨hc0, hz⟩ := hz
            have hc1 : (c == 0) = true := by simpa using hc0
            clear HD3
            have hn9 : k = 9 ∨ ((k : Int) == 9) = false := by rcases Nat.lt_or_ge k 9 with h | h; exact .inr (by simp; omega); exact .inl (by omega)
            have hc2 : c < 1 := by omega
            clear hc0
            rcases hn9 with rfl | hn9
            all_goals
              go_wp2_with fail
              go_ret3
              exact ⟨ret_three (by rw [HE.out]) (by rw [HE.out]) (by rw [HE.out]), rfl⟩
          · have HE := Lib.hid (HD3.out.trans (if_neg hz))
            clear HD3
            by_cases hc0 : c = 0
            · have hk0 : ¬ 0 < k := fun h => hz ⟨hc0, h⟩
              have hk1 : decide (0 < k) = false := by simpa using hk0
              have hn9 : ((k : Int) == 9) = false := by simp; omega
              have hc1 : (c == 0) = true := by simpa using hc0
              have hc2 : c < 1 := by omega
              clear hz hc0
              go_wp2_with fail
              go_ret3
              exact ⟨ret_three (by rw [HE.out]) (by rw [HE.out]) (by rw [HE.out]), rfl⟩
            · have hc1 : (c == 0) = false := by simpa using hc0
              have hn9 : k = 9 ∨ ((k : Int) == 9) = false := by rcases Nat.lt_or_ge k 9 with h | h; exact .inr (by simp; omega); exact .inl (by omega)
              clear hz hc0
              rcases hn9 with rfl | hn9
              all_goals
                go_wp2_with fail
                go_ret3
                exact ⟨ret_three (by rw [HE.out]) (by first | (rw [HE.out]; done) | (rw [HE.out]; rfl)) (by rw [HE.out]), rfl⟩
    · obtain rfl : k = xs.length := by omega
      have HE : Hid (takeV xs = (0, 0, 2)) := by show _ = _; rw [← HT.out.2.2, List.drop_length]; rfl
      go_wp2_with fail
      go_ret3
      exact ⟨ret_three (by rw [HE.out]) (by rw [HE.out]) (by rw [HE.out]), rfl⟩
end Go.Proofs.Ytjaabakobpabjaa
