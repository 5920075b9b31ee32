import Derived.Test.YtjaabakobpabjaaNums
import Derived.Test.YtjaabakobpabjaaLogD
/- Contracts: how numbers in seven bits a byte are read, by package bits. -/
namespace Go.Proofs.Ytjaabakobpabjaa
open Go.RowKit

theorem andNot_more (c : Int) (h0 : 0 ≤ c) (h1 : c ≤ 255) : bits .andNot .u8 c 128 = c % 128 := by
  obtain ⟨n, rfl⟩ := Int.eq_ofNat_of_zero_le h0
  have h : n < 256 := by omega
  have : ∀ k : Fin 256, bits .andNot .u8 (k.val : Int) 128 = (k.val : Int) % 128 := by decide +kernel
  exact this ⟨n, h⟩

theorem or_add (m y k : Nat) (h : y < 2 ^ k) : (m * 2 ^ k) ||| y = m * 2 ^ k + y := by
  rw [Nat.mul_comm]; exact (Nat.two_pow_add_eq_or_of_lt h m).symm
theorem or_u64 (x y : Nat) (hx : x < 2 ^ 64) (hy : y < 2 ^ 64) : bits .or .u64 x y = ((x ||| y : Nat) : Int) := by
  have e : bits .or .u64 x y = IntKind.u64.wrap (((BitVec.ofInt 64 x ||| BitVec.ofInt 64 y).toNat : Nat) : Int) := rfl
  have hor : x ||| y < 2 ^ 64 := Nat.or_lt_two_pow hx hy
  have ex : (BitVec.ofInt 64 (x : Int)).toNat = x := by rw [BitVec.toNat_ofInt]; omega
  have ey : (BitVec.ofInt 64 (y : Int)).toNat = y := by rw [BitVec.toNat_ofInt]; omega
  rw [e, BitVec.toNat_or, ex, ey]
  have hw : ∀ n : Int, 0 ≤ n → n < 2 ^ 64 → IntKind.u64.wrap n = n := fun n h0 h1 => by simp [IntKind.wrap, IntKind.bits, IntKind.signed]; omega
  exact hw _ (by omega) (by omega)
theorem or_var (k : Nat) (a d : Int) (hk : k ≤ 9) (a0 : 0 ≤ a) (a1 : a < 128 ^ k) (d0 : 0 ≤ d) (d1 : d ≤ 127) (d9 : k = 9 → d ≤ 1) :
    bits .or .u64 a (IntKind.u64.wrap (d * 2 ^ (7 * k))) = a + d * 128 ^ k ∧ a + d * 128 ^ k ≤ 18446744073709551615 ∧ (k < 9 → a + d * 128 ^ k < 128 ^ (k + 1)) := by
  obtain ⟨a, rfl⟩ := Int.eq_ofNat_of_zero_le a0
  obtain ⟨d, rfl⟩ := Int.eq_ofNat_of_zero_le d0
  have e : (128 : Int) ^ k = ((2 ^ (7 * k) : Nat) : Int) := by rw [Nat.pow_mul]; simp
  have e2 : (2 : Int) ^ (7 * k) = ((2 ^ (7 * k) : Nat) : Int) := by simp
  have hp : 2 ^ (7 * k) ≤ (if k = 9 then 2 ^ 63 else 2 ^ 56) ∧ 0 < 2 ^ (7 * k) := by
    have : k = 0 ∨ k = 1 ∨ k = 2 ∨ k = 3 ∨ k = 4 ∨ k = 5 ∨ k = 6 ∨ k = 7 ∨ k = 8 ∨ k = 9 := by omega
    rcases this with h | h | h | h | h | h | h | h | h | h <;> subst h <;> decide
  have ha : a < 2 ^ (7 * k) := by rw [e] at a1; exact Int.ofNat_lt.1 a1
  have hor := or_add d a (7 * k) ha
  rw [Int.pow_succ, e, e2]
  generalize 2 ^ (7 * k) = p at hp ha hor
  have hd : d * p ≤ (if k = 9 then 1 else 127) * p := Nat.mul_le_mul_right p (by split <;> omega)
  have hlt : d * p + a < 2 ^ 64 := by split at hd <;> rename_i h <;> simp only [h, if_true, if_false] at hp <;> omega
  have hw : IntKind.u64.wrap ((d : Int) * (p : Int)) = ((d * p : Nat) : Int) := by
    simp [IntKind.wrap, IntKind.bits, IntKind.signed]; rw [← Int.natCast_mul]; omega
  rw [hw]
  refine ⟨?_, ?_, ?_⟩
  · rw [or_u64 a (d * p) (by omega) (by omega), Nat.or_comm, hor]; simp; omega
  · rw [← Int.natCast_mul]; omega
  · intro h9
    rw [← Int.natCast_mul]
    rw [if_neg (by omega)] at hd
    omega
theorem ret_three {k k' k'' : IntKind} {a a' b b' c c' : Int} (h : a = a') (g : b = b') (f : c = c') : Ending.returned (.tuple #[.int k a, .int k' b, .int k'' c]) = .returned (.tuple #[.int k a', .int k' b', .int k'' c']) := by rw [h, g, f]

set_option maxRecDepth 100000 in
set_option maxHeartbeats 4000000 in
theorem takeVar_any (B : Nat) (v : Value) (xs : List Int) (hx : ∀ x ∈ xs, 0 ≤ x ∧ x ≤ 255) (w : World) (hs : Sl B w v 1 xs.length (byt xs)) :
    Calls Try.prog 54 #[v] w fun e w' => e = .returned (.tuple #[.int .u64 (takeV xs).1, .int .i64 (takeV xs).2.1, .int .i64 (takeV xs).2.2]) ∧ w = w' := by
  obtain ⟨p, cap, rfl, h1, h2, -, h3⟩ := hs.form
  have H3 := Lib.hid h3
  have HX := Lib.hid hx
  unfold maxLen at h2
  clear hs h3 hx
  go_enter Try.func54, Try.ntmps54
  go_wp2_with fail
  go_loop [2, 9] (fun q i => ∃ (k : Nat) (a : Int), k ≤ xs.length ∧ k ≤ 9 ∧ i = .int .i64 k ∧ q = .int .u64 a ∧ 0 ≤ a ∧ a ≤ 18446744073709551615 ∧ Hid (a < 128 ^ k ∧ takeGo (xs.drop k) k a (128 ^ k) = takeV xs)) (fun _ i => xs.length - (intOf i).toNat)
  case atStart => exact ⟨0, 0, by omega, by omega, rfl, rfl, by omega, by omega, ⟨by decide, rfl⟩⟩
  case round =>
    obtain ⟨k, a, hk, hk9, rfl, rfl, a0, a1, HT⟩ := hrel
    by_cases hlt : k < xs.length
    · obtain ⟨g, o, rfl, -, hcell⟩ := H3.out k hlt
      obtain ⟨c, hc⟩ : ∃ c, xs[k]? = some c := ⟨xs[k], List.getElem?_eq_getElem hlt⟩
      obtain ⟨c0, c1⟩ := HX.out c (List.mem_of_getElem? hc)
      have hcell' : w.cell? ⟨g, o + k, none⟩ = some (.int .u8 c) := by rw [hcell]; simp [byt, hc]
      have HD : Hid (takeV xs = if k = 9 ∧ 1 < c then (0, 0, 5) else if 128 ≤ c then takeGo (xs.drop (k + 1)) (k + 1) (a + c % 128 * 128 ^ k) (128 ^ k * 128) else if c = 0 ∧ 0 < k then (0, 0, 9) else (a + c % 128 * 128 ^ k, k + 1, 0)) := by
        show _ = _
        rw [← HT.out.2, List.drop_eq_getElem_cons hlt, (List.getElem_eq_iff hlt).2 hc]; rfl
      have hn := andNot_more c c0 c1
      have m0 : 0 ≤ 7 * (k : Int) := by omega
      have m1 : 7 * (k : Int) ≤ 63 := by omega
      have OV := Lib.hid (or_var k a (c % 128) hk9 a0 HT.out.1 (by omega) (by omega))
      clear hcell hc
      by_cases h9 : k = 9 ∧ 1 < c
      · have HE := Lib.hid (HD.out.trans (if_pos h9))
        obtain ⟨rfl, h9⟩ := h9
        clear HD OV
        go_wp2_with fail
        go_ret3
        exact ⟨ret_three (by rw [HE.out]) (by rw [HE.out]) (by rw [HE.out]), rfl⟩
      · have h9' : k < 9 ∨ c ≤ 1 := by omega
        have HD2 := Lib.hid (HD.out.trans (if_neg h9))
        have OW := Lib.hid (OV.out (fun h => by omega))
        clear HD OV h9
        by_cases h128 : 128 ≤ c
        · have hlt9 : k < 9 := by omega
          have hn9 : ((k : Int) == 9) = false := by simp; omega
          have HE := Lib.hid (HD2.out.trans (if_pos h128))
          have hor := OW.out.1
          have b0 : 0 ≤ a + c % 128 * 128 ^ k := Int.add_nonneg a0 (Int.mul_nonneg (by omega) (Int.le_of_lt (Int.pow_pos (by decide))))
          have HF := Lib.hid (And.intro b0 OW.out.2.1)
          have HG : Hid (a + c % 128 * 128 ^ k < 128 ^ (k + 1) ∧ takeGo (xs.drop (k + 1)) (k + 1) (a + c % 128 * 128 ^ k) (128 ^ (k + 1)) = takeV xs) := ⟨OW.out.2.2 hlt9, by rw [Int.pow_succ]; exact HE.out.symm⟩
          obtain ⟨y, hy⟩ : ∃ y, a + c % 128 * 128 ^ k = y := ⟨_, rfl⟩
          rw [hy] at hor HF HG
          clear hy b0 HD2 OW HE h9'
          go_wp2_with fail
          go_round
          case rel => exact ⟨k + 1, y, by omega, by omega, by go_num, rfl, HF.out.1, HF.out.2, HG⟩
          case measure => simp [intOf]; omega
        · have HD3 := Lib.hid (HD2.out.trans (if_neg h128))
          have hor := OW.out.1
          obtain ⟨y, hy⟩ : ∃ y, a + c % 128 * 128 ^ k = y := ⟨_, rfl⟩
          rw [hy] at hor HD3
          clear hy OW HD2
          by_cases hz : c = 0 ∧ 0 < k
          · have HE := Lib.hid (HD3.out.trans (if_pos hz))
            obtain ⟨rfl, hz⟩ := hz
            clear HD3
            have hn9 : k = 9 ∨ ((k : Int) == 9) = false := by rcases Nat.lt_or_ge k 9 with h | h; exact .inr (by simp; omega); exact .inl (by omega)
            rcases hn9 with rfl | hn9
            all_goals
              go_wp2_with fail
              go_ret3
              exact ⟨ret_three (by rw [HE.out]) (by rw [HE.out]) (by rw [HE.out]), rfl⟩
          · have HE := Lib.hid (HD3.out.trans (if_neg hz))
            clear HD3
            by_cases hc0 : c = 0
            · have hk0 : ¬ 0 < k := fun h => hz ⟨hc0, h⟩
              have hk1 : decide (0 < k) = false := by simpa using hk0
              have hn9 : ((k : Int) == 9) = false := by simp; omega
              subst hc0
              have hw : IntKind.u64.wrap ((0 : Int) % 128 * 2 ^ (7 * k)) = 0 := by rw [Int.zero_emod, Int.zero_mul]; decide
              rw [hw] at hor
              have HO := Lib.hid hor
              clear hz hor hw
              go_wp2_with fail
              go_ret3
              exact ⟨ret_three (by rw [HE.out]; exact HO.out) (by rw [HE.out]) (by rw [HE.out]), rfl⟩
            · have hc1 : (c == 0) = false := by simpa using hc0
              have hn9 : k = 9 ∨ ((k : Int) == 9) = false := by rcases Nat.lt_or_ge k 9 with h | h; exact .inr (by simp; omega); exact .inl (by omega)
              rcases hn9 with rfl | hn9
              · obtain rfl : c = 1 := by omega
                have hw : IntKind.u64.wrap ((1 : Int) % 128 * 2 ^ (7 * 9)) = 9223372036854775808 := by decide
                rw [hw] at hor
                have HO := Lib.hid hor
                clear hz hc0 hor hw
                go_wp2_with fail
                go_ret3
                exact ⟨ret_three (by rw [HE.out]; exact HO.out) (by rw [HE.out]; rfl) (by rw [HE.out]), rfl⟩
              · clear hz hc0
                go_wp2_with fail
                go_ret3
                exact ⟨ret_three (by rw [HE.out]) (by rw [HE.out]) (by rw [HE.out]), rfl⟩
    · obtain rfl : k = xs.length := by omega
      have HE : Hid (takeV xs = (0, 0, 2)) := by show _ = _; rw [← HT.out.2, List.drop_length]; rfl
      go_wp2_with fail
      go_ret3
      exact ⟨ret_three (by rw [HE.out]) (by rw [HE.out]) (by rw [HE.out]), rfl⟩
end Go.Proofs.Ytjaabakobpabjaa
/- Contracts: how numbers in seven bits a byte are read, by the reference. -/
namespace Go.Proofs.Ytjaabakobpabjaa
open Go.RowKit

end Go.Proofs.Ytjaabakobpabjaa
/- Contracts: how texts behind their length are read, by package bits and by its reference. -/
namespace Go.Proofs.Ytjaabakobpabjaa
open Go.ChangeShapes Go.WideShapes Go.ChangeAt Go.RowKit

/-- What bytes read as: the text, how many bytes, the error. -/
def textR (xs : List Int) : List Int × Int × Int :=
  if (takeV xs).2.2 ≠ 0 then ([], 0, (takeV xs).2.2)
  else if 1048576 < (takeV xs).1 then ([], 0, 3)
  else if (xs.length : Int) - (takeV xs).2.1 < (takeV xs).1 then ([], 0, 2)
  else ((xs.drop (takeV xs).2.1.toNat).take (takeV xs).1.toNat, (takeV xs).2.1 + (takeV xs).1, 0)
theorem textR_eq (xs : List Int) {t1 t2 t3 : Int} (h : takeV xs = (t1, t2, t3)) : textR xs = if t3 ≠ 0 then ([], 0, t3) else if 1048576 < t1 then ([], 0, 3) else if (xs.length : Int) - t2 < t1 then ([], 0, 2) else ((xs.drop t2.toNat).take t1.toNat, t2 + t1, 0) := by
  unfold textR; rw [h]
def TextEnd (w : World) (r : List Int × Int × Int) (e : Ending) (w' : World) : Prop :=
  ∃ v', e = .returned (.tuple #[v', .int .i64 r.2.1, .int .i64 r.2.2]) ∧ w'.ownsRow w.heap.size 5 1 v' r.1.length (byt r.1) ∧ Below w.heap.size w w'
theorem textEnd_nil {w w' : World} {r : List Int × Int × Int} {n er : Int} (h : r = ([], n, er)) (hb : Below w.heap.size w w') : TextEnd w r (.returned (.tuple #[.slice none 0 0, .int .i64 n, .int .i64 er])) w' := by
  subst h; exact ⟨_, rfl, ⟨rfl, .inl ⟨rfl, rfl⟩⟩, hb⟩
set_option maxRecDepth 100000 in
set_option maxHeartbeats 4000000 in
theorem takeText_any (B : Nat) (v : Value) (xs : List Int) (hx : ∀ x ∈ xs, 0 ≤ x ∧ x ≤ 255) (w : World) (hs : Sl B w v 1 xs.length (byt xs)) (hB : B ≤ w.heap.size) (_hb : (xs.length : Int) ≤ 140737488355300) :
    Calls Try.prog 81 #[v] w (TextEnd w (textR xs)) := by
  have HT := Lib.hid (takeVar_any B v xs hx w hs)
  have HO := takeGo_ok xs 0 0 1 (by omega) hx (by omega) (by omega) rfl
  have HS := Lib.hid hs
  obtain ⟨p, cap, rfl, h1, h2, -, h3⟩ := hs.form
  have H3 := Lib.hid h3
  unfold maxLen at h2
  clear hs h3
  obtain ⟨t, ht⟩ : ∃ t, takeV xs = t := ⟨_, rfl⟩
  unfold takeV at ht HT
  rw [ht] at HT HO
  obtain ⟨t1, t2, t3⟩ := t
  have HR := Lib.hid (textR_eq xs ht)
  clear ht
  obtain ⟨p0, p1, q0, q1, r0, r1⟩ := HO
  simp only [] at p0 p1 q0 q1 r0 r1
  by_cases he : t3 = 0
  · subst he
    by_cases hg : 1048576 < t1
    · have HE : Hid (textR xs = ([], 0, 3)) := by show _ = _; rw [HR.out]; simp [hg]
      clear HR
      go_enter Try.func81, Try.ntmps81
      go_wp2_with fail
      refine HT.out.mono ?_; rintro e w' ⟨rfl, rfl⟩
      go_wp2_with fail
      go_ret3
      exact textEnd_nil HE.out (Below.refl _ _)
    · by_cases hl : (xs.length : Int) - t2 < t1
      · have HE : Hid (textR xs = ([], 0, 2)) := by show _ = _; rw [HR.out]; simp [hg, hl]
        clear HR
        go_enter Try.func81, Try.ntmps81
        go_wp2_with fail
        refine HT.out.mono ?_; rintro e w' ⟨rfl, rfl⟩
        go_wp2_with fail
        go_ret3
        exact textEnd_nil HE.out (Below.refl _ _)
      · obtain ⟨m, rfl⟩ := Int.eq_ofNat_of_zero_le q0
        obtain ⟨q, rfl⟩ := Int.eq_ofNat_of_zero_le p0
        have HE : Hid (textR xs = ((xs.drop m).take q, (m : Int) + q, 0)) := by show _ = _; rw [HR.out]; simp [hg, hl]
        clear HR
        go_enter Try.func81, Try.ntmps81
        go_wp2_with fail
        refine HT.out.mono ?_; rintro e w' ⟨rfl, rfl⟩
        go_wp2_with fail
        all_goals
          refine (room_any B _ ((xs.drop m).take q) 0 _ (by first | exact HS.out.part (by omega) rfl | exact HS.out.part0 (by omega) (by omega) rfl rfl) hB (by omega) (by rw [part_len (by omega)]; omega)).mono ?_; rintro e w1 ⟨v1, rfl, hown, hb1⟩
          go_wp2_with fail
          go_ret3
          rw [HE.out]
          exact ⟨v1, rfl, hown, hb1⟩
  · have HE : Hid (textR xs = ([], 0, t3)) := by show _ = _; rw [HR.out]; simp [he]
    have he' : (t3 != 0) = true := by simpa using he
    clear HR he
    go_enter Try.func81, Try.ntmps81
    go_wp2_with fail
    refine HT.out.mono ?_; rintro e w' ⟨rfl, rfl⟩
    go_wp2_with fail
    go_ret3
    exact textEnd_nil HE.out (Below.refl _ _)
end Go.Proofs.Ytjaabakobpabjaa
