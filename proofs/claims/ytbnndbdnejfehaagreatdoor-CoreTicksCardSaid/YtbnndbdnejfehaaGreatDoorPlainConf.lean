import Derived.Laws.Entries
/- The plain law of sets of nodes: numbers below 2^16 as sets of bits; no program in sight. -/
namespace Go.Proofs.YtbnndbdnejfehaaGreatDoor
open Go

def tb (s : Int) (i : Nat) : Bool := s.toNat.testBit i

theorem wrap_u16 (n : Int) : IntKind.u16.wrap n = n % 65536 := by simp [IntKind.wrap, IntKind.bits, IntKind.signed]
theorem bits_fit (op : BinOp) (a b : Int) : 0 ≤ bits op .u16 a b ∧ bits op .u16 a b ≤ 65535 := by
  unfold bits; rw [wrap_u16]; omega

theorem ofInt_bit (a : Int) (h0 : 0 ≤ a) (i : Nat) (hi : i < 16) : (BitVec.ofInt 16 a).getLsbD i = tb a i := by
  obtain ⟨n, rfl⟩ := Int.eq_ofNat_of_zero_le h0
  rw [BitVec.ofInt_natCast, BitVec.getLsbD_ofNat]
  simp [tb, hi]

theorem tb_of (v : BitVec 16) (i : Nat) : tb (IntKind.u16.wrap (v.toNat : Int)) i = v.getLsbD i := by
  have h := v.isLt
  rw [wrap_u16, show ((v.toNat : Int) % 65536) = (v.toNat : Int) by omega]
  simp [tb, BitVec.getLsbD]

theorem tb_high (s : Int) (h : s ≤ 65535) (i : Nat) (hi : 16 ≤ i) : tb s i = false := by
  unfold tb
  apply Nat.testBit_lt_two_pow
  calc s.toNat < 2 ^ 16 := by omega
    _ ≤ 2 ^ i := Nat.pow_le_pow_right (by omega) hi

theorem tb_ext (a b : Int) (ha : 0 ≤ a) (hb : 0 ≤ b) (ha' : a ≤ 65535) (hb' : b ≤ 65535) (h : ∀ i, i < 16 → tb a i = tb b i) : a = b := by
  have : a.toNat = b.toNat := by
    apply Nat.eq_of_testBit_eq
    intro i
    by_cases hi : i < 16
    · exact h i hi
    · have h1 := tb_high a ha' i (by omega)
      have h2 := tb_high b hb' i (by omega)
      unfold tb at h1 h2; rw [h1, h2]
  omega

theorem tb_and (a b : Int) (ha : 0 ≤ a) (hb : 0 ≤ b) (i : Nat) (hi : i < 16) : tb (bits .and .u16 a b) i = (tb a i && tb b i) := by
  show tb (IntKind.u16.wrap ((BitVec.ofInt 16 a &&& BitVec.ofInt 16 b).toNat : Int)) i = _
  rw [tb_of, BitVec.getLsbD_and, ofInt_bit a ha i hi, ofInt_bit b hb i hi]
theorem tb_or (a b : Int) (ha : 0 ≤ a) (hb : 0 ≤ b) (i : Nat) (hi : i < 16) : tb (bits .or .u16 a b) i = (tb a i || tb b i) := by
  show tb (IntKind.u16.wrap ((BitVec.ofInt 16 a ||| BitVec.ofInt 16 b).toNat : Int)) i = _
  rw [tb_of, BitVec.getLsbD_or, ofInt_bit a ha i hi, ofInt_bit b hb i hi]
theorem tb_andNot (a b : Int) (ha : 0 ≤ a) (hb : 0 ≤ b) (i : Nat) (hi : i < 16) : tb (bits .andNot .u16 a b) i = (tb a i && !tb b i) := by
  show tb (IntKind.u16.wrap ((BitVec.ofInt 16 a &&& ~~~ BitVec.ofInt 16 b).toNat : Int)) i = _
  rw [tb_of, BitVec.getLsbD_and, BitVec.getLsbD_not, ofInt_bit a ha i hi, ofInt_bit b hb i hi]; simp [hi]

/-- One bit, of a node. -/
def oneB (n : Int) : Int := if n < 1 ∨ 9 < n then 0 else 2 ^ n.toNat
/-- Whether a node is in. -/
def hasB (s n : Int) : Bool := decide (1 ≤ n) && (decide (n ≤ 9) && tb s n.toNat)

theorem oneB_fit (n : Int) : 0 ≤ oneB n ∧ oneB n ≤ 512 := by
  unfold oneB
  split
  · omega
  · rename_i h
    have : n.toNat = 1 ∨ n.toNat = 2 ∨ n.toNat = 3 ∨ n.toNat = 4 ∨ n.toNat = 5 ∨ n.toNat = 6 ∨ n.toNat = 7 ∨ n.toNat = 8 ∨ n.toNat = 9 := by omega
    rcases this with h | h | h | h | h | h | h | h | h <;> rw [h] <;> decide

theorem tb_oneB (n : Int) (i : Nat) : tb (oneB n) i = (decide (1 ≤ n) && decide (n ≤ 9) && decide (n.toNat = i)) := by
  unfold oneB
  split
  · rename_i h
    simp [tb]; omega
  · rename_i h
    have h1 : 1 ≤ n := by omega
    have h2 : n ≤ 9 := by omega
    have e : ((2 : Int) ^ n.toNat).toNat = 2 ^ n.toNat := by
      have : ((2 : Int) ^ n.toNat) = ((2 ^ n.toNat : Nat) : Int) := by simp
      rw [this]; rfl
    unfold tb; rw [e]; simp [h1, h2, Nat.testBit_two_pow]

theorem oneB_zero (n : Int) : (oneB n == 0) = !(decide (1 ≤ n) && decide (n ≤ 9)) := by
  unfold oneB
  split
  · rename_i h; simp; omega
  · rename_i h
    have h1 : 1 ≤ n := by omega
    have h2 : n ≤ 9 := by omega
    have : (2:Int) ^ n.toNat ≠ 0 := by
      have := Int.pow_pos (n := 2) (m := n.toNat) (by decide); omega
    simp [h1, h2, this]

/-- 's & one(n) != 0'. -/
theorem has_one (s n : Int) (h0 : 0 ≤ s) : (bits .and .u16 s (oneB n) != 0) = hasB s n := by
  have hf := bits_fit .and s (oneB n)
  have ho := oneB_fit n
  by_cases hn : 1 ≤ n ∧ n ≤ 9
  · obtain ⟨h1, h2⟩ := hn
    have e : bits .and .u16 s (oneB n) = if tb s n.toNat then oneB n else 0 := by
      apply tb_ext _ _ hf.1 (by split <;> omega) hf.2 (by split <;> omega)
      intro i hi
      rw [tb_and _ _ h0 ho.1 i hi, tb_oneB]
      by_cases hs : tb s n.toNat
      · rw [if_pos hs, tb_oneB]; by_cases e : n.toNat = i
        · subst e; simp [hs]
        · simp [e]
      · have hs' : tb s n.toNat = false := by simpa using hs
        have z : tb 0 i = false := by simp [tb]
        rw [if_neg hs, z]; by_cases e : n.toNat = i
        · subst e; rw [hs']; rfl
        · simp [e]
    rw [e]
    have hz := oneB_zero n
    by_cases hs : tb s n.toNat
    · rw [if_pos hs]; simp [hasB, h1, h2, hs] at hz ⊢; exact hz
    · rw [if_neg hs]; simp [hasB, hs]
  · have e : oneB n = 0 := by unfold oneB; rw [if_pos (by omega)]
    have e2 : hasB s n = false := by unfold hasB; simp; omega
    rw [e, e2]
    have : bits .and .u16 s 0 = 0 := by
      have hf := bits_fit .and s 0
      apply tb_ext _ _ hf.1 (by omega) hf.2 (by omega)
      intro i hi; rw [tb_and _ _ h0 (by omega) i hi]; simp [tb]
    rw [this]; rfl

theorem tb_with (s n : Int) (h0 : 0 ≤ s) (i : Nat) (hi : i < 16) : tb (bits .or .u16 s (oneB n)) i = (tb s i || (decide (1 ≤ n) && decide (n ≤ 9) && decide (n.toNat = i))) := by
  rw [tb_or _ _ h0 (oneB_fit n).1 i hi, tb_oneB]
theorem tb_less (s n : Int) (h0 : 0 ≤ s) (i : Nat) (hi : i < 16) : tb (bits .andNot .u16 s (oneB n)) i = (tb s i && !(decide (1 ≤ n) && decide (n ≤ 9) && decide (n.toNat = i))) := by
  rw [tb_andNot _ _ h0 (oneB_fit n).1 i hi, tb_oneB]

theorem tb_every (i : Nat) : tb 1022 i = (decide (1 ≤ i) && decide (i ≤ 9)) := by
  by_cases h : i < 16
  · have : i = 0 ∨ i = 1 ∨ i = 2 ∨ i = 3 ∨ i = 4 ∨ i = 5 ∨ i = 6 ∨ i = 7 ∨ i = 8 ∨ i = 9 ∨ i = 10 ∨ i = 11 ∨ i = 12 ∨ i = 13 ∨ i = 14 ∨ i = 15 := by omega
    rcases this with h | h | h | h | h | h | h | h | h | h | h | h | h | h | h | h <;> subst h <;> rfl
  · rw [tb_high 1022 (by omega) i (by omega)]; symm; simp; omega

theorem oneB_pos (n : Int) (h1 : 1 ≤ n) (h2 : n ≤ 9) : 1 ≤ oneB n := by
  have := oneB_zero n
  have h := oneB_fit n
  rw [decide_eq_true h1, decide_eq_true h2] at this
  simp at this; omega

theorem div_bit (s n : Int) (h0 : 0 ≤ s) (h1 : 1 ≤ n) (h2 : n ≤ 9) : (s / oneB n % 2 == 1) = hasB s n := by
  obtain ⟨m, rfl⟩ := Int.eq_ofNat_of_zero_le h0
  have e : oneB n = ((2 ^ n.toNat : Nat) : Int) := by unfold oneB; rw [if_neg (by omega)]; simp
  rw [e]
  unfold hasB tb
  rw [Nat.testBit_eq_decide_div_mod_eq, decide_eq_true h1, decide_eq_true h2]
  have : ((m : Int) / ((2 ^ n.toNat : Nat) : Int) % 2) = ((m / 2 ^ n.toNat % 2 : Nat) : Int) := by simp
  rw [this, Int.toNat_natCast]
  generalize m / 2 ^ n.toNat % 2 = q
  by_cases h : q = 1
  · subst h; rfl
  · have h' : ¬ ((q : Int) = 1) := by omega
    simp [h, h']

theorem ofInt_toNat (a : Int) (h0 : 0 ≤ a) (h1 : a ≤ 65535) : (BitVec.ofInt 16 a).toNat = a.toNat := by
  obtain ⟨n, rfl⟩ := Int.eq_ofNat_of_zero_le h0
  rw [BitVec.ofInt_natCast, BitVec.toNat_ofNat]; omega

theorem bv_ext (a b : Int) (h0 : 0 ≤ a) (h1 : a ≤ 65535) (h0' : 0 ≤ b) (h1' : b ≤ 65535) (h : BitVec.ofInt 16 a = BitVec.ofInt 16 b) : a = b := by
  have := congrArg BitVec.toNat h
  rw [ofInt_toNat a h0 h1, ofInt_toNat b h0' h1'] at this; omega

theorem ofInt_bits_or (a b : Int) : BitVec.ofInt 16 (bits .or .u16 a b) = BitVec.ofInt 16 a ||| BitVec.ofInt 16 b := by
  apply BitVec.eq_of_toNat_eq
  have hf := bits_fit .or a b
  rw [ofInt_toNat _ hf.1 hf.2]
  show (IntKind.u16.wrap ((BitVec.ofInt 16 a ||| BitVec.ofInt 16 b).toNat : Int)).toNat = _
  have := (BitVec.ofInt 16 a ||| BitVec.ofInt 16 b).isLt
  rw [wrap_u16]; omega
theorem wrap_fit (n : Int) : 0 ≤ IntKind.u16.wrap n ∧ IntKind.u16.wrap n ≤ 65535 := by rw [wrap_u16]; omega
theorem ofInt_wrap (n : Int) : BitVec.ofInt 16 (IntKind.u16.wrap n) = BitVec.ofInt 16 n := by
  apply BitVec.eq_of_toNat_eq
  rw [wrap_u16, BitVec.toNat_ofInt, BitVec.toNat_ofInt]
  simp

/-- With a node: as a sum. -/
theorem with_sum (s n : Int) (h0 : 0 ≤ s) (hn : 1 ≤ n) (hn' : n ≤ 9) (h : hasB s n = false) : IntKind.u16.wrap (s + oneB n) = bits .or .u16 s (oneB n) := by
  have hf := bits_fit .or s (oneB n)
  have hw := wrap_fit (s + oneB n)
  apply bv_ext _ _ hw.1 hw.2 hf.1 hf.2
  rw [ofInt_bits_or, ofInt_wrap, BitVec.ofInt_add]
  apply BitVec.add_eq_or_of_and_eq_zero
  apply BitVec.eq_of_getLsbD_eq
  intro i hi
  rw [BitVec.getLsbD_and, ofInt_bit s h0 i hi, ofInt_bit _ (oneB_fit n).1 i hi, tb_oneB]
  unfold hasB at h
  rw [decide_eq_true hn, decide_eq_true hn'] at h
  simp at h
  by_cases e : n.toNat = i
  · subst e; rw [h]; simp
  · simp [e]

theorem with_has (s n : Int) (h0 : 0 ≤ s) (h1 : s ≤ 65535) (h : hasB s n = true) : bits .or .u16 s (oneB n) = s := by
  have hf := bits_fit .or s (oneB n)
  apply tb_ext _ _ hf.1 h0 hf.2 h1
  intro i hi
  rw [tb_with s n h0 i hi]
  unfold hasB at h
  simp at h
  by_cases e : n.toNat = i
  · subst e; rw [h.2.2]; simp
  · simp [e]

theorem or_zero (s : Int) (h0 : 0 ≤ s) (h1 : s ≤ 65535) : bits .or .u16 s 0 = s := by
  have hf := bits_fit .or s 0
  apply tb_ext _ _ hf.1 h0 hf.2 h1
  intro i hi
  rw [tb_or _ _ h0 (by omega) i hi]; simp [tb]
theorem oneB_out (n : Int) (h : ¬ (1 ≤ n ∧ n ≤ 9)) : oneB n = 0 := by unfold oneB; rw [if_pos (by omega)]

/-- The reference's With, whatever the number. -/
theorem with_ref (s n : Int) (h0 : 0 ≤ s) (h1 : s ≤ 65535) (h : hasB s n = false) : IntKind.u16.wrap (s + oneB n) = bits .or .u16 s (oneB n) := by
  by_cases hn : 1 ≤ n ∧ n ≤ 9
  · exact with_sum s n h0 hn.1 hn.2 h
  · rw [oneB_out n hn, or_zero s h0 h1, wrap_u16]; omega

/-- The nodes of a set, from 1 to k. -/
def lst (s : Int) : Nat → List Int
  | 0 => []
  | k + 1 => lst s k ++ if hasB s ((k : Int) + 1) then [(k : Int) + 1] else []
/-- How many. -/
def cnt (s : Int) : Int := (lst s 9).length
theorem lst_le (s : Int) (k : Nat) : (lst s k).length ≤ k := by
  induction k with
  | zero => simp [lst]
  | succ k ih => simp only [lst, List.length_append]; split <;> simp <;> omega
theorem lst_hit (s : Int) (k : Nat) (h : hasB s ((k : Int) + 1) = true) : lst s (k + 1) = lst s k ++ [(k : Int) + 1] := by simp [lst, h]
theorem lst_miss (s : Int) (k : Nat) (h : hasB s ((k : Int) + 1) = false) : lst s (k + 1) = lst s k := by simp [lst, h]

theorem hasB_tb (s : Int) (n : Nat) (h1 : 1 ≤ n) (h2 : n ≤ 9) : hasB s n = tb s n := by
  unfold hasB; rw [decide_eq_true (by omega), decide_eq_true (by omega)]; simp

/-- The intersection, of nodes alone. -/
def meetB (a b : Int) : Int := bits .and .u16 (bits .and .u16 a b) 1022
/-- The union, of nodes alone. -/
def joinB (a b : Int) : Int := bits .and .u16 (bits .or .u16 a b) 1022
theorem meetB_fit (a b : Int) : 0 ≤ meetB a b ∧ meetB a b ≤ 65535 := bits_fit _ _ _
theorem joinB_fit (a b : Int) : 0 ≤ joinB a b ∧ joinB a b ≤ 65535 := bits_fit _ _ _
theorem tb_meetB (a b : Int) (ha : 0 ≤ a) (hb : 0 ≤ b) (i : Nat) (hi : i < 16) : tb (meetB a b) i = (tb a i && tb b i && (decide (1 ≤ i) && decide (i ≤ 9))) := by
  unfold meetB
  rw [tb_and _ _ (bits_fit _ _ _).1 (by omega) i hi, tb_and _ _ ha hb i hi, tb_every]
theorem tb_joinB (a b : Int) (ha : 0 ≤ a) (hb : 0 ≤ b) (i : Nat) (hi : i < 16) : tb (joinB a b) i = ((tb a i || tb b i) && (decide (1 ≤ i) && decide (i ≤ 9))) := by
  unfold joinB
  rw [tb_and _ _ (bits_fit _ _ _).1 (by omega) i hi, tb_or _ _ ha hb i hi, tb_every]

/-- What a loop over the nodes has gathered behind k of them: those that f tells. -/
def gat (f : Int → Bool) : Nat → Int
  | 0 => 0
  | k + 1 => if f ((k : Int) + 1) then bits .or .u16 (gat f k) (oneB ((k : Int) + 1)) else gat f k
theorem gat_fit (f : Int → Bool) (k : Nat) : 0 ≤ gat f k ∧ gat f k ≤ 65535 := by
  induction k with
  | zero => simp [gat]
  | succ k ih => unfold gat; split; exact bits_fit _ _ _; exact ih
theorem gat_hit (f : Int → Bool) (k : Nat) (h : f ((k : Int) + 1) = true) : gat f (k + 1) = bits .or .u16 (gat f k) (oneB ((k : Int) + 1)) := by simp [gat, h]
theorem gat_miss (f : Int → Bool) (k : Nat) (h : f ((k : Int) + 1) = false) : gat f (k + 1) = gat f k := by simp [gat, h]
theorem tb_gat (f : Int → Bool) (k : Nat) (hk : k ≤ 9) (i : Nat) (hi : i < 16) : tb (gat f k) i = (decide (1 ≤ i) && decide (i ≤ k) && f i) := by
  induction k with
  | zero => simp [gat, tb]; omega
  | succ k ih =>
    have e1 : ((k : Int) + 1).toNat = k + 1 := by omega
    unfold gat
    split
    · rename_i h
      rw [tb_with _ _ (gat_fit f k).1 i hi, ih (by omega), e1]
      rw [decide_eq_true (show (1 : Int) ≤ (k : Int) + 1 by omega), decide_eq_true (show (k : Int) + 1 ≤ 9 by omega)]
      by_cases e : k + 1 = i
      · subst e
        simp [h]
      · have : decide (i ≤ k + 1) = decide (i ≤ k) := by rw [decide_eq_decide]; omega
        rw [this]; simp [e]
    · rename_i h
      rw [ih (by omega)]
      by_cases e : k + 1 = i
      · subst e
        have h' : f ((k : Int) + 1) = false := by simpa using h
        simp [h']
      · have : decide (i ≤ k + 1) = decide (i ≤ k) := by rw [decide_eq_decide]; omega
        rw [this]
theorem gat_meet (a b : Int) (ha : 0 ≤ a) (hb : 0 ≤ b) : gat (fun n => hasB a n && hasB b n) 9 = meetB a b := by
  have h1 := gat_fit (fun n => hasB a n && hasB b n) 9
  have h2 := meetB_fit a b
  apply tb_ext _ _ h1.1 h2.1 h1.2 h2.2
  intro i hi
  rw [tb_gat _ _ (by omega) i hi, tb_meetB a b ha hb i hi]
  by_cases e : 1 ≤ i ∧ i ≤ 9
  · rw [hasB_tb a i e.1 e.2, hasB_tb b i e.1 e.2]; simp [e.1, e.2]
  · have : (decide (1 ≤ i) && decide (i ≤ 9)) = false := by simp; omega
    rw [this]; simp
theorem gat_join (a b : Int) (ha : 0 ≤ a) (hb : 0 ≤ b) : gat (fun n => hasB a n || hasB b n) 9 = joinB a b := by
  have h1 := gat_fit (fun n => hasB a n || hasB b n) 9
  have h2 := joinB_fit a b
  apply tb_ext _ _ h1.1 h2.1 h1.2 h2.2
  intro i hi
  rw [tb_gat _ _ (by omega) i hi, tb_joinB a b ha hb i hi]
  by_cases e : 1 ≤ i ∧ i ≤ 9
  · rw [hasB_tb a i e.1 e.2, hasB_tb b i e.1 e.2]; simp [e.1, e.2]
  · have : (decide (1 ≤ i) && decide (i ≤ 9)) = false := by simp; omega
    rw [this]; simp

/-- The sum of the bits of a list of nodes: 'May's loop. -/
def sumB : List Int → Int
  | [] => 0
  | x :: r => oneB x + sumB r
theorem sumB_snoc (l : List Int) (x : Int) : sumB (l ++ [x]) = sumB l + oneB x := by
  induction l with
  | nil => simp [sumB]
  | cons y r ih => simp [sumB, ih]; omega
theorem sumB_bound (l : List Int) : 0 ≤ sumB l ∧ sumB l ≤ 512 * l.length := by
  induction l with
  | nil => simp [sumB]
  | cons x r ih => have := oneB_fit x; simp [sumB]; omega
/-- The sum of the first k nodes' bits is what the set gathers of them. -/
theorem sumB_gat (s : Int) (k : Nat) (hk : k ≤ 9) : sumB (lst s k) = gat (hasB s) k := by
  induction k with
  | zero => rfl
  | succ k ih =>
    have ih := ih (by omega)
    cases hb : hasB s ((k : Int) + 1)
    · rw [lst_miss s k hb, gat_miss _ k hb, ih]
    · rw [lst_hit s k hb, gat_hit _ k hb, sumB_snoc, ih]
      have hf := gat_fit (hasB s) k
      have hn : hasB (gat (hasB s) k) ((k : Int) + 1) = false := by
        unfold hasB
        have e1 : ((k : Int) + 1).toNat = k + 1 := by omega
        rw [e1, tb_gat _ k (by omega) (k + 1) (by omega)]
        simp; intro _ _ _; omega
      rw [← with_sum _ _ hf.1 (by omega) (by omega) hn, wrap_u16]
      have h1 := sumB_bound (lst s k)
      have h2 := lst_le s k
      have h3 := oneB_fit ((k : Int) + 1)
      rw [← ih]; omega
theorem gat_self (s : Int) (h0 : 0 ≤ s) : gat (hasB s) 9 = bits .and .u16 s 1022 := by
  have h1 := gat_fit (hasB s) 9
  have h2 := bits_fit .and s 1022
  apply tb_ext _ _ h1.1 h2.1 h1.2 h2.2
  intro i hi
  rw [tb_gat _ _ (by omega) i hi, tb_and _ _ h0 (by omega) i hi, tb_every]
  by_cases e : 1 ≤ i ∧ i ≤ 9
  · rw [hasB_tb s i e.1 e.2]; simp [e.1, e.2]
  · have : (decide (1 ≤ i) && decide (i ≤ 9)) = false := by simp; omega
    rw [this]; simp
/-- Nodes alone. -/
def mayB (s : Int) : Bool := bits .andNot .u16 s 1022 == 0
theorem mayB_iff (s : Int) (h0 : 0 ≤ s) : mayB s = true ↔ ∀ i, i < 16 → tb s i = true → 1 ≤ i ∧ i ≤ 9 := by
  unfold mayB
  have hf := bits_fit .andNot s 1022
  constructor
  · intro h i hi ht
    have h := beq_iff_eq.1 h
    have := tb_andNot s 1022 h0 (by omega) i hi
    rw [h, ht, tb_every] at this
    simp [tb] at this
    omega
  · intro h
    rw [beq_iff_eq]
    apply tb_ext _ _ hf.1 (by omega) hf.2 (by omega)
    intro i hi
    rw [tb_andNot s 1022 h0 (by omega) i hi, tb_every]
    have := h i hi
    cases ht : tb s i
    · simp [tb]
    · have := this ht; simp [tb, this.1, this.2]
theorem mayB_and (s : Int) (h0 : 0 ≤ s) (h1 : s ≤ 65535) : (bits .and .u16 s 1022 == s) = mayB s := by
  have h2 := bits_fit .and s 1022
  rw [Bool.eq_iff_iff, mayB_iff s h0, beq_iff_eq]
  constructor
  · intro h i hi ht
    have := tb_and s 1022 h0 (by omega) i hi
    rw [h, ht, tb_every] at this
    simpa using this
  · intro h
    apply tb_ext _ _ h2.1 h0 h2.2 h1
    intro i hi
    rw [tb_and s 1022 h0 (by omega) i hi, tb_every]
    cases ht : tb s i
    · simp
    · have := h i hi ht; simp [this.1, this.2]
/-- What the reference's May comes to. -/
theorem may_ref (s : Int) (h0 : 0 ≤ s) (h1 : s ≤ 65535) : (sumB (lst s 9) == s) = mayB s := by
  rw [sumB_gat s 9 (by omega), gat_self s h0, mayB_and s h0 h1]
end Go.Proofs.YtbnndbdnejfehaaGreatDoor
/- The plain law of quorums: counting nodes; no program in sight. -/
namespace Go.Proofs.YtbnndbdnejfehaaGreatDoor
open Go

/-- How many of the numbers from 1 to k f tells. -/
def bs (f : Nat → Bool) : Nat → Nat
  | 0 => 0
  | k + 1 => bs f k + (f (k + 1)).toNat
theorem bs_congr {f g : Nat → Bool} (k : Nat) (h : ∀ i, 1 ≤ i → i ≤ k → f i = g i) : bs f k = bs g k := by
  induction k with
  | zero => simp [bs]
  | succ k ih => simp only [bs]; rw [ih (fun i h1 h2 => h i h1 (by omega)), h (k + 1) (by omega) (by omega)]
theorem bs_zero {f : Nat → Bool} (k : Nat) (h : ∀ i, 1 ≤ i → i ≤ k → f i = false) : bs f k = 0 := by
  induction k with
  | zero => simp [bs]
  | succ k ih => simp only [bs]; rw [ih (fun i h1 h2 => h i h1 (by omega)), h (k + 1) (by omega) (by omega)]; rfl
theorem bs_pos {f : Nat → Bool} (k i : Nat) (h1 : 1 ≤ i) (h2 : i ≤ k) (h : f i = true) : 0 < bs f k := by
  induction k with
  | zero => omega
  | succ k ih =>
    simp only [bs]
    by_cases e : i = k + 1
    · subst e; rw [h]; simp
    · have := ih (by omega); omega
theorem lst_bs (s : Int) (k : Nat) (hk : k ≤ 9) : (lst s k).length = bs (tb s) k := by
  induction k with
  | zero => simp [lst, bs]
  | succ k ih =>
    have e := hasB_tb s (k + 1) (by omega) hk
    have e1 : ((k : Int) + 1) = ((k + 1 : Nat) : Int) := by omega
    simp only [lst, bs, List.length_append, ih (by omega)]
    rw [e1, e]
    cases tb s (k + 1) <;> simp
theorem cnt_bs (s : Int) : cnt s = bs (tb s) 9 := by unfold cnt; rw [lst_bs s 9 (by omega)]
theorem bs_max (f : Nat → Bool) (k : Nat) : bs f k ≤ k := by
  induction k with
  | zero => simp [bs]
  | succ k ih => simp only [bs]; cases f (k + 1) <;> simp <;> omega

/-- Whether a configuration may be: the program's tests. -/
def mayC (v x l e k : Int) : Bool :=
  mayB v && (mayB x && (mayB l && (bits .and .u16 v x == 0 && (bits .and .u16 v l == 0 && (bits .and .u16 x l == 0 && (v != 0 &&
    (decide (1 ≤ e) && (decide (e ≤ cnt (bits .or .u16 v x)) && (decide (1 ≤ k) && (decide (k ≤ cnt (bits .or .u16 v x)) &&
      (decide (cnt (bits .or .u16 v x) - k < e) && decide (cnt (bits .or .u16 v x) - e < e))))))))))))
/-- What mayC says. -/
structure May (v x l e k : Int) : Prop where
  mv : mayB v = true
  mx : mayB x = true
  ml : mayB l = true
  vx : bits .and .u16 v x = 0
  vl : bits .and .u16 v l = 0
  xl : bits .and .u16 x l = 0
  ne : v ≠ 0
  e1 : 1 ≤ e
  en : e ≤ cnt (bits .or .u16 v x)
  k1 : 1 ≤ k
  kn : k ≤ cnt (bits .or .u16 v x)
  ek : cnt (bits .or .u16 v x) < e + k
  ee : cnt (bits .or .u16 v x) < e + e
theorem mayC_iff (v x l e k : Int) : mayC v x l e k = true ↔ May v x l e k := by
  constructor
  · intro h
    simp [mayC] at h
    exact ⟨h.1, h.2.1, h.2.2.1, h.2.2.2.1, h.2.2.2.2.1, h.2.2.2.2.2.1, h.2.2.2.2.2.2.1, by omega, by omega, by omega, by omega, by omega, by omega⟩
  · intro h
    obtain ⟨h1, h2, h3, h4, h5, h6, h7, h8, h9, h10, h11, h12, h13⟩ := h
    simp only [mayC, h1, h2, h3, h4, h5, h6, Bool.true_and, beq_self_eq_true, bne_iff_ne, ne_eq, Bool.and_eq_true, decide_eq_true_eq]
    exact ⟨h7, by omega, by omega, by omega, by omega, by omega, by omega⟩

/-- Whether a set is enough to elect, to commit, by one configuration; by a joint. -/
def electsC (cv cx _cl ce _ck g : Int) : Bool := decide (ce ≤ cnt (bits .and .u16 (bits .or .u16 cv cx) g))
def commitsC (cv cx _cl _ce ck g : Int) : Bool := decide (ck ≤ cnt (bits .and .u16 (bits .or .u16 cv cx) g)) && decide (0 < cnt (bits .and .u16 cv g))
def electsJ (jov jox jol joe jok jnv jnx jnl jne jnk : Int) (jt : Bool) (g : Int) : Bool := electsC jov jox jol joe jok g && (!jt || electsC jnv jnx jnl jne jnk g)
def commitsJ (jov jox jol joe jok jnv jnx jnl jne jnk : Int) (jt : Bool) (g : Int) : Bool := commitsC jov jox jol joe jok g && (!jt || commitsC jnv jnx jnl jne jnk g)
/-- Of a joint: one set, or both. -/
def pickB (t : Bool) (a b : Int) : Int := if t then bits .or .u16 a b else a
theorem pickB_0 (t : Bool) (a b : Int) (h : 0 ≤ a) : 0 ≤ pickB t a b := by unfold pickB; split; exact (bits_fit _ _ _).1; exact h
theorem pickB_1 (t : Bool) (a b : Int) (h : a ≤ 65535) : pickB t a b ≤ 65535 := by unfold pickB; split; exact (bits_fit _ _ _).2; exact h
def mayJ (jov jox jol joe jok jnv jnx jnl jne jnk : Int) (jt : Bool) : Bool :=
  if jt then mayC jov jox jol joe jok && mayC jnv jnx jnl jne jnk else mayC jov jox jol joe jok && (jnv == 0 && (jnx == 0 && (jnl == 0 && (jne == 0 && jnk == 0))))
theorem tb_zero (i : Nat) : tb 0 i = false := by simp [tb]
theorem cnt_zero : cnt 0 = 0 := by rw [cnt_bs, bs_zero 9 (fun i _ _ => tb_zero i)]; rfl
/-- A set of nodes that is not empty has a node. -/
theorem may_some (v : Int) (h0 : 0 ≤ v) (h1 : v ≤ 65535) (hm : mayB v = true) (hn : v ≠ 0) : ∃ i, 1 ≤ i ∧ i ≤ 9 ∧ tb v i = true := by
  apply Classical.byContradiction
  intro h
  apply hn
  apply tb_ext _ _ h0 (by omega) h1 (by omega)
  intro i hi
  rw [tb_zero]
  cases ht : tb v i
  · rfl
  · have := (mayB_iff v h0).1 hm i hi ht
    exact absurd ⟨i, this.1, this.2, ht⟩ h

theorem and_apart (a b : Int) (ha : 0 ≤ a) (hb : 0 ≤ b) (h : bits .and .u16 a b = 0) (i : Nat) (hi : i < 16) : (tb a i && tb b i) = false := by
  rw [← tb_and a b ha hb i hi, h, tb_zero]
/-- The numbers of a configuration fit. -/
structure FitC (v x l : Int) : Prop where
  v0 : 0 ≤ v
  v1 : v ≤ 65535
  x0 : 0 ≤ x
  x1 : x ≤ 65535
  l0 : 0 ≤ l
  l1 : l ≤ 65535
theorem mayJ_old (jov jox jol joe jok jnv jnx jnl jne jnk : Int) (jt : Bool) (h : mayJ jov jox jol joe jok jnv jnx jnl jne jnk jt = true) : May jov jox jol joe jok := by
  rw [← mayC_iff]; unfold mayJ at h; split at h <;> simp at h <;> exact h.1
theorem mayJ_new (jov jox jol joe jok jnv jnx jnl jne jnk : Int) (h : mayJ jov jox jol joe jok jnv jnx jnl jne jnk true = true) : May jnv jnx jnl jne jnk := by
  rw [← mayC_iff]; simp [mayJ] at h; exact h.2

/-- Whether a configuration may be: the reference's tests. -/
def refMayC (v x l e k : Int) : Bool :=
  mayB v && (mayB x && (mayB l && (cnt (joinB (joinB v x) l) == cnt v + cnt x + cnt l && (!(cnt v == 0) &&
    (decide (1 ≤ e) && (decide (e ≤ cnt (joinB v x)) && (decide (1 ≤ k) && (decide (k ≤ cnt (joinB v x)) &&
      (decide (cnt (joinB v x) < e + k) && decide (cnt (joinB v x) < 2 * e))))))))))
theorem bs_or (f g : Nat → Bool) (k : Nat) : bs (fun i => f i || g i) k + bs (fun i => f i && g i) k = bs f k + bs g k := by
  induction k with
  | zero => simp [bs]
  | succ k ih =>
    simp only [bs]
    cases f (k + 1) <;> cases g (k + 1) <;> simp <;> omega
theorem cnt_or (a b : Int) (ha : 0 ≤ a) (hb : 0 ≤ b) : cnt (bits .or .u16 a b) + cnt (bits .and .u16 a b) = cnt a + cnt b := by
  rw [cnt_bs, cnt_bs, cnt_bs, cnt_bs]
  have h1 := bs_congr (f := tb (bits .or .u16 a b)) (g := fun i => tb a i || tb b i) 9 (fun i h1 h2 => tb_or a b ha hb i (by omega))
  have h2 := bs_congr (f := tb (bits .and .u16 a b)) (g := fun i => tb a i && tb b i) 9 (fun i h1 h2 => tb_and a b ha hb i (by omega))
  have := bs_or (tb a) (tb b) 9
  omega
theorem may_or (a b : Int) (ha : 0 ≤ a) (hb : 0 ≤ b) (h1 : mayB a = true) (h2 : mayB b = true) : mayB (bits .or .u16 a b) = true := by
  rw [mayB_iff _ (bits_fit _ _ _).1]
  intro i hi ht
  rw [tb_or a b ha hb i hi] at ht
  simp at ht
  rcases ht with ht | ht
  · exact (mayB_iff a ha).1 h1 i hi ht
  · exact (mayB_iff b hb).1 h2 i hi ht
theorem may_and (a b : Int) (ha : 0 ≤ a) (hb : 0 ≤ b) (h1 : mayB a = true) : mayB (bits .and .u16 a b) = true := by
  rw [mayB_iff _ (bits_fit _ _ _).1]
  intro i hi ht
  rw [tb_and a b ha hb i hi] at ht
  simp at ht
  exact (mayB_iff a ha).1 h1 i hi ht.1
theorem join_or (a b : Int) (ha : 0 ≤ a) (hb : 0 ≤ b) (h1 : mayB a = true) (h2 : mayB b = true) : joinB a b = bits .or .u16 a b := by
  have h := may_or a b ha hb h1 h2
  have h3 := bits_fit .or a b
  rw [← mayB_and _ h3.1 h3.2] at h
  exact beq_iff_eq.1 h
theorem cnt_none (a : Int) (h0 : 0 ≤ a) (h1 : a ≤ 65535) (hm : mayB a = true) : cnt a = 0 ↔ a = 0 := by
  constructor
  · intro h
    apply Classical.byContradiction
    intro hn
    obtain ⟨i, h3, h4, h5⟩ := may_some a h0 h1 hm hn
    have := bs_pos 9 i h3 h4 h5
    rw [cnt_bs] at h; omega
  · intro h; rw [h, cnt_zero]
theorem cnt_nonneg (a : Int) : 0 ≤ cnt a ∧ cnt a ≤ 9 := by rw [cnt_bs]; have := bs_max (tb a) 9; omega
theorem bool_or_and : ∀ p q r : Bool, ((p || q) && r) = false → (p && r) = false ∧ (q && r) = false := by decide
theorem bool_and_or : ∀ p q r : Bool, (p && r) = false → (q && r) = false → ((p || q) && r) = false := by decide
/-- The reference's May is the program's. -/
theorem may_same (v x l e k : Int) (f : FitC v x l) : refMayC v x l e k = mayC v x l e k := by
  obtain ⟨v0, v1, x0, x1, l0, l1⟩ := f
  unfold refMayC mayC
  cases hv : mayB v
  · rfl
  cases hx : mayB x
  · rfl
  cases hl : mayB l
  · rfl
  simp only [Bool.true_and]
  have hvx := join_or v x v0 x0 hv hx
  have hm := may_or v x v0 x0 hv hx
  have ho := bits_fit .or v x
  rw [hvx, join_or _ l ho.1 l0 hm hl]
  have c1 := cnt_or v x v0 x0
  have c2 := cnt_or (bits .or .u16 v x) l ho.1 l0
  have n1 := cnt_nonneg (bits .and .u16 v x)
  have n2 := cnt_nonneg (bits .and .u16 (bits .or .u16 v x) l)
  have n3 := cnt_nonneg (bits .or .u16 v x)
  have z1 := cnt_none (bits .and .u16 v x) (bits_fit _ _ _).1 (bits_fit _ _ _).2 (may_and v x v0 x0 hv)
  have z2 := cnt_none (bits .and .u16 (bits .or .u16 v x) l) (bits_fit _ _ _).1 (bits_fit _ _ _).2 (may_and _ l ho.1 l0 hm)
  have z3 := cnt_none v v0 v1 hv
  have z4 : bits .and .u16 (bits .or .u16 v x) l = 0 ↔ (bits .and .u16 v l = 0 ∧ bits .and .u16 x l = 0) := by
    constructor
    · intro h
      have hb : ∀ i, i < 16 → (tb v i && tb l i) = false ∧ (tb x i && tb l i) = false := fun i hi => by
        have := and_apart _ l ho.1 l0 h i hi
        rw [tb_or v x v0 x0 i hi] at this
        exact bool_or_and _ _ _ this
      constructor
      · apply tb_ext _ _ (bits_fit _ _ _).1 (by omega) (bits_fit _ _ _).2 (by omega)
        intro i hi; rw [tb_and v l v0 l0 i hi, tb_zero, (hb i hi).1]
      · apply tb_ext _ _ (bits_fit _ _ _).1 (by omega) (bits_fit _ _ _).2 (by omega)
        intro i hi; rw [tb_and x l x0 l0 i hi, tb_zero, (hb i hi).2]
    · intro ⟨h1, h2⟩
      apply tb_ext _ _ (bits_fit _ _ _).1 (by omega) (bits_fit _ _ _).2 (by omega)
      intro i hi
      have a1 := and_apart v l v0 l0 h1 i hi
      have a2 := and_apart x l x0 l0 h2 i hi
      rw [tb_and _ l ho.1 l0 i hi, tb_or v x v0 x0 i hi, tb_zero]
      exact bool_and_or _ _ _ a1 a2
  rw [Bool.eq_iff_iff]
  simp only [Bool.and_eq_true, beq_iff_eq, Bool.not_eq_true', beq_eq_false_iff_ne, ne_eq, bne_iff_ne, decide_eq_true_eq]
  rw [← z1, ← z3]
  constructor
  · intro ⟨h1, h2, h3⟩
    have h4 : cnt (bits .and .u16 (bits .or .u16 v x) l) = 0 := by omega
    have h5 := z4.1 (z2.1 h4)
    exact ⟨by omega, h5.1, h5.2, h2, h3.1, h3.2.1, h3.2.2.1, h3.2.2.2.1, by omega, by omega⟩
  · intro ⟨h1, h2, h3, h4, h5, h6, h7, h8, h9, h10⟩
    have h11 := z2.2 (z4.2 ⟨h2, h3⟩)
    exact ⟨by omega, h4, h5, h6, h7, h8, by omega, by omega⟩
end Go.Proofs.YtbnndbdnejfehaaGreatDoor
