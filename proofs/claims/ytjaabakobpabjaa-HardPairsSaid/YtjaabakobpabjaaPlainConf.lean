/- The plain law of quorums: counting nodes; no program in sight. -/
import Derived.Test.YtjaabakobpabjaaPlainSets
namespace Go.Proofs.Ytjaabakobpabjaa
open Go

/-- How many of the numbers from 1 to k f tells. -/
def bs (f : Nat → Bool) : Nat → Nat
  | 0 => 0
  | k + 1 => bs f k + (f (k + 1)).toNat
theorem bs_congr {f g : Nat → Bool} (k : Nat) (h : ∀ i, 1 ≤ i → i ≤ k → f i = g i) : bs f k = bs g k := by
  induction k with
  | zero => simp [bs]
  | succ k ih => simp only [bs]; rw [ih (fun i h1 h2 => h i h1 (by omega)), h (k + 1) (by omega) (by omega)]
theorem bs_zero {f : Nat → Bool} (k : Nat) (h : ∀ i, 1 ≤ i → i ≤ k → f i = false) : bs f k = 0 := by
  induction k with
  | zero => simp [bs]
  | succ k ih => simp only [bs]; rw [ih (fun i h1 h2 => h i h1 (by omega)), h (k + 1) (by omega) (by omega)]; rfl
theorem bs_pos {f : Nat → Bool} (k i : Nat) (h1 : 1 ≤ i) (h2 : i ≤ k) (h : f i = true) : 0 < bs f k := by
  induction k with
  | zero => omega
  | succ k ih =>
    simp only [bs]
    by_cases e : i = k + 1
    · subst e; rw [h]; simp
    · have := ih (by omega); omega
theorem lst_bs (s : Int) (k : Nat) (hk : k ≤ 9) : (lst s k).length = bs (tb s) k := by
  induction k with
  | zero => simp [lst, bs]
  | succ k ih =>
    have e := hasB_tb s (k + 1) (by omega) hk
    have e1 : ((k : Int) + 1) = ((k + 1 : Nat) : Int) := by omega
    simp only [lst, bs, List.length_append, ih (by omega)]
    rw [e1, e]
    cases tb s (k + 1) <;> simp
theorem cnt_bs (s : Int) : cnt s = bs (tb s) 9 := by unfold cnt; rw [lst_bs s 9 (by omega)]
theorem bs_max (f : Nat → Bool) (k : Nat) : bs f k ≤ k := by
  induction k with
  | zero => simp [bs]
  | succ k ih => simp only [bs]; cases f (k + 1) <;> simp <;> omega

/-- Whether a configuration may be: the program's tests. -/
def mayC (v x l e k : Int) : Bool :=
  mayB v && (mayB x && (mayB l && (bits .and .u16 v x == 0 && (bits .and .u16 v l == 0 && (bits .and .u16 x l == 0 && (v != 0 &&
    (decide (1 ≤ e) && (decide (e ≤ cnt (bits .or .u16 v x)) && (decide (1 ≤ k) && (decide (k ≤ cnt (bits .or .u16 v x)) &&
      (decide (cnt (bits .or .u16 v x) - k < e) && decide (cnt (bits .or .u16 v x) - e < e))))))))))))
/-- What mayC says. -/
structure May (v x l e k : Int) : Prop where
  mv : mayB v = true
  mx : mayB x = true
  ml : mayB l = true
  vx : bits .and .u16 v x = 0
  vl : bits .and .u16 v l = 0
  xl : bits .and .u16 x l = 0
  ne : v ≠ 0
  e1 : 1 ≤ e
  en : e ≤ cnt (bits .or .u16 v x)
  k1 : 1 ≤ k
  kn : k ≤ cnt (bits .or .u16 v x)
  ek : cnt (bits .or .u16 v x) < e + k
  ee : cnt (bits .or .u16 v x) < e + e
def mayJ (jov jox jol joe jok jnv jnx jnl jne jnk : Int) (jt : Bool) : Bool :=
  if jt then mayC jov jox jol joe jok && mayC jnv jnx jnl jne jnk else mayC jov jox jol joe jok && (jnv == 0 && (jnx == 0 && (jnl == 0 && (jne == 0 && jnk == 0))))
theorem tb_zero (i : Nat) : tb 0 i = false := by simp [tb]
theorem cnt_zero : cnt 0 = 0 := by rw [cnt_bs, bs_zero 9 (fun i _ _ => tb_zero i)]; rfl
/-- A set of nodes that is not empty has a node. -/
theorem may_some (v : Int) (h0 : 0 ≤ v) (h1 : v ≤ 65535) (hm : mayB v = true) (hn : v ≠ 0) : ∃ i, 1 ≤ i ∧ i ≤ 9 ∧ tb v i = true := by
  apply Classical.byContradiction
  intro h
  apply hn
  apply tb_ext _ _ h0 (by omega) h1 (by omega)
  intro i hi
  rw [tb_zero]
  cases ht : tb v i
  · rfl
  · have := (mayB_iff v h0).1 hm i hi ht
    exact absurd ⟨i, this.1, this.2, ht⟩ h

theorem and_apart (a b : Int) (ha : 0 ≤ a) (hb : 0 ≤ b) (h : bits .and .u16 a b = 0) (i : Nat) (hi : i < 16) : (tb a i && tb b i) = false := by
  rw [← tb_and a b ha hb i hi, h, tb_zero]
/-- The numbers of a configuration fit. -/
structure FitC (v x l : Int) : Prop where
  v0 : 0 ≤ v
  v1 : v ≤ 65535
  x0 : 0 ≤ x
  x1 : x ≤ 65535
  l0 : 0 ≤ l
  l1 : l ≤ 65535
/-- Whether a configuration may be: the reference's tests. -/
def refMayC (v x l e k : Int) : Bool :=
  mayB v && (mayB x && (mayB l && (cnt (joinB (joinB v x) l) == cnt v + cnt x + cnt l && (!(cnt v == 0) &&
    (decide (1 ≤ e) && (decide (e ≤ cnt (joinB v x)) && (decide (1 ≤ k) && (decide (k ≤ cnt (joinB v x)) &&
      (decide (cnt (joinB v x) < e + k) && decide (cnt (joinB v x) < 2 * e))))))))))
theorem bs_or (f g : Nat → Bool) (k : Nat) : bs (fun i => f i || g i) k + bs (fun i => f i && g i) k = bs f k + bs g k := by
  induction k with
  | zero => simp [bs]
  | succ k ih =>
    simp only [bs]
    cases f (k + 1) <;> cases g (k + 1) <;> simp <;> omega
theorem cnt_or (a b : Int) (ha : 0 ≤ a) (hb : 0 ≤ b) : cnt (bits .or .u16 a b) + cnt (bits .and .u16 a b) = cnt a + cnt b := by
  rw [cnt_bs, cnt_bs, cnt_bs, cnt_bs]
  have h1 := bs_congr (f := tb (bits .or .u16 a b)) (g := fun i => tb a i || tb b i) 9 (fun i h1 h2 => tb_or a b ha hb i (by omega))
  have h2 := bs_congr (f := tb (bits .and .u16 a b)) (g := fun i => tb a i && tb b i) 9 (fun i h1 h2 => tb_and a b ha hb i (by omega))
  have := bs_or (tb a) (tb b) 9
  omega
theorem may_or (a b : Int) (ha : 0 ≤ a) (hb : 0 ≤ b) (h1 : mayB a = true) (h2 : mayB b = true) : mayB (bits .or .u16 a b) = true := by
  rw [mayB_iff _ (bits_fit _ _ _).1]
  intro i hi ht
  rw [tb_or a b ha hb i hi] at ht
  simp at ht
  rcases ht with ht | ht
  · exact (mayB_iff a ha).1 h1 i hi ht
  · exact (mayB_iff b hb).1 h2 i hi ht
theorem may_and (a b : Int) (ha : 0 ≤ a) (hb : 0 ≤ b) (h1 : mayB a = true) : mayB (bits .and .u16 a b) = true := by
  rw [mayB_iff _ (bits_fit _ _ _).1]
  intro i hi ht
  rw [tb_and a b ha hb i hi] at ht
  simp at ht
  exact (mayB_iff a ha).1 h1 i hi ht.1
theorem join_or (a b : Int) (ha : 0 ≤ a) (hb : 0 ≤ b) (h1 : mayB a = true) (h2 : mayB b = true) : joinB a b = bits .or .u16 a b := by
  have h := may_or a b ha hb h1 h2
  have h3 := bits_fit .or a b
  rw [← mayB_and _ h3.1 h3.2] at h
  exact beq_iff_eq.1 h
theorem cnt_none (a : Int) (h0 : 0 ≤ a) (h1 : a ≤ 65535) (hm : mayB a = true) : cnt a = 0 ↔ a = 0 := by
  constructor
  · intro h
    apply Classical.byContradiction
    intro hn
    obtain ⟨i, h3, h4, h5⟩ := may_some a h0 h1 hm hn
    have := bs_pos 9 i h3 h4 h5
    rw [cnt_bs] at h; omega
  · intro h; rw [h, cnt_zero]
theorem cnt_nonneg (a : Int) : 0 ≤ cnt a ∧ cnt a ≤ 9 := by rw [cnt_bs]; have := bs_max (tb a) 9; omega
theorem bool_or_and : ∀ p q r : Bool, ((p || q) && r) = false → (p && r) = false ∧ (q && r) = false := by decide
theorem bool_and_or : ∀ p q r : Bool, (p && r) = false → (q && r) = false → ((p || q) && r) = false := by decide
/-- The reference's May is the program's. -/
theorem may_same (v x l e k : Int) (f : FitC v x l) : refMayC v x l e k = mayC v x l e k := by
  obtain ⟨v0, v1, x0, x1, l0, l1⟩ := f
  unfold refMayC mayC
  cases hv : mayB v
  · rfl
  cases hx : mayB x
  · rfl
  cases hl : mayB l
  · rfl
  simp only [Bool.true_and]
  have hvx := join_or v x v0 x0 hv hx
  have hm := may_or v x v0 x0 hv hx
  have ho := bits_fit .or v x
  rw [hvx, join_or _ l ho.1 l0 hm hl]
  have c1 := cnt_or v x v0 x0
  have c2 := cnt_or (bits .or .u16 v x) l ho.1 l0
  have n1 := cnt_nonneg (bits .and .u16 v x)
  have n2 := cnt_nonneg (bits .and .u16 (bits .or .u16 v x) l)
  have n3 := cnt_nonneg (bits .or .u16 v x)
  have z1 := cnt_none (bits .and .u16 v x) (bits_fit _ _ _).1 (bits_fit _ _ _).2 (may_and v x v0 x0 hv)
  have z2 := cnt_none (bits .and .u16 (bits .or .u16 v x) l) (bits_fit _ _ _).1 (bits_fit _ _ _).2 (may_and _ l ho.1 l0 hm)
  have z3 := cnt_none v v0 v1 hv
  have z4 : bits .and .u16 (bits .or .u16 v x) l = 0 ↔ (bits .and .u16 v l = 0 ∧ bits .and .u16 x l = 0) := by
    constructor
    · intro h
      have hb : ∀ i, i < 16 → (tb v i && tb l i) = false ∧ (tb x i && tb l i) = false := fun i hi => by
        have := and_apart _ l ho.1 l0 h i hi
        rw [tb_or v x v0 x0 i hi] at this
        exact bool_or_and _ _ _ this
      constructor
      · apply tb_ext _ _ (bits_fit _ _ _).1 (by omega) (bits_fit _ _ _).2 (by omega)
        intro i hi; rw [tb_and v l v0 l0 i hi, tb_zero, (hb i hi).1]
      · apply tb_ext _ _ (bits_fit _ _ _).1 (by omega) (bits_fit _ _ _).2 (by omega)
        intro i hi; rw [tb_and x l x0 l0 i hi, tb_zero, (hb i hi).2]
    · intro ⟨h1, h2⟩
      apply tb_ext _ _ (bits_fit _ _ _).1 (by omega) (bits_fit _ _ _).2 (by omega)
      intro i hi
      have a1 := and_apart v l v0 l0 h1 i hi
      have a2 := and_apart x l x0 l0 h2 i hi
      rw [tb_and _ l ho.1 l0 i hi, tb_or v x v0 x0 i hi, tb_zero]
      exact bool_and_or _ _ _ a1 a2
  rw [Bool.eq_iff_iff]
  simp only [Bool.and_eq_true, beq_iff_eq, Bool.not_eq_true', beq_eq_false_iff_ne, ne_eq, bne_iff_ne, decide_eq_true_eq]
  rw [← z1, ← z3]
  constructor
  · intro ⟨h1, h2, h3⟩
    have h4 : cnt (bits .and .u16 (bits .or .u16 v x) l) = 0 := by omega
    have h5 := z4.1 (z2.1 h4)
    exact ⟨by omega, h5.1, h5.2, h2, h3.1, h3.2.1, h3.2.2.1, h3.2.2.2.1, by omega, by omega⟩
  · intro ⟨h1, h2, h3, h4, h5, h6, h7, h8, h9, h10⟩
    have h11 := z2.2 (z4.2 ⟨h2, h3⟩)
    exact ⟨by omega, h4, h5, h6, h7, h8, by omega, by omega⟩
end Go.Proofs.Ytjaabakobpabjaa
