/- The plain law of meeting quorums: all of them, one by one, against the program's reckoning; no program in sight. -/
import Derived.Test.YtaaagidooieejaaPlainConf2
namespace Go.Proofs.Ytaaagidooieejaa
open Go

/-- Whether v is one of the sets that are told of s. -/
def subP (s v : Int) : Bool := mayB v && (meetB v s == v)
/-- The sets below k that are told. -/
def subs (s : Int) : Nat → List Int
  | 0 => []
  | k + 1 => subs s k ++ if subP s (k : Int) then [(k : Int)] else []
theorem subs_hit (s : Int) (k : Nat) (h : subP s (k : Int) = true) : subs s (k + 1) = subs s k ++ [(k : Int)] := by simp [subs, h]
theorem subs_miss (s : Int) (k : Nat) (h : subP s (k : Int) = false) : subs s (k + 1) = subs s k := by simp [subs, h]
theorem subs_le (s : Int) (k : Nat) : (subs s k).length ≤ k := by
  induction k with
  | zero => simp [subs]
  | succ k ih => simp only [subs, List.length_append]; split <;> simp <;> omega
theorem subs_mem (s : Int) (k : Nat) (v : Int) : v ∈ subs s k ↔ 0 ≤ v ∧ v < k ∧ subP s v = true := by
  induction k with
  | zero => simp [subs]; omega
  | succ k ih =>
    simp only [subs, List.mem_append, ih]
    constructor
    · rintro (⟨h1, h2, h3⟩ | h)
      · exact ⟨h1, by omega, h3⟩
      · split at h
        · rename_i hp
          simp at h; subst h; exact ⟨by omega, by omega, hp⟩
        · simp at h
    · rintro ⟨h1, h2, h3⟩
      by_cases e : v = k
      · right; subst e; rw [if_pos h3]; simp
      · left; exact ⟨h1, by omega, h3⟩
/-- Of a list, those that have so many nodes. -/
def quals (n : Int) (l : List Int) : List Int := l.filter fun x => cnt x == n
theorem quals_hit (n : Int) (l : List Int) (x : Int) (h : (cnt x == n) = true) : quals n (l ++ [x]) = quals n l ++ [x] := by simp [quals, List.filter_append, h]
theorem quals_miss (n : Int) (l : List Int) (x : Int) (h : (cnt x == n) = false) : quals n (l ++ [x]) = quals n l := by simp [quals, List.filter_append, h]
/-- All quorums of a set. -/
def qs (s n : Int) : List Int := quals n (subs s 1024)
theorem qs_fit (s n : Int) (x : Int) (h : x ∈ qs s n) : 0 ≤ x ∧ x ≤ 65535 := by
  have := (List.mem_filter.1 h).1
  have := (subs_mem s 1024 x).1 this
  omega
/-- The reference's Meet. -/
def pairsB (x y : List Int) : Bool := x.all fun p => y.all fun q => !(meetB p q == 0)

theorem pick (g : Nat → Bool) (k n : Nat) (h : n ≤ bs g k) : ∃ f : Nat → Bool, (∀ i, f i = true → 1 ≤ i ∧ i ≤ k ∧ g i = true) ∧ bs f k = n := by
  induction k generalizing n with
  | zero => exact ⟨fun _ => false, by simp, by simp [bs] at h ⊢; omega⟩
  | succ k ih =>
    by_cases hn : n ≤ bs g k
    · obtain ⟨f, h1, h2⟩ := ih n hn
      have hz : f (k + 1) = false := by
        cases e : f (k + 1)
        · rfl
        · have := h1 _ e; omega
      exact ⟨f, fun i hi => by have := h1 i hi; exact ⟨this.1, by omega, this.2.2⟩, by simp [bs, h2, hz]⟩
    · have hb := h
      simp only [bs] at hb
      have hg : g (k + 1) = true := by
        cases e : g (k + 1)
        · rw [e] at hb; simp at hb; omega
        · rfl
      rw [hg] at hb; simp at hb
      obtain ⟨f, h1, h2⟩ := ih (bs g k) (Nat.le_refl _)
      refine ⟨fun i => f i || decide (i = k + 1), fun i hi => ?_, ?_⟩
      · simp at hi
        rcases hi with hi | hi
        · have := h1 i hi; exact ⟨this.1, by omega, this.2.2⟩
        · subst hi; exact ⟨by omega, by omega, hg⟩
      · simp only [bs]
        rw [bs_congr (g := f) k (fun i h1 h2 => by simp; intro h; omega), h2]
        simp; omega

/-- A choice of nodes as a set. -/
def ofF (f : Nat → Bool) : Int := gat (fun n => f n.toNat) 9
theorem tb_ofF (f : Nat → Bool) (h : ∀ i, f i = true → 1 ≤ i ∧ i ≤ 9) (i : Nat) (hi : i < 16) : tb (ofF f) i = f i := by
  unfold ofF
  rw [tb_gat _ 9 (by omega) i hi]
  show (decide (1 ≤ i) && decide (i ≤ 9) && f ((i : Int)).toNat) = f i
  rw [Int.toNat_natCast]
  cases e : f i
  · simp
  · have := h i e; simp [this.1, this.2]
theorem ofF_fit (f : Nat → Bool) : 0 ≤ ofF f ∧ ofF f ≤ 65535 := gat_fit _ _
theorem ofF_lt (f : Nat → Bool) (h : ∀ i, f i = true → 1 ≤ i ∧ i ≤ 9) : ofF f < 1024 := by
  have hf := ofF_fit f
  have e : bits .and .u16 (ofF f) 1022 = ofF f := by
    apply tb_ext _ _ (bits_fit _ _ _).1 hf.1 (bits_fit _ _ _).2 hf.2
    intro i hi
    rw [tb_and _ _ hf.1 (by omega) i hi, tb_every, tb_ofF f h i hi]
    cases e : f i
    · simp
    · have := h i e; simp [this.1, this.2]
  have e2 : (bits .and .u16 (ofF f) 1022).toNat = (BitVec.ofInt 16 (ofF f)).toNat &&& 1022 := by
    show (IntKind.u16.wrap ((BitVec.ofInt 16 (ofF f) &&& BitVec.ofInt 16 1022).toNat : Int)).toNat = _
    have h1 := (BitVec.ofInt 16 (ofF f) &&& BitVec.ofInt 16 1022).isLt
    rw [wrap_u16, show (((BitVec.ofInt 16 (ofF f) &&& BitVec.ofInt 16 1022).toNat : Int) % 65536).toNat = (BitVec.ofInt 16 (ofF f) &&& BitVec.ofInt 16 1022).toNat by omega, BitVec.toNat_and]
    rfl
  have : (BitVec.ofInt 16 (ofF f)).toNat &&& 1022 ≤ 1022 := Nat.and_le_right
  omega
theorem cnt_ofF (f : Nat → Bool) (h : ∀ i, f i = true → 1 ≤ i ∧ i ≤ 9) : cnt (ofF f) = bs f 9 := by
  rw [cnt_bs, bs_congr 9 (fun i h1 h2 => tb_ofF f h i (by omega))]
theorem ofF_sub (f : Nat → Bool) (s : Int) (s0 : 0 ≤ s) (h : ∀ i, f i = true → 1 ≤ i ∧ i ≤ 9 ∧ tb s i = true) : ofF f ∈ subs s 1024 := by
  have h' : ∀ i, f i = true → 1 ≤ i ∧ i ≤ 9 := fun i hi => ⟨(h i hi).1, (h i hi).2.1⟩
  have hf := ofF_fit f
  refine (subs_mem s 1024 _).2 ⟨hf.1, ofF_lt f h', ?_⟩
  unfold subP
  rw [Bool.and_eq_true]
  refine ⟨(mayB_iff _ hf.1).2 fun i hi ht => h' i (by rw [tb_ofF f h' i hi] at ht; exact ht), ?_⟩
  rw [beq_iff_eq]
  apply tb_ext _ _ (meetB_fit _ _).1 hf.1 (meetB_fit _ _).2 hf.2
  intro i hi
  rw [tb_meetB _ _ hf.1 s0 i hi, tb_ofF f h' i hi]
  cases e : f i
  · simp
  · have := h i e; simp [this.1, this.2.1, this.2.2]

theorem sub_bits (s v : Int) (s0 : 0 ≤ s) (h : v ∈ subs s 1024) (i : Nat) (hi : i < 16) (ht : tb v i = true) : tb s i = true ∧ 1 ≤ i ∧ i ≤ 9 := by
  obtain ⟨h0, h1, h2⟩ := (subs_mem s 1024 v).1 h
  unfold subP at h2
  rw [Bool.and_eq_true, beq_iff_eq] at h2
  have := tb_meetB v s h0 s0 i hi
  rw [h2.2, ht] at this
  simp at this
  omega

theorem bs_split (f g : Nat → Bool) (k : Nat) : bs f k = bs (fun i => f i && g i) k + bs (fun i => f i && !g i) k := by
  induction k with
  | zero => simp [bs]
  | succ k ih => simp only [bs, ih]; cases f (k + 1) <;> cases g (k + 1) <;> simp <;> omega

/-- Whether quorums meet: of all of them just if the reckoning says so. -/
theorem meet_plain (A B e k : Int) (A0 : 0 ≤ A) (B0 : 0 ≤ B) (e1 : 1 ≤ e) (en : e ≤ cnt A) (k1 : 1 ≤ k) (kn : k ≤ cnt B) :
    pairsB (qs A e) (qs B k) = decide (cnt B - k < max (e - cnt (bits .andNot .u16 A B)) 0) := by
  have hp : cnt (bits .andNot .u16 A B) = bs (fun i => tb A i && !tb B i) 9 := by
    rw [cnt_bs, bs_congr 9 (fun i h1 h2 => tb_andNot A B A0 B0 i (by omega))]
  have hA := bs_split (tb A) (tb B) 9
  rw [cnt_bs] at en kn
  rw [hp, cnt_bs]
  rw [Bool.eq_iff_iff, decide_eq_true_iff]
  constructor
  · intro h
    apply Classical.byContradiction
    intro hn
    -- the worst: as many as may be that are not B's
    obtain ⟨f1, p1, c1⟩ := pick (fun i => tb A i && !tb B i) 9 (min e.toNat (bs (fun i => tb A i && !tb B i) 9)) (by omega)
    obtain ⟨f2, p2, c2⟩ := pick (fun i => tb A i && tb B i) 9 (e.toNat - bs (fun i => tb A i && !tb B i) 9) (by omega)
    have hx : ∀ i, (f1 i || f2 i) = true → 1 ≤ i ∧ i ≤ 9 ∧ tb A i = true := fun i hi => by
      simp at hi
      rcases hi with hi | hi
      · have := p1 i hi; simp at this; exact ⟨this.1, this.2.1, this.2.2.1⟩
      · have := p2 i hi; simp at this; exact ⟨this.1, this.2.1, this.2.2.1⟩
    have hx' : ∀ i, (f1 i || f2 i) = true → 1 ≤ i ∧ i ≤ 9 := fun i hi => ⟨(hx i hi).1, (hx i hi).2.1⟩
    have cx : bs (fun i => f1 i || f2 i) 9 = e.toNat := by
      have h1 := bs_or f1 f2 9
      have h2 : bs (fun i => f1 i && f2 i) 9 = 0 := bs_zero 9 fun i _ _ => by
        cases q1 : f1 i <;> cases q2 : f2 i <;> simp
        have a := p1 i q1; have b := p2 i q2; simp at a b
        rw [a.2.2.2] at b; simp at b
      omega
    have cb : bs (fun i => tb B i && f2 i) 9 = e.toNat - bs (fun i => tb A i && !tb B i) 9 := by
      rw [← c2]; apply bs_congr; intro i h1 h2
      cases q2 : f2 i
      · simp
      · have b := p2 i q2; simp at b; simp [b.2.2.2]
    have hB := bs_split (tb B) f2 9
    obtain ⟨f3, p3, c3⟩ := pick (fun i => tb B i && !f2 i) 9 k.toNat (by omega)
    have hy : ∀ i, f3 i = true → 1 ≤ i ∧ i ≤ 9 ∧ tb B i = true := fun i hi => by
      have := p3 i hi; simp at this; exact ⟨this.1, this.2.1, this.2.2.1⟩
    have hy' : ∀ i, f3 i = true → 1 ≤ i ∧ i ≤ 9 := fun i hi => ⟨(hy i hi).1, (hy i hi).2.1⟩
    have mx : ofF (fun i => f1 i || f2 i) ∈ qs A e := List.mem_filter.2 ⟨ofF_sub _ A A0 hx, by rw [cnt_ofF _ hx', cx, beq_iff_eq]; omega⟩
    have my : ofF f3 ∈ qs B k := List.mem_filter.2 ⟨ofF_sub _ B B0 hy, by rw [cnt_ofF _ hy', c3, beq_iff_eq]; omega⟩
    have h1 := List.all_eq_true.1 (List.all_eq_true.1 h _ mx) _ my
    have hz : meetB (ofF (fun i => f1 i || f2 i)) (ofF f3) = 0 := by
      apply tb_ext _ _ (meetB_fit _ _).1 (by omega) (meetB_fit _ _).2 (by omega)
      intro i hi
      rw [tb_meetB _ _ (ofF_fit _).1 (ofF_fit _).1 i hi, tb_ofF _ hx' i hi, tb_ofF _ hy' i hi, tb_zero]
      cases q3 : f3 i
      · simp
      · have c := p3 i q3; simp at c
        cases q1 : f1 i
        · rw [c.2.2.2]; simp
        · have a := p1 i q1; simp at a; rw [c.2.2.1] at a; simp at a
    rw [hz] at h1; simp at h1
  · intro h
    refine List.all_eq_true.2 fun x hx => List.all_eq_true.2 fun y hy => ?_
    obtain ⟨sx, nx⟩ := List.mem_filter.1 hx
    obtain ⟨sy, ny⟩ := List.mem_filter.1 hy
    rw [beq_iff_eq] at nx ny
    cases hz : (meetB x y == 0)
    · rfl
    · exfalso
      rw [beq_iff_eq] at hz
      have x0 := ((subs_mem A 1024 x).1 sx).1
      have y0 := ((subs_mem B 1024 y).1 sy).1
      rw [cnt_bs] at nx ny
      have h1 := bs_split (tb x) (tb B) 9
      have h2 : bs (fun i => tb x i && !tb B i) 9 ≤ bs (fun i => tb A i && !tb B i) 9 := bs_le 9 fun i i1 i2 ht => by
        simp at ht ⊢
        exact ⟨(sub_bits A x A0 sx i (by omega) ht.1).1, ht.2⟩
      have h3 : bs (fun i => tb x i && tb B i) 9 + bs (tb y) 9 ≤ bs (tb B) 9 := bs_apart 9 (fun i i1 i2 ht => by simp at ht; exact ht.2) (fun i i1 i2 ht => (sub_bits B y B0 sy i (by omega) ht).1) (fun i i1 i2 => by
        have := tb_meetB x y x0 y0 i (by omega)
        rw [hz, tb_zero] at this
        cases q1 : tb x i <;> cases q2 : tb y i <;> simp_all)
      omega
theorem meets_plain (av ax al ae ak bv bx bl be bk : Int) (fa : FitC av ax al) (fb : FitC bv bx bl) (ma : May av ax al ae ak) (mb : May bv bx bl be bk) : pairsB (qs (joinB av ax) ae) (qs (joinB bv bx) bk) = meetC av ax al ae ak bv bx bl be bk := by
  rw [join_or av ax fa.v0 fa.x0 ma.mv ma.mx, join_or bv bx fb.v0 fb.x0 mb.mv mb.mx]
  rw [meet_plain _ _ _ _ (bits_fit _ _ _).1 (bits_fit _ _ _).1 ma.e1 ma.en mb.k1 mb.kn]
  rfl
end Go.Proofs.Ytaaagidooieejaa
