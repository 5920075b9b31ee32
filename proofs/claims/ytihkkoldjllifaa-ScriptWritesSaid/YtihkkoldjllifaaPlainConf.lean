/- The plain law of quorums: counting nodes; no program in sight. -/
import Derived.Test.YtihkkoldjllifaaPlainSets
namespace Go.Proofs.Ytihkkoldjllifaa
open Go

/-- How many of the numbers from 1 to k f tells. -/
def bs (f : Nat → Bool) : Nat → Nat
  | 0 => 0
  | k + 1 => bs f k + (f (k + 1)).toNat
theorem bs_le {f g : Nat → Bool} (k : Nat) (h : ∀ i, 1 ≤ i → i ≤ k → f i = true → g i = true) : bs f k ≤ bs g k := by
  induction k with
  | zero => simp [bs]
  | succ k ih =>
    have := ih (fun i h1 h2 => h i h1 (by omega))
    have h3 := h (k + 1) (by omega) (by omega)
    simp only [bs]
    cases hf : f (k + 1) <;> cases hg : g (k + 1) <;> simp_all <;> omega
theorem bs_congr {f g : Nat → Bool} (k : Nat) (h : ∀ i, 1 ≤ i → i ≤ k → f i = g i) : bs f k = bs g k := by
  induction k with
  | zero => simp [bs]
  | succ k ih => simp only [bs]; rw [ih (fun i h1 h2 => h i h1 (by omega)), h (k + 1) (by omega) (by omega)]
theorem bs_apart {f g s : Nat → Bool} (k : Nat) (hf : ∀ i, 1 ≤ i → i ≤ k → f i = true → s i = true) (hg : ∀ i, 1 ≤ i → i ≤ k → g i = true → s i = true) (hd : ∀ i, 1 ≤ i → i ≤ k → (f i && g i) = false) : bs f k + bs g k ≤ bs s k := by
  induction k with
  | zero => simp [bs]
  | succ k ih =>
    have := ih (fun i h1 h2 => hf i h1 (by omega)) (fun i h1 h2 => hg i h1 (by omega)) (fun i h1 h2 => hd i h1 (by omega))
    have h1 := hf (k + 1) (by omega) (by omega)
    have h2 := hg (k + 1) (by omega) (by omega)
    have h3 := hd (k + 1) (by omega) (by omega)
    simp only [bs]
    cases ef : f (k + 1) <;> cases eg : g (k + 1) <;> cases es : s (k + 1) <;> simp_all <;> omega
theorem bs_zero {f : Nat → Bool} (k : Nat) (h : ∀ i, 1 ≤ i → i ≤ k → f i = false) : bs f k = 0 := by
  induction k with
  | zero => simp [bs]
  | succ k ih => simp only [bs]; rw [ih (fun i h1 h2 => h i h1 (by omega)), h (k + 1) (by omega) (by omega)]; rfl
theorem bs_pos {f : Nat → Bool} (k i : Nat) (h1 : 1 ≤ i) (h2 : i ≤ k) (h : f i = true) : 0 < bs f k := by
  induction k with
  | zero => omega
  | succ k ih =>
    simp only [bs]
    by_cases e : i = k + 1
    · subst e; rw [h]; simp
    · have := ih (by omega); omega
theorem bs_some {f : Nat → Bool} (k : Nat) (h : 0 < bs f k) : ∃ i, 1 ≤ i ∧ i ≤ k ∧ f i = true := by
  induction k with
  | zero => simp [bs] at h
  | succ k ih =>
    cases hf : f (k + 1)
    · simp only [bs, hf] at h
      obtain ⟨i, h1, h2, h3⟩ := ih (by simpa using h)
      exact ⟨i, h1, by omega, h3⟩
    · exact ⟨k + 1, by omega, by omega, hf⟩
theorem lst_bs (s : Int) (k : Nat) (hk : k ≤ 9) : (lst s k).length = bs (tb s) k := by
  induction k with
  | zero => simp [lst, bs]
  | succ k ih =>
    have e := hasB_tb s (k + 1) (by omega) hk
    have e1 : ((k : Int) + 1) = ((k + 1 : Nat) : Int) := by omega
    simp only [lst, bs, List.length_append, ih (by omega)]
    rw [e1, e]
    cases tb s (k + 1) <;> simp
theorem cnt_bs (s : Int) : cnt s = bs (tb s) 9 := by unfold cnt; rw [lst_bs s 9 (by omega)]
theorem bs_max (f : Nat → Bool) (k : Nat) : bs f k ≤ k := by
  induction k with
  | zero => simp [bs]
  | succ k ih => simp only [bs]; cases f (k + 1) <;> simp <;> omega

/-- Whether a configuration may be: the program's tests. -/
def mayC (v x l e k : Int) : Bool :=
  mayB v && (mayB x && (mayB l && (bits .and .u16 v x == 0 && (bits .and .u16 v l == 0 && (bits .and .u16 x l == 0 && (v != 0 &&
    (decide (1 ≤ e) && (decide (e ≤ cnt (bits .or .u16 v x)) && (decide (1 ≤ k) && (decide (k ≤ cnt (bits .or .u16 v x)) &&
      (decide (cnt (bits .or .u16 v x) - k < e) && decide (cnt (bits .or .u16 v x) - e < e))))))))))))
/-- What mayC says. -/
structure May (v x l e k : Int) : Prop where
  mv : mayB v = true
  mx : mayB x = true
  ml : mayB l = true
  vx : bits .and .u16 v x = 0
  vl : bits .and .u16 v l = 0
  xl : bits .and .u16 x l = 0
  ne : v ≠ 0
  e1 : 1 ≤ e
  en : e ≤ cnt (bits .or .u16 v x)
  k1 : 1 ≤ k
  kn : k ≤ cnt (bits .or .u16 v x)
  ek : cnt (bits .or .u16 v x) < e + k
  ee : cnt (bits .or .u16 v x) < e + e
theorem mayC_iff (v x l e k : Int) : mayC v x l e k = true ↔ May v x l e k := by
  constructor
  · intro h
    simp [mayC] at h
    exact ⟨h.1, h.2.1, h.2.2.1, h.2.2.2.1, h.2.2.2.2.1, h.2.2.2.2.2.1, h.2.2.2.2.2.2.1, by omega, by omega, by omega, by omega, by omega, by omega⟩
  · intro h
    obtain ⟨h1, h2, h3, h4, h5, h6, h7, h8, h9, h10, h11, h12, h13⟩ := h
    simp only [mayC, h1, h2, h3, h4, h5, h6, Bool.true_and, beq_self_eq_true, bne_iff_ne, ne_eq, Bool.and_eq_true, decide_eq_true_eq]
    exact ⟨h7, by omega, by omega, by omega, by omega, by omega, by omega⟩

/-- Whether a set is enough to elect, to commit, by one configuration; by a joint. -/
def electsC (cv cx _cl ce _ck g : Int) : Bool := decide (ce ≤ cnt (bits .and .u16 (bits .or .u16 cv cx) g))
def commitsC (cv cx _cl _ce ck g : Int) : Bool := decide (ck ≤ cnt (bits .and .u16 (bits .or .u16 cv cx) g)) && decide (0 < cnt (bits .and .u16 cv g))
def electsJ (jov jox jol joe jok jnv jnx jnl jne jnk : Int) (jt : Bool) (g : Int) : Bool := electsC jov jox jol joe jok g && (!jt || electsC jnv jnx jnl jne jnk g)
def commitsJ (jov jox jol joe jok jnv jnx jnl jne jnk : Int) (jt : Bool) (g : Int) : Bool := commitsC jov jox jol joe jok g && (!jt || commitsC jnv jnx jnl jne jnk g)
/-- Of a joint: one set, or both. -/
def pickB (t : Bool) (a b : Int) : Int := if t then bits .or .u16 a b else a
theorem pickB_0 (t : Bool) (a b : Int) (h : 0 ≤ a) : 0 ≤ pickB t a b := by unfold pickB; split; exact (bits_fit _ _ _).1; exact h
theorem pickB_1 (t : Bool) (a b : Int) (h : a ≤ 65535) : pickB t a b ≤ 65535 := by unfold pickB; split; exact (bits_fit _ _ _).2; exact h
def mayJ (jov jox jol joe jok jnv jnx jnl jne jnk : Int) (jt : Bool) : Bool :=
  if jt then mayC jov jox jol joe jok && mayC jnv jnx jnl jne jnk else mayC jov jox jol joe jok && (jnv == 0 && (jnx == 0 && (jnl == 0 && (jne == 0 && jnk == 0))))
/-- What a change answers: an error, or 0. -/
def changeE (jov jox jol : Int) (jt : Bool) (tv tx tl te tk : Int) : Int :=
  if jt then 10 else if mayC tv tx tl te tk then (if tx = jox then (if bits .andNot .u16 tv (bits .or .u16 jov jol) = 0 then 0 else 10) else 10) else 11
/-- Whether quorums meet: the program's own reckoning. -/
def meetC (av ax _al ae _ak bv bx _bl _be bk : Int) : Bool :=
  decide (cnt (bits .or .u16 bv bx) - bk < max (ae - cnt (bits .andNot .u16 (bits .or .u16 av ax) (bits .or .u16 bv bx))) 0)

theorem tb_zero (i : Nat) : tb 0 i = false := by simp [tb]
theorem cnt_mono (a b : Int) (h : ∀ i, 1 ≤ i → i ≤ 9 → tb a i = true → tb b i = true) : cnt a ≤ cnt b := by
  rw [cnt_bs, cnt_bs]; have := bs_le 9 h; omega
theorem cnt_zero : cnt 0 = 0 := by rw [cnt_bs, bs_zero 9 (fun i _ _ => tb_zero i)]; rfl
theorem and_zero (s : Int) (h0 : 0 ≤ s) : bits .and .u16 s 0 = 0 := by
  have hf := bits_fit .and s 0
  apply tb_ext _ _ hf.1 (by omega) hf.2 (by omega)
  intro i hi; rw [tb_and _ _ h0 (by omega) i hi, tb_zero]; simp
theorem zero_or (s : Int) (h0 : 0 ≤ s) (h1 : s ≤ 65535) : bits .or .u16 0 s = s := by
  have hf := bits_fit .or 0 s
  apply tb_ext _ _ hf.1 h0 hf.2 h1
  intro i hi; rw [tb_or _ _ (by omega) h0 i hi, tb_zero]; simp
/-- A set of nodes that is not empty has a node. -/
theorem may_some (v : Int) (h0 : 0 ≤ v) (h1 : v ≤ 65535) (hm : mayB v = true) (hn : v ≠ 0) : ∃ i, 1 ≤ i ∧ i ≤ 9 ∧ tb v i = true := by
  apply Classical.byContradiction
  intro h
  apply hn
  apply tb_ext _ _ h0 (by omega) h1 (by omega)
  intro i hi
  rw [tb_zero]
  cases ht : tb v i
  · rfl
  · have := (mayB_iff v h0).1 hm i hi ht
    exact absurd ⟨i, this.1, this.2, ht⟩ h

theorem elects_mono (cv cx cl ce ck g u : Int) (hg : 0 ≤ g) (hu : 0 ≤ u) (h : ∀ i, 1 ≤ i → i ≤ 9 → tb g i = true → tb u i = true) (he : electsC cv cx cl ce ck g = true) : electsC cv cx cl ce ck u = true := by
  unfold electsC at *
  have hs := (bits_fit .or cv cx).1
  have := cnt_mono (bits .and .u16 (bits .or .u16 cv cx) g) (bits .and .u16 (bits .or .u16 cv cx) u) (fun i h1 h2 ht => by
    rw [tb_and _ _ hs hg i (by omega)] at ht
    rw [tb_and _ _ hs hu i (by omega)]
    simp at ht ⊢
    exact ⟨ht.1, h i h1 h2 ht.2⟩)
  simp at he ⊢; omega
theorem commits_mono (cv cx cl ce ck g u : Int) (hv : 0 ≤ cv) (hg : 0 ≤ g) (hu : 0 ≤ u) (h : ∀ i, 1 ≤ i → i ≤ 9 → tb g i = true → tb u i = true) (he : commitsC cv cx cl ce ck g = true) : commitsC cv cx cl ce ck u = true := by
  unfold commitsC at *
  have hs := (bits_fit .or cv cx).1
  have h1 := cnt_mono (bits .and .u16 (bits .or .u16 cv cx) g) (bits .and .u16 (bits .or .u16 cv cx) u) (fun i h1 h2 ht => by
    rw [tb_and _ _ hs hg i (by omega)] at ht
    rw [tb_and _ _ hs hu i (by omega)]
    simp at ht ⊢
    exact ⟨ht.1, h i h1 h2 ht.2⟩)
  have h2 := cnt_mono (bits .and .u16 cv g) (bits .and .u16 cv u) (fun i h1 h2 ht => by
    rw [tb_and _ _ hv hg i (by omega)] at ht
    rw [tb_and _ _ hv hu i (by omega)]
    simp at ht ⊢
    exact ⟨ht.1, h i h1 h2 ht.2⟩)
  simp at he ⊢; omega
/-- All that vote elect and commit; none does not. -/
theorem elects_all (cv cx cl ce ck g : Int) (hg : 0 ≤ g) (hm : May cv cx cl ce ck) (h : ∀ i, 1 ≤ i → i ≤ 9 → tb (bits .or .u16 cv cx) i = true → tb g i = true) : electsC cv cx cl ce ck g = true := by
  unfold electsC
  have hs := (bits_fit .or cv cx).1
  have := cnt_mono (bits .or .u16 cv cx) (bits .and .u16 (bits .or .u16 cv cx) g) (fun i h1 h2 ht => by
    rw [tb_and _ _ hs hg i (by omega), ht, h i h1 h2 ht]; rfl)
  have := hm.en
  simp; omega
theorem commits_all (cv cx cl ce ck g : Int) (hv : 0 ≤ cv) (hv' : cv ≤ 65535) (hx : 0 ≤ cx) (hg : 0 ≤ g) (hm : May cv cx cl ce ck) (h : ∀ i, 1 ≤ i → i ≤ 9 → tb (bits .or .u16 cv cx) i = true → tb g i = true) : commitsC cv cx cl ce ck g = true := by
  unfold commitsC
  have hs := (bits_fit .or cv cx).1
  have := cnt_mono (bits .or .u16 cv cx) (bits .and .u16 (bits .or .u16 cv cx) g) (fun i h1 h2 ht => by
    rw [tb_and _ _ hs hg i (by omega), ht, h i h1 h2 ht]; rfl)
  have h2 := hm.kn
  obtain ⟨i, h3, h4, h5⟩ := may_some cv hv hv' hm.mv hm.ne
  have h6 : 0 < cnt (bits .and .u16 cv g) := by
    rw [cnt_bs]
    have : tb (bits .and .u16 cv g) i = true := by
      rw [tb_and _ _ hv hg i (by omega), h5, h i h3 h4 (by rw [tb_or _ _ hv hx i (by omega), h5]; rfl)]; rfl
    have := bs_pos 9 i h3 h4 this
    omega
  simp; omega
theorem elects_none (cv cx cl ce ck : Int) (hm : May cv cx cl ce ck) : electsC cv cx cl ce ck 0 = false := by
  unfold electsC
  rw [and_zero _ (bits_fit .or cv cx).1, cnt_zero]
  have := hm.e1
  simp; omega
theorem commits_none (cv cx cl ce ck : Int) (hm : May cv cx cl ce ck) : commitsC cv cx cl ce ck 0 = false := by
  unfold commitsC
  rw [and_zero _ (bits_fit .or cv cx).1, cnt_zero]
  have := hm.k1
  simp; omega

/-- Two sets apart: what both have of a third. -/
theorem cnt_apart (s a b : Int) (hs : 0 ≤ s) (ha : 0 ≤ a) (hb : 0 ≤ b) (h : ∀ i, 1 ≤ i → i ≤ 9 → (tb a i && tb b i) = false) : cnt (bits .and .u16 s a) + cnt (bits .and .u16 s b) ≤ cnt s := by
  rw [cnt_bs, cnt_bs, cnt_bs]
  have := bs_apart (f := tb (bits .and .u16 s a)) (g := tb (bits .and .u16 s b)) (s := tb s) 9
    (fun i h1 h2 ht => by rw [tb_and _ _ hs ha i (by omega)] at ht; simp at ht; exact ht.1)
    (fun i h1 h2 ht => by rw [tb_and _ _ hs hb i (by omega)] at ht; simp at ht; exact ht.1)
    (fun i h1 h2 => by
      rw [tb_and _ _ hs ha i (by omega), tb_and _ _ hs hb i (by omega)]
      have := h i h1 h2
      generalize tb a i = p at *
      generalize tb b i = q at *
      cases p <;> cases q <;> simp_all)
  omega
theorem and_apart (a b : Int) (ha : 0 ≤ a) (hb : 0 ≤ b) (h : bits .and .u16 a b = 0) (i : Nat) (hi : i < 16) : (tb a i && tb b i) = false := by
  rw [← tb_and a b ha hb i hi, h, tb_zero]
/-- What elects meets what commits, and what elects. -/
theorem meets_commit (cv cx cl ce ck a b : Int) (ha : 0 ≤ a) (hb : 0 ≤ b) (hm : May cv cx cl ce ck) (he : electsC cv cx cl ce ck a = true) (hk : commitsC cv cx cl ce ck b = true) (h : ∀ i, 1 ≤ i → i ≤ 9 → (tb a i && tb b i) = false) : False := by
  have := cnt_apart (bits .or .u16 cv cx) a b (bits_fit _ _ _).1 ha hb h
  unfold electsC at he; unfold commitsC at hk
  have := hm.ek
  simp at he hk; omega
theorem meets_elect (cv cx cl ce ck a b : Int) (ha : 0 ≤ a) (hb : 0 ≤ b) (hm : May cv cx cl ce ck) (he : electsC cv cx cl ce ck a = true) (hk : electsC cv cx cl ce ck b = true) (h : ∀ i, 1 ≤ i → i ≤ 9 → (tb a i && tb b i) = false) : False := by
  have := cnt_apart (bits .or .u16 cv cx) a b (bits_fit _ _ _).1 ha hb h
  unfold electsC at he hk
  have := hm.ee
  simp at he hk; omega

/-- The numbers of a configuration fit. -/
structure FitC (v x l : Int) : Prop where
  v0 : 0 ≤ v
  v1 : v ≤ 65535
  x0 : 0 ≤ x
  x1 : x ≤ 65535
  l0 : 0 ≤ l
  l1 : l ≤ 65535
theorem mayJ_old (jov jox jol joe jok jnv jnx jnl jne jnk : Int) (jt : Bool) (h : mayJ jov jox jol joe jok jnv jnx jnl jne jnk jt = true) : May jov jox jol joe jok := by
  rw [← mayC_iff]; unfold mayJ at h; split at h <;> simp at h <;> exact h.1
theorem mayJ_new (jov jox jol joe jok jnv jnx jnl jne jnk : Int) (h : mayJ jov jox jol joe jok jnv jnx jnl jne jnk true = true) : May jnv jnx jnl jne jnk := by
  rw [← mayC_iff]; simp [mayJ] at h; exact h.2

theorem more_plain (jov jox jol joe jok jnv jnx jnl jne jnk : Int) (jt : Bool) (g m : Int) (fo : FitC jov jox jol) (fn : FitC jnv jnx jnl) (g0 : 0 ≤ g) (m0 : 0 ≤ m) (hm : mayJ jov jox jol joe jok jnv jnx jnl jne jnk jt = true) :
    (electsJ jov jox jol joe jok jnv jnx jnl jne jnk jt (bits .and .u16 g 1022) = true → electsJ jov jox jol joe jok jnv jnx jnl jne jnk jt (bits .and .u16 (bits .or .u16 g m) 1022) = true) ∧
    (commitsJ jov jox jol joe jok jnv jnx jnl jne jnk jt (bits .and .u16 g 1022) = true → commitsJ jov jox jol joe jok jnv jnx jnl jne jnk jt (bits .and .u16 (bits .or .u16 g m) 1022) = true) ∧
    electsJ jov jox jol joe jok jnv jnx jnl jne jnk jt (pickB jt (bits .or .u16 jov jox) (bits .or .u16 jnv jnx)) = true ∧
    commitsJ jov jox jol joe jok jnv jnx jnl jne jnk jt (pickB jt (bits .or .u16 jov jox) (bits .or .u16 jnv jnx)) = true ∧
    electsJ jov jox jol joe jok jnv jnx jnl jne jnk jt 0 = false ∧ commitsJ jov jox jol joe jok jnv jnx jnl jne jnk jt 0 = false ∧
    1 ≤ cnt (pickB jt (bits .or .u16 (bits .or .u16 jov jox) jol) (bits .or .u16 (bits .or .u16 jnv jnx) jnl)) := by
  have ho := mayJ_old _ _ _ _ _ _ _ _ _ _ _ hm
  have hi : ∀ i, 1 ≤ i → i ≤ 9 → tb (bits .and .u16 g 1022) i = true → tb (bits .and .u16 (bits .or .u16 g m) 1022) i = true := fun i h1 h2 ht => by
    rw [tb_and _ _ g0 (by omega) i (by omega)] at ht
    rw [tb_and _ _ (bits_fit _ _ _).1 (by omega) i (by omega), tb_or _ _ g0 m0 i (by omega)]
    simp at ht ⊢; exact ⟨Or.inl ht.1, ht.2⟩
  have hg := (bits_fit .and g 1022).1
  have hu := (bits_fit .and (bits .or .u16 g m) 1022).1
  have hov := (bits_fit .or jov jox).1
  have hnv := (bits_fit .or jnv jnx).1
  have hpv : 0 ≤ pickB jt (bits .or .u16 jov jox) (bits .or .u16 jnv jnx) := pickB_0 _ _ _ hov
  have hall : ∀ i, 1 ≤ i → i ≤ 9 → tb (bits .or .u16 jov jox) i = true → tb (pickB jt (bits .or .u16 jov jox) (bits .or .u16 jnv jnx)) i = true := fun i h1 h2 ht => by
    unfold pickB; split
    · rw [tb_or _ _ hov hnv i (by omega), ht]; rfl
    · exact ht
  obtain ⟨i, h3, h4, h5⟩ := may_some jov fo.v0 fo.v1 ho.mv ho.ne
  have hmem : 1 ≤ cnt (pickB jt (bits .or .u16 (bits .or .u16 jov jox) jol) (bits .or .u16 (bits .or .u16 jnv jnx) jnl)) := by
    have h6 : tb (bits .or .u16 (bits .or .u16 jov jox) jol) i = true := by
      rw [tb_or _ _ hov fo.l0 i (by omega), tb_or _ _ fo.v0 fo.x0 i (by omega), h5]; rfl
    have h7 : tb (pickB jt (bits .or .u16 (bits .or .u16 jov jox) jol) (bits .or .u16 (bits .or .u16 jnv jnx) jnl)) i = true := by
      unfold pickB; split
      · rw [tb_or _ _ (bits_fit _ _ _).1 (bits_fit _ _ _).1 i (by omega), h6]; rfl
      · exact h6
    rw [cnt_bs]
    have := bs_pos 9 i h3 h4 h7
    omega
  refine ⟨fun he => ?_, fun he => ?_, ?_, ?_, ?_, ?_, hmem⟩
  · simp only [electsJ, Bool.and_eq_true, Bool.or_eq_true] at he ⊢
    exact ⟨elects_mono _ _ _ _ _ _ _ hg hu hi he.1, he.2.imp id fun h => elects_mono _ _ _ _ _ _ _ hg hu hi h⟩
  · simp only [commitsJ, Bool.and_eq_true, Bool.or_eq_true] at he ⊢
    exact ⟨commits_mono _ _ _ _ _ _ _ fo.v0 hg hu hi he.1, he.2.imp id fun h => commits_mono _ _ _ _ _ _ _ fn.v0 hg hu hi h⟩
  · simp only [electsJ, Bool.and_eq_true, Bool.or_eq_true]
    refine ⟨elects_all _ _ _ _ _ _ hpv ho hall, ?_⟩
    cases jt
    · exact .inl rfl
    · exact .inr (elects_all _ _ _ _ _ _ hpv (mayJ_new _ _ _ _ _ _ _ _ _ _ hm) (fun i h1 h2 ht => by unfold pickB; rw [if_pos rfl, tb_or _ _ hov hnv i (by omega), ht, Bool.or_true]))
  · simp only [commitsJ, Bool.and_eq_true, Bool.or_eq_true]
    refine ⟨commits_all _ _ _ _ _ _ fo.v0 fo.v1 fo.x0 hpv ho hall, ?_⟩
    cases jt
    · exact .inl rfl
    · exact .inr (commits_all _ _ _ _ _ _ fn.v0 fn.v1 fn.x0 hpv (mayJ_new _ _ _ _ _ _ _ _ _ _ hm) (fun i h1 h2 ht => by unfold pickB; rw [if_pos rfl, tb_or _ _ hov hnv i (by omega), ht, Bool.or_true]))
  · simp only [electsJ, elects_none _ _ _ _ _ ho, Bool.false_and]
  · simp only [commitsJ, commits_none _ _ _ _ _ ho, Bool.false_and]

/-- Whether a configuration may be: the reference's tests. -/
def refMayC (v x l e k : Int) : Bool :=
  mayB v && (mayB x && (mayB l && (cnt (joinB (joinB v x) l) == cnt v + cnt x + cnt l && (!(cnt v == 0) &&
    (decide (1 ≤ e) && (decide (e ≤ cnt (joinB v x)) && (decide (1 ≤ k) && (decide (k ≤ cnt (joinB v x)) &&
      (decide (cnt (joinB v x) < e + k) && decide (cnt (joinB v x) < 2 * e))))))))))
theorem bs_or (f g : Nat → Bool) (k : Nat) : bs (fun i => f i || g i) k + bs (fun i => f i && g i) k = bs f k + bs g k := by
  induction k with
  | zero => simp [bs]
  | succ k ih =>
    simp only [bs]
    cases f (k + 1) <;> cases g (k + 1) <;> simp <;> omega
theorem cnt_or (a b : Int) (ha : 0 ≤ a) (hb : 0 ≤ b) : cnt (bits .or .u16 a b) + cnt (bits .and .u16 a b) = cnt a + cnt b := by
  rw [cnt_bs, cnt_bs, cnt_bs, cnt_bs]
  have h1 := bs_congr (f := tb (bits .or .u16 a b)) (g := fun i => tb a i || tb b i) 9 (fun i h1 h2 => tb_or a b ha hb i (by omega))
  have h2 := bs_congr (f := tb (bits .and .u16 a b)) (g := fun i => tb a i && tb b i) 9 (fun i h1 h2 => tb_and a b ha hb i (by omega))
  have := bs_or (tb a) (tb b) 9
  omega
theorem may_or (a b : Int) (ha : 0 ≤ a) (hb : 0 ≤ b) (h1 : mayB a = true) (h2 : mayB b = true) : mayB (bits .or .u16 a b) = true := by
  rw [mayB_iff _ (bits_fit _ _ _).1]
  intro i hi ht
  rw [tb_or a b ha hb i hi] at ht
  simp at ht
  rcases ht with ht | ht
  · exact (mayB_iff a ha).1 h1 i hi ht
  · exact (mayB_iff b hb).1 h2 i hi ht
theorem may_and (a b : Int) (ha : 0 ≤ a) (hb : 0 ≤ b) (h1 : mayB a = true) : mayB (bits .and .u16 a b) = true := by
  rw [mayB_iff _ (bits_fit _ _ _).1]
  intro i hi ht
  rw [tb_and a b ha hb i hi] at ht
  simp at ht
  exact (mayB_iff a ha).1 h1 i hi ht.1
theorem join_or (a b : Int) (ha : 0 ≤ a) (hb : 0 ≤ b) (h1 : mayB a = true) (h2 : mayB b = true) : joinB a b = bits .or .u16 a b := by
  have h := may_or a b ha hb h1 h2
  have h3 := bits_fit .or a b
  rw [← mayB_and _ h3.1 h3.2] at h
  exact beq_iff_eq.1 h
theorem meet_and (a b : Int) (ha : 0 ≤ a) (hb : 0 ≤ b) (h1 : mayB a = true) : meetB a b = bits .and .u16 a b := by
  have h := may_and a b ha hb h1
  have h3 := bits_fit .and a b
  rw [← mayB_and _ h3.1 h3.2] at h
  exact beq_iff_eq.1 h
theorem cnt_none (a : Int) (h0 : 0 ≤ a) (h1 : a ≤ 65535) (hm : mayB a = true) : cnt a = 0 ↔ a = 0 := by
  constructor
  · intro h
    apply Classical.byContradiction
    intro hn
    obtain ⟨i, h3, h4, h5⟩ := may_some a h0 h1 hm hn
    have := bs_pos 9 i h3 h4 h5
    rw [cnt_bs] at h; omega
  · intro h; rw [h, cnt_zero]
theorem cnt_nonneg (a : Int) : 0 ≤ cnt a ∧ cnt a ≤ 9 := by rw [cnt_bs]; have := bs_max (tb a) 9; omega
theorem bool_or_and : ∀ p q r : Bool, ((p || q) && r) = false → (p && r) = false ∧ (q && r) = false := by decide
theorem bool_and_or : ∀ p q r : Bool, (p && r) = false → (q && r) = false → ((p || q) && r) = false := by decide
/-- The reference's May is the program's. -/
theorem may_same (v x l e k : Int) (f : FitC v x l) : refMayC v x l e k = mayC v x l e k := by
  obtain ⟨v0, v1, x0, x1, l0, l1⟩ := f
  unfold refMayC mayC
  cases hv : mayB v
  · rfl
  cases hx : mayB x
  · rfl
  cases hl : mayB l
  · rfl
  simp only [Bool.true_and]
  have hvx := join_or v x v0 x0 hv hx
  have hm := may_or v x v0 x0 hv hx
  have ho := bits_fit .or v x
  rw [hvx, join_or _ l ho.1 l0 hm hl]
  have c1 := cnt_or v x v0 x0
  have c2 := cnt_or (bits .or .u16 v x) l ho.1 l0
  have n1 := cnt_nonneg (bits .and .u16 v x)
  have n2 := cnt_nonneg (bits .and .u16 (bits .or .u16 v x) l)
  have n3 := cnt_nonneg (bits .or .u16 v x)
  have z1 := cnt_none (bits .and .u16 v x) (bits_fit _ _ _).1 (bits_fit _ _ _).2 (may_and v x v0 x0 hv)
  have z2 := cnt_none (bits .and .u16 (bits .or .u16 v x) l) (bits_fit _ _ _).1 (bits_fit _ _ _).2 (may_and _ l ho.1 l0 hm)
  have z3 := cnt_none v v0 v1 hv
  have z4 : bits .and .u16 (bits .or .u16 v x) l = 0 ↔ (bits .and .u16 v l = 0 ∧ bits .and .u16 x l = 0) := by
    constructor
    · intro h
      have hb : ∀ i, i < 16 → (tb v i && tb l i) = false ∧ (tb x i && tb l i) = false := fun i hi => by
        have := and_apart _ l ho.1 l0 h i hi
        rw [tb_or v x v0 x0 i hi] at this
        exact bool_or_and _ _ _ this
      constructor
      · apply tb_ext _ _ (bits_fit _ _ _).1 (by omega) (bits_fit _ _ _).2 (by omega)
        intro i hi; rw [tb_and v l v0 l0 i hi, tb_zero, (hb i hi).1]
      · apply tb_ext _ _ (bits_fit _ _ _).1 (by omega) (bits_fit _ _ _).2 (by omega)
        intro i hi; rw [tb_and x l x0 l0 i hi, tb_zero, (hb i hi).2]
    · intro ⟨h1, h2⟩
      apply tb_ext _ _ (bits_fit _ _ _).1 (by omega) (bits_fit _ _ _).2 (by omega)
      intro i hi
      have a1 := and_apart v l v0 l0 h1 i hi
      have a2 := and_apart x l x0 l0 h2 i hi
      rw [tb_and _ l ho.1 l0 i hi, tb_or v x v0 x0 i hi, tb_zero]
      exact bool_and_or _ _ _ a1 a2
  rw [Bool.eq_iff_iff]
  simp only [Bool.and_eq_true, beq_iff_eq, Bool.not_eq_true', beq_eq_false_iff_ne, ne_eq, bne_iff_ne, decide_eq_true_eq]
  rw [← z1, ← z3]
  constructor
  · intro ⟨h1, h2, h3⟩
    have h4 : cnt (bits .and .u16 (bits .or .u16 v x) l) = 0 := by omega
    have h5 := z4.1 (z2.1 h4)
    exact ⟨by omega, h5.1, h5.2, h2, h3.1, h3.2.1, h3.2.2.1, h3.2.2.2.1, by omega, by omega⟩
  · intro ⟨h1, h2, h3, h4, h5, h6, h7, h8, h9, h10⟩
    have h11 := z2.2 (z4.2 ⟨h2, h3⟩)
    exact ⟨by omega, h4, h5, h6, h7, h8, by omega, by omega⟩
end Go.Proofs.Ytihkkoldjllifaa
