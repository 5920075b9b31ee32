/- ZoneRight: what breaks, by who is left, is what is told: the plain law. -/
import Derived.Test.YtihkkoldjllifaaPlainRightB
namespace Go.Proofs.Ytihkkoldjllifaa

def keepP (rs : List Int) (s : Int) (k n : Nat) : Bool := if s = 0 then true else if s = 1 then decide (n ≠ k) else decide (rs.getD (n - 1) 0 ≠ (k : Int))
def leftTo (rs : List Int) (s : Int) (k : Nat) : Nat → Int
  | 0 => 0
  | n + 1 => if keepP rs s k (n + 1) = true then bits .or .u16 (leftTo rs s k n) (oneB ((n : Int) + 1)) else leftTo rs s k n
theorem leftTo_fit (rs : List Int) (s : Int) (k n : Nat) : 0 ≤ leftTo rs s k n ∧ leftTo rs s k n ≤ 65535 := by
  induction n with
  | zero => simp [leftTo]
  | succ n ih => unfold leftTo; split; exact bits_fit _ _ _; exact ih
theorem tb_left (rs : List Int) (s : Int) (k : Nat) : ∀ n : Nat, n ≤ 9 → ∀ j : Nat, 1 ≤ j → j ≤ 9 → tb (leftTo rs s k n) j = (decide (j ≤ n) && keepP rs s k j)
  | 0, _, j, j1, _ => by rw [show decide (j ≤ 0) = false by simp; omega]; simp [leftTo, tb_zero]
  | n + 1, hn, j, j1, j9 => by
    have ih := tb_left rs s k n (by omega) j j1 j9
    unfold leftTo
    by_cases hk : keepP rs s k (n + 1) = true
    · rw [if_pos hk, tb_with _ _ (leftTo_fit rs s k n).1 j (by omega), ih]
      by_cases e : j = n + 1
      · subst e; rw [hk]; simp; omega
      · have e1 : ¬ (((n : Int) + 1).toNat = j) := by omega
        have e2 : decide (j ≤ n + 1) = decide (j ≤ n) := by rw [Bool.eq_iff_iff]; simp; omega
        rw [e2, decide_eq_false e1, Bool.and_false, Bool.or_false]
    · rw [if_neg hk, ih]
      by_cases e : j = n + 1
      · subst e; rw [show keepP rs s k (n + 1) = false by simpa using hk]; simp
      · have e2 : decide (j ≤ n + 1) = decide (j ≤ n) := by rw [Bool.eq_iff_iff]; simp; omega
        rw [e2]
def brokenB (cv cx cl ce ck left : Int) : Bool := !electsC cv cx cl ce ck left || !commitsC cv cx cl ce ck left || (meetB left cv == 0)
theorem broken_eq {cv cx cl ce ck left gone : Int} (v0 : 0 ≤ cv) (x0 : 0 ≤ cx) (l0 : 0 ≤ left) (g0 : 0 ≤ gone) (h : ∀ j : Nat, 1 ≤ j → j ≤ 9 → tb (bits .or .u16 cv cx) j = true → tb left j = !tb gone j) :
    brokenB cv cx cl ce ck left = !standsC cv cx cl ce ck gone := by
  have o0 := (bits_fit .or cv cx).1
  have e1 : cnt (bits .and .u16 (bits .or .u16 cv cx) left) = cnt (bits .andNot .u16 (bits .or .u16 cv cx) gone) := cnt_congr _ _ fun j j1 j9 => by
    rw [tb_and _ _ o0 l0 j (by omega), tb_andNot _ _ o0 g0 j (by omega)]
    cases hv : tb (bits .or .u16 cv cx) j
    · rfl
    · rw [h j j1 j9 hv]
  have e2 : cnt (bits .and .u16 cv left) = cnt (bits .andNot .u16 cv gone) := cnt_congr _ _ fun j j1 j9 => by
    rw [tb_and _ _ v0 l0 j (by omega), tb_andNot _ _ v0 g0 j (by omega)]
    cases hv : tb cv j
    · rfl
    · rw [h j j1 j9 (by rw [tb_or _ _ v0 x0 j (by omega), hv]; rfl)]
  have e3 : cnt (bits .and .u16 left cv) = cnt (bits .andNot .u16 cv gone) := by
    rw [← e2]
    exact cnt_congr _ _ fun j j1 j9 => by rw [tb_and _ _ v0 l0 j (by omega), tb_and _ _ l0 v0 j (by omega), Bool.and_comm]
  unfold brokenB electsC commitsC standsC
  rw [meet_zero left cv l0 v0, e1, e2, e3]
  generalize cnt (bits .andNot .u16 (bits .or .u16 cv cx) gone) = A
  generalize cnt (bits .andNot .u16 cv gone) = B
  cases decide (ce ≤ A) <;> cases decide (ck ≤ A) <;> cases decide (0 < B) <;> rfl
theorem stands_none {cv cx cl ce ck : Int} (fc : FitC cv cx cl) (hm : mayC cv cx cl ce ck = true) : standsC cv cx cl ce ck 0 = true := by
  have M := (mayC_iff _ _ _ _ _).1 hm
  have o := bits_fit .or cv cx
  unfold standsC
  rw [andNot_zero _ o.1 o.2, andNot_zero _ fc.v0 fc.v1]
  obtain ⟨i, i1, i9, hi⟩ := may_some cv fc.v0 fc.v1 M.mv M.ne
  have hp : 0 < cnt cv := by rw [cnt_bs]; have := bs_pos (f := tb cv) 9 i i1 i9 hi; omega
  rw [decide_eq_true M.en, decide_eq_true M.kn, decide_eq_true hp]; rfl
def brk (rs : List Int) (cv cx cl ce ck s : Int) : Nat → Bool
  | 0 => false
  | k + 1 => brk rs cv cx cl ce ck s k || brokenB cv cx cl ce ck (leftTo rs s k rs.length)
theorem brk_iff (rs : List Int) (cv cx cl ce ck s : Int) : ∀ n : Nat, brk rs cv cx cl ce ck s n = true ↔ ∃ k, k < n ∧ brokenB cv cx cl ce ck (leftTo rs s k rs.length) = true
  | 0 => by simp [brk]
  | n + 1 => by
    unfold brk
    rw [Bool.or_eq_true, brk_iff rs cv cx cl ce ck s n]
    constructor
    · rintro (⟨k, hk, h⟩ | h)
      · exact ⟨k, by omega, h⟩
      · exact ⟨n, by omega, h⟩
    · rintro ⟨k, hk, h⟩
      by_cases e : k = n
      · subst e; exact .inr h
      · exact .inl ⟨k, by omega, h⟩
theorem scan_some (f : Nat → Bool) : ∀ (m i : Nat), (scan f m i).isSome = true ↔ ∃ j, i ≤ j ∧ j < i + m ∧ f j = true
  | 0, i => by simp [scan]; omega
  | m + 1, i => by
    unfold scan
    cases hf : f i
    · rw [if_neg (by simp), scan_some f m (i + 1)]
      constructor
      · rintro ⟨j, a, b, c⟩; exact ⟨j, by omega, by omega, c⟩
      · rintro ⟨j, a, b, c⟩
        by_cases e : j = i
        · subst e; rw [hf] at c; cases c
        · exact ⟨j, by omega, by omega, c⟩
    · rw [if_pos rfl]; simp; exact ⟨i, by omega, by omega, hf⟩
theorem toldN_false (o : Option Nat) : (toldN o).1 = !o.isSome := by cases o <;> rfl
theorem toldR_false (o : Option Nat) : (toldR o).1 = !o.isSome := by cases o <;> rfl
theorem regOk_get {rs : List Int} (h : regB rs = true) (j : Nat) (hj : j < rs.length) : 0 ≤ rs.getD j 0 ∧ rs.getD j 0 < 4 := by
  unfold regB at h
  simp only [Bool.and_eq_true, List.all_eq_true] at h
  have := h.1 _ (List.getElem_mem hj)
  unfold regOk at this
  simp only [Bool.not_eq_true', Bool.or_eq_false_iff, decide_eq_false_iff_not] at this
  rw [List.getD_eq_getElem?_getD, List.getElem?_eq_getElem hj]
  simp only [Option.getD_some]; omega
theorem tb_gone (rs : List Int) (r : Int) : ∀ n : Nat, n ≤ rs.length → n ≤ 9 → ∀ j : Nat, 1 ≤ j → j ≤ 9 → tb (goneTo rs r n) j = (decide (j ≤ n) && decide (rs.getD (j - 1) 0 = r))
  | 0, _, _, j, j1, _ => by rw [show decide (j ≤ 0) = false by simp; omega]; simp [goneTo, tb_zero]
  | n + 1, hn, h9, j, j1, j9 => by
    have ih := tb_gone rs r n (by omega) (by omega) j j1 j9
    unfold goneTo
    by_cases hk : rs.getD n 0 = r
    · rw [if_pos hk, tb_with _ _ (goneTo_fit rs r n).1 j (by omega), ih]
      by_cases e : j = n + 1
      · subst e; rw [Nat.add_sub_cancel, hk]; simp; omega
      · have e1 : ¬ (((n : Int) + 1).toNat = j) := by omega
        have e2 : decide (j ≤ n + 1) = decide (j ≤ n) := by rw [Bool.eq_iff_iff]; simp; omega
        rw [e2, decide_eq_false e1, Bool.and_false, Bool.or_false]
    · rw [if_neg hk, ih]
      by_cases e : j = n + 1
      · subst e; rw [Nat.add_sub_cancel, decide_eq_false hk, Bool.and_false, Bool.and_false]
      · have e2 : decide (j ≤ n + 1) = decide (j ≤ n) := by rw [Bool.eq_iff_iff]; simp; omega
        rw [e2]
theorem tb_one0 (k : Int) (j : Nat) (hj : j < 16) : tb (bits .or .u16 0 (oneB k)) j = (decide (1 ≤ k) && decide (k ≤ 9) && decide (k.toNat = j)) := by
  rw [tb_with 0 k (by decide) j hj, tb_zero, Bool.false_or]
section
variable {rs : List Int} {cv cx cl ce ck : Int} (fc : FitC cv cx cl) (hm : mayC cv cx cl ce ck = true) (hr : regB rs = true) (hsub : ∀ j : Nat, 1 ≤ j → j ≤ 9 → tb (bits .or .u16 cv cx) j = true → j ≤ rs.length)
include fc hm hr hsub
theorem brk_0 (n : Nat) : brk rs cv cx cl ce ck 0 n = false := by
  obtain ⟨l1, l9⟩ := regB_len hr
  rw [Bool.eq_false_iff]; intro h
  obtain ⟨k, hk, hb⟩ := (brk_iff rs cv cx cl ce ck 0 n).1 h
  rw [broken_eq (gone := 0) fc.v0 fc.x0 (leftTo_fit _ _ _ _).1 (by decide) (fun j j1 j9 hv => by
    rw [tb_left rs 0 k rs.length l9 j j1 j9, tb_zero, decide_eq_true (hsub j j1 j9 hv)]; rfl), stands_none fc hm] at hb
  cases hb
theorem brk_1 : brk rs cv cx cl ce ck 1 10 = !(toldN (scan (nodeF cv cx cl ce ck) rs.length 0)).1 := by
  obtain ⟨l1, l9⟩ := regB_len hr
  rw [toldN_false, Bool.not_not, Bool.eq_iff_iff, brk_iff, scan_some]
  have key : ∀ k : Nat, brokenB cv cx cl ce ck (leftTo rs 1 k rs.length) = true ↔ 1 ≤ k ∧ k ≤ rs.length ∧ nodeF cv cx cl ce ck (k - 1) = true := fun k => by
    by_cases hk : 1 ≤ k ∧ k ≤ rs.length
    · rw [broken_eq (gone := bits .or .u16 0 (oneB (k : Int))) fc.v0 fc.x0 (leftTo_fit _ _ _ _).1 (bits_fit _ _ _).1 (fun j j1 j9 hv => by
        rw [tb_left rs 1 k rs.length l9 j j1 j9, tb_one0 _ _ (by omega), decide_eq_true (hsub j j1 j9 hv)]
        unfold keepP
        rw [if_neg (by decide), if_pos rfl, decide_eq_true (show (1 : Int) ≤ k by omega), decide_eq_true (show (k : Int) ≤ 9 by omega), Int.toNat_natCast]
        by_cases e : j = k
        · subst e; simp
        · have e' : ¬ k = j := fun h => e h.symm
          simp [e, e'])]
      unfold nodeF
      rw [show (((k - 1 : Nat)) : Int) + 1 = (k : Int) by omega]
      constructor
      · intro h; exact ⟨hk.1, hk.2, h⟩
      · intro h; exact h.2.2
    · rw [broken_eq (gone := 0) fc.v0 fc.x0 (leftTo_fit _ _ _ _).1 (by decide) (fun j j1 j9 hv => by
        have hjl := hsub j j1 j9 hv
        rw [tb_left rs 1 k rs.length l9 j j1 j9, tb_zero, decide_eq_true hjl]
        unfold keepP
        rw [if_neg (by decide), if_pos rfl]
        have : j ≠ k := by omega
        simp [this]), stands_none fc hm]
      simp; intro a b; exact absurd ⟨a, b⟩ hk
  constructor
  · rintro ⟨k, hk, h⟩
    obtain ⟨a, b, c⟩ := (key k).1 h
    exact ⟨k - 1, by omega, by omega, c⟩
  · rintro ⟨j, _, h2, h3⟩
    exact ⟨j + 1, by omega, (key (j + 1)).2 ⟨by omega, by omega, by rw [Nat.add_sub_cancel]; exact h3⟩⟩
theorem brk_2 : brk rs cv cx cl ce ck 2 10 = !(toldR (scan (regF cv cx cl ce ck rs) 4 0)).1 := by
  obtain ⟨l1, l9⟩ := regB_len hr
  rw [toldR_false, Bool.not_not, Bool.eq_iff_iff, brk_iff, scan_some]
  have key : ∀ k : Nat, brokenB cv cx cl ce ck (leftTo rs 2 k rs.length) = !standsC cv cx cl ce ck (goneTo rs k rs.length) := fun k =>
    broken_eq fc.v0 fc.x0 (leftTo_fit _ _ _ _).1 (goneTo_fit _ _ _).1 (fun j j1 j9 hv => by
      rw [tb_left rs 2 k rs.length l9 j j1 j9, tb_gone rs k rs.length (Nat.le_refl _) l9 j j1 j9, decide_eq_true (hsub j j1 j9 hv)]
      unfold keepP
      rw [if_neg (by decide), if_neg (by decide)]
      simp)
  have far : ∀ k : Nat, 4 ≤ k → goneTo rs k rs.length = 0 := fun k hk => by
    have : ∀ n, n ≤ rs.length → goneTo rs k n = 0 := fun n => by
      induction n with
      | zero => intro _; rfl
      | succ n ih =>
        intro hn
        have := regOk_get hr n (by omega)
        unfold goneTo; rw [if_neg (by omega)]; exact ih (by omega)
    exact this _ (Nat.le_refl _)
  constructor
  · rintro ⟨k, hk, h⟩
    rw [key k] at h
    by_cases h4 : k < 4
    · exact ⟨k, by omega, by omega, h⟩
    · rw [far k (by omega), stands_none fc hm] at h; cases h
  · rintro ⟨j, _, h2, h3⟩
    exact ⟨j, by omega, by rw [key j]; exact h3⟩
end
end Go.Proofs.Ytihkkoldjllifaa
