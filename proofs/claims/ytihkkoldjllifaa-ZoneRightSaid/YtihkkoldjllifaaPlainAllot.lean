/- Layer 11: where replicas lie: the plain laws. -/
import Derived.Test.YtihkkoldjllifaaPlainZone
import Derived.Test.YtihkkoldjllifaaPlainCfg
namespace Go.Proofs.Ytihkkoldjllifaa

/-! ### The best node -/
def bdStep (P : Nat → Bool) (ld : Nat → Int) (i b : Nat) : Nat := if (P i && (b == 0 || decide (ld i ≤ ld b))) = true then i else b
def bestD (P : Nat → Bool) (ld : Nat → Int) : Nat → Nat → Nat
  | 0, b => b
  | n + 1, b => bestD P ld n (bdStep P ld (n + 1) b)
def buStep (P : Nat → Bool) (ld : Nat → Int) (i b : Nat) : Nat := if (P i && (b == 0 || decide (ld i < ld b))) = true then i else b
def bestU (P : Nat → Bool) (ld : Nat → Int) : Nat → Nat
  | 0 => 0
  | k + 1 => buStep P ld (k + 1) (bestU P ld k)
def IsBest (P : Nat → Bool) (ld : Nat → Int) (lo hi b : Nat) : Prop :=
  (b = 0 ∧ ∀ i, lo ≤ i → i ≤ hi → P i = false) ∨ (1 ≤ b ∧ lo ≤ b ∧ b ≤ hi ∧ P b = true ∧ ∀ i, lo ≤ i → i ≤ hi → P i = true → ld b < ld i ∨ (ld b = ld i ∧ b ≤ i))
theorem best_same {P : Nat → Bool} {ld : Nat → Int} {lo hi b b' : Nat} (h : IsBest P ld lo hi b) (h' : IsBest P ld lo hi b') : b = b' := by
  rcases h with ⟨rfl, h1⟩ | ⟨h0, h1, h2, h3, h4⟩ <;> rcases h' with ⟨rfl, k1⟩ | ⟨k0, k1, k2, k3, k4⟩
  · rfl
  · rw [h1 b' k1 k2] at k3; cases k3
  · rw [k1 b h1 h2] at h3; cases h3
  · have a := h4 b' k1 k2 k3
    have c := k4 b h1 h2 h3
    omega
theorem bestU_is (P : Nat → Bool) (ld : Nat → Int) (k : Nat) : IsBest P ld 1 k (bestU P ld k) := by
  induction k with
  | zero => exact .inl ⟨rfl, fun i h1 h2 => by omega⟩
  | succ k ih =>
    unfold bestU buStep
    cases hP : P (k + 1)
    · simp only [Bool.false_and, Bool.false_eq_true, if_false]
      rcases ih with ⟨h0, h1⟩ | ⟨h0, h1, h2, h3, h4⟩
      · exact .inl ⟨h0, fun i a b => by by_cases e : i = k + 1; subst e; exact hP; exact h1 i a (by omega)⟩
      · exact .inr ⟨h0, h1, by omega, h3, fun i a b c => by by_cases e : i = k + 1; subst e; rw [hP] at c; cases c; exact h4 i a (by omega) c⟩
    · simp only [Bool.true_and]
      rcases ih with ⟨h0, h1⟩ | ⟨h0, h1, h2, h3, h4⟩
      · rw [h0]; simp only [beq_self_eq_true, Bool.true_or, if_true]
        exact .inr ⟨by omega, by omega, by omega, hP, fun i a b c => by by_cases e : i = k + 1; subst e; exact .inr ⟨rfl, by omega⟩; rw [h1 i a (by omega)] at c; cases c⟩
      · have e0 : (bestU P ld k == 0) = false := by simp; omega
        rw [e0, Bool.false_or]
        by_cases hl : ld (k + 1) < ld (bestU P ld k)
        · rw [if_pos (by simpa using hl)]
          exact .inr ⟨by omega, by omega, by omega, hP, fun i a b c => by
            by_cases e : i = k + 1
            · subst e; exact .inr ⟨rfl, by omega⟩
            · have := h4 i a (by omega) c; omega⟩
        · rw [if_neg (by simpa using hl)]
          exact .inr ⟨h0, h1, by omega, h3, fun i a b c => by
            by_cases e : i = k + 1
            · subst e; omega
            · exact h4 i a (by omega) c⟩
theorem bestD_is (P : Nat → Bool) (ld : Nat → Int) (hi : Nat) : ∀ (n b : Nat), n ≤ hi → IsBest P ld (n + 1) hi b → IsBest P ld 1 hi (bestD P ld n b)
  | 0, b, _, h => h
  | n + 1, b, hn, h => by
    refine bestD_is P ld hi n _ (by omega) ?_
    unfold bdStep
    cases hP : P (n + 1)
    · simp only [Bool.false_and, Bool.false_eq_true, if_false]
      rcases h with ⟨h0, h1⟩ | ⟨h0, h1, h2, h3, h4⟩
      · exact .inl ⟨h0, fun i a b => by by_cases e : i = n + 1; subst e; exact hP; exact h1 i (by omega) b⟩
      · exact .inr ⟨h0, by omega, h2, h3, fun i a b c => by by_cases e : i = n + 1; subst e; rw [hP] at c; cases c; exact h4 i (by omega) b c⟩
    · simp only [Bool.true_and]
      rcases h with ⟨h0, h1⟩ | ⟨h0, h1, h2, h3, h4⟩
      · rw [h0]; simp only [beq_self_eq_true, Bool.true_or, if_true]
        exact .inr ⟨by omega, by omega, by omega, hP, fun i a b c => by by_cases e : i = n + 1; subst e; exact .inr ⟨rfl, by omega⟩; rw [h1 i (by omega) b] at c; cases c⟩
      · have e0 : (b == 0) = false := by simp; omega
        rw [e0, Bool.false_or]
        by_cases hl : ld (n + 1) ≤ ld b
        · rw [if_pos (by simpa using hl)]
          exact .inr ⟨by omega, by omega, by omega, hP, fun i a b c => by
            by_cases e : i = n + 1
            · subst e; exact .inr ⟨rfl, by omega⟩
            · have := h4 i (by omega) b c; omega⟩
        · rw [if_neg (by simpa using hl)]
          exact .inr ⟨h0, by omega, h2, h3, fun i a b c => by
            by_cases e : i = n + 1
            · subst e; omega
            · exact h4 i (by omega) b c⟩
theorem bestD_eq (P : Nat → Bool) (ld : Nat → Int) (n : Nat) : bestD P ld n 0 = bestU P ld n :=
  best_same (bestD_is P ld n n 0 (Nat.le_refl _) (.inl ⟨rfl, fun i a b => by omega⟩)) (bestU_is P ld n)
theorem bestU_le (P : Nat → Bool) (ld : Nat → Int) (n : Nat) : bestU P ld n ≤ n := by
  rcases bestU_is P ld n with ⟨h, _⟩ | ⟨_, _, h, _⟩ <;> omega

theorem bd_no {P : Nat → Bool} {ld : Nat → Int} {i b : Nat} (h : P i = false) : bdStep P ld i b = b := by simp [bdStep, h]
theorem bd_zero {P : Nat → Bool} {ld : Nat → Int} {i : Nat} (h : P i = true) : bdStep P ld i 0 = i := by simp [bdStep, h]
theorem bd_le {P : Nat → Bool} {ld : Nat → Int} {i b : Nat} (h : P i = true) (h1 : ld i ≤ ld b) : bdStep P ld i b = i := by simp [bdStep, h, h1]
theorem bd_gt {P : Nat → Bool} {ld : Nat → Int} {i b : Nat} (h0 : b ≠ 0) (h1 : ¬ ld i ≤ ld b) : bdStep P ld i b = b := by simp [bdStep, h0, h1]
theorem bu_no {P : Nat → Bool} {ld : Nat → Int} {i b : Nat} (h : P i = false) : buStep P ld i b = b := by simp [buStep, h]
theorem bu_zero {P : Nat → Bool} {ld : Nat → Int} {i : Nat} (h : P i = true) : buStep P ld i 0 = i := by simp [buStep, h]
theorem bu_lt {P : Nat → Bool} {ld : Nat → Int} {i b : Nat} (h : P i = true) (h1 : ld i < ld b) : buStep P ld i b = i := by simp [buStep, h, h1]
theorem bu_ge {P : Nat → Bool} {ld : Nat → Int} {i b : Nat} (h0 : b ≠ 0) (h1 : ¬ ld i < ld b) : buStep P ld i b = b := by simp [buStep, h0, h1]

/-! ### Taking -/
def okP (rs : List Int) (r used : Int) (i : Nat) : Bool := decide (rs.getD (i - 1) 0 = r) && !hasB used i
def ldP (load : List Int) (i : Nat) : Int := load.getD (i - 1) 0
def bestP (rs : List Int) (r used : Int) (load : List Int) : Nat := bestU (okP rs r used) (ldP load) rs.length
def takeP (rs : List Int) (r : Int) (load : List Int) (taken : Int) : Nat → Int → Option Int
  | 0, got => some got
  | n + 1, got => if bestP rs r (bits .or .u16 taken got) load = 0 then none else takeP rs r load taken n (bits .or .u16 got (oneB (bestP rs r (bits .or .u16 taken got) load)))
theorem takeP_no {rs : List Int} {r : Int} {load : List Int} {taken got : Int} {n : Nat} (h : 0 < n) (h0 : bestP rs r (bits .or .u16 taken got) load = 0) : takeP rs r load taken n got = none := by
  obtain ⟨m, rfl⟩ : ∃ m, n = m + 1 := ⟨n - 1, by omega⟩
  simp [takeP, h0]
theorem takeP_yes {rs : List Int} {r : Int} {load : List Int} {taken got : Int} {n : Nat} (h : 0 < n) (h0 : bestP rs r (bits .or .u16 taken got) load ≠ 0) :
    takeP rs r load taken n got = takeP rs r load taken (n - 1) (bits .or .u16 got (oneB (bestP rs r (bits .or .u16 taken got) load))) := by
  obtain ⟨m, rfl⟩ : ∃ m, n = m + 1 := ⟨n - 1, by omega⟩
  simp [takeP, h0]
theorem or_assoc16 (a b c : Int) (ha : 0 ≤ a) (hb : 0 ≤ b) (hc : 0 ≤ c) : bits .or .u16 (bits .or .u16 a b) c = bits .or .u16 a (bits .or .u16 b c) := by
  refine tb_ext _ _ (bits_fit _ _ _).1 (bits_fit _ _ _).1 (bits_fit _ _ _).2 (bits_fit _ _ _).2 fun i hi => ?_
  rw [tb_or _ _ (bits_fit _ _ _).1 hc i hi, tb_or _ _ ha hb i hi, tb_or _ _ ha (bits_fit _ _ _).1 i hi, tb_or _ _ hb hc i hi, Bool.or_assoc]

/-! ### A zone -/
def numOk (n : Int) : Bool := !(decide (n < 0) || decide (9 < n))
def listOk (l : List Int) : Bool := decide (l.length ≤ 4) && l.all numOk
def mayZ (z : Zn) : Bool := listOk z.v && (listOk z.w && (listOk z.l && (numOk z.e && (numOk z.k && (decide (0 ≤ z.s) && decide (z.s ≤ 2))))))
def Zn.lists (z : Zn) (q : Nat) : List Int := if q = 0 then z.v else if q = 1 then z.w else if q = 2 then z.l else if q = 3 then [z.e] else [z.k]
theorem listOk_one (n : Int) : listOk [n] = numOk n := by simp [listOk]
theorem mayZ_no {z : Zn} {q : Nat} (hq : q < 5) (h : listOk (z.lists q) = false) : mayZ z = false := by
  have : q = 0 ∨ q = 1 ∨ q = 2 ∨ q = 3 ∨ q = 4 := by omega
  rcases this with rfl | rfl | rfl | rfl | rfl <;> simp [Zn.lists, listOk_one] at h <;> simp [mayZ, h]
theorem mayZ_yes {z : Zn} (h : ∀ q, q < 5 → listOk (z.lists q) = true) : mayZ z = (decide (0 ≤ z.s) && decide (z.s ≤ 2)) := by
  have h0 := h 0 (by omega); have h1 := h 1 (by omega); have h2 := h 2 (by omega); have h3 := h 3 (by omega); have h4 := h 4 (by omega)
  simp [Zn.lists, listOk_one] at h0 h1 h2 h3 h4
  simp [mayZ, h0, h1, h2, h3, h4]
theorem mayZ_three {z : Zn} (h : ∀ q, q < 3 → listOk (z.lists q) = true) : mayZ z = (numOk z.e && (numOk z.k && (decide (0 ≤ z.s) && decide (z.s ≤ 2)))) := by
  have h0 := h 0 (by omega); have h1 := h 1 (by omega); have h2 := h 2 (by omega)
  simp [Zn.lists] at h0 h1 h2
  simp [mayZ, h0, h1, h2]
theorem numOk_no {n : Int} (h : n < 0 ∨ 9 < n) : numOk n = false := by unfold numOk; rcases h with h | h <;> simp [h]
theorem numOk_yes {n : Int} (h0 : ¬ n < 0) (h1 : ¬ 9 < n) : numOk n = true := by unfold numOk; simp; omega
theorem listOk_at {l : List Int} {k : Nat} (h : k < l.length) (h0 : numOk l[k] = false) : listOk l = false := by
  have : l.all numOk = false := by
    rw [Bool.eq_false_iff]; intro e
    rw [List.all_eq_true] at e
    have := e _ (List.getElem_mem h); rw [h0] at this; cases this
  simp [listOk, this]
theorem listOk_long {l : List Int} (h : 4 < l.length) : listOk l = false := by simp [listOk, show ¬ l.length ≤ 4 by omega]
theorem listOk_all {l : List Int} (h : l.length ≤ 4) (h0 : ∀ j, (hj : j < l.length) → numOk l[j] = true) : listOk l = true := by
  have : l.all numOk = true := by rw [List.all_eq_true]; intro x hx; obtain ⟨j, hj, rfl⟩ := List.getElem_of_mem hx; exact h0 j hj
  simp [listOk, this, h]
structure St where
  v : Int
  w : Int
  l : Int
def St.all (s : St) : Int := bits .or .u16 (bits .or .u16 s.v s.w) s.l
def St.put (s : St) (i : Nat) (g : Int) : St := if i = 0 then ⟨bits .or .u16 s.v g, s.w, s.l⟩ else if i = 1 then ⟨s.v, bits .or .u16 s.w g, s.l⟩ else ⟨s.v, s.w, bits .or .u16 s.l g⟩
def Zn.list (z : Zn) (i : Nat) : List Int := if i = 0 then z.v else if i = 1 then z.w else z.l
def stepA (rs load : List Int) (z : Zn) (q : Nat) (s : St) : Option St :=
  (takeP rs ((q / 3 : Nat) : Int) load s.all ((z.list (q % 3)).getD (q / 3) 0).toNat 0).map (s.put (q % 3))
def allotGo (rs load : List Int) (z : Zn) : Nat → Nat → St → Option St
  | 0, _, s => some s
  | m + 1, q, s => match stepA rs load z q s with
    | none => none
    | some s' => allotGo rs load z m (q + 1) s'
theorem allotGo_no {rs load : List Int} {z : Zn} {m q : Nat} {s : St} (hm : 0 < m) (h : stepA rs load z q s = none) : allotGo rs load z m q s = none := by
  obtain ⟨k, rfl⟩ : ∃ k, m = k + 1 := ⟨m - 1, by omega⟩
  simp [allotGo, h]
theorem allotGo_yes {rs load : List Int} {z : Zn} {m q : Nat} {s s' : St} (hm : 0 < m) (h : stepA rs load z q s = some s') : allotGo rs load z m q s = allotGo rs load z (m - 1) (q + 1) s' := by
  obtain ⟨k, rfl⟩ : ∃ k, m = k + 1 := ⟨m - 1, by omega⟩
  simp [allotGo, h]
def cfgOf (z : Zn) (s : St) : Cfg :=
  ⟨s.v, s.w, s.l, if z.e = 0 then cnt (bits .or .u16 s.v s.w) / 2 + 1 else z.e, if z.k = 0 then cnt (bits .or .u16 s.v s.w) / 2 + 1 else z.k⟩
def noCfg : Cfg := ⟨0, 0, 0, 0, 0⟩
def allotP (rs load : List Int) (z : Zn) : Cfg × Int :=
  if (regB rs && mayZ z) = true then match allotGo rs load z 12 0 ⟨0, 0, 0⟩ with
    | none => (noCfg, 8)
    | some s => (cfgOf z s, 0)
  else (noCfg, 1)
def checkP (rs load : List Int) (z : Zn) : Cfg × Int :=
  let a := allotP rs load z
  if a.2 ≠ 0 then (noCfg, a.2) else if mayC a.1.v a.1.x a.1.l a.1.e a.1.k = false then (noCfg, 11)
  else if (survives rs a.1.v a.1.x a.1.l a.1.e a.1.k z.s).1 = false then (noCfg, 12) else (a.1, 0)
theorem allot_no {rs load : List Int} {z : Zn} (h : (regB rs && mayZ z) = false) : allotP rs load z = (noCfg, 1) := by unfold allotP; rw [if_neg (by simp [h])]
theorem allot_full {rs load : List Int} {z : Zn} (h : (regB rs && mayZ z) = true) (h2 : allotGo rs load z 12 0 ⟨0, 0, 0⟩ = none) : allotP rs load z = (noCfg, 8) := by unfold allotP; rw [if_pos h, h2]
theorem allot_ok {rs load : List Int} {z : Zn} {s : St} (h : (regB rs && mayZ z) = true) (h2 : allotGo rs load z 12 0 ⟨0, 0, 0⟩ = some s) : allotP rs load z = (cfgOf z s, 0) := by unfold allotP; rw [if_pos h, h2]
theorem stepA_eq (rs load : List Int) (z : Zn) (r i : Nat) (hi : i < 3) (s : St) :
    stepA rs load z (3 * r + i) s = (takeP rs (r : Int) load s.all ((z.list i).getD r 0).toNat 0).map (s.put i) := by
  unfold stepA
  rw [show (3 * r + i) / 3 = r by omega, show (3 * r + i) % 3 = i by omega]
theorem listOk_get {l : List Int} (h : listOk l = true) (r : Nat) : ∃ N : Nat, N ≤ 9 ∧ l.getD r 0 = (N : Int) := by
  by_cases hr : r < l.length
  · unfold listOk at h
    simp only [Bool.and_eq_true, List.all_eq_true] at h
    have := h.2 _ (List.getElem_mem hr)
    unfold numOk at this
    simp only [Bool.not_eq_true', Bool.or_eq_false_iff, decide_eq_false_iff_not] at this
    exact ⟨l[r].toNat, by omega, by rw [List.getD_eq_getElem?_getD, List.getElem?_eq_getElem hr]; simp only [Option.getD_some]; omega⟩
  · exact ⟨0, by omega, by rw [List.getD_eq_getElem?_getD, List.getElem?_eq_none (by omega)]; rfl⟩
theorem mayZ_list {z : Zn} (h : mayZ z = true) (i : Nat) (hi : i < 3) : listOk (z.list i) = true := by
  unfold mayZ at h
  simp only [Bool.and_eq_true] at h
  have : i = 0 ∨ i = 1 ∨ i = 2 := by omega
  rcases this with rfl | rfl | rfl
  · exact h.1
  · exact h.2.1
  · exact h.2.2.1
theorem mayZ_get {z : Zn} (h : mayZ z = true) (i : Nat) (hi : i < 3) (r : Nat) : ∃ N : Nat, N ≤ 9 ∧ (z.list i).getD r 0 = (N : Int) := listOk_get (mayZ_list h i hi) r
structure St.Fit (s : St) : Prop where
  v0 : 0 ≤ s.v
  v1 : s.v ≤ 65535
  w0 : 0 ≤ s.w
  w1 : s.w ≤ 65535
  l0 : 0 ≤ s.l
  l1 : s.l ≤ 65535
theorem St.fit_put {s : St} (h : s.Fit) (i : Nat) (g : Int) : (s.put i g).Fit := by
  obtain ⟨a0, a1⟩ := bits_fit .or s.v g
  obtain ⟨b0, b1⟩ := bits_fit .or s.w g
  obtain ⟨c0, c1⟩ := bits_fit .or s.l g
  unfold St.put
  split
  · exact ⟨a0, a1, h.w0, h.w1, h.l0, h.l1⟩
  · split
    · exact ⟨h.v0, h.v1, b0, b1, h.l0, h.l1⟩
    · exact ⟨h.v0, h.v1, h.w0, h.w1, c0, c1⟩
theorem stepA_fit {rs load : List Int} {z : Zn} {q : Nat} {s s' : St} (h : s.Fit) (e : stepA rs load z q s = some s') : s'.Fit := by
  unfold stepA at e
  cases ht : takeP rs ((q / 3 : Nat) : Int) load s.all ((z.list (q % 3)).getD (q / 3) 0).toNat 0 with
  | none => rw [ht] at e; cases e
  | some g => rw [ht] at e; injection e with e; rw [← e]; exact St.fit_put h _ _
theorem allotGo_fit {rs load : List Int} {z : Zn} : ∀ (m q : Nat) (s s' : St), s.Fit → allotGo rs load z m q s = some s' → s'.Fit
  | 0, _, s, s', h, e => by injection e with e; rw [← e]; exact h
  | m + 1, q, s, s', h, e => by
    unfold allotGo at e
    cases ha : stepA rs load z q s with
    | none => rw [ha] at e; cases e
    | some s1 => rw [ha] at e; exact allotGo_fit m (q + 1) s1 s' (stepA_fit h ha) e
theorem allotP_fit (rs load : List Int) (z : Zn) : FitC (allotP rs load z).1.v (allotP rs load z).1.x (allotP rs load z).1.l := by
  have h0 : FitC (0 : Int) 0 0 := ⟨by decide, by decide, by decide, by decide, by decide, by decide⟩
  unfold allotP
  split
  · cases h : allotGo rs load z 12 0 ⟨0, 0, 0⟩ with
    | none => exact h0
    | some s =>
      have := allotGo_fit 12 0 ⟨0, 0, 0⟩ s ⟨by decide, by decide, by decide, by decide, by decide, by decide⟩ h
      exact ⟨this.v0, this.v1, this.w0, this.w1, this.l0, this.l1⟩
  · exact h0
theorem check_err {rs load : List Int} {z : Zn} {v x l e k err : Int} (h : allotP rs load z = (⟨v, x, l, e, k⟩, err)) (h0 : err ≠ 0) : checkP rs load z = (noCfg, err) := by unfold checkP; rw [h]; simp [h0]
theorem check_may {rs load : List Int} {z : Zn} {v x l e k : Int} (h : allotP rs load z = (⟨v, x, l, e, k⟩, 0)) (h0 : mayC v x l e k = false) : checkP rs load z = (noCfg, 11) := by unfold checkP; rw [h]; simp [h0]
theorem check_zone {rs load : List Int} {z : Zn} {v x l e k : Int} (h : allotP rs load z = (⟨v, x, l, e, k⟩, 0)) (h0 : mayC v x l e k = true) (h1 : (survives rs v x l e k z.s).1 = false) : checkP rs load z = (noCfg, 12) := by unfold checkP; rw [h]; simp [h0, h1]
theorem check_ok {rs load : List Int} {z : Zn} {v x l e k : Int} (h : allotP rs load z = (⟨v, x, l, e, k⟩, 0)) (h0 : mayC v x l e k = true) (h1 : (survives rs v x l e k z.s).1 = true) : checkP rs load z = (⟨v, x, l, e, k⟩, 0) := by unfold checkP; rw [h]; simp [h0, h1]
theorem or_zero16 (s : Int) (h0 : 0 ≤ s) (h1 : s ≤ 65535) : bits .or .u16 s 0 = s := or_zero s h0 h1
theorem all_fit (s : St) : 0 ≤ s.all ∧ s.all ≤ 65535 := bits_fit .or (bits .or .u16 s.v s.w) s.l
theorem all_put {s : St} (h : s.Fit) (i : Nat) (hi : i < 3) (g : Int) (g0 : 0 ≤ g) : (s.put i g).all = bits .or .u16 s.all g := by
  have a := bits_fit .or s.v s.w
  have e1 := bits_fit .or s.v g
  have e2 := bits_fit .or s.w g
  have e3 := bits_fit .or s.l g
  have := h.v0; have := h.w0; have := h.l0
  refine tb_ext _ _ (all_fit _).1 (bits_fit .or s.all g).1 (all_fit _).2 (bits_fit .or s.all g).2 fun j hj => ?_
  rw [tb_or _ _ (all_fit s).1 g0 j hj]
  have q : i = 0 ∨ i = 1 ∨ i = 2 := by omega
  rcases q with rfl | rfl | rfl
  · show tb (bits .or .u16 (bits .or .u16 (bits .or .u16 s.v g) s.w) s.l) j = (tb (bits .or .u16 (bits .or .u16 s.v s.w) s.l) j || tb g j)
    rw [tb_or _ _ (bits_fit _ _ _).1 h.l0 j hj, tb_or _ _ e1.1 h.w0 j hj, tb_or _ _ h.v0 g0 j hj, tb_or _ _ a.1 h.l0 j hj, tb_or _ _ h.v0 h.w0 j hj]
    cases tb s.v j <;> cases tb s.w j <;> cases tb s.l j <;> cases tb g j <;> rfl
  · show tb (bits .or .u16 (bits .or .u16 s.v (bits .or .u16 s.w g)) s.l) j = (tb (bits .or .u16 (bits .or .u16 s.v s.w) s.l) j || tb g j)
    rw [tb_or _ _ (bits_fit _ _ _).1 h.l0 j hj, tb_or _ _ h.v0 e2.1 j hj, tb_or _ _ h.w0 g0 j hj, tb_or _ _ a.1 h.l0 j hj, tb_or _ _ h.v0 h.w0 j hj]
    cases tb s.v j <;> cases tb s.w j <;> cases tb s.l j <;> cases tb g j <;> rfl
  · show tb (bits .or .u16 (bits .or .u16 s.v s.w) (bits .or .u16 s.l g)) j = (tb (bits .or .u16 (bits .or .u16 s.v s.w) s.l) j || tb g j)
    rw [tb_or _ _ a.1 e3.1 j hj, tb_or _ _ h.l0 g0 j hj, tb_or _ _ a.1 h.l0 j hj, tb_or _ _ h.v0 h.w0 j hj]
    cases tb s.v j <;> cases tb s.w j <;> cases tb s.l j <;> cases tb g j <;> rfl
theorem put_zero {s : St} (h : s.Fit) (i : Nat) : s.put i 0 = s := by
  unfold St.put
  rw [or_zero _ h.v0 h.v1, or_zero _ h.w0 h.w1, or_zero _ h.l0 h.l1]
  split
  · rfl
  · split <;> rfl
end Go.Proofs.Ytihkkoldjllifaa
