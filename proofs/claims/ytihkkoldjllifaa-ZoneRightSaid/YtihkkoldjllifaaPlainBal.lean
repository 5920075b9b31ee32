/- Layer 11: who is taken has no more load than who is not: the plain law. -/
import Derived.Test.YtihkkoldjllifaaPlainAllot
namespace Go.Proofs.Ytihkkoldjllifaa

theorem has_with11 (s n m : Int) (h0 : 0 ≤ s) : hasB (bits .or .u16 s (oneB n)) m = (hasB s m || (decide (1 ≤ m) && decide (m ≤ 9) && decide (n = m))) := by
  by_cases h : 1 ≤ m ∧ m ≤ 9
  · obtain ⟨h1, h2⟩ := h
    unfold hasB
    rw [tb_with s n h0 m.toNat (by omega)]
    have e : (decide (1 ≤ n) && decide (n ≤ 9) && decide (n.toNat = m.toNat)) = decide (n = m) := by
      rw [Bool.eq_iff_iff]; simp only [Bool.and_eq_true, decide_eq_true_eq]; omega
    rw [e]; simp [h1, h2]
  · have e : (decide (1 ≤ m) && decide (m ≤ 9)) = false := by rw [Bool.eq_false_iff]; simp only [ne_eq, Bool.and_eq_true, decide_eq_true_eq]; exact h
    rw [e]; unfold hasB
    rcases Int.lt_or_le m 1 with h' | h'
    · simp [show ¬ 1 ≤ m by omega]
    · simp [show ¬ m ≤ 9 by omega]
def Bal (rs load : List Int) (U : Int) : Prop := ∀ a b : Nat, 1 ≤ a → a ≤ rs.length → 1 ≤ b → b ≤ rs.length → rs.getD (a - 1) 0 = rs.getD (b - 1) 0 → hasB U a = true → hasB U b = false →
  ldP load a < ldP load b ∨ (ldP load a = ldP load b ∧ a ≤ b)
theorem bal_step {rs load : List Int} {r U : Int} (h : Bal rs load U) (u0 : 0 ≤ U) (hm : bestP rs r U load ≠ 0) : Bal rs load (bits .or .u16 U (oneB (bestP rs r U load))) := by
  intro a b a1 a2 b1 b2 hab ha hb
  rw [has_with11 _ _ _ u0] at ha hb
  simp only [Bool.or_eq_false_iff] at hb
  obtain ⟨hb, hbn⟩ := hb
  cases hua : hasB U a with
  | true => exact h a b a1 a2 b1 b2 hab hua hb
  | false =>
    rw [hua, Bool.false_or] at ha
    simp only [Bool.and_eq_true, decide_eq_true_eq] at ha
    obtain ⟨-, hme⟩ := ha
    have hme' : bestP rs r U load = a := by omega
    rcases bestU_is (okP rs r U) (ldP load) rs.length with ⟨h0, _⟩ | ⟨_, _, _, h3, h4⟩
    · exact absurd h0 hm
    · have e : bestU (okP rs r U) (ldP load) rs.length = a := hme'
      rw [e] at h3 h4
      unfold okP at h3
      simp only [Bool.and_eq_true, decide_eq_true_eq] at h3
      have hokb : okP rs r U b = true := by
        unfold okP; rw [← hab, h3.1, hb]; simp
      exact h4 b b1 b2 hokb
theorem bal_take {rs load : List Int} {r taken : Int} (t0 : 0 ≤ taken) : ∀ (N : Nat) (got g : Int), 0 ≤ got → Bal rs load (bits .or .u16 taken got) → takeP rs r load taken N got = some g → Bal rs load (bits .or .u16 taken g) ∧ 0 ≤ g
  | 0, got, g, g0, h, e => by injection e with e; subst e; exact ⟨h, g0⟩
  | N + 1, got, g, g0, h, e => by
    unfold takeP at e
    split at e
    · cases e
    · rename_i hm
      have ho := oneB_fit (bestP rs r (bits .or .u16 taken got) load)
      refine bal_take t0 N _ g (bits_fit .or got _).1 ?_ e
      rw [← or_assoc16 taken got _ t0 g0 ho.1]
      exact bal_step h (bits_fit .or taken got).1 hm
theorem bal_go {rs load : List Int} {z : Zn} : ∀ (m q : Nat) (s s' : St), s.Fit → Bal rs load s.all → allotGo rs load z m q s = some s' → Bal rs load s'.all
  | 0, _, s, s', _, h, e => by injection e with e; subst e; exact h
  | m + 1, q, s, s', hf, h, e => by
    unfold allotGo at e
    cases ha : stepA rs load z q s with
    | none => rw [ha] at e; cases e
    | some s1 =>
      rw [ha] at e
      have hf1 := stepA_fit hf ha
      refine bal_go m (q + 1) s1 s' hf1 ?_ e
      unfold stepA at ha
      cases ht : takeP rs ((q / 3 : Nat) : Int) load s.all ((z.list (q % 3)).getD (q / 3) 0).toNat 0 with
      | none => rw [ht] at ha; cases ha
      | some g =>
        rw [ht] at ha; injection ha with ha; subst ha
        obtain ⟨hb, g0⟩ := bal_take (all_fit s).1 _ 0 g (by omega) (by rw [or_zero16 _ (all_fit s).1 (all_fit s).2]; exact h) ht
        rw [all_put hf (q % 3) (Nat.mod_lt _ (by omega)) g g0]
        exact hb
theorem hasB_zero (n : Int) : hasB 0 n = false := by unfold hasB; rw [tb_zero]; simp
theorem bal_allot {rs load : List Int} {z : Zn} {v x l e k : Int} (h : allotP rs load z = (⟨v, x, l, e, k⟩, 0)) : regB rs = true ∧ Bal rs load (bits .or .u16 (bits .or .u16 v x) l) := by
  unfold allotP at h
  split at h
  · rename_i hr
    simp only [Bool.and_eq_true] at hr
    cases hg : allotGo rs load z 12 0 ⟨0, 0, 0⟩ with
    | none => rw [hg] at h; simp at h
    | some s =>
      rw [hg] at h
      simp only [Prod.mk.injEq, and_true] at h
      refine ⟨hr.1, ?_⟩
      have hb := bal_go 12 0 ⟨0, 0, 0⟩ s ⟨by decide, by decide, by decide, by decide, by decide, by decide⟩ (by
        intro a b _ _ _ _ _ ha _
        rw [show St.all ⟨0, 0, 0⟩ = 0 by decide +kernel, hasB_zero] at ha; cases ha) hg
      have e1 : s.v = v := congrArg Cfg.v h
      have e2 : s.w = x := congrArg Cfg.x h
      have e3 : s.l = l := congrArg Cfg.l h
      rw [← e1, ← e2, ← e3]; exact hb
  · simp at h
/-- The members as the reference tells them. -/
def memU (v x l : Int) : Int := joinB (joinB 0 (joinB v x)) (joinB (joinB 0 v) l)
theorem memU_fit (v x l : Int) : 0 ≤ memU v x l ∧ memU v x l ≤ 65535 := joinB_fit _ _
theorem hasB_mem {v x l : Int} (v0 : 0 ≤ v) (x0 : 0 ≤ x) (l0 : 0 ≤ l) (i : Nat) (h1 : 1 ≤ i) (h2 : i ≤ 9) : hasB (memU v x l) i = hasB (bits .or .u16 (bits .or .u16 v x) l) i := by
  have j1 := joinB_fit v x; have j2 := joinB_fit 0 v; have j3 := joinB_fit 0 (joinB v x); have j4 := joinB_fit (joinB 0 v) l
  rw [hasB_tb _ i h1 h2, hasB_tb _ i h1 h2]
  unfold memU
  rw [tb_joinB _ _ j3.1 j4.1 i (by omega), tb_joinB _ _ (by omega) j1.1 i (by omega), tb_joinB _ _ v0 x0 i (by omega), tb_joinB _ _ j2.1 l0 i (by omega), tb_joinB _ _ (by omega) v0 i (by omega),
    tb_or _ _ (bits_fit _ _ _).1 l0 i (by omega), tb_or _ _ v0 x0 i (by omega), tb_zero]
  simp [h1, h2]
  cases tb v i <;> cases tb x i <;> cases tb l i <;> rfl
end Go.Proofs.Ytihkkoldjllifaa
