/- ZoneRight: what is let through has just what the zone asks for: along the placing. -/
import Derived.Test.YtihkkoldjllifaaPlainRightA
namespace Go.Proofs.Ytihkkoldjllifaa

def St.get (s : St) (i : Nat) : Int := if i = 0 then s.v else if i = 1 then s.w else s.l
theorem get_fit {s : St} (h : s.Fit) (i : Nat) : 0 ≤ s.get i ∧ s.get i ≤ 65535 := by
  unfold St.get
  split
  · exact ⟨h.v0, h.v1⟩
  · split
    · exact ⟨h.w0, h.w1⟩
    · exact ⟨h.l0, h.l1⟩
theorem get_put_same (s : St) (i : Nat) (hi : i < 3) (g : Int) : (s.put i g).get i = bits .or .u16 (s.get i) g := by
  have : i = 0 ∨ i = 1 ∨ i = 2 := by omega
  rcases this with rfl | rfl | rfl <;> rfl
theorem get_put_other (s : St) (i j : Nat) (hi : i < 3) (hj : j < 3) (hne : i ≠ j) (g : Int) : (s.put i g).get j = s.get j := by
  have : i = 0 ∨ i = 1 ∨ i = 2 := by omega
  have : j = 0 ∨ j = 1 ∨ j = 2 := by omega
  rcases ‹i = 0 ∨ i = 1 ∨ i = 2› with rfl | rfl | rfl <;> rcases ‹j = 0 ∨ j = 1 ∨ j = 2› with rfl | rfl | rfl <;> first | rfl | exact absurd rfl hne
theorem hasB_all {s : St} (h : s.Fit) (n : Int) : hasB s.all n = (hasB s.v n || hasB s.w n || hasB s.l n) := by
  unfold St.all
  rw [hasB_or _ _ (bits_fit .or s.v s.w).1 h.l0, hasB_or _ _ h.v0 h.w0]
theorem all_get {s : St} (h : s.Fit) (i : Nat) (hi : i < 3) (n : Int) (hn : hasB s.all n = false) : hasB (s.get i) n = false := by
  rw [hasB_all h] at hn
  simp only [Bool.or_eq_false_iff] at hn
  have : i = 0 ∨ i = 1 ∨ i = 2 := by omega
  rcases this with rfl | rfl | rfl
  · exact hn.1.1
  · exact hn.1.2
  · exact hn.2
/-- How far the placing has come. -/
structure Right (rs : List Int) (z : Zn) (q : Nat) (s : St) : Prop where
  cnt : ∀ i r : Nat, i < 3 → cntR rs (s.get i) (r : Int) = if 3 * r + i < q then ((z.list i).getD r 0).toNat else 0
  sub : ∀ i : Nat, i < 3 → ∀ k : Nat, hasB (s.get i) k = true → k ≤ rs.length
theorem right_step {rs load : List Int} {z : Zn} {q : Nat} {s s' : St} (hl : rs.length ≤ 9) (hf : s.Fit) (h : Right rs z q s) (e : stepA rs load z q s = some s') : Right rs z (q + 1) s' := by
  unfold stepA at e
  obtain ⟨r, hr⟩ : ∃ r, q / 3 = r := ⟨_, rfl⟩
  obtain ⟨i, hi⟩ : ∃ i, q % 3 = i := ⟨_, rfl⟩
  have hi3 : i < 3 := by omega
  have hq : q = 3 * r + i := by omega
  rw [hr, hi] at e
  cases ht : takeP rs (r : Int) load s.all ((z.list i).getD r 0).toNat 0 with
  | none => rw [ht] at e; cases e
  | some g =>
    rw [ht] at e; injection e with e; subst e
    have T := take_took hl (all_fit s).1 _ 0 g (by omega) ht
    have hd := T.dis (fun k _ _ => by rw [hasB_zero, Bool.and_false])
    have hs := T.sub (fun k hk => by rw [hasB_zero] at hk; cases hk)
    constructor
    · intro j r' hj
      by_cases hij : i = j
      · subst hij
        rw [get_put_same s i hi3 g, cntR_or (get_fit hf i).1 T.g0 (fun k k1 k2 => by
          have := hd k k1 k2
          cases ha : hasB s.all k with
          | false => rw [all_get hf i hi3 k ha]; rfl
          | true => rw [ha, Bool.true_and] at this; rw [this, Bool.and_false]), h.cnt i r' hj]
        by_cases hrr : r' = r
        · subst hrr
          rw [T.cnt, cntR_zero, if_neg (by omega), if_pos (by omega)]; omega
        · rw [T.oth (r' : Int) (by omega), cntR_zero]
          by_cases hlt : 3 * r' + i < q
          · rw [if_pos hlt, if_pos (by omega)]; rfl
          · rw [if_neg hlt, if_neg (by omega)]
      · rw [get_put_other s i j hi3 hj hij g, h.cnt j r' hj]
        by_cases hlt : 3 * r' + j < q
        · rw [if_pos hlt, if_pos (by omega)]
        · rw [if_neg hlt, if_neg (by omega)]
    · intro j hj k hk
      by_cases hij : i = j
      · subst hij
        rw [get_put_same s i hi3 g, hasB_or _ _ (get_fit hf i).1 T.g0] at hk
        simp only [Bool.or_eq_true] at hk
        rcases hk with hk | hk
        · exact h.sub i hj k hk
        · exact hs k hk
      · rw [get_put_other s i j hi3 hj hij g] at hk
        exact h.sub j hj k hk
theorem right_go {rs load : List Int} {z : Zn} (hl : rs.length ≤ 9) : ∀ (m q : Nat) (s s' : St), s.Fit → Right rs z q s → allotGo rs load z m q s = some s' → Right rs z (q + m) s'
  | 0, q, s, s', _, h, e => by injection e with e; subst e; exact h
  | m + 1, q, s, s', hf, h, e => by
    unfold allotGo at e
    cases ha : stepA rs load z q s with
    | none => rw [ha] at e; cases e
    | some s1 =>
      rw [ha] at e
      have := right_go hl m (q + 1) s1 s' (stepA_fit hf ha) (right_step hl hf h ha) e
      rw [show q + (m + 1) = q + 1 + m by omega]; exact this
theorem right_zero (rs : List Int) (z : Zn) : Right rs z 0 ⟨0, 0, 0⟩ := by
  have hz : ∀ i, St.get ⟨0, 0, 0⟩ i = 0 := fun i => by unfold St.get; split; rfl; split <;> rfl
  constructor
  · intro i r _
    rw [hz, cntR_zero, if_neg (by omega)]
  · intro i _ k hk
    rw [hz, hasB_zero] at hk; cases hk
theorem right_allot {rs load : List Int} {z : Zn} {v x l e k : Int} (h : allotP rs load z = (⟨v, x, l, e, k⟩, 0)) : regB rs = true ∧ mayZ z = true ∧ Right rs z 12 ⟨v, x, l⟩ := by
  unfold allotP at h
  split at h
  · rename_i hr
    simp only [Bool.and_eq_true] at hr
    cases hg : allotGo rs load z 12 0 ⟨0, 0, 0⟩ with
    | none => rw [hg] at h; simp at h
    | some s =>
      rw [hg] at h
      simp only [Prod.mk.injEq, and_true] at h
      refine ⟨hr.1, hr.2, ?_⟩
      have hb := right_go (regB_len hr.1).2 12 0 ⟨0, 0, 0⟩ s ⟨by decide, by decide, by decide, by decide, by decide, by decide⟩ (right_zero rs z) hg
      obtain ⟨sv, sw, sl⟩ := s
      have e1 : sv = v := congrArg Cfg.v h
      have e2 : sw = x := congrArg Cfg.x h
      have e3 : sl = l := congrArg Cfg.l h
      subst e1; subst e2; subst e3; exact hb
  · simp at h
end Go.Proofs.Ytihkkoldjllifaa
