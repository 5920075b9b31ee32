/- ZoneRight: what is let through has just what the zone asks for, region by region: the plain law. -/
import Derived.Test.YtihkkoldjllifaaPlainBal
namespace Go.Proofs.Ytihkkoldjllifaa

theorem bs_one {P f : Nat → Bool} {b : Nat} (hf : f b = false) : ∀ n : Nat, bs (fun k => P k && (f k || decide (k = b))) n = bs (fun k => P k && f k) n + (if 1 ≤ b ∧ b ≤ n ∧ P b = true then 1 else 0)
  | 0 => by rw [if_neg (by omega)]; rfl
  | n + 1 => by
    have ih := bs_one (P := P) hf n
    simp only [bs]
    rw [ih]
    by_cases e : n + 1 = b
    · subst e
      rw [hf]
      cases hp : P (n + 1)
      · rw [if_neg (by omega), if_neg (by simp)]; simp
      · rw [if_neg (by omega), if_pos ⟨by omega, by omega, rfl⟩]; simp
    · rw [show (decide (n + 1 = b)) = false by simp [e], Bool.or_false]
      by_cases h : 1 ≤ b ∧ b ≤ n ∧ P b = true
      · rw [if_pos h, if_pos ⟨h.1, by omega, h.2.2⟩]; omega
      · rw [if_neg h, if_neg (by intro hh; exact h ⟨hh.1, by omega, hh.2.2⟩)]; omega
/-- How many nodes of a region are in a set. -/
def regP (rs : List Int) (r : Int) (k : Nat) : Bool := decide (rs.getD (k - 1) 0 = r)
def cntR (rs : List Int) (U r : Int) : Nat := bs (fun k => regP rs r k && hasB U k) rs.length
theorem cntR_zero (rs : List Int) (r : Int) : cntR rs 0 r = 0 := bs_zero _ fun i _ _ => by rw [hasB_zero]; simp
theorem hasB_or (a b : Int) (ha : 0 ≤ a) (hb : 0 ≤ b) (n : Int) : hasB (bits .or .u16 a b) n = (hasB a n || hasB b n) := by
  unfold hasB
  by_cases h : 1 ≤ n ∧ n ≤ 9
  · rw [tb_or a b ha hb n.toNat (by omega)]
    simp [h.1, h.2]
  · have e : (decide (1 ≤ n) && decide (n ≤ 9)) = false := by rw [Bool.eq_false_iff]; simp only [ne_eq, Bool.and_eq_true, decide_eq_true_eq]; exact h
    rcases Int.lt_or_le n 1 with h' | h'
    · simp [show ¬ 1 ≤ n by omega]
    · simp [show ¬ n ≤ 9 by omega]
theorem cntR_add {rs : List Int} {U r' : Int} {b : Nat} (u0 : 0 ≤ U) (h9 : b ≤ 9) (b1 : 1 ≤ b) (bl : b ≤ rs.length) (hb : hasB U b = false) :
    cntR rs (bits .or .u16 U (oneB b)) r' = cntR rs U r' + (if rs.getD (b - 1) 0 = r' then 1 else 0) := by
  unfold cntR
  have := bs_one (P := regP rs r') (f := fun k => hasB U k) (b := b) hb rs.length
  rw [bs_congr (g := fun k => regP rs r' k && (hasB U k || decide (k = b))) rs.length (fun i i1 i2 => by
    show (regP rs r' i && hasB (bits .or .u16 U (oneB b)) i) = (regP rs r' i && (hasB U i || decide (i = b)))
    rw [has_with11 _ _ _ u0]
    congr 1
    congr 1
    by_cases e : i = b
    · subst e; simp; omega
    · have : ¬ ((b : Int) = (i : Int)) := by omega
      simp [e, this]), this]
  congr 1
  by_cases e : rs.getD (b - 1) 0 = r'
  · rw [if_pos e, if_pos ⟨b1, bl, by simp [regP]; simpa using e⟩]
  · rw [if_neg e, if_neg (by intro h; exact e (by simpa [regP] using h.2.2))]
theorem cntR_or {rs : List Int} {a b r : Int} (ha : 0 ≤ a) (hb : 0 ≤ b) (hd : ∀ k : Nat, 1 ≤ k → k ≤ rs.length → (hasB a k && hasB b k) = false) : cntR rs (bits .or .u16 a b) r = cntR rs a r + cntR rs b r := by
  unfold cntR
  have h := bs_or (fun k => regP rs r k && hasB a k) (fun k => regP rs r k && hasB b k) rs.length
  have z : bs (fun i => (regP rs r i && hasB a i) && (regP rs r i && hasB b i)) rs.length = 0 := bs_zero _ fun i i1 i2 => by
    have := hd i i1 i2
    cases h1 : hasB a i <;> cases h2 : hasB b i <;> simp_all
  rw [z, Nat.add_zero] at h
  rw [← h]
  refine bs_congr _ fun i _ _ => ?_
  rw [hasB_or a b ha hb]
  cases regP rs r i <;> rfl
/-- What taking does. -/
structure Took (rs : List Int) (r taken got g : Int) (N : Nat) : Prop where
  g0 : 0 ≤ g
  cnt : cntR rs g r = cntR rs got r + N
  oth : ∀ r', r' ≠ r → cntR rs g r' = cntR rs got r'
  dis : (∀ k : Nat, 1 ≤ k → k ≤ rs.length → (hasB taken k && hasB got k) = false) → ∀ k : Nat, 1 ≤ k → k ≤ rs.length → (hasB taken k && hasB g k) = false
  sub : (∀ k : Nat, hasB got k = true → k ≤ rs.length) → ∀ k : Nat, hasB g k = true → k ≤ rs.length
theorem take_took {rs load : List Int} {r taken : Int} (hl : rs.length ≤ 9) (t0 : 0 ≤ taken) : ∀ (N : Nat) (got g : Int), 0 ≤ got → takeP rs r load taken N got = some g → Took rs r taken got g N
  | 0, got, g, g0, e => by injection e with e; subst e; exact ⟨g0, rfl, fun _ _ => rfl, fun h => h, fun h => h⟩
  | N + 1, got, g, g0, e => by
    unfold takeP at e
    split at e
    · cases e
    · rename_i hm
      obtain ⟨b, hbe⟩ : ∃ b, bestP rs r (bits .or .u16 taken got) load = b := ⟨_, rfl⟩
      rw [hbe] at e hm
      rcases bestU_is (okP rs r (bits .or .u16 taken got)) (ldP load) rs.length with ⟨h0, _⟩ | ⟨b1, _, b2, h3, _⟩
      · exact absurd (hbe.symm.trans h0) hm
      · have eb : bestU (okP rs r (bits .or .u16 taken got)) (ldP load) rs.length = b := hbe
        rw [eb] at b1 b2 h3
        unfold okP at h3
        simp only [Bool.and_eq_true, decide_eq_true_eq, Bool.not_eq_true'] at h3
        rw [hasB_or _ _ t0 g0] at h3
        simp only [Bool.or_eq_false_iff] at h3
        obtain ⟨hr, ht, hg⟩ := h3
        have T := take_took hl t0 N _ g (bits_fit .or got (oneB b)).1 e
        have ca := fun r' => cntR_add (rs := rs) (r' := r') g0 (show b ≤ 9 by omega) b1 b2 hg
        refine ⟨T.g0, ?_, fun r' hr' => ?_, fun hd => T.dis fun k k1 k2 => ?_, fun hs => T.sub fun k hk => ?_⟩
        · rw [T.cnt, ca r, if_pos hr]; omega
        · rw [T.oth r' hr', ca r', if_neg (by rw [hr]; exact fun h => hr' h.symm)]; rfl
        · rw [has_with11 _ _ _ g0]
          have := hd k k1 k2
          by_cases e : k = b
          · subst e; rw [ht]; rfl
          · have : ¬ ((b : Int) = (k : Int)) := by omega
            simp only [this, decide_false, Bool.and_false, Bool.or_false]; assumption
        · rw [has_with11 _ _ _ g0] at hk
          simp only [Bool.or_eq_true, Bool.and_eq_true, decide_eq_true_eq] at hk
          rcases hk with hk | ⟨_, hk⟩
          · exact hs k hk
          · omega
end Go.Proofs.Ytihkkoldjllifaa
