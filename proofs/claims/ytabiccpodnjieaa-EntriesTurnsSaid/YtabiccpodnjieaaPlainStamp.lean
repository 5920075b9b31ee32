/- What stamps and attempts compute, in plain words: which one is ahead, the later one, ties, clocks. -/
import Derived.WalkKit
namespace Go.Proofs.Ytabiccpodnjieaa

def cmpI (x y : Int) : Int := if x < y then -1 else if y < x then 1 else 0
def orI : List Int → Int
  | [] => 0
  | x :: xs => if x = 0 then orI xs else x
theorem cmpI_cases (x y : Int) : (x < y ∧ cmpI x y = -1) ∨ (x = y ∧ cmpI x y = 0) ∨ (y < x ∧ cmpI x y = 1) := by
  unfold cmpI
  by_cases h1 : x < y
  · exact .inl ⟨h1, by rw [if_pos h1]⟩
  · by_cases h2 : y < x
    · exact .inr (.inr ⟨h2, by rw [if_neg h1, if_pos h2]⟩)
    · exact .inr (.inl ⟨by omega, by rw [if_neg h1, if_neg h2]⟩)
theorem cmpI_bd (x y : Int) : -1 ≤ cmpI x y ∧ cmpI x y ≤ 1 := by rcases cmpI_cases x y with h | h | h <;> omega

/-- Stamps: wall, then tie. -/
def lessS (aw at' bw bt : Int) : Bool := decide (aw < bw) || (decide (aw = bw) && decide (at' < bt))
theorem lessS_or (aw at' bw bt : Int) : decide (orI [cmpI aw bw, cmpI at' bt] < 0) = lessS aw at' bw bt := by
  unfold lessS
  rcases cmpI_cases aw bw with h | h | h <;> rcases cmpI_cases at' bt with g | g | g <;> simp only [orI, h.2, g.2] <;> simp <;> omega
/-- Attempts: node, life, number, attempt. -/
def lessT (a b c d x y z u : Int) : Bool := decide (a < x) || (decide (a = x) && (decide (b < y) || (decide (b = y) && (decide (c < z) || (decide (c = z) && decide (d < u))))))
theorem lessT_or (a b c d x y z u : Int) : decide (orI [cmpI a x, cmpI b y, cmpI c z, cmpI d u] < 0) = lessT a b c d x y z u := by
  unfold lessT
  rcases cmpI_cases a x with h | h | h
  · simp only [orI, h.2]; rw [Bool.eq_iff_iff]; simp; omega
  · rcases cmpI_cases b y with g | g | g
    · simp only [orI, h.2, g.2]; rw [Bool.eq_iff_iff]; simp; omega
    · rcases cmpI_cases c z with f | f | f
      · simp only [orI, h.2, g.2, f.2]; rw [Bool.eq_iff_iff]; simp; omega
      · rcases cmpI_cases d u with e | e | e <;> simp only [orI, h.2, g.2, f.2, e.2] <;> rw [Bool.eq_iff_iff] <;> simp <;> omega
      · simp only [orI, h.2, g.2, f.2]; rw [Bool.eq_iff_iff]; simp; omega
    · simp only [orI, h.2, g.2]; rw [Bool.eq_iff_iff]; simp; omega
  · simp only [orI, h.2]; rw [Bool.eq_iff_iff]; simp; omega
/-- Lists, by their first place where they part. -/
def lexL : List Int → List Int → Bool
  | p :: ps, q :: qs => if p = q then lexL ps qs else decide (p < q)
  | _, _ => false
theorem lexL_T (a b c d x y z u : Int) : lexL [a, b, c, d] [x, y, z, u] = lessT a b c d x y z u := by
  unfold lessT
  simp only [lexL]
  rw [Bool.eq_iff_iff]
  by_cases h1 : a = x <;> by_cases h2 : b = y <;> by_cases h3 : c = z <;> by_cases h4 : d = u <;> simp only [h1, h2, h3, h4, if_true, if_false] <;> simp <;> omega
def mxW (aw at' bw bt : Int) : Int := if lessS aw at' bw bt then bw else aw
def mxT (aw at' bw bt : Int) : Int := if lessS aw at' bw bt then bt else at'

/-- Ties. -/
def tieOk (n l s a : Int) : Bool := decide (1 ≤ n) && decide (n ≤ 9) && decide (0 ≤ a) && decide (a ≤ 15) && decide (0 ≤ l) && decide (l ≤ 1048575) && decide (0 ≤ s) && decide (s ≤ 16777215)
def tieI (n l s a : Int) : Int := ((n * 1048576 + l) * 16777216 + s) * 16 + a
theorem tie_eq (n l s a x m t b : Int) (h0 : 0 ≤ l) (h1 : l ≤ 1048575) (h2 : 0 ≤ s) (h3 : s ≤ 16777215) (h4 : 0 ≤ a) (h5 : a ≤ 15) (g0 : 0 ≤ m) (g1 : m ≤ 1048575) (g2 : 0 ≤ t) (g3 : t ≤ 16777215) (g4 : 0 ≤ b) (g5 : b ≤ 15) :
    (tieI n l s a == tieI x m t b) = (n == x && (l == m && (s == t && a == b))) := by
  unfold tieI
  rw [Bool.eq_iff_iff]; simp only [beq_iff_eq, Bool.and_eq_true]
  omega
/-- Clocks. -/
def readI (wall r : Int) : Int := max wall (min (max r 0) 1125899906842624)
def limE (w o : Int) : Int := if w < 0 ∨ o < 0 ∨ 4611686018427387904 < w + o + 1 then 5 else 0
def limI (w o : Int) : Int := if limE w o = 0 then w + o + 1 else 0
end Go.Proofs.Ytabiccpodnjieaa
