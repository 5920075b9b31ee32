/- Layer 11: what survives what: the plain laws. -/
import Derived.Test.YtihkkoldjllifaaPlainConf2
namespace Go.Proofs.Ytihkkoldjllifaa

def regOk (r : Int) : Bool := !(decide (r < 0) || decide (4 ≤ r))
def regB (rs : List Int) : Bool := rs.all regOk && (decide (1 ≤ rs.length) && decide (rs.length ≤ 9))
def standsC (cv cx _cl ce ck g : Int) : Bool :=
  decide (ce ≤ cnt (bits .andNot .u16 (bits .or .u16 cv cx) g)) && (decide (ck ≤ cnt (bits .andNot .u16 (bits .or .u16 cv cx) g)) && decide (0 < cnt (bits .andNot .u16 cv g)))
/-- The first place from i on, of m, at which f is. -/
def scan (f : Nat → Bool) : Nat → Nat → Option Nat
  | 0, _ => none
  | m + 1, i => if f i then some i else scan f m (i + 1)
theorem scan_hit {f : Nat → Bool} {n k : Nat} (h : k < n) (hf : f k = true) : scan f (n - k) k = some k := by
  rw [show n - k = (n - k - 1) + 1 by omega]; unfold scan; rw [if_pos hf]
theorem scan_miss {f : Nat → Bool} {n k : Nat} (h : k < n) (hf : f k = false) : scan f (n - k) k = scan f (n - (k + 1)) (k + 1) := by
  rw [show n - k = (n - (k + 1)) + 1 by omega]; conv => lhs; unfold scan
  rw [if_neg (by simp [hf])]
/-- The nodes of a region among the first k. -/
def goneTo (rs : List Int) (r : Int) : Nat → Int
  | 0 => 0
  | k + 1 => if rs.getD k 0 = r then bits .or .u16 (goneTo rs r k) (oneB ((k : Int) + 1)) else goneTo rs r k
theorem goneTo_fit (rs : List Int) (r : Int) (k : Nat) : 0 ≤ goneTo rs r k ∧ goneTo rs r k ≤ 65535 := by
  induction k with
  | zero => simp [goneTo]
  | succ k ih => unfold goneTo; split; exact bits_fit _ _ _; exact ih
theorem goneTo_hit {rs : List Int} {r : Int} {k : Nat} (h : k < rs.length) (e : rs[k] = r) : goneTo rs r (k + 1) = bits .or .u16 (goneTo rs r k) (oneB ((k : Int) + 1)) := by
  simp [goneTo, h, e]
theorem goneTo_miss {rs : List Int} {r : Int} {k : Nat} (h : k < rs.length) (e : rs[k] ≠ r) : goneTo rs r (k + 1) = goneTo rs r k := by
  simp [goneTo, h, e]
def nodeF (cv cx cl ce ck : Int) (i : Nat) : Bool := !standsC cv cx cl ce ck (bits .or .u16 0 (oneB ((i : Int) + 1)))
def regF (cv cx cl ce ck : Int) (rs : List Int) (r : Nat) : Bool := !standsC cv cx cl ce ck (goneTo rs r rs.length)
def toldN : Option Nat → Bool × Int
  | some i => (false, (i : Int) + 1)
  | none => (true, -1)
def toldR : Option Nat → Bool × Int
  | some i => (false, (i : Int))
  | none => (true, -1)
def survives (rs : List Int) (cv cx cl ce ck what : Int) : Bool × Int :=
  if regB rs = false then (false, -1) else if what = 1 then toldN (scan (nodeF cv cx cl ce ck) rs.length 0) else if what = 2 then toldR (scan (regF cv cx cl ce ck rs) 4 0)
  else if what = 0 then (true, -1) else (false, -1)
theorem surv_no {rs : List Int} {cv cx cl ce ck what : Int} (h : regB rs = false) : survives rs cv cx cl ce ck what = (false, -1) := by unfold survives; rw [if_pos h]
theorem surv_1 {rs : List Int} {cv cx cl ce ck : Int} (h : regB rs = true) : survives rs cv cx cl ce ck 1 = toldN (scan (nodeF cv cx cl ce ck) rs.length 0) := by unfold survives; rw [if_neg (by simp [h]), if_pos rfl]
theorem surv_2 {rs : List Int} {cv cx cl ce ck : Int} (h : regB rs = true) : survives rs cv cx cl ce ck 2 = toldR (scan (regF cv cx cl ce ck rs) 4 0) := by unfold survives; rw [if_neg (by simp [h]), if_neg (by decide), if_pos rfl]
theorem surv_0 {rs : List Int} {cv cx cl ce ck : Int} (h : regB rs = true) : survives rs cv cx cl ce ck 0 = (true, -1) := by unfold survives; rw [if_neg (by simp [h]), if_neg (by decide), if_neg (by decide), if_pos rfl]
theorem surv_x {rs : List Int} {cv cx cl ce ck what : Int} (h : regB rs = true) (h0 : what ≠ 0) (h1 : what ≠ 1) (h2 : what ≠ 2) : survives rs cv cx cl ce ck what = (false, -1) := by unfold survives; rw [if_neg (by simp [h]), if_neg h1, if_neg h2, if_neg h0]
theorem all_drop_no {rs : List Int} {k : Nat} (h : k < rs.length) (h0 : regOk rs[k] = false) : rs.all regOk = false := by
  rw [Bool.eq_false_iff]; intro e
  rw [List.all_eq_true] at e
  have := e _ (List.getElem_mem h); rw [h0] at this; cases this
theorem regB_len {rs : List Int} (h : regB rs = true) : 1 ≤ rs.length ∧ rs.length ≤ 9 := by
  unfold regB at h; simp only [Bool.and_eq_true, decide_eq_true_eq] at h; exact h.2
theorem regB_no {rs : List Int} (h : rs.all regOk = false) : regB rs = false := by simp [regB, h]
/-- What the reference counts. -/
def leftF (cv cx g : Int) (i : Nat) : Bool := hasB (joinB cv cx) i && !hasB g i
def votersF (cv g : Int) (i : Nat) : Bool := hasB cv i && !hasB g i
theorem left_cnt (cv cx g : Int) (v0 : 0 ≤ cv) (x0 : 0 ≤ cx) (g0 : 0 ≤ g) : (bs (leftF cv cx g) 9 : Int) = cnt (bits .andNot .u16 (bits .or .u16 cv cx) g) := by
  rw [cnt_bs]
  congr 1
  refine bs_congr 9 fun i h1 h2 => ?_
  unfold leftF
  rw [hasB_tb _ i h1 h2, hasB_tb _ i h1 h2, tb_joinB cv cx v0 x0 i (by omega), tb_andNot _ _ (bits_fit _ _ _).1 g0 i (by omega), tb_or _ _ v0 x0 i (by omega)]
  simp [h1, h2]
theorem voters_cnt (cv g : Int) (v0 : 0 ≤ cv) (g0 : 0 ≤ g) : (bs (votersF cv g) 9 : Int) = cnt (bits .andNot .u16 cv g) := by
  rw [cnt_bs]
  congr 1
  refine bs_congr 9 fun i h1 h2 => ?_
  unfold votersF
  rw [hasB_tb _ i h1 h2, hasB_tb _ i h1 h2, tb_andNot _ _ v0 g0 i (by omega)]
theorem bs_yes {f : Nat → Bool} {k : Nat} (h : f (k + 1) = true) : bs f (k + 1) = bs f k + 1 := by simp [bs, h]
theorem bs_not {f : Nat → Bool} {k : Nat} (h : f (k + 1) = false) : bs f (k + 1) = bs f k := by simp [bs, h]
end Go.Proofs.Ytihkkoldjllifaa
