/- Logs: the plain law: what a log is, and what it tells of its entries. -/
import Derived.Test.YtabiccpodnjieaaSlices
namespace Go.Proofs.Ytabiccpodnjieaa

structure Jn where
  ov : Int
  ox : Int
  ol : Int
  oe : Int
  ok : Int
  nv : Int
  nx : Int
  nl : Int
  ne : Int
  nk : Int
  two : Bool
deriving DecidableEq
structure Ent where
  t : Int
  k : Int
  d : ByteArray
  j : Jn
deriving DecidableEq
structure Lg where
  b : Int
  bt : Int
  j : Jn
  es : List Ent
deriving DecidableEq
def jn0 : Jn := ⟨0, 0, 0, 0, 0, 0, 0, 0, 0, 0, false⟩
def ent0 : Ent := ⟨0, 0, ⟨#[]⟩, jn0⟩
def Lg.last (l : Lg) : Int := l.b + l.es.length
/-- An entry by its number. -/
def atL (l : Lg) (i : Int) : Ent × Bool := if i ≤ l.b then (ent0, false) else match l.es[(i - l.b - 1).toNat]? with
  | some e => (e, true)
  | none => (ent0, false)
def termL (l : Lg) (i : Int) : Int × Bool := if i = l.b then (l.bt, true) else ((atL l i).1.t, (atL l i).2)
theorem atL_low {l : Lg} {i : Int} (h : i ≤ l.b) : atL l i = (ent0, false) := by unfold atL; rw [if_pos h]
theorem atL_high {l : Lg} {i : Int} (h : l.last < i) (_hb : 0 ≤ l.b) : atL l i = (ent0, false) := by
  unfold Lg.last at h
  unfold atL; rw [if_neg (by omega), List.getElem?_eq_none (by omega)]
theorem atL_in {l : Lg} {i : Int} {k : Nat} (h : i - l.b - 1 = (k : Int)) (hk : k < l.es.length) : atL l i = (l.es[k], true) := by
  unfold atL; rw [if_neg (by omega), h, Int.toNat_natCast, List.getElem?_eq_getElem hk]
theorem termL_base {l : Lg} {i : Int} (h : i = l.b) : termL l i = (l.bt, true) := by unfold termL; rw [if_pos h]
theorem termL_not {l : Lg} {i : Int} (h : i ≠ l.b) : termL l i = ((atL l i).1.t, (atL l i).2) := by unfold termL; rw [if_neg h]
end Go.Proofs.Ytabiccpodnjieaa
