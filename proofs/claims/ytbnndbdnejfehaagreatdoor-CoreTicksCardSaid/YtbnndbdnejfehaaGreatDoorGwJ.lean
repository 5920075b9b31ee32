import Derived.Test.YtbnndbdnejfehaaGreatDoorTakeT
import Derived.Lib.MinMax
import Derived.Deep.RegionHeld3
/- Wire: package wire's reader: its steps. -/
namespace Go.Proofs.YtbnndbdnejfehaaGreatDoor
open Go.ChangeShapes Go.WideShapes Go.ChangeAt Go.RowKit

theorem cut2W {P Q : Prop} (h : P → Q) (p : P) : Q := h p
theorem cells_setW {w : World} {g : Nat} {cur : Array Value} {t : TypeId} (h : w.heap[g]? = some (.cells cur t (0, 0))) (j : Nat) (v : Value) : (w.setCell ⟨g, j, none⟩ v).heap[g]? = some (.cells (cur.setIfInBounds j v) t (0, 0)) := by
  simp [World.setCell, h, Array.getElem?_modify]
theorem grown_setW (w : World) (g j : Nat) (v : Value) : w.grownBy (w.setCell ⟨g, j, none⟩ v) (some g) :=
  grown_set w g j v
theorem grown_drewW {w w' : World} {row : Option Nat} (h : w.grownBy w' row) : w.grownBy w'.drew row := ⟨h.os, h.tape, h.output, h.size, h.block⟩
theorem grown_transW {a b c : World} {row : Option Nat} (h : a.grownBy b row) (k : b.grownBy c row) : a.grownBy c row :=
  ⟨k.os.trans h.os, k.tape.trans h.tape, k.output.trans h.output, Nat.le_trans h.size k.size, fun i hi hn => (k.block i (Nat.lt_of_lt_of_le hi h.size) hn).trans (h.block i hi hn)⟩
/-- A number is read. -/
def rdNw (xs : List Int) (bad : Bool) : Int × List Int × Bool := (zagI (takeV xs).1, xs.drop (takeV xs).2.1.toNat, bad || decide ((takeV xs).2.2 ≠ 0))
/-- A byte is read. -/
def rdBw : List Int → Bool → Int × List Int × Bool
  | [], _ => (0, [], true)
  | x :: t, bad => (x, t, bad)
/-- A truth is read. -/
def rdFw (xs : List Int) (bad : Bool) : Bool × List Int × Bool := (decide ((rdBw xs bad).1 = 1), (rdBw xs bad).2.1, (rdBw xs bad).2.2 || decide (1 < (rdBw xs bad).1))
end Go.Proofs.YtbnndbdnejfehaaGreatDoor
/- Wire: package wire's reader: stamps, attempts. -/
namespace Go.Proofs.YtbnndbdnejfehaaGreatDoor
open Go.ChangeShapes Go.WideShapes Go.ChangeAt Go.RowKit

end Go.Proofs.YtbnndbdnejfehaaGreatDoor
/- A struct that is stored cell by cell: what the block holds then, whatever its size. -/
namespace Go.Proofs.YtbnndbdnejfehaaGreatDoor
open Go.ChangeShapes Go.WideShapes Go.ChangeAt Go.RowKit

end Go.Proofs.YtbnndbdnejfehaaGreatDoor
/- Wire: a state's bytes: package wire's. -/
namespace Go.Proofs.YtbnndbdnejfehaaGreatDoor
open Go.ChangeShapes Go.WideShapes Go.ChangeAt Go.RowKit

end Go.Proofs.YtbnndbdnejfehaaGreatDoor
/- Wire: a state's bytes: the document's. -/
namespace Go.Proofs.YtbnndbdnejfehaaGreatDoor
open Go.ChangeShapes Go.WideShapes Go.ChangeAt Go.RowKit

end Go.Proofs.YtbnndbdnejfehaaGreatDoor
/- Wire: a joint's bytes: package wire's and the document's. -/
namespace Go.Proofs.YtbnndbdnejfehaaGreatDoor
open Go.ChangeShapes Go.WideShapes Go.ChangeAt Go.RowKit

structure CfX where
  v : Int
  x : Int
  l : Int
  e : Int
  k : Int
deriving DecidableEq
structure JoX where
  o : CfX
  n : CfX
  two : Bool
deriving DecidableEq
def In16 (n : Int) : Prop := 0 ≤ n ∧ n ≤ 65535
structure CfF (c : CfX) : Prop where
  v : In16 c.v
  x : In16 c.x
  l : In16 c.l
  e : In64 c.e
  k : In64 c.k
structure JoF (j : JoX) : Prop where
  o : CfF j.o
  n : CfF j.n
def put2 (x : Int) : List Int := bePre x 2 2
theorem put2_len (x : Int) : (put2 x).length = 2 := bePre_len x 2 2
def encCf (c : CfX) : List Int := [c.v, c.x, c.l].flatMap put2 ++ encN c.e ++ encN c.k
def encJo (j : JoX) : List Int := [j.o, j.n].flatMap encCf ++ encF j.two
end Go.Proofs.YtbnndbdnejfehaaGreatDoor
