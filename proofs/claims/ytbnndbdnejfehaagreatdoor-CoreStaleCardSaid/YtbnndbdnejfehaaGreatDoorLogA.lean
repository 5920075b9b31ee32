import Derived.Test.YtbnndbdnejfehaaGreatDoorWireC
import Derived.Maps.AppendAt
import Derived.Deep.RegionHeld3
import Derived.Test.YtbnndbdnejfehaaGreatDoorCalmTail
import Derived.Lib.MinMax
import Derived.Deep.DeepCutAuto
/- Wire: writers in one form: their result has a row of its own, all blocks but the old row's are as they were, and the row is the old one or a new one. -/
namespace Go.Proofs.YtbnndbdnejfehaaGreatDoor
open Go.ChangeShapes Go.WideShapes Go.ChangeAt Go.RowKit

/-- From the world X with the row v0 to the world w with the row v. -/
structure Gw (base : Nat) (v0 : Value) (X : World) (v : Value) (w : World) (ys : List Int) : Prop where
  own : w.ownsRow base 5 1 v ys.length (byt ys)
  gr : X.grownBy w v0.ownBlock
  ob : ∀ k, v.ownBlock = some k → v0.ownBlock = some k ∨ X.heap.size ≤ k
section
variable {base : Nat} {v0 v v1 : Value} {X w w1 : World} {xs ys : List Int}
theorem Gw.refl (h : X.ownsRow base 5 1 v0 xs.length (byt xs)) : Gw base v0 X v0 X xs := ⟨h, ⟨rfl, rfl, rfl, Nat.le_refl _, fun _ _ _ => rfl⟩, fun _k hk => .inl hk⟩
theorem Gw.hz (h : Gw base v0 X v w xs) (hb : base ≤ X.heap.size) : base ≤ w.heap.size := Nat.le_trans hb h.gr.size
theorem Gw.trans (h : Gw base v0 X v w xs) (k : Gw base v w v1 w1 ys) : Gw base v0 X v1 w1 ys :=
  ⟨k.own, ⟨k.gr.os.trans h.gr.os, k.gr.tape.trans h.gr.tape, k.gr.output.trans h.gr.output, Nat.le_trans h.gr.size k.gr.size, fun i hi hn => (k.gr.block i (Nat.lt_of_lt_of_le hi h.gr.size) (fun e => by
    rcases h.ob i e.symm with e2 | e2
    · exact hn e2.symm
    · omega)).trans (h.gr.block i hi hn)⟩, fun i hi => by
    rcases k.ob i hi with e | e
    · exact h.ob i e
    · exact .inr (Nat.le_trans h.gr.size e)⟩
theorem Gw.below (h : Gw base v0 X v w xs) (hb : Below w.heap.size w w1) : Gw base v0 X v w1 xs :=
  ⟨own_less h.own hb, ⟨hb.os.trans h.gr.os, hb.tape.trans h.gr.tape, hb.output.trans h.gr.output, Nat.le_trans h.gr.size hb.size, fun i hi hn => (hb.block i (Nat.lt_of_lt_of_le hi h.gr.size)).trans (h.gr.block i hi hn)⟩, h.ob⟩
theorem Gw.drew (h : Gw base v0 X v w xs) : Gw base v0 X v w.drew xs := h.below (Below.refl _ _).drew
theorem Gw.alloc (h : Gw base v0 X v w xs) (o : Obj) : Gw base v0 X v (w.alloc o) xs := h.below ((Below.refl _ _).alloc (Nat.le_refl _) _)
theorem Gw.mono {base' : Nat} (h : Gw base v0 X v w xs) (hb : base' ≤ base) : Gw base' v0 X v w xs := ⟨h.own.mono hb, h.gr, h.ob⟩
/-- A block that is there and is not the row's stays. -/
theorem Gw.keep (h : Gw base v0 X v w xs) {g : Nat} {o : Obj} (hq : X.heap[g]? = some o) (hn : v0.ownBlock ≠ some g) : w.heap[g]? = some o ∧ v.ownBlock ≠ some g := by
  have hg := block_lt hq
  refine ⟨(h.gr.block g hg (fun e => hn e.symm)).trans hq, fun e => ?_⟩
  rcases h.ob g e with e2 | e2
  · exact hn e2
  · omega
/-- If the first row was none, all that was there stays. -/
theorem Gw.all (h : Gw base v0 X v w xs) (hn : v0.ownBlock = none) : Below X.heap.size X w :=
  ⟨h.gr.os, h.gr.tape, h.gr.output, h.gr.size, fun k hk => h.gr.block k hk (by rw [hn]; intro e; cases e)⟩
end
end Go.Proofs.YtbnndbdnejfehaaGreatDoor
/- Wire: are two lists of spans, of writes, the same? -/
namespace Go.Proofs.YtbnndbdnejfehaaGreatDoor
open Go.ChangeShapes Go.WideShapes Go.ChangeAt Go.RowKit

end Go.Proofs.YtbnndbdnejfehaaGreatDoor
/- Wire: the parts of a state; are two lists of versions, of outcomes, the same? -/
namespace Go.Proofs.YtbnndbdnejfehaaGreatDoor
open Go.ChangeShapes Go.WideShapes Go.ChangeAt Go.RowKit

structure VeX where
  w : Int
  t : Int
  r : Bool
  d : ByteArray
deriving DecidableEq
structure CeX where
  k : ByteArray
  vs : List VeX
  lk : Bool
  yn : Int
  yl : Int
  ys : Int
  ya : Int
  hm : Int
  sw : Int
  st : Int
  lr : Bool
  ld : ByteArray
deriving DecidableEq
structure OuX where
  yn : Int
  yl : Int
  ys : Int
  ya : Int
  sw : Int
  st : Int
  yes : Bool
deriving DecidableEq
structure PaX where
  e : Int
  h : Int
  fw : Int
  ft : Int
  cl : Int
  lo : Int
  cs : List CeX
  rs : List OuX
  ds : List OuX
deriving DecidableEq
def VesAt (w : World) (p : Option Addr) (L : List VeX) : Prop := ∀ j, (hj : j < L.length) → ∃ g o, p = some ⟨g, o, none⟩ ∧ g < w.heap.size ∧ w.cell? ⟨g, o + j * 4, none⟩ = some (.int .i64 L[j].w) ∧ w.cell? ⟨g, o + j * 4 + 1, none⟩ = some (.int .i64 L[j].t) ∧ w.cell? ⟨g, o + j * 4 + 2, none⟩ = some (.bool L[j].r) ∧ w.cell? ⟨g, o + j * 4 + 3, none⟩ = some (.string L[j].d)
theorem VesAt.keep {w w' : World} {p : Option Addr} {L : List VeX} (h : VesAt w p L) {B : Nat} (hb : Below B w w') (hB : w.heap.size ≤ B) : VesAt w' p L := fun j hj => by
  obtain ⟨g, o, e, hg, h0, h1, h2, h3⟩ := h j hj
  exact ⟨g, o, e, Nat.lt_of_lt_of_le hg hb.size, (hb.cell (p := ⟨g, o + j * 4, none⟩) (by show g < B; omega)).trans h0, (hb.cell (p := ⟨g, o + j * 4 + 1, none⟩) (by show g < B; omega)).trans h1, (hb.cell (p := ⟨g, o + j * 4 + 2, none⟩) (by show g < B; omega)).trans h2, (hb.cell (p := ⟨g, o + j * 4 + 3, none⟩) (by show g < B; omega)).trans h3⟩
def OusAt (w : World) (p : Option Addr) (L : List OuX) : Prop := ∀ j, (hj : j < L.length) → ∃ g o, p = some ⟨g, o, none⟩ ∧ g < w.heap.size ∧ w.cell? ⟨g, o + j * 7, none⟩ = some (.int .i64 L[j].yn) ∧ w.cell? ⟨g, o + j * 7 + 1, none⟩ = some (.int .i64 L[j].yl) ∧ w.cell? ⟨g, o + j * 7 + 2, none⟩ = some (.int .i64 L[j].ys) ∧ w.cell? ⟨g, o + j * 7 + 3, none⟩ = some (.int .i64 L[j].ya) ∧ w.cell? ⟨g, o + j * 7 + 4, none⟩ = some (.int .i64 L[j].sw) ∧ w.cell? ⟨g, o + j * 7 + 5, none⟩ = some (.int .i64 L[j].st) ∧ w.cell? ⟨g, o + j * 7 + 6, none⟩ = some (.bool L[j].yes)
theorem OusAt.keep {w w' : World} {p : Option Addr} {L : List OuX} (h : OusAt w p L) {B : Nat} (hb : Below B w w') (hB : w.heap.size ≤ B) : OusAt w' p L := fun j hj => by
  obtain ⟨g, o, e, hg, h0, h1, h2, h3, h4, h5, h6⟩ := h j hj
  exact ⟨g, o, e, Nat.lt_of_lt_of_le hg hb.size, (hb.cell (p := ⟨g, o + j * 7, none⟩) (by show g < B; omega)).trans h0, (hb.cell (p := ⟨g, o + j * 7 + 1, none⟩) (by show g < B; omega)).trans h1, (hb.cell (p := ⟨g, o + j * 7 + 2, none⟩) (by show g < B; omega)).trans h2, (hb.cell (p := ⟨g, o + j * 7 + 3, none⟩) (by show g < B; omega)).trans h3, (hb.cell (p := ⟨g, o + j * 7 + 4, none⟩) (by show g < B; omega)).trans h4, (hb.cell (p := ⟨g, o + j * 7 + 5, none⟩) (by show g < B; omega)).trans h5, (hb.cell (p := ⟨g, o + j * 7 + 6, none⟩) (by show g < B; omega)).trans h6⟩
end Go.Proofs.YtbnndbdnejfehaaGreatDoor
/- Wire: are two cells the same? Package wire's. -/
namespace Go.Proofs.YtbnndbdnejfehaaGreatDoor
open Go.ChangeShapes Go.WideShapes Go.ChangeAt Go.RowKit

end Go.Proofs.YtbnndbdnejfehaaGreatDoor
/- Wire: are two lists of cells the same? Package wire's. -/
namespace Go.Proofs.YtbnndbdnejfehaaGreatDoor
open Go.ChangeShapes Go.WideShapes Go.ChangeAt Go.RowKit

/-- A cell, and where its versions lie. -/
abbrev CeL := CeX × Option Addr × Nat
def CesAt (w : World) (p : Option Addr) (L : List CeL) : Prop := ∀ j, (hj : j < L.length) → ∃ g o, p = some ⟨g, o, none⟩ ∧ g < w.heap.size ∧ VesAt w L[j].2.1 L[j].1.vs ∧ w.cell? ⟨g, o + j * 12, none⟩ = some (.string L[j].1.k) ∧ w.cell? ⟨g, o + j * 12 + 1, none⟩ = some (.slice L[j].2.1 L[j].1.vs.length L[j].2.2) ∧ w.cell? ⟨g, o + j * 12 + 2, none⟩ = some (.bool L[j].1.lk) ∧ w.cell? ⟨g, o + j * 12 + 3, none⟩ = some (.int .i64 L[j].1.yn) ∧ w.cell? ⟨g, o + j * 12 + 4, none⟩ = some (.int .i64 L[j].1.yl) ∧ w.cell? ⟨g, o + j * 12 + 5, none⟩ = some (.int .i64 L[j].1.ys) ∧ w.cell? ⟨g, o + j * 12 + 6, none⟩ = some (.int .i64 L[j].1.ya) ∧ w.cell? ⟨g, o + j * 12 + 7, none⟩ = some (.int .i64 L[j].1.hm) ∧ w.cell? ⟨g, o + j * 12 + 8, none⟩ = some (.int .i64 L[j].1.sw) ∧ w.cell? ⟨g, o + j * 12 + 9, none⟩ = some (.int .i64 L[j].1.st) ∧ w.cell? ⟨g, o + j * 12 + 10, none⟩ = some (.bool L[j].1.lr) ∧ w.cell? ⟨g, o + j * 12 + 11, none⟩ = some (.string L[j].1.ld)
theorem CesAt.keep {w w' : World} {p : Option Addr} {L : List CeL} (h : CesAt w p L) {B : Nat} (hb : Below B w w') (hB : w.heap.size ≤ B) : CesAt w' p L := fun j hj => by
  obtain ⟨g, o, e, hg, hv, h0, h1, h2, h3, h4, h5, h6, h7, h8, h9, h10, h11⟩ := h j hj
  exact ⟨g, o, e, Nat.lt_of_lt_of_le hg hb.size, hv.keep hb hB, (hb.cell (p := ⟨g, o + j * 12, none⟩) (by show g < B; omega)).trans h0, (hb.cell (p := ⟨g, o + j * 12 + 1, none⟩) (by show g < B; omega)).trans h1, (hb.cell (p := ⟨g, o + j * 12 + 2, none⟩) (by show g < B; omega)).trans h2, (hb.cell (p := ⟨g, o + j * 12 + 3, none⟩) (by show g < B; omega)).trans h3, (hb.cell (p := ⟨g, o + j * 12 + 4, none⟩) (by show g < B; omega)).trans h4, (hb.cell (p := ⟨g, o + j * 12 + 5, none⟩) (by show g < B; omega)).trans h5, (hb.cell (p := ⟨g, o + j * 12 + 6, none⟩) (by show g < B; omega)).trans h6, (hb.cell (p := ⟨g, o + j * 12 + 7, none⟩) (by show g < B; omega)).trans h7, (hb.cell (p := ⟨g, o + j * 12 + 8, none⟩) (by show g < B; omega)).trans h8, (hb.cell (p := ⟨g, o + j * 12 + 9, none⟩) (by show g < B; omega)).trans h9, (hb.cell (p := ⟨g, o + j * 12 + 10, none⟩) (by show g < B; omega)).trans h10, (hb.cell (p := ⟨g, o + j * 12 + 11, none⟩) (by show g < B; omega)).trans h11⟩
end Go.Proofs.YtbnndbdnejfehaaGreatDoor
/- Wire: what a state's parts may be, and their bytes. -/
namespace Go.Proofs.YtbnndbdnejfehaaGreatDoor

structure VeF (x : VeX) : Prop where
  w : In64 x.w
  t : In64 x.t
  d : TxF x.d
structure OuF (x : OuX) : Prop where
  yn : In64 x.yn
  yl : In64 x.yl
  ys : In64 x.ys
  ya : In64 x.ya
  sw : In64 x.sw
  st : In64 x.st
structure CeF (x : CeX) : Prop where
  k : TxF x.k
  nvs : x.vs.length ≤ 9223372036854775807
  vs : ∀ v ∈ x.vs, VeF v
  yn : In64 x.yn
  yl : In64 x.yl
  ys : In64 x.ys
  ya : In64 x.ya
  hm : In64 x.hm
  sw : In64 x.sw
  st : In64 x.st
  ld : TxF x.ld
/-- A state, and where its cells' versions lie. -/
structure PaL where
  e : Int
  h : Int
  fw : Int
  ft : Int
  cl : Int
  lo : Int
  cs : List CeL
  rs : List OuX
  ds : List OuX
structure PaF (P : PaL) : Prop where
  e : In64 P.e
  h : In64 P.h
  fw : In64 P.fw
  ft : In64 P.ft
  cl : In64 P.cl
  lo : In64 P.lo
  cs : ∀ x ∈ P.cs, CeF x.1
  rs : ∀ x ∈ P.rs, OuF x
  ds : ∀ x ∈ P.ds, OuF x
  ncs : P.cs.length ≤ 9223372036854775807
  nrs : P.rs.length ≤ 9223372036854775807
  nds : P.ds.length ≤ 9223372036854775807
def PaL.x (P : PaL) : PaX := ⟨P.e, P.h, P.fw, P.ft, P.cl, P.lo, P.cs.map (·.1), P.rs, P.ds⟩
end Go.Proofs.YtbnndbdnejfehaaGreatDoor
/- Wire: package wire's bytes of a command. -/
namespace Go.Proofs.YtbnndbdnejfehaaGreatDoor
open Go.ChangeShapes Go.WideShapes Go.ChangeAt Go.RowKit

theorem TxtsAt.two {w : World} {g : Nat} {a b : ByteArray} {t : TypeId} (h : w.heap[g]? = some (.cells #[.string a, .string b] t (0, 0))) : TxtsAt w (some ⟨g, 0, none⟩) [a, b] := fun j hj => by
  refine ⟨g, 0, rfl, block_lt h, ?_⟩
  rw [Nat.zero_add, block_cells h]
  have : j = 0 ∨ j = 1 := by simp at hj; omega
  rcases this with rfl | rfl <;> rfl
end Go.Proofs.YtbnndbdnejfehaaGreatDoor
/- Wire: lists of outcomes as bytes: package wire's and the document's. -/
namespace Go.Proofs.YtbnndbdnejfehaaGreatDoor
open Go.ChangeShapes Go.WideShapes Go.ChangeAt Go.RowKit

theorem Gw.one {base : Nat} {X w : World} (h : Gw base (.slice none 0 0) X (.slice none 0 0) w []) (hb : base ≤ X.heap.size) (x : Int) : Gw base (.slice none 0 0) X (.slice (some ⟨w.heap.size, 0, none⟩) 1 1) (w.alloc (.cells #[.int .u8 x] 5)) [x] :=
  ⟨(own_oneW w x).mono (h.hz hb), (h.alloc _).gr, fun k hk => .inr (by simp only [Value.ownBlock, Option.some.injEq] at hk; have := h.gr.size; omega)⟩
theorem Gw.none (base : Nat) (X : World) : Gw base (.slice none 0 0) X (.slice none 0 0) X [] := Gw.refl ⟨rfl, .inl ⟨rfl, rfl⟩⟩
end Go.Proofs.YtbnndbdnejfehaaGreatDoor
/- Parts of slices of bytes. -/
namespace Go.Proofs.YtbnndbdnejfehaaGreatDoor
open Go.ChangeShapes Go.WideShapes Go.ChangeAt Go.RowKit

end Go.Proofs.YtbnndbdnejfehaaGreatDoor
/- What one may write into of an answer is written over: nothing else is turned. -/
namespace Go.Proofs.YtbnndbdnejfehaaGreatDoor
open Go.ChangeShapes Go.WideShapes Go.ChangeAt Go.RowKit

theorem grown_set (w : World) (g j : Nat) (v : Value) : w.grownBy (w.setCell ⟨g, j, none⟩ v) (some g) :=
  ⟨rfl, rfl, rfl, by simp [World.setCell], fun k _ hne => by simp [World.setCell, Array.getElem?_modify]; intro h; exact absurd (by rw [h]) hne⟩

end Go.Proofs.YtbnndbdnejfehaaGreatDoor
/- Contracts: which bytes are a stamp; package stamp and its reference. -/
namespace Go.Proofs.YtbnndbdnejfehaaGreatDoor
open Go.RowKit

end Go.Proofs.YtbnndbdnejfehaaGreatDoor
/- Contracts: how numbers in seven bits a byte are read, by package bits. -/
namespace Go.Proofs.YtbnndbdnejfehaaGreatDoor
open Go.RowKit

end Go.Proofs.YtbnndbdnejfehaaGreatDoor
/- Contracts: how numbers in seven bits a byte are read, by the reference. -/
namespace Go.Proofs.YtbnndbdnejfehaaGreatDoor
open Go.RowKit

end Go.Proofs.YtbnndbdnejfehaaGreatDoor
/- Contracts: how texts behind their length are read, by package bits and by its reference. -/
namespace Go.Proofs.YtbnndbdnejfehaaGreatDoor
open Go.ChangeShapes Go.WideShapes Go.ChangeAt Go.RowKit

/-- What bytes read as: the text, how many bytes, the error. -/
def textR (xs : List Int) : List Int × Int × Int :=
  if (takeV xs).2.2 ≠ 0 then ([], 0, (takeV xs).2.2)
  else if 1048576 < (takeV xs).1 then ([], 0, 3)
  else if (xs.length : Int) - (takeV xs).2.1 < (takeV xs).1 then ([], 0, 2)
  else ((xs.drop (takeV xs).2.1.toNat).take (takeV xs).1.toNat, (takeV xs).2.1 + (takeV xs).1, 0)
theorem textR_eq (xs : List Int) {t1 t2 t3 : Int} (h : takeV xs = (t1, t2, t3)) : textR xs = if t3 ≠ 0 then ([], 0, t3) else if 1048576 < t1 then ([], 0, 3) else if (xs.length : Int) - t2 < t1 then ([], 0, 2) else ((xs.drop t2.toNat).take t1.toNat, t2 + t1, 0) := by
  unfold textR; rw [h]
end Go.Proofs.YtbnndbdnejfehaaGreatDoor
/- Wire: package wire's reader: its steps. -/
namespace Go.Proofs.YtbnndbdnejfehaaGreatDoor
open Go.ChangeShapes Go.WideShapes Go.ChangeAt Go.RowKit

theorem cut2W {P Q : Prop} (h : P → Q) (p : P) : Q := h p
theorem cells_setW {w : World} {g : Nat} {cur : Array Value} {t : TypeId} (h : w.heap[g]? = some (.cells cur t (0, 0))) (j : Nat) (v : Value) : (w.setCell ⟨g, j, none⟩ v).heap[g]? = some (.cells (cur.setIfInBounds j v) t (0, 0)) := by
  simp [World.setCell, h, Array.getElem?_modify]
theorem grown_setW (w : World) (g j : Nat) (v : Value) : w.grownBy (w.setCell ⟨g, j, none⟩ v) (some g) :=
  grown_set w g j v
theorem grown_drewW {w w' : World} {row : Option Nat} (h : w.grownBy w' row) : w.grownBy w'.drew row := ⟨h.os, h.tape, h.output, h.size, h.block⟩
theorem grown_transW {a b c : World} {row : Option Nat} (h : a.grownBy b row) (k : b.grownBy c row) : a.grownBy c row :=
  ⟨k.os.trans h.os, k.tape.trans h.tape, k.output.trans h.output, Nat.le_trans h.size k.size, fun i hi hn => (k.block i (Nat.lt_of_lt_of_le hi h.size) hn).trans (h.block i hi hn)⟩
/-- A number is read. -/
def rdNw (xs : List Int) (bad : Bool) : Int × List Int × Bool := (zagI (takeV xs).1, xs.drop (takeV xs).2.1.toNat, bad || decide ((takeV xs).2.2 ≠ 0))
/-- A byte is read. -/
def rdBw : List Int → Bool → Int × List Int × Bool
  | [], _ => (0, [], true)
  | x :: t, bad => (x, t, bad)
/-- A truth is read. -/
def rdFw (xs : List Int) (bad : Bool) : Bool × List Int × Bool := (decide ((rdBw xs bad).1 = 1), (rdBw xs bad).2.1, (rdBw xs bad).2.2 || decide (1 < (rdBw xs bad).1))
end Go.Proofs.YtbnndbdnejfehaaGreatDoor
/- Wire: package wire's reader: stamps, attempts. -/
namespace Go.Proofs.YtbnndbdnejfehaaGreatDoor
open Go.ChangeShapes Go.WideShapes Go.ChangeAt Go.RowKit

end Go.Proofs.YtbnndbdnejfehaaGreatDoor
/- A struct that is stored cell by cell: what the block holds then, whatever its size. -/
namespace Go.Proofs.YtbnndbdnejfehaaGreatDoor
open Go.ChangeShapes Go.WideShapes Go.ChangeAt Go.RowKit

end Go.Proofs.YtbnndbdnejfehaaGreatDoor
/- Wire: a state's bytes: package wire's. -/
namespace Go.Proofs.YtbnndbdnejfehaaGreatDoor
open Go.ChangeShapes Go.WideShapes Go.ChangeAt Go.RowKit

end Go.Proofs.YtbnndbdnejfehaaGreatDoor
/- Wire: a state's bytes: the document's. -/
namespace Go.Proofs.YtbnndbdnejfehaaGreatDoor
open Go.ChangeShapes Go.WideShapes Go.ChangeAt Go.RowKit

end Go.Proofs.YtbnndbdnejfehaaGreatDoor
/- Wire: a joint's bytes: package wire's and the document's. -/
namespace Go.Proofs.YtbnndbdnejfehaaGreatDoor
open Go.ChangeShapes Go.WideShapes Go.ChangeAt Go.RowKit

structure CfX where
  v : Int
  x : Int
  l : Int
  e : Int
  k : Int
deriving DecidableEq
structure JoX where
  o : CfX
  n : CfX
  two : Bool
deriving DecidableEq
def In16 (n : Int) : Prop := 0 ≤ n ∧ n ≤ 65535
structure CfF (c : CfX) : Prop where
  v : In16 c.v
  x : In16 c.x
  l : In16 c.l
  e : In64 c.e
  k : In64 c.k
structure JoF (j : JoX) : Prop where
  o : CfF j.o
  n : CfF j.n
def put2 (x : Int) : List Int := bePre x 2 2
theorem put2_len (x : Int) : (put2 x).length = 2 := bePre_len x 2 2
def encCf (c : CfX) : List Int := [c.v, c.x, c.l].flatMap put2 ++ encN c.e ++ encN c.k
def encJo (j : JoX) : List Int := [j.o, j.n].flatMap encCf ++ encF j.two
end Go.Proofs.YtbnndbdnejfehaaGreatDoor
/- Logs: the plain law: what a log is, and what it tells of its entries. -/
namespace Go.Proofs.YtbnndbdnejfehaaGreatDoor

structure Jn where
  ov : Int
  ox : Int
  ol : Int
  oe : Int
  ok : Int
  nv : Int
  nx : Int
  nl : Int
  ne : Int
  nk : Int
  two : Bool
deriving DecidableEq
structure Ent where
  t : Int
  k : Int
  d : ByteArray
  j : Jn
deriving DecidableEq
structure Lg where
  b : Int
  bt : Int
  j : Jn
  es : List Ent
deriving DecidableEq
def jn0 : Jn := ⟨0, 0, 0, 0, 0, 0, 0, 0, 0, 0, false⟩
def ent0 : Ent := ⟨0, 0, ⟨#[]⟩, jn0⟩
def Lg.last (l : Lg) : Int := l.b + l.es.length
/-- An entry by its number. -/
def atL (l : Lg) (i : Int) : Ent × Bool := if i ≤ l.b then (ent0, false) else match l.es[(i - l.b - 1).toNat]? with
  | some e => (e, true)
  | none => (ent0, false)
def termL (l : Lg) (i : Int) : Int × Bool := if i = l.b then (l.bt, true) else ((atL l i).1.t, (atL l i).2)
theorem atL_low {l : Lg} {i : Int} (h : i ≤ l.b) : atL l i = (ent0, false) := by unfold atL; rw [if_pos h]
theorem atL_high {l : Lg} {i : Int} (h : l.last < i) (_hb : 0 ≤ l.b) : atL l i = (ent0, false) := by
  unfold Lg.last at h
  unfold atL; rw [if_neg (by omega), List.getElem?_eq_none (by omega)]
theorem atL_in {l : Lg} {i : Int} {k : Nat} (h : i - l.b - 1 = (k : Int)) (hk : k < l.es.length) : atL l i = (l.es[k], true) := by
  unfold atL; rw [if_neg (by omega), h, Int.toNat_natCast, List.getElem?_eq_getElem hk]
theorem termL_base {l : Lg} {i : Int} (h : i = l.b) : termL l i = (l.bt, true) := by unfold termL; rw [if_pos h]
theorem termL_not {l : Lg} {i : Int} (h : i ≠ l.b) : termL l i = ((atL l i).1.t, (atL l i).2) := by unfold termL; rw [if_neg h]
end Go.Proofs.YtbnndbdnejfehaaGreatDoor
/- entries: Last, At, Term; the reference's. -/
namespace Go.Proofs.YtbnndbdnejfehaaGreatDoor
open Go.ChangeShapes Go.WideShapes Go.ChangeAt Go.RowKit

theorem ret_intL {k : IntKind} {a b : Int} (h : a = b) : Ending.returned (.int k a) = .returned (.int k b) := by rw [h]
def entC (e : Ent) : List Value := [.int .i64 e.t, .int .i64 e.k, .string e.d, .int .u16 e.j.ov, .int .u16 e.j.ox, .int .u16 e.j.ol, .int .i64 e.j.oe, .int .i64 e.j.ok, .int .u16 e.j.nv, .int .u16 e.j.nx, .int .u16 e.j.nl, .int .i64 e.j.ne, .int .i64 e.j.nk, .bool e.j.two]
def entRow (L : List Ent) : List Value := L.flatMap entC
theorem entRow_len (L : List Ent) : (entRow L).length = L.length * 14 := by
  induction L with
  | nil => rfl
  | cons x t ih => simp only [entRow, List.flatMap_cons, List.length_append, List.length_cons] at ih ⊢; rw [ih]; simp [entC]; omega
theorem entRow_app (L M : List Ent) : entRow (L ++ M) = entRow L ++ entRow M := by simp [entRow]
theorem entC_one (L : List Ent) : ∀ u ∈ entRow L, u.oneCell' = true := by
  intro u hu
  obtain ⟨e, -, hu⟩ := List.mem_flatMap.1 hu
  simp only [entC, List.mem_cons, List.not_mem_nil, or_false] at hu
  rcases hu with rfl | rfl | rfl | rfl | rfl | rfl | rfl | rfl | rfl | rfl | rfl | rfl | rfl | rfl <;> rfl
theorem entRow_get {L : List Ent} {k j : Nat} (hk : k < L.length) (hj : j < 14) : (entRow L)[k * 14 + j]? = (entC L[k])[j]? := by
  induction L generalizing k with
  | nil => simp at hk
  | cons x t ih =>
    have hl : (entC x).length = 14 := rfl
    cases k with
    | zero => simp only [entRow, List.flatMap_cons, zC]; rw [List.getElem?_append_left (by rw [hl]; omega), Nat.zero_mul, Nat.zero_add]
    | succ k =>
      simp only [entRow, List.flatMap_cons, zB]
      rw [List.getElem?_append_right (by rw [hl]; omega), hl, show (k + 1) * 14 + j - 14 = k * 14 + j by omega]
      exact ih (by simpa using hk)
/-- A slice of entries, whoever owns it. -/
def EnSl (w : World) (v : Value) (L : List Ent) : Prop := Sl w.heap.size w v 14 L.length (entRow L)
theorem EnSl.keep {w w' : World} {v : Value} {L : List Ent} {B : Nat} (h : EnSl w v L) (hb : Below B w w') (hB : w.heap.size ≤ B) : EnSl w' v L := (Sl.keep h (hb.mono hB)).mono hb.size
theorem EnSl.form {w : World} {v : Value} {L : List Ent} (h : EnSl w v L) : ∃ p cap, v = .slice p L.length cap ∧ L.length ≤ cap ∧ cap ≤ maxLen := by
  rcases h.2 with ⟨h2, h3⟩ | ⟨ad, cap', h2, h3, h4, h5⟩
  · exact ⟨none, 0, by rw [h2, h3], by omega, by unfold maxLen; omega⟩
  · exact ⟨_, cap', h2, h3, h4⟩
theorem EnSl.at {w : World} {v : Value} {L : List Ent} (h : EnSl w v L) (k : Nat) (hk : k < L.length) : ∃ g o cap, v = .slice (some ⟨g, o, none⟩) L.length cap ∧ g < w.heap.size ∧ ∀ j, j < 14 → w.cell? ⟨g, o + k * 14 + j, none⟩ = (entC L[k])[j]? := by
  rcases h.2 with ⟨h2, h3⟩ | ⟨ad, cap', h2, h3, h4, h5⟩
  · omega
  · obtain ⟨g', o', rfl, h6, h7⟩ := h5 (by omega)
    exact ⟨g', o', cap', h2, h6, fun j hj => by rw [Nat.add_assoc, h7 _ (by omega), entRow_get hk hj]⟩
section
variable (l : Lg) (p : Option Addr) (c : Nat)
set_option maxHeartbeats 400000 in
theorem last_any (w : World) (h0 : 0 ≤ l.b) (h1 : l.b ≤ 1152921504606846976) (h2 : l.es.length ≤ 1000000) :
    Calls Tryz.prog 64 #[.agg #[.int .i64 l.b, .int .i64 l.bt, .int .u16 l.j.ov, .int .u16 l.j.ox, .int .u16 l.j.ol, .int .i64 l.j.oe, .int .i64 l.j.ok, .int .u16 l.j.nv, .int .u16 l.j.nx, .int .u16 l.j.nl, .int .i64 l.j.ne, .int .i64 l.j.nk, .bool l.j.two, .slice p l.es.length c]] w fun r w' => r = .returned (.int .i64 l.last) ∧ Below w.heap.size w w' := by
  have HE : Hid (l.last = l.b + l.es.length) := rfl
  go_enter Tryz.func64, Tryz.ntmps64
  go_wp2_with fail
  go_ret
  exact ⟨ret_intL HE.out.symm, (Below.refl _ _).alloc (Nat.le_refl _) _⟩
set_option maxRecDepth 100000 in
set_option maxHeartbeats 4000000 in
theorem at_any (i : Int) (w : World) (h0 : 0 ≤ l.b) (h1 : l.b ≤ 1152921504606846976) (_h2 : l.es.length ≤ 1000000) (i0 : -9223372036854775808 ≤ i) (i1 : i ≤ 9223372036854775807) (hE : EnSl w (.slice p l.es.length c) l.es) {e : Ent} {is : Bool} (h : Hid (atL l i = (e, is))) :
    Calls Tryz.prog 114 #[.agg #[.int .i64 l.b, .int .i64 l.bt, .int .u16 l.j.ov, .int .u16 l.j.ox, .int .u16 l.j.ol, .int .i64 l.j.oe, .int .i64 l.j.ok, .int .u16 l.j.nv, .int .u16 l.j.nx, .int .u16 l.j.nl, .int .i64 l.j.ne, .int .i64 l.j.nk, .bool l.j.two, .slice p l.es.length c], .int .i64 i] w fun r w' => r = .returned (.tuple #[.agg #[.int .i64 e.t, .int .i64 e.k, .string e.d, .int .u16 e.j.ov, .int .u16 e.j.ox, .int .u16 e.j.ol, .int .i64 e.j.oe, .int .i64 e.j.ok, .int .u16 e.j.nv, .int .u16 e.j.nx, .int .u16 e.j.nl, .int .i64 e.j.ne, .int .i64 e.j.nk, .bool e.j.two], .bool is]) ∧ Below w.heap.size w w' := by
  have HE := Lib.hid hE
  clear hE
  by_cases hlo : i ≤ l.b
  · obtain ⟨rfl, rfl⟩ : ent0 = e ∧ false = is := by have := h.out; rw [atL_low hlo] at this; exact ⟨congrArg Prod.fst this, congrArg Prod.snd this⟩
    clear h
    go_enter Tryz.func114, Tryz.ntmps114
    go_wp2_with fail
    refine bodyPost_ret (v := .tuple #[.agg #[.int .i64 0, .int .i64 0, .string ⟨#[]⟩, .int .u16 0, .int .u16 0, .int .u16 0, .int .i64 0, .int .i64 0, .int .u16 0, .int .u16 0, .int .u16 0, .int .i64 0, .int .i64 0, .bool false], .bool false]) (by simp [results, Tryz.results114, go_sem]) rfl ⟨rfl, ((Below.refl _ _).alloc (Nat.le_refl _) _).alloc (by simp) _⟩
  · obtain ⟨k, hk⟩ := Int.eq_ofNat_of_zero_le (show 0 ≤ i - l.b - 1 by omega)
    have HK := Lib.hid hk
    by_cases hlt : k < l.es.length
    · obtain ⟨rfl, rfl⟩ : l.es[k] = e ∧ true = is := by have := h.out; rw [atL_in hk hlt] at this; exact ⟨congrArg Prod.fst this, congrArg Prod.snd this⟩
      obtain ⟨g, o, cap, hv, hgl, hc⟩ := HE.out.at k hlt
      simp only [Value.slice.injEq] at hv
      obtain ⟨rfl, -⟩ := hv
      obtain ⟨e, he⟩ : ∃ e, l.es[k] = e := ⟨_, rfl⟩
      rw [he] at hc ⊢
      have hq0 : w.cell? ⟨g, o + k * 14, none⟩ = some (.int .i64 e.t) := hc 0 (by decide)
      have hq1 : w.cell? ⟨g, o + k * 14 + 1, none⟩ = some (.int .i64 e.k) := hc 1 (by decide)
      have hq2 : w.cell? ⟨g, o + k * 14 + 2, none⟩ = some (.string e.d) := hc 2 (by decide)
      have hq3 : w.cell? ⟨g, o + k * 14 + 3, none⟩ = some (.int .u16 e.j.ov) := hc 3 (by decide)
      have hq4 : w.cell? ⟨g, o + k * 14 + 4, none⟩ = some (.int .u16 e.j.ox) := hc 4 (by decide)
      have hq5 : w.cell? ⟨g, o + k * 14 + 5, none⟩ = some (.int .u16 e.j.ol) := hc 5 (by decide)
      have hq6 : w.cell? ⟨g, o + k * 14 + 6, none⟩ = some (.int .i64 e.j.oe) := hc 6 (by decide)
      have hq7 : w.cell? ⟨g, o + k * 14 + 7, none⟩ = some (.int .i64 e.j.ok) := hc 7 (by decide)
      have hq8 : w.cell? ⟨g, o + k * 14 + 8, none⟩ = some (.int .u16 e.j.nv) := hc 8 (by decide)
      have hq9 : w.cell? ⟨g, o + k * 14 + 9, none⟩ = some (.int .u16 e.j.nx) := hc 9 (by decide)
      have hq10 : w.cell? ⟨g, o + k * 14 + 10, none⟩ = some (.int .u16 e.j.nl) := hc 10 (by decide)
      have hq11 : w.cell? ⟨g, o + k * 14 + 11, none⟩ = some (.int .i64 e.j.ne) := hc 11 (by decide)
      have hq12 : w.cell? ⟨g, o + k * 14 + 12, none⟩ = some (.int .i64 e.j.nk) := hc 12 (by decide)
      have hq13 : w.cell? ⟨g, o + k * 14 + 13, none⟩ = some (.bool e.j.two) := hc 13 (by decide)
      have hgw : g ≠ w.heap.size := by omega
      have hgw' : g ≠ w.heap.size + 1 := by omega
      clear h hc he hk
      go_enter Tryz.func114, Tryz.ntmps114
      go_upto_region 4 with fail
      rw [HK.out]
      go_wp2_with fail
      refine bodyPost_ret (v := .tuple #[.agg #[.int .i64 e.t, .int .i64 e.k, .string e.d, .int .u16 e.j.ov, .int .u16 e.j.ox, .int .u16 e.j.ol, .int .i64 e.j.oe, .int .i64 e.j.ok, .int .u16 e.j.nv, .int .u16 e.j.nx, .int .u16 e.j.nl, .int .i64 e.j.ne, .int .i64 e.j.nk, .bool e.j.two], .bool true]) (by simp [results, Tryz.results114, go_sem]) rfl ⟨rfl, ((Below.refl _ _).alloc (Nat.le_refl _) _).alloc (by simp) _⟩
    · obtain ⟨rfl, rfl⟩ : ent0 = e ∧ false = is := by have := h.out; rw [atL_high (by unfold Lg.last; omega) h0] at this; exact ⟨congrArg Prod.fst this, congrArg Prod.snd this⟩
      clear h hk
      go_enter Tryz.func114, Tryz.ntmps114
      go_upto_region 4 with fail
      rw [HK.out]
      go_wp2_with fail
      refine bodyPost_ret (v := .tuple #[.agg #[.int .i64 0, .int .i64 0, .string ⟨#[]⟩, .int .u16 0, .int .u16 0, .int .u16 0, .int .i64 0, .int .i64 0, .int .u16 0, .int .u16 0, .int .u16 0, .int .i64 0, .int .i64 0, .bool false], .bool false]) (by simp [results, Tryz.results114, go_sem]) rfl ⟨rfl, ((Below.refl _ _).alloc (Nat.le_refl _) _).alloc (by simp) _⟩
theorem at_un (i : Int) (w : World) (h0 : 0 ≤ l.b) (h1 : l.b ≤ 1152921504606846976) (h2 : l.es.length ≤ 1000000) (i0 : -9223372036854775808 ≤ i) (i1 : i ≤ 9223372036854775807) (hE : EnSl w (.slice p l.es.length c) l.es) :
    ∃ e is, atL l i = (e, is) ∧ Calls Tryz.prog 114 #[.agg #[.int .i64 l.b, .int .i64 l.bt, .int .u16 l.j.ov, .int .u16 l.j.ox, .int .u16 l.j.ol, .int .i64 l.j.oe, .int .i64 l.j.ok, .int .u16 l.j.nv, .int .u16 l.j.nx, .int .u16 l.j.nl, .int .i64 l.j.ne, .int .i64 l.j.nk, .bool l.j.two, .slice p l.es.length c], .int .i64 i] w fun r w' => r = .returned (.tuple #[.agg #[.int .i64 e.t, .int .i64 e.k, .string e.d, .int .u16 e.j.ov, .int .u16 e.j.ox, .int .u16 e.j.ol, .int .i64 e.j.oe, .int .i64 e.j.ok, .int .u16 e.j.nv, .int .u16 e.j.nx, .int .u16 e.j.nl, .int .i64 e.j.ne, .int .i64 e.j.nk, .bool e.j.two], .bool is]) ∧ Below w.heap.size w w' := by
  obtain ⟨⟨e, is⟩, h⟩ : ∃ x, atL l i = x := ⟨_, rfl⟩
  exact ⟨e, is, h, at_any l p c i w h0 h1 h2 i0 i1 hE h⟩
set_option maxRecDepth 100000 in
set_option maxHeartbeats 4000000 in
theorem term_any (i : Int) (w : World) (h0 : 0 ≤ l.b) (h1 : l.b ≤ 1152921504606846976) (h2 : l.es.length ≤ 1000000) (i0 : -9223372036854775808 ≤ i) (i1 : i ≤ 9223372036854775807) (hE : EnSl w (.slice p l.es.length c) l.es) {t : Int} {is : Bool} (h : Hid (termL l i = (t, is))) :
    Calls Tryz.prog 65 #[.agg #[.int .i64 l.b, .int .i64 l.bt, .int .u16 l.j.ov, .int .u16 l.j.ox, .int .u16 l.j.ol, .int .i64 l.j.oe, .int .i64 l.j.ok, .int .u16 l.j.nv, .int .u16 l.j.nx, .int .u16 l.j.nl, .int .i64 l.j.ne, .int .i64 l.j.nk, .bool l.j.two, .slice p l.es.length c], .int .i64 i] w fun r w' => r = .returned (.tuple #[.int .i64 t, .bool is]) ∧ Below w.heap.size w w' := by
  have HE := Lib.hid hE
  clear hE
  by_cases hb : i = l.b
  · obtain ⟨rfl, rfl⟩ : l.bt = t ∧ true = is := by have := h.out; rw [termL_base hb] at this; exact ⟨congrArg Prod.fst this, congrArg Prod.snd this⟩
    clear h
    subst hb
    go_enter Tryz.func65, Tryz.ntmps65
    go_wp2_with fail
    go_ret2
    exact ⟨rfl, (Below.refl _ _).alloc (Nat.le_refl _) _⟩
  · have hbox : Below w.heap.size w (w.alloc (.cells #[.int .i64 l.b, .int .i64 l.bt, .int .u16 l.j.ov, .int .u16 l.j.ox, .int .u16 l.j.ol, .int .i64 l.j.oe, .int .i64 l.j.ok, .int .u16 l.j.nv, .int .u16 l.j.nx, .int .u16 l.j.nl, .int .i64 l.j.ne, .int .i64 l.j.nk, .bool l.j.two, .slice p l.es.length c] 30)) := (Below.refl _ _).alloc (Nat.le_refl _) _
    obtain ⟨e, is', hat, hcall⟩ := at_un l p c i _ h0 h1 h2 i0 i1 (HE.out.keep hbox (Nat.le_refl _))
    obtain ⟨rfl, rfl⟩ : e.t = t ∧ is' = is := by have := h.out; rw [termL_not hb, hat] at this; exact ⟨congrArg Prod.fst this, congrArg Prod.snd this⟩
    have HC := Lib.hid hcall; have HB := Lib.hid hbox
    have hbf : (i == l.b) = false := by simpa using hb
    clear h hat hcall hbox hb
    go_enter Tryz.func65, Tryz.ntmps65
    go_wp2_with fail
    refine HC.out.mono ?_; rintro r w2 ⟨rfl, hb2⟩
    have HB2 := Lib.hid (HB.out.trans (hb2.mono HB.out.size))
    clear hb2
    go_wp2_with fail
    go_ret2
    exact ⟨rfl, HB2.out.alloc HB2.out.size _⟩
end
end Go.Proofs.YtbnndbdnejfehaaGreatDoor
