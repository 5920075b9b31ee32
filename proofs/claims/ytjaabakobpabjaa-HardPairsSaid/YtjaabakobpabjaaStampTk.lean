import Derived.Test.YtjaabakobpabjaaGwA
import Derived.Test.YtjaabakobpabjaaCalm
import Derived.Test.YtjaabakobpabjaaLogD
import Derived.Test.YtjaabakobpabjaaNums
/- Wire: are two lists of spans, of writes, the same? -/
namespace Go.Proofs.Ytjaabakobpabjaa
open Go.ChangeShapes Go.WideShapes Go.ChangeAt Go.RowKit

end Go.Proofs.Ytjaabakobpabjaa
/- Wire: the parts of a state; are two lists of versions, of outcomes, the same? -/
namespace Go.Proofs.Ytjaabakobpabjaa
open Go.ChangeShapes Go.WideShapes Go.ChangeAt Go.RowKit

structure VeX where
  w : Int
  t : Int
  r : Bool
  d : ByteArray
deriving DecidableEq
structure CeX where
  k : ByteArray
  vs : List VeX
  lk : Bool
  yn : Int
  yl : Int
  ys : Int
  ya : Int
  hm : Int
  sw : Int
  st : Int
  lr : Bool
  ld : ByteArray
deriving DecidableEq
structure OuX where
  yn : Int
  yl : Int
  ys : Int
  ya : Int
  sw : Int
  st : Int
  yes : Bool
deriving DecidableEq
structure PaX where
  e : Int
  h : Int
  fw : Int
  ft : Int
  cl : Int
  lo : Int
  cs : List CeX
  rs : List OuX
  ds : List OuX
deriving DecidableEq
def VesAt (w : World) (p : Option Addr) (L : List VeX) : Prop := ∀ j, (hj : j < L.length) → ∃ g o, p = some ⟨g, o, none⟩ ∧ g < w.heap.size ∧ w.cell? ⟨g, o + j * 4, none⟩ = some (.int .i64 L[j].w) ∧ w.cell? ⟨g, o + j * 4 + 1, none⟩ = some (.int .i64 L[j].t) ∧ w.cell? ⟨g, o + j * 4 + 2, none⟩ = some (.bool L[j].r) ∧ w.cell? ⟨g, o + j * 4 + 3, none⟩ = some (.string L[j].d)
theorem VesAt.keep {w w' : World} {p : Option Addr} {L : List VeX} (h : VesAt w p L) {B : Nat} (hb : Below B w w') (hB : w.heap.size ≤ B) : VesAt w' p L := fun j hj => by
  obtain ⟨g, o, e, hg, h0, h1, h2, h3⟩ := h j hj
  exact ⟨g, o, e, Nat.lt_of_lt_of_le hg hb.size, (hb.cell (p := ⟨g, o + j * 4, none⟩) (by show g < B; omega)).trans h0, (hb.cell (p := ⟨g, o + j * 4 + 1, none⟩) (by show g < B; omega)).trans h1, (hb.cell (p := ⟨g, o + j * 4 + 2, none⟩) (by show g < B; omega)).trans h2, (hb.cell (p := ⟨g, o + j * 4 + 3, none⟩) (by show g < B; omega)).trans h3⟩
def OusAt (w : World) (p : Option Addr) (L : List OuX) : Prop := ∀ j, (hj : j < L.length) → ∃ g o, p = some ⟨g, o, none⟩ ∧ g < w.heap.size ∧ w.cell? ⟨g, o + j * 7, none⟩ = some (.int .i64 L[j].yn) ∧ w.cell? ⟨g, o + j * 7 + 1, none⟩ = some (.int .i64 L[j].yl) ∧ w.cell? ⟨g, o + j * 7 + 2, none⟩ = some (.int .i64 L[j].ys) ∧ w.cell? ⟨g, o + j * 7 + 3, none⟩ = some (.int .i64 L[j].ya) ∧ w.cell? ⟨g, o + j * 7 + 4, none⟩ = some (.int .i64 L[j].sw) ∧ w.cell? ⟨g, o + j * 7 + 5, none⟩ = some (.int .i64 L[j].st) ∧ w.cell? ⟨g, o + j * 7 + 6, none⟩ = some (.bool L[j].yes)
theorem OusAt.keep {w w' : World} {p : Option Addr} {L : List OuX} (h : OusAt w p L) {B : Nat} (hb : Below B w w') (hB : w.heap.size ≤ B) : OusAt w' p L := fun j hj => by
  obtain ⟨g, o, e, hg, h0, h1, h2, h3, h4, h5, h6⟩ := h j hj
  exact ⟨g, o, e, Nat.lt_of_lt_of_le hg hb.size, (hb.cell (p := ⟨g, o + j * 7, none⟩) (by show g < B; omega)).trans h0, (hb.cell (p := ⟨g, o + j * 7 + 1, none⟩) (by show g < B; omega)).trans h1, (hb.cell (p := ⟨g, o + j * 7 + 2, none⟩) (by show g < B; omega)).trans h2, (hb.cell (p := ⟨g, o + j * 7 + 3, none⟩) (by show g < B; omega)).trans h3, (hb.cell (p := ⟨g, o + j * 7 + 4, none⟩) (by show g < B; omega)).trans h4, (hb.cell (p := ⟨g, o + j * 7 + 5, none⟩) (by show g < B; omega)).trans h5, (hb.cell (p := ⟨g, o + j * 7 + 6, none⟩) (by show g < B; omega)).trans h6⟩
end Go.Proofs.Ytjaabakobpabjaa
/- Wire: are two cells the same? Package wire's. -/
namespace Go.Proofs.Ytjaabakobpabjaa
open Go.ChangeShapes Go.WideShapes Go.ChangeAt Go.RowKit

end Go.Proofs.Ytjaabakobpabjaa
/- Wire: are two lists of cells the same? Package wire's. -/
namespace Go.Proofs.Ytjaabakobpabjaa
open Go.ChangeShapes Go.WideShapes Go.ChangeAt Go.RowKit

/-- A cell, and where its versions lie. -/
abbrev CeL := CeX × Option Addr × Nat
def CesAt (w : World) (p : Option Addr) (L : List CeL) : Prop := ∀ j, (hj : j < L.length) → ∃ g o, p = some ⟨g, o, none⟩ ∧ g < w.heap.size ∧ VesAt w L[j].2.1 L[j].1.vs ∧ w.cell? ⟨g, o + j * 12, none⟩ = some (.string L[j].1.k) ∧ w.cell? ⟨g, o + j * 12 + 1, none⟩ = some (.slice L[j].2.1 L[j].1.vs.length L[j].2.2) ∧ w.cell? ⟨g, o + j * 12 + 2, none⟩ = some (.bool L[j].1.lk) ∧ w.cell? ⟨g, o + j * 12 + 3, none⟩ = some (.int .i64 L[j].1.yn) ∧ w.cell? ⟨g, o + j * 12 + 4, none⟩ = some (.int .i64 L[j].1.yl) ∧ w.cell? ⟨g, o + j * 12 + 5, none⟩ = some (.int .i64 L[j].1.ys) ∧ w.cell? ⟨g, o + j * 12 + 6, none⟩ = some (.int .i64 L[j].1.ya) ∧ w.cell? ⟨g, o + j * 12 + 7, none⟩ = some (.int .i64 L[j].1.hm) ∧ w.cell? ⟨g, o + j * 12 + 8, none⟩ = some (.int .i64 L[j].1.sw) ∧ w.cell? ⟨g, o + j * 12 + 9, none⟩ = some (.int .i64 L[j].1.st) ∧ w.cell? ⟨g, o + j * 12 + 10, none⟩ = some (.bool L[j].1.lr) ∧ w.cell? ⟨g, o + j * 12 + 11, none⟩ = some (.string L[j].1.ld)
theorem CesAt.keep {w w' : World} {p : Option Addr} {L : List CeL} (h : CesAt w p L) {B : Nat} (hb : Below B w w') (hB : w.heap.size ≤ B) : CesAt w' p L := fun j hj => by
  obtain ⟨g, o, e, hg, hv, h0, h1, h2, h3, h4, h5, h6, h7, h8, h9, h10, h11⟩ := h j hj
  exact ⟨g, o, e, Nat.lt_of_lt_of_le hg hb.size, hv.keep hb hB, (hb.cell (p := ⟨g, o + j * 12, none⟩) (by show g < B; omega)).trans h0, (hb.cell (p := ⟨g, o + j * 12 + 1, none⟩) (by show g < B; omega)).trans h1, (hb.cell (p := ⟨g, o + j * 12 + 2, none⟩) (by show g < B; omega)).trans h2, (hb.cell (p := ⟨g, o + j * 12 + 3, none⟩) (by show g < B; omega)).trans h3, (hb.cell (p := ⟨g, o + j * 12 + 4, none⟩) (by show g < B; omega)).trans h4, (hb.cell (p := ⟨g, o + j * 12 + 5, none⟩) (by show g < B; omega)).trans h5, (hb.cell (p := ⟨g, o + j * 12 + 6, none⟩) (by show g < B; omega)).trans h6, (hb.cell (p := ⟨g, o + j * 12 + 7, none⟩) (by show g < B; omega)).trans h7, (hb.cell (p := ⟨g, o + j * 12 + 8, none⟩) (by show g < B; omega)).trans h8, (hb.cell (p := ⟨g, o + j * 12 + 9, none⟩) (by show g < B; omega)).trans h9, (hb.cell (p := ⟨g, o + j * 12 + 10, none⟩) (by show g < B; omega)).trans h10, (hb.cell (p := ⟨g, o + j * 12 + 11, none⟩) (by show g < B; omega)).trans h11⟩
end Go.Proofs.Ytjaabakobpabjaa
/- Wire: what a state's parts may be, and their bytes. -/
namespace Go.Proofs.Ytjaabakobpabjaa

structure VeF (x : VeX) : Prop where
  w : In64 x.w
  t : In64 x.t
  d : TxF x.d
structure OuF (x : OuX) : Prop where
  yn : In64 x.yn
  yl : In64 x.yl
  ys : In64 x.ys
  ya : In64 x.ya
  sw : In64 x.sw
  st : In64 x.st
structure CeF (x : CeX) : Prop where
  k : TxF x.k
  nvs : x.vs.length ≤ 9223372036854775807
  vs : ∀ v ∈ x.vs, VeF v
  yn : In64 x.yn
  yl : In64 x.yl
  ys : In64 x.ys
  ya : In64 x.ya
  hm : In64 x.hm
  sw : In64 x.sw
  st : In64 x.st
  ld : TxF x.ld
/-- A state, and where its cells' versions lie. -/
structure PaL where
  e : Int
  h : Int
  fw : Int
  ft : Int
  cl : Int
  lo : Int
  cs : List CeL
  rs : List OuX
  ds : List OuX
structure PaF (P : PaL) : Prop where
  e : In64 P.e
  h : In64 P.h
  fw : In64 P.fw
  ft : In64 P.ft
  cl : In64 P.cl
  lo : In64 P.lo
  cs : ∀ x ∈ P.cs, CeF x.1
  rs : ∀ x ∈ P.rs, OuF x
  ds : ∀ x ∈ P.ds, OuF x
  ncs : P.cs.length ≤ 9223372036854775807
  nrs : P.rs.length ≤ 9223372036854775807
  nds : P.ds.length ≤ 9223372036854775807
def PaL.x (P : PaL) : PaX := ⟨P.e, P.h, P.fw, P.ft, P.cl, P.lo, P.cs.map (·.1), P.rs, P.ds⟩
end Go.Proofs.Ytjaabakobpabjaa
/- Wire: package wire's bytes of a command. -/
namespace Go.Proofs.Ytjaabakobpabjaa
open Go.ChangeShapes Go.WideShapes Go.ChangeAt Go.RowKit

theorem TxtsAt.two {w : World} {g : Nat} {a b : ByteArray} {t : TypeId} (h : w.heap[g]? = some (.cells #[.string a, .string b] t (0, 0))) : TxtsAt w (some ⟨g, 0, none⟩) [a, b] := fun j hj => by
  refine ⟨g, 0, rfl, block_lt h, ?_⟩
  rw [Nat.zero_add, block_cells h]
  have : j = 0 ∨ j = 1 := by simp at hj; omega
  rcases this with rfl | rfl <;> rfl
end Go.Proofs.Ytjaabakobpabjaa
/- Wire: lists of outcomes as bytes: package wire's and the document's. -/
namespace Go.Proofs.Ytjaabakobpabjaa
open Go.ChangeShapes Go.WideShapes Go.ChangeAt Go.RowKit

theorem Gw.one {base : Nat} {X w : World} (h : Gw base (.slice none 0 0) X (.slice none 0 0) w []) (hb : base ≤ X.heap.size) (x : Int) : Gw base (.slice none 0 0) X (.slice (some ⟨w.heap.size, 0, none⟩) 1 1) (w.alloc (.cells #[.int .u8 x] 5)) [x] :=
  ⟨(own_oneW w x).mono (h.hz hb), (h.alloc _).gr, fun k hk => .inr (by simp only [Value.ownBlock, Option.some.injEq] at hk; have := h.gr.size; omega)⟩
theorem Gw.none (base : Nat) (X : World) : Gw base (.slice none 0 0) X (.slice none 0 0) X [] := Gw.refl ⟨rfl, .inl ⟨rfl, rfl⟩⟩
end Go.Proofs.Ytjaabakobpabjaa
/- What one may write into of an answer is written over: nothing else is turned. -/
namespace Go.Proofs.Ytjaabakobpabjaa
open Go.ChangeShapes Go.WideShapes Go.ChangeAt Go.RowKit

theorem cells_set {w : World} {g : Nat} {cur : Array Value} {t : TypeId} (h : w.heap[g]? = some (.cells cur t (0, 0))) (j : Nat) (v : Value) : (w.setCell ⟨g, j, none⟩ v).heap[g]? = some (.cells (cur.setIfInBounds j v) t (0, 0)) := by
  simp [World.setCell, Array.getElem?_modify, h]

theorem grown_trans {w w1 w2 : World} {row : Option Nat} (h : w.grownBy w1 row) (g : w1.grownBy w2 row) : w.grownBy w2 row :=
  ⟨g.os.trans h.os, g.tape.trans h.tape, g.output.trans h.output, Nat.le_trans h.size g.size, fun k hk hne => (g.block k (Nat.lt_of_lt_of_le hk h.size) hne).trans (h.block k hk hne)⟩
theorem grown_refl (w : World) (row : Option Nat) : w.grownBy w row := ⟨rfl, rfl, rfl, Nat.le_refl _, fun _ _ _ => rfl⟩
theorem grown_set (w : World) (g j : Nat) (v : Value) : w.grownBy (w.setCell ⟨g, j, none⟩ v) (some g) :=
  ⟨rfl, rfl, rfl, by simp [World.setCell], fun k _ hne => by simp [World.setCell, Array.getElem?_modify]; intro h; exact absurd (by rw [h]) hne⟩

end Go.Proofs.Ytjaabakobpabjaa
/- Contracts: which bytes are a stamp; package stamp and its reference. -/
namespace Go.Proofs.Ytjaabakobpabjaa
open Go.RowKit

end Go.Proofs.Ytjaabakobpabjaa
