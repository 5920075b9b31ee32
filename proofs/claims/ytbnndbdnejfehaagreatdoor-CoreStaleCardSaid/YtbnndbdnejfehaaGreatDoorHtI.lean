import Derived.Test.YtbnndbdnejfehaaGreatDoorActAd
import Derived.Test.YtbnndbdnejfehaaGreatDoorRef13B
import Derived.Test.YtbnndbdnejfehaaGreatDoorOpenMsg
import Derived.Test.YtbnndbdnejfehaaGreatDoorAgg
import Derived.Deep.CutBlock
import Derived.Test.YtbnndbdnejfehaaGreatDoorWireC
import Derived.Test.YtbnndbdnejfehaaGreatDoorEqEnt
import Derived.Test.YtbnndbdnejfehaaGreatDoorLogE
import Derived.Test.YtbnndbdnejfehaaGreatDoorLogN0
import Derived.Test.YtbnndbdnejfehaaGreatDoorPlainB13
import Derived.Test.YtbnndbdnejfehaaGreatDoorActS0
import Derived.Test.YtbnndbdnejfehaaGreatDoorLogG
import Derived.Deep.RegionHeld3
import Derived.Laws.ResultCell
import Derived.Test.YtbnndbdnejfehaaGreatDoorHardH
import Derived.Test.YtbnndbdnejfehaaGreatDoorLogB
import Derived.ChangeKeysEq
import Derived.Test.YtbnndbdnejfehaaGreatDoorLogV
/- Core: any number of ticks: the plain law. -/
namespace Go.Proofs.YtbnndbdnejfehaaGreatDoor

/-- A typed core that may be, and is not too great, is fit. -/
theorem fit_may {N : Nat} {c : Co} (h : CoMay c) (hn : c.l.es.length ≤ N) (hN : N ≤ 1000000) (hj : JoF (joX c.l.j)) (hes : ∀ e ∈ c.l.es, JoF (joX e.j)) : CoFit N c := by
  have hl := h.l
  unfold logM at hl
  simp only [Bool.and_eq_true, List.all_eq_true] at hl
  exact ⟨⟨mayL_fitM hl.1.1 (by omega), ⟨hl.1.2, hj⟩, fun e he => ⟨hes e he, hl.2 e he⟩⟩, hn, h.id0, h.id1, fun n hn => by have := h.nx n hn; omega, h.mt, h.cm0, h.cm1⟩
end Go.Proofs.YtbnndbdnejfehaaGreatDoor
/- Wire: the reference's reader: its block. -/
namespace Go.Proofs.YtbnndbdnejfehaaGreatDoor
open Go.ChangeShapes Go.WideShapes Go.ChangeAt Go.RowKit

end Go.Proofs.YtbnndbdnejfehaaGreatDoor
/- Wire: the reference's reader: numbers, counts. -/
namespace Go.Proofs.YtbnndbdnejfehaaGreatDoor
open Go.ChangeShapes Go.WideShapes Go.ChangeAt Go.RowKit

end Go.Proofs.YtbnndbdnejfehaaGreatDoor
/- Wire: the reference's reader: texts. -/
namespace Go.Proofs.YtbnndbdnejfehaaGreatDoor
open Go.ChangeShapes Go.WideShapes Go.ChangeAt Go.RowKit

end Go.Proofs.YtbnndbdnejfehaaGreatDoor
/- Wire: the reference's reader: bytes. -/
namespace Go.Proofs.YtbnndbdnejfehaaGreatDoor
open Go.ChangeShapes Go.WideShapes Go.ChangeAt Go.RowKit

end Go.Proofs.YtbnndbdnejfehaaGreatDoor
/- Wire: the reference's reader: truths. -/
namespace Go.Proofs.YtbnndbdnejfehaaGreatDoor
open Go.ChangeShapes Go.WideShapes Go.ChangeAt Go.RowKit

end Go.Proofs.YtbnndbdnejfehaaGreatDoor
/- Wire: the reference's reader: stamps. -/
namespace Go.Proofs.YtbnndbdnejfehaaGreatDoor
open Go.ChangeShapes Go.WideShapes Go.ChangeAt Go.RowKit

end Go.Proofs.YtbnndbdnejfehaaGreatDoor
/- Wire: the reference's reader: attempts. -/
namespace Go.Proofs.YtbnndbdnejfehaaGreatDoor
open Go.ChangeShapes Go.WideShapes Go.ChangeAt Go.RowKit

end Go.Proofs.YtbnndbdnejfehaaGreatDoor
/- Wire: the reference's reader: outcomes. -/
namespace Go.Proofs.YtbnndbdnejfehaaGreatDoor
open Go.ChangeShapes Go.WideShapes Go.ChangeAt Go.RowKit

end Go.Proofs.YtbnndbdnejfehaaGreatDoor
/- Wire: the reference's reader: cells. -/
namespace Go.Proofs.YtbnndbdnejfehaaGreatDoor
open Go.ChangeShapes Go.WideShapes Go.ChangeAt Go.RowKit

/-- A list as it is read: in the cell of a block, in a row of the call's own. -/
structure LsF {α : Type} (R g base : Nat) (w0 wS : World) (cs : Value → Array Value) (tc te : TypeId) (size : Nat) (row : List α → List Value) (acc : List α) (w : World) : Prop where
  ex : ∃ v, w.heap[g]? = some (.cells (cs v) tc (0, 0)) ∧ w.ownsRow base te size v acc.length (row acc)
  b : w0.grownBy w (some R)
  z : base ≤ w.heap.size
  k : KpB base R g wS w
end Go.Proofs.YtbnndbdnejfehaaGreatDoor
/- Wire: what the reference's reading of a command, a state tells; what was read can be written. -/
namespace Go.Proofs.YtbnndbdnejfehaaGreatDoor

end Go.Proofs.YtbnndbdnejfehaaGreatDoor
/- Wire: the reference's TakeCmd. -/
namespace Go.Proofs.YtbnndbdnejfehaaGreatDoor
open Go.ChangeShapes Go.WideShapes Go.ChangeAt Go.RowKit

end Go.Proofs.YtbnndbdnejfehaaGreatDoor
/- Wire: the reference's TakeJoint. -/
namespace Go.Proofs.YtbnndbdnejfehaaGreatDoor
open Go.ChangeShapes Go.WideShapes Go.ChangeAt Go.RowKit

end Go.Proofs.YtbnndbdnejfehaaGreatDoor
/- Hard: the reference's steps of reading; entries up to a number. -/
namespace Go.Proofs.YtbnndbdnejfehaaGreatDoor
open Go.ChangeShapes Go.WideShapes Go.ChangeAt Go.RowKit

end Go.Proofs.YtbnndbdnejfehaaGreatDoor
/- Hard: the reference's entries up to a number. -/
namespace Go.Proofs.YtbnndbdnejfehaaGreatDoor
open Go.ChangeShapes Go.WideShapes Go.ChangeAt Go.RowKit

end Go.Proofs.YtbnndbdnejfehaaGreatDoor
/- Hard: what a record says to a core, the document's: letters H, X, and none. -/
namespace Go.Proofs.YtbnndbdnejfehaaGreatDoor
open Go.ChangeShapes Go.WideShapes Go.ChangeAt Go.RowKit

end Go.Proofs.YtbnndbdnejfehaaGreatDoor
/- Hard: what a record says to a core, the document's: letter S. -/
namespace Go.Proofs.YtbnndbdnejfehaaGreatDoor
open Go.ChangeShapes Go.WideShapes Go.ChangeAt Go.RowKit

end Go.Proofs.YtbnndbdnejfehaaGreatDoor
/- Hard: what a record says to a core, the document's: letter E. -/
namespace Go.Proofs.YtbnndbdnejfehaaGreatDoor
open Go.ChangeShapes Go.WideShapes Go.ChangeAt Go.RowKit

structure TuO (B R X : Nat) (y : CoX) (w : World) (v : Value) (L : List Ent) : Prop where
  own : w.ownsRow B 47 14 v L.length (entRow L)
  gt : ∀ b, v.ownBlock = some b → X < b
  gr : ∀ b, v.ownBlock = some b → R < b
  ap : (Value.slice y.p y.c.l.es.length y.k).ownBlock = none ∨ (Value.slice y.p y.c.l.es.length y.k).ownBlock ≠ v.ownBlock
theorem TuO.keep {B R X : Nat} {y : CoX} {w w' : World} {v : Value} {L : List Ent} (h : TuO B R X y w v L) (hb : Below w.heap.size w w') : TuO B R X y w' v L := ⟨own_keptC h.own hb, h.gt, h.gr, h.ap⟩
end Go.Proofs.YtbnndbdnejfehaaGreatDoor
/- Hard: what a record says to a core, the document's: letter E, with a joint. -/
namespace Go.Proofs.YtbnndbdnejfehaaGreatDoor
open Go.ChangeShapes Go.WideShapes Go.ChangeAt Go.RowKit

end Go.Proofs.YtbnndbdnejfehaaGreatDoor
/- Hard: what a record says to a core, the document's, whatever the letter; a new core. -/
namespace Go.Proofs.YtbnndbdnejfehaaGreatDoor
open Go.ChangeShapes Go.WideShapes Go.ChangeAt Go.RowKit

end Go.Proofs.YtbnndbdnejfehaaGreatDoor
/- Hard: a string's first byte; a row of strings; a row of cores apart. -/
namespace Go.Proofs.YtbnndbdnejfehaaGreatDoor
open Go.ChangeShapes Go.WideShapes Go.ChangeAt Go.RowKit

/-- A list of strings. -/
def SrAt (B : Nat) (w : World) (q : Option Addr) (L : List ByteArray) : Prop := ∀ k, (hk : k < L.length) → ∃ g o, q = some ⟨g, o, none⟩ ∧ g < B ∧ w.cell? ⟨g, o + k, none⟩ = some (.string L[k])
theorem SrAt.keep {B : Nat} {w w' : World} {q : Option Addr} {L : List ByteArray} (h : SrAt B w q L) (hb : Below B w w') : SrAt B w' q L := fun k hk => by
  obtain ⟨g, o, e, hg, hc⟩ := h k hk
  exact ⟨g, o, e, hg, (hb.cell (p := ⟨g, o + k, none⟩) hg).trans hc⟩
theorem CsAt.range {base : Nat} {w : World} {g cap : Nat} {l : List CoX} (h : CsAt base w (.slice (some ⟨g, 0, none⟩) l.length cap) l) {n : Nat} (hn : n < l.length) : w.rangeAt g (n * 45) l[n].v := range_of (n := 45) rfl (fun j hj => h.cell hn j hj)
end Go.Proofs.YtbnndbdnejfehaaGreatDoor
/- Hard: an array of ten numbers is equal to itself. -/
namespace Go.Proofs.YtbnndbdnejfehaaGreatDoor
open Go.ChangeShapes Go.WideShapes Go.ChangeAt Go.RowKit

set_option maxRecDepth 100000 in
theorem eq_ten (a b c d e f g h i j : Int) (w : World) : (Op.equalIn 10000 31 (.agg #[.int .i64 a, .int .i64 b, .int .i64 c, .int .i64 d, .int .i64 e, .int .i64 f, .int .i64 g, .int .i64 h, .int .i64 i, .int .i64 j]) (.agg #[.int .i64 a, .int .i64 b, .int .i64 c, .int .i64 d, .int .i64 e, .int .i64 f, .int .i64 g, .int .i64 h, .int .i64 i, .int .i64 j])).run Tryz.prog w = .ok true w := by
  have hi0 : (Tryz.prog.info? 3).isSome = true := by kernel_rfl
  obtain ⟨x, hx⟩ := Option.isSome_iff_exists.1 hi0
  rw [run_equalIn_array (P := Tryz.prog) w 9999 _ _ Tryz.underlying31 hx]
  have hc : Tryz.prog.cellsOf 3 = 1 := by kernel_rfl
  rw [hc, show List.range 10 = [0, 1, 2, 3, 4, 5, 6, 7, 8, 9] from rfl]
  simp only [Op.eqItems]
  go_simp
end Go.Proofs.YtbnndbdnejfehaaGreatDoor
/- Hard: two equal cores are the same (the reference's Same). -/
namespace Go.Proofs.YtbnndbdnejfehaaGreatDoor
open Go.ChangeShapes Go.WideShapes Go.ChangeAt Go.RowKit

set_option maxRecDepth 100000 in
set_option maxHeartbeats 16000000 in
theorem rsame13_any (c : Co) (p q : Option Addr) (k d : Nat) (w : World) (hl : c.l.es.length ≤ 1000000) (h1 : EnSl w (.slice p c.l.es.length k) c.l.es) (h2 : EnSl w (.slice q c.l.es.length d) c.l.es) :
    Calls Tryz.prog 14 #[.agg #[.int .i64 c.id, .int .i64 c.role, .int .i64 c.tm, .int .i64 c.vt, .int .i64 c.ld, .int .i64 c.wt, .int .i64 c.cm, .int .i64 c.sf, .int .i64 c.l.b, .int .i64 c.l.bt, .int .u16 c.l.j.ov, .int .u16 c.l.j.ox, .int .u16 c.l.j.ol, .int .i64 c.l.j.oe, .int .i64 c.l.j.ok, .int .u16 c.l.j.nv, .int .u16 c.l.j.nx, .int .u16 c.l.j.nl, .int .i64 c.l.j.ne, .int .i64 c.l.j.nk, .bool c.l.j.two, .slice p c.l.es.length k, .string c.sn, .int .u16 c.vs, .int .u16 c.hd, .int .i64 (c.nx 0), .int .i64 (c.nx 1), .int .i64 (c.nx 2), .int .i64 (c.nx 3), .int .i64 (c.nx 4), .int .i64 (c.nx 5), .int .i64 (c.nx 6), .int .i64 (c.nx 7), .int .i64 (c.nx 8), .int .i64 (c.nx 9), .int .i64 (c.mt 0), .int .i64 (c.mt 1), .int .i64 (c.mt 2), .int .i64 (c.mt 3), .int .i64 (c.mt 4), .int .i64 (c.mt 5), .int .i64 (c.mt 6), .int .i64 (c.mt 7), .int .i64 (c.mt 8), .int .i64 (c.mt 9)], .agg #[.int .i64 c.id, .int .i64 c.role, .int .i64 c.tm, .int .i64 c.vt, .int .i64 c.ld, .int .i64 c.wt, .int .i64 c.cm, .int .i64 c.sf, .int .i64 c.l.b, .int .i64 c.l.bt, .int .u16 c.l.j.ov, .int .u16 c.l.j.ox, .int .u16 c.l.j.ol, .int .i64 c.l.j.oe, .int .i64 c.l.j.ok, .int .u16 c.l.j.nv, .int .u16 c.l.j.nx, .int .u16 c.l.j.nl, .int .i64 c.l.j.ne, .int .i64 c.l.j.nk, .bool c.l.j.two, .slice q c.l.es.length d, .string c.sn, .int .u16 c.vs, .int .u16 c.hd, .int .i64 (c.nx 0), .int .i64 (c.nx 1), .int .i64 (c.nx 2), .int .i64 (c.nx 3), .int .i64 (c.nx 4), .int .i64 (c.nx 5), .int .i64 (c.nx 6), .int .i64 (c.nx 7), .int .i64 (c.nx 8), .int .i64 (c.nx 9), .int .i64 (c.mt 0), .int .i64 (c.mt 1), .int .i64 (c.mt 2), .int .i64 (c.mt 3), .int .i64 (c.mt 4), .int .i64 (c.mt 5), .int .i64 (c.mt 6), .int .i64 (c.mt 7), .int .i64 (c.mt 8), .int .i64 (c.mt 9)]] w fun r w' => r = .returned (.bool true) ∧ Below w.heap.size w w' := by
  obtain ⟨W0, hW0⟩ : ∃ z : World, w.alloc (.cells #[.int .i64 c.id, .int .i64 c.role, .int .i64 c.tm, .int .i64 c.vt, .int .i64 c.ld, .int .i64 c.wt, .int .i64 c.cm, .int .i64 c.sf, .int .i64 c.l.b, .int .i64 c.l.bt, .int .u16 c.l.j.ov, .int .u16 c.l.j.ox, .int .u16 c.l.j.ol, .int .i64 c.l.j.oe, .int .i64 c.l.j.ok, .int .u16 c.l.j.nv, .int .u16 c.l.j.nx, .int .u16 c.l.j.nl, .int .i64 c.l.j.ne, .int .i64 c.l.j.nk, .bool c.l.j.two, .slice p c.l.es.length k, .string c.sn, .int .u16 c.vs, .int .u16 c.hd, .int .i64 (c.nx 0), .int .i64 (c.nx 1), .int .i64 (c.nx 2), .int .i64 (c.nx 3), .int .i64 (c.nx 4), .int .i64 (c.nx 5), .int .i64 (c.nx 6), .int .i64 (c.nx 7), .int .i64 (c.nx 8), .int .i64 (c.nx 9), .int .i64 (c.mt 0), .int .i64 (c.mt 1), .int .i64 (c.mt 2), .int .i64 (c.mt 3), .int .i64 (c.mt 4), .int .i64 (c.mt 5), .int .i64 (c.mt 6), .int .i64 (c.mt 7), .int .i64 (c.mt 8), .int .i64 (c.mt 9)] 33) = z := ⟨_, rfl⟩
  obtain ⟨W, hW⟩ : ∃ z : World, W0.alloc (.cells #[.int .i64 c.id, .int .i64 c.role, .int .i64 c.tm, .int .i64 c.vt, .int .i64 c.ld, .int .i64 c.wt, .int .i64 c.cm, .int .i64 c.sf, .int .i64 c.l.b, .int .i64 c.l.bt, .int .u16 c.l.j.ov, .int .u16 c.l.j.ox, .int .u16 c.l.j.ol, .int .i64 c.l.j.oe, .int .i64 c.l.j.ok, .int .u16 c.l.j.nv, .int .u16 c.l.j.nx, .int .u16 c.l.j.nl, .int .i64 c.l.j.ne, .int .i64 c.l.j.nk, .bool c.l.j.two, .slice q c.l.es.length d, .string c.sn, .int .u16 c.vs, .int .u16 c.hd, .int .i64 (c.nx 0), .int .i64 (c.nx 1), .int .i64 (c.nx 2), .int .i64 (c.nx 3), .int .i64 (c.nx 4), .int .i64 (c.nx 5), .int .i64 (c.nx 6), .int .i64 (c.nx 7), .int .i64 (c.nx 8), .int .i64 (c.nx 9), .int .i64 (c.mt 0), .int .i64 (c.mt 1), .int .i64 (c.mt 2), .int .i64 (c.mt 3), .int .i64 (c.mt 4), .int .i64 (c.mt 5), .int .i64 (c.mt 6), .int .i64 (c.mt 7), .int .i64 (c.mt 8), .int .i64 (c.mt 9)] 33) = z := ⟨_, rfl⟩
  have hs0 : W0.heap.size = w.heap.size + 1 := by rw [← hW0]; simp
  have b0 : Below w.heap.size w W0 := by rw [← hW0]; exact (Below.refl _ _).alloc (Nat.le_refl _) _
  have b1 : Below W0.heap.size W0 W := by rw [← hW]; exact (Below.refl _ _).alloc (Nat.le_refl _) _
  have bW := b0.trans (b1.mono b0.size)
  have HS := Lib.hid (same_any c.l c.l p q k d W hl hl (h1.keep bW (Nat.le_refl _)) (h2.keep bW (Nat.le_refl _)))
  rw [decide_eq_true (rfl : c.l = c.l)] at HS
  have HB := Lib.hid bW
  clear hs0 b0 b1 bW h1 h2
  subst hW; subst hW0
  have E1 := fun w => eq_ten (c.nx 0) (c.nx 1) (c.nx 2) (c.nx 3) (c.nx 4) (c.nx 5) (c.nx 6) (c.nx 7) (c.nx 8) (c.nx 9) w
  have E2 := fun w => eq_ten (c.mt 0) (c.mt 1) (c.mt 2) (c.mt 3) (c.mt 4) (c.mt 5) (c.mt 6) (c.mt 7) (c.mt 8) (c.mt 9) w
  go_enter Tryz.func14, Tryz.ntmps14
  go_wp2_with fail
  refine HS.out.mono ?_; rintro r w' ⟨rfl, hb⟩
  have HB2 := Lib.hid (HB.out.trans (hb.mono HB.out.size))
  clear hb HS HB
  go_wp2_with fail
  go_ret
  exact ⟨rfl, HB2.out⟩
end Go.Proofs.YtbnndbdnejfehaaGreatDoor
