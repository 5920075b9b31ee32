import Derived.Test.YtbnndbdnejfehaaGreatDoorLogU
import Derived.Test.YtbnndbdnejfehaaGreatDoorHardH
import Derived.Test.YtbnndbdnejfehaaGreatDoorLogG
import Derived.Test.YtbnndbdnejfehaaGreatDoorPlainCompactW
import Derived.Test.YtbnndbdnejfehaaGreatDoorLogP
/- The reference of entries: Compact. -/
namespace Go.Proofs.YtbnndbdnejfehaaGreatDoor
open Go.ChangeShapes Go.WideShapes Go.ChangeAt Go.RowKit

structure OutAt (w : World) (O : Nat) (m : Lg) (q : Option Addr) (cc : Nat) (wr : World) : Prop where
  h : wr.heap[O]? = some (.cells #[.int .i64 m.b, .int .i64 m.bt, .int .u16 m.j.ov, .int .u16 m.j.ox, .int .u16 m.j.ol, .int .i64 m.j.oe, .int .i64 m.j.ok, .int .u16 m.j.nv, .int .u16 m.j.nx, .int .u16 m.j.nl, .int .i64 m.j.ne, .int .i64 m.j.nk, .bool m.j.two, .slice q m.es.length cc] 30 (0, 0))
  o : wr.ownsRow (O + 1) 47 14 (.slice q m.es.length cc) m.es.length (entRow m.es)
  b : Below O w wr
theorem OutAt.keep {w wr w' : World} {O : Nat} {m : Lg} {q : Option Addr} {cc : Nat} (h : OutAt w O m q cc wr) (hb : Below wr.heap.size wr w') : OutAt w O m q cc w' :=
  ⟨below_block hb (block_lt h.h) h.h, own_belowL h.o hb (Nat.le_refl _), h.b.trans (hb.mono (Nat.le_of_lt (block_lt h.h)))⟩
theorem OutAt.conf {w wr : World} {O : Nat} {m : Lg} {q : Option Addr} {cc : Nat} (h : OutAt w O m q cc wr) (j : Jn) :
    OutAt w O ⟨m.b, m.bt, j, m.es⟩ q cc (((((((((((wr.setCell ⟨O, 2, none⟩ (.int .u16 j.ov)).setCell ⟨O, 3, none⟩ (.int .u16 j.ox)).setCell ⟨O, 4, none⟩ (.int .u16 j.ol)).setCell ⟨O, 5, none⟩ (.int .i64 j.oe)).setCell ⟨O, 6, none⟩ (.int .i64 j.ok)).setCell ⟨O, 7, none⟩ (.int .u16 j.nv)).setCell ⟨O, 8, none⟩ (.int .u16 j.nx)).setCell ⟨O, 9, none⟩ (.int .u16 j.nl)).setCell ⟨O, 10, none⟩ (.int .i64 j.ne)).setCell ⟨O, 11, none⟩ (.int .i64 j.nk)).setCell ⟨O, 12, none⟩ (.bool j.two)) := by
  have k0 : KpG wr wr O _ _ := ⟨h.h, grown_reflL wr _⟩
  have k := (((((((((((k0.step 2 (.int .u16 j.ov)).step 3 (.int .u16 j.ox)).step 4 (.int .u16 j.ol)).step 5 (.int .i64 j.oe)).step 6 (.int .i64 j.ok)).step 7 (.int .u16 j.nv)).step 8 (.int .u16 j.nx)).step 9 (.int .u16 j.nl)).step 10 (.int .i64 j.ne)).step 11 (.int .i64 j.nk)).step 12 (.bool j.two))
  have hk := k.blk
  simp only [zD, zE, zF] at hk
  exact ⟨hk, own_farL h.o k.gr (Nat.lt_succ_self _), below_grown h.b k.gr (Nat.le_of_lt (block_lt h.h)) (Nat.le_refl _)⟩
theorem OutAt.push {w wr : World} {O : Nat} {m m' : Lg} {q q2 : Option Addr} {cc c2 : Nat} (h : wr.heap[O]? = some (.cells #[.int .i64 m.b, .int .i64 m.bt, .int .u16 m.j.ov, .int .u16 m.j.ox, .int .u16 m.j.ol, .int .i64 m.j.oe, .int .i64 m.j.ok, .int .u16 m.j.nv, .int .u16 m.j.nx, .int .u16 m.j.nl, .int .i64 m.j.ne, .int .i64 m.j.nk, .bool m.j.two, .slice q m.es.length cc] 30 (0, 0))) (hb : Below O w wr) (hm : m'.b = m.b ∧ m'.bt = m.bt ∧ m'.j = m.j) (ho : wr.ownsRow (O + 1) 47 14 (.slice q2 m'.es.length c2) m'.es.length (entRow m'.es)) :
    OutAt w O m' q2 c2 (wr.setCell ⟨O, 13, none⟩ (.slice q2 m'.es.length c2)) := by
  have k0 : KpG wr wr O _ _ := ⟨h, grown_reflL wr _⟩
  have k := k0.step 13 (.slice q2 m'.es.length c2)
  have hk := k.blk
  simp only [zD, zE, zF] at hk
  obtain ⟨h1, h2, h3⟩ := hm
  refine ⟨by rw [h1, h2, h3]; exact hk, own_farL ho k.gr (Nat.lt_succ_self _), below_grown hb k.gr (Nat.le_of_lt (block_lt h)) (Nat.le_refl _)⟩
end Go.Proofs.YtbnndbdnejfehaaGreatDoor
/- The reference of entries: Compact. -/
namespace Go.Proofs.YtbnndbdnejfehaaGreatDoor
open Go.ChangeShapes Go.WideShapes Go.ChangeAt Go.RowKit

theorem OutAt.two {w wr : World} {O : Nat} {m : Lg} {q : Option Addr} {cc : Nat} (h : OutAt w O m q cc wr) (b bt : Int) :
    OutAt w O ⟨b, bt, m.j, m.es⟩ q cc ((wr.setCell ⟨O, 0, none⟩ (.int .i64 b)).setCell ⟨O, 1, none⟩ (.int .i64 bt)) := by
  have k0 : KpG wr wr O _ _ := ⟨h.h, grown_reflL wr _⟩
  have k := ((k0.step 0 (.int .i64 b)).step 1 (.int .i64 bt))
  have hk := k.blk
  simp only [zD, zE, zF] at hk
  exact ⟨hk, own_farL h.o k.gr (Nat.lt_succ_self _), below_grown h.b k.gr (Nat.le_of_lt (block_lt h.h)) (Nat.le_refl _)⟩
end Go.Proofs.YtbnndbdnejfehaaGreatDoor
