/- The boxes of a call: a log, and what is returned. -/
import Derived.Test.YtabiccpodnjieaaLogX0
namespace Go.Proofs.Ytabiccpodnjieaa
open Go.ChangeShapes Go.WideShapes Go.ChangeAt Go.RowKit

/-- The boxes of a call: a log, and what it returns; the memory below them stays. -/
structure BoxW (w : World) (A R N : Nat) (l : Lg) (p : Option Addr) (c : Nat) (wr : World) : Prop where
  a : wr.heap[A]? = some (.cells #[.int .i64 l.b, .int .i64 l.bt, .int .u16 l.j.ov, .int .u16 l.j.ox, .int .u16 l.j.ol, .int .i64 l.j.oe, .int .i64 l.j.ok, .int .u16 l.j.nv, .int .u16 l.j.nx, .int .u16 l.j.nl, .int .i64 l.j.ne, .int .i64 l.j.nk, .bool l.j.two, .slice p l.es.length c] 32 (0, 0))
  z : wr.heap[R]? = some (.cells #[.int .i64 0, .int .i64 0, .int .u16 0, .int .u16 0, .int .u16 0, .int .i64 0, .int .i64 0, .int .u16 0, .int .u16 0, .int .u16 0, .int .i64 0, .int .i64 0, .bool false, .slice none 0 0] 32 (0, 0))
  b : Below A w wr
  s : N ≤ wr.heap.size
  an : A < N
  rn : R < N
theorem BoxW.keep {w wr w' : World} {A R N : Nat} {l : Lg} {p : Option Addr} {c : Nat} (h : BoxW w A R N l p c wr) (hb : Below wr.heap.size wr w') : BoxW w A R N l p c w' :=
  ⟨below_block hb (block_lt h.a) h.a, below_block hb (block_lt h.z) h.z, h.b.trans (hb.mono (by have := h.s; have := h.an; omega)), Nat.le_trans h.s hb.size, h.an, h.rn⟩
theorem BoxW.alloc {w wr : World} {A R N : Nat} {l : Lg} {p : Option Addr} {c : Nat} (h : BoxW w A R N l p c wr) (o : Obj) : BoxW w A R N l p c (wr.alloc o) := h.keep (below_new _ _ rfl)
theorem BoxW.grown {w wr w' : World} {A R N : Nat} {l : Lg} {p : Option Addr} {c : Nat} {row : Option Nat} (h : BoxW w A R N l p c wr) (hg : wr.grownBy w' row) (hr : ∀ k, row = some k → N ≤ k) : BoxW w A R N l p c w' :=
  ⟨(hg.block A (block_lt h.a) (fun e => by have := hr A e.symm; have := h.an; omega)).trans h.a, (hg.block R (block_lt h.z) (fun e => by have := hr R e.symm; have := h.rn; omega)).trans h.z, h.b.grown hg (by have := h.s; have := h.an; omega) (fun k hk => by have := hr k hk; have := h.an; omega), Nat.le_trans h.s hg.size, h.an, h.rn⟩
/-- A row that was appended to goes into the box's last field, and the box into the result. -/
theorem BoxW.out {w wr : World} {A R N : Nat} {l m : Lg} {p q : Option Addr} {c cc : Nat} (h : BoxW w A R N l p c wr) (hAR : A < R) (hm : m.b = l.b ∧ m.bt = l.bt ∧ m.j = l.j) (ho : wr.ownsRow N 47 14 (.slice q m.es.length cc) m.es.length (entRow m.es)) :
    BoxW w A R N m q cc (wr.setCell ⟨A, 13, none⟩ (.slice q m.es.length cc)) ∧ (wr.setCell ⟨A, 13, none⟩ (.slice q m.es.length cc)).ownsRow N 47 14 (.slice q m.es.length cc) m.es.length (entRow m.es) := by
  obtain ⟨h1, h2, h3⟩ := hm
  have hk := cells_setL h.a 13 (.slice q m.es.length cc)
  simp only [List.setIfInBounds_toArray, List.set_cons_zero, List.set_cons_succ] at hk
  have hg := grown_setL (grown_reflL wr (some A)) 13 (.slice q m.es.length cc)
  refine ⟨⟨by rw [h1, h2, h3]; exact hk, (hg.block R (block_lt h.z) (by simp; omega)).trans h.z, h.b.setCell (p := ⟨A, 13, none⟩) (Nat.le_refl _) _, Nat.le_trans h.s hg.size, h.an, h.rn⟩, own_farL ho hg h.an⟩
theorem BoxW.fin {w wr : World} {A R N : Nat} {m : Lg} {q : Option Addr} {cc : Nat} (h : BoxW w A R N m q cc wr) (hAR : A ≤ R) (ho : wr.ownsRow N 47 14 (.slice q m.es.length cc) m.es.length (entRow m.es)) :
    (∀ j, (put14 wr R (.int .i64 m.b) (.int .i64 m.bt) (.int .u16 m.j.ov) (.int .u16 m.j.ox) (.int .u16 m.j.ol) (.int .i64 m.j.oe) (.int .i64 m.j.ok) (.int .u16 m.j.nv) (.int .u16 m.j.nx) (.int .u16 m.j.nl) (.int .i64 m.j.ne) (.int .i64 m.j.nk) (.bool m.j.two) (.slice q m.es.length cc)).cell? ⟨R, j, none⟩ = #[.int .i64 m.b, .int .i64 m.bt, .int .u16 m.j.ov, .int .u16 m.j.ox, .int .u16 m.j.ol, .int .i64 m.j.oe, .int .i64 m.j.ok, .int .u16 m.j.nv, .int .u16 m.j.nx, .int .u16 m.j.nl, .int .i64 m.j.ne, .int .i64 m.j.nk, .bool m.j.two, .slice q m.es.length cc][j]?) ∧ (put14 wr R (.int .i64 m.b) (.int .i64 m.bt) (.int .u16 m.j.ov) (.int .u16 m.j.ox) (.int .u16 m.j.ol) (.int .i64 m.j.oe) (.int .i64 m.j.ok) (.int .u16 m.j.nv) (.int .u16 m.j.nx) (.int .u16 m.j.nl) (.int .i64 m.j.ne) (.int .i64 m.j.nk) (.bool m.j.two) (.slice q m.es.length cc)).ownsRow N 47 14 (.slice q m.es.length cc) m.es.length (entRow m.es) ∧ Below A w (put14 wr R (.int .i64 m.b) (.int .i64 m.bt) (.int .u16 m.j.ov) (.int .u16 m.j.ox) (.int .u16 m.j.ol) (.int .i64 m.j.oe) (.int .i64 m.j.ok) (.int .u16 m.j.nv) (.int .u16 m.j.nx) (.int .u16 m.j.nl) (.int .i64 m.j.ne) (.int .i64 m.j.nk) (.bool m.j.two) (.slice q m.es.length cc)) := by
  have F := put14_ok h.z h.b hAR (.int .i64 m.b) (.int .i64 m.bt) (.int .u16 m.j.ov) (.int .u16 m.j.ox) (.int .u16 m.j.ol) (.int .i64 m.j.oe) (.int .i64 m.j.ok) (.int .u16 m.j.nv) (.int .u16 m.j.nx) (.int .u16 m.j.nl) (.int .i64 m.j.ne) (.int .i64 m.j.nk) (.bool m.j.two) (.slice q m.es.length cc)
  exact ⟨block_cells F.1, own_farL ho (put14_grown wr R (.int .i64 m.b) (.int .i64 m.bt) (.int .u16 m.j.ov) (.int .u16 m.j.ox) (.int .u16 m.j.ol) (.int .i64 m.j.oe) (.int .i64 m.j.ok) (.int .u16 m.j.nv) (.int .u16 m.j.nx) (.int .u16 m.j.nl) (.int .i64 m.j.ne) (.int .i64 m.j.nk) (.bool m.j.two) (.slice q m.es.length cc)) h.rn, F.2⟩
end Go.Proofs.Ytabiccpodnjieaa
