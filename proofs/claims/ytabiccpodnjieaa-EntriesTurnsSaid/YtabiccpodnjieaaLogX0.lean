/- A log that lies in a block of memory, with its entries; and how it stays. -/
import Derived.Test.YtabiccpodnjieaaLogN0
import Derived.Test.YtabiccpodnjieaaLogK
namespace Go.Proofs.Ytabiccpodnjieaa
open Go.ChangeShapes Go.WideShapes Go.ChangeAt Go.RowKit

/-- A log, stored in a block: the block's cells, and the entries that it points at. -/
structure Lies (W : World) (A : Nat) (l : Lg) (p : Option Addr) (c : Nat) : Prop where
  h : W.heap[A]? = some (.cells #[.int .i64 l.b, .int .i64 l.bt, .int .u16 l.j.ov, .int .u16 l.j.ox, .int .u16 l.j.ol, .int .i64 l.j.oe, .int .i64 l.j.ok, .int .u16 l.j.nv, .int .u16 l.j.nx, .int .u16 l.j.nl, .int .i64 l.j.ne, .int .i64 l.j.nk, .bool l.j.two, .slice p l.es.length c] 32 (0, 0))
  e : EnSl W (.slice p l.es.length c) l.es
theorem Lies.keep {W W' : World} {A : Nat} {l : Lg} {p : Option Addr} {c : Nat} (h : Lies W A l p c) (hb : Below W.heap.size W W') : Lies W' A l p c := ⟨below_block hb (block_lt h.h) h.h, h.e.keep hb (Nat.le_refl _)⟩
theorem Lies.new {w W : World} {l : Lg} {p : Option Addr} {c : Nat} (he : EnSl w (.slice p l.es.length c) l.es) (hW : w.alloc (.cells #[.int .i64 l.b, .int .i64 l.bt, .int .u16 l.j.ov, .int .u16 l.j.ox, .int .u16 l.j.ol, .int .i64 l.j.oe, .int .i64 l.j.ok, .int .u16 l.j.nv, .int .u16 l.j.nx, .int .u16 l.j.nl, .int .i64 l.j.ne, .int .i64 l.j.nk, .bool l.j.two, .slice p l.es.length c] 32) = W) : Lies W w.heap.size l p c := by
  subst hW; exact ⟨heap_last _ _, he.keep ((Below.refl _ _).alloc (Nat.le_refl _) _) (Nat.le_refl _)⟩
theorem Lies.at {W W' : World} {A : Nat} {l : Lg} {p : Option Addr} {c : Nat} (h : Lies W A l p c) (hb : Below W.heap.size W W') : ∀ j, W'.cell? ⟨A, j, none⟩ = #[.int .i64 l.b, .int .i64 l.bt, .int .u16 l.j.ov, .int .u16 l.j.ox, .int .u16 l.j.ol, .int .i64 l.j.oe, .int .i64 l.j.ok, .int .u16 l.j.nv, .int .u16 l.j.nx, .int .u16 l.j.nl, .int .i64 l.j.ne, .int .i64 l.j.nk, .bool l.j.two, .slice p l.es.length c][j]? := block_cells (h.keep hb).h
theorem Lies.cell {W : World} {A : Nat} {l : Lg} {p : Option Addr} {c : Nat} (h : Lies W A l p c) : ∀ j, W.cell? ⟨A, j, none⟩ = #[.int .i64 l.b, .int .i64 l.bt, .int .u16 l.j.ov, .int .u16 l.j.ox, .int .u16 l.j.ol, .int .i64 l.j.oe, .int .i64 l.j.ok, .int .u16 l.j.nv, .int .u16 l.j.nx, .int .u16 l.j.nl, .int .i64 l.j.ne, .int .i64 l.j.nk, .bool l.j.two, .slice p l.es.length c][j]? := block_cells h.h
theorem below_new (w : World) (o : Obj) {W : World} (hW : w.alloc o = W) : Below w.heap.size w W := by subst hW; exact (Below.refl _ _).alloc (Nat.le_refl _) _
theorem made_len (ss : List Int) (b bt : Int) : (madeL ss b bt).es.length = ss.length := by show (madeE ss _).length = _; rw [madeE_len]
theorem slice_len (l : Lg) (fr most : Int) {n : Nat} (h : most ≤ n) : (sliceL l fr most).length ≤ n := by
  unfold sliceL; rw [List.length_take]; omega
theorem made_fitX (ss : List Int) {b bt : Int} (h : ss.length ≤ 1000) (h0 : 0 ≤ b) (h1 : b ≤ 4398046511104) : LgFit (madeL ss b bt) := ⟨h0, h1, by rw [made_len]; omega⟩
theorem wf_i64 {n : Int} (h : (Lit.int .i64 n).wf = true) : -9223372036854775808 ≤ n ∧ n ≤ 9223372036854775807 := by
  have h1 : IntKind.i64.min = -9223372036854775808 := rfl
  have h2 : IntKind.i64.max = 9223372036854775807 := rfl
  simp only [Lit.wf, Bool.and_eq_true, decide_eq_true_eq] at h; omega
end Go.Proofs.Ytabiccpodnjieaa
