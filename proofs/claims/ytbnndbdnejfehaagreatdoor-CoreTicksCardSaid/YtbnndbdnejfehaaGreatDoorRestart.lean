/- Core: a core restarts (package core's, the reference's). -/
import Derived.Test.YtbnndbdnejfehaaGreatDoorActS
namespace Go.Proofs.YtbnndbdnejfehaaGreatDoor
open Go.ChangeShapes Go.WideShapes Go.ChangeAt Go.RowKit

/-- A core in rows of the call's own. -/
def CoRet (w : World) (c : Co) (e : Ending) (w' : World) : Prop :=
  ∃ q d, e = .returned (.agg (coL c q d).toArray) ∧ CoOwn w.heap.size w' ⟨c, q, d⟩ ∧ Below w.heap.size w w'
theorem co_row {X : Nat} {c : Co} {p : Option Addr} {k : Nat} {w : World} (h : RAll X #[.int .i64 c.id, .int .i64 c.role, .int .i64 c.tm, .int .i64 c.vt, .int .i64 c.ld, .int .i64 c.wt, .int .i64 c.cm, .int .i64 c.sf, .int .i64 c.l.b, .int .i64 c.l.bt, .int .u16 c.l.j.ov, .int .u16 c.l.j.ox, .int .u16 c.l.j.ol, .int .i64 c.l.j.oe, .int .i64 c.l.j.ok, .int .u16 c.l.j.nv, .int .u16 c.l.j.nx, .int .u16 c.l.j.nl, .int .i64 c.l.j.ne, .int .i64 c.l.j.nk, .bool c.l.j.two, .slice p c.l.es.length k, .string c.sn, .int .u16 c.vs, .int .u16 c.hd, .int .i64 (c.nx 0), .int .i64 (c.nx 1), .int .i64 (c.nx 2), .int .i64 (c.nx 3), .int .i64 (c.nx 4), .int .i64 (c.nx 5), .int .i64 (c.nx 6), .int .i64 (c.nx 7), .int .i64 (c.nx 8), .int .i64 (c.nx 9), .int .i64 (c.mt 0), .int .i64 (c.mt 1), .int .i64 (c.mt 2), .int .i64 (c.mt 3), .int .i64 (c.mt 4), .int .i64 (c.mt 5), .int .i64 (c.mt 6), .int .i64 (c.mt 7), .int .i64 (c.mt 8), .int .i64 (c.mt 9)] w) : w.rangeAt X 0 (coL c p k) :=
  range_of (n := 45) rfl (fun j _ => by rw [Nat.zero_add, h.r j, List.getElem?_toArray]; rfl)
theorem co_log {X : Nat} {c : Co} {p : Option Addr} {k : Nat} {w : World} (h : RAll X #[.int .i64 c.id, .int .i64 c.role, .int .i64 c.tm, .int .i64 c.vt, .int .i64 c.ld, .int .i64 c.wt, .int .i64 c.cm, .int .i64 c.sf, .int .i64 c.l.b, .int .i64 c.l.bt, .int .u16 c.l.j.ov, .int .u16 c.l.j.ox, .int .u16 c.l.j.ol, .int .i64 c.l.j.oe, .int .i64 c.l.j.ok, .int .u16 c.l.j.nv, .int .u16 c.l.j.nx, .int .u16 c.l.j.nl, .int .i64 c.l.j.ne, .int .i64 c.l.j.nk, .bool c.l.j.two, .slice p c.l.es.length k, .string c.sn, .int .u16 c.vs, .int .u16 c.hd, .int .i64 (c.nx 0), .int .i64 (c.nx 1), .int .i64 (c.nx 2), .int .i64 (c.nx 3), .int .i64 (c.nx 4), .int .i64 (c.nx 5), .int .i64 (c.nx 6), .int .i64 (c.nx 7), .int .i64 (c.nx 8), .int .i64 (c.nx 9), .int .i64 (c.mt 0), .int .i64 (c.mt 1), .int .i64 (c.mt 2), .int .i64 (c.mt 3), .int .i64 (c.mt 4), .int .i64 (c.mt 5), .int .i64 (c.mt 6), .int .i64 (c.mt 7), .int .i64 (c.mt 8), .int .i64 (c.mt 9)] w) : w.rangeAt X 8 [.int .i64 c.l.b, .int .i64 c.l.bt, .int .u16 c.l.j.ov, .int .u16 c.l.j.ox, .int .u16 c.l.j.ol, .int .i64 c.l.j.oe, .int .i64 c.l.j.ok, .int .u16 c.l.j.nv, .int .u16 c.l.j.nx, .int .u16 c.l.j.nl, .int .i64 c.l.j.ne, .int .i64 c.l.j.nk, .bool c.l.j.two, .slice p c.l.es.length k] :=
  range_of (n := 14) rfl (fun j hj => by
    rw [h.r (8 + j)]
    rcases (show j = 0 ∨ j = 1 ∨ j = 2 ∨ j = 3 ∨ j = 4 ∨ j = 5 ∨ j = 6 ∨ j = 7 ∨ j = 8 ∨ j = 9 ∨ j = 10 ∨ j = 11 ∨ j = 12 ∨ j = 13 by omega) with rfl | rfl | rfl | rfl | rfl | rfl | rfl | rfl | rfl | rfl | rfl | rfl | rfl | rfl <;> rfl)
theorem act_log {X : Nat} {c : Co} {p : Option Addr} {k : Nat} {u : Value} {t : TypeId} {w : World} (h : w.heap[X]? = some (.cells #[.int .i64 c.id, .int .i64 c.role, .int .i64 c.tm, .int .i64 c.vt, .int .i64 c.ld, .int .i64 c.wt, .int .i64 c.cm, .int .i64 c.sf, .int .i64 c.l.b, .int .i64 c.l.bt, .int .u16 c.l.j.ov, .int .u16 c.l.j.ox, .int .u16 c.l.j.ol, .int .i64 c.l.j.oe, .int .i64 c.l.j.ok, .int .u16 c.l.j.nv, .int .u16 c.l.j.nx, .int .u16 c.l.j.nl, .int .i64 c.l.j.ne, .int .i64 c.l.j.nk, .bool c.l.j.two, .slice p c.l.es.length k, .string c.sn, .int .u16 c.vs, .int .u16 c.hd, .int .i64 (c.nx 0), .int .i64 (c.nx 1), .int .i64 (c.nx 2), .int .i64 (c.nx 3), .int .i64 (c.nx 4), .int .i64 (c.nx 5), .int .i64 (c.nx 6), .int .i64 (c.nx 7), .int .i64 (c.nx 8), .int .i64 (c.nx 9), .int .i64 (c.mt 0), .int .i64 (c.mt 1), .int .i64 (c.mt 2), .int .i64 (c.mt 3), .int .i64 (c.mt 4), .int .i64 (c.mt 5), .int .i64 (c.mt 6), .int .i64 (c.mt 7), .int .i64 (c.mt 8), .int .i64 (c.mt 9), u] t (0, 0))) : w.rangeAt X 8 [.int .i64 c.l.b, .int .i64 c.l.bt, .int .u16 c.l.j.ov, .int .u16 c.l.j.ox, .int .u16 c.l.j.ol, .int .i64 c.l.j.oe, .int .i64 c.l.j.ok, .int .u16 c.l.j.nv, .int .u16 c.l.j.nx, .int .u16 c.l.j.nl, .int .i64 c.l.j.ne, .int .i64 c.l.j.nk, .bool c.l.j.two, .slice p c.l.es.length k] :=
  range_of (n := 14) rfl (fun j hj => by
    rw [block_cells h (8 + j)]
    rcases (show j = 0 ∨ j = 1 ∨ j = 2 ∨ j = 3 ∨ j = 4 ∨ j = 5 ∨ j = 6 ∨ j = 7 ∨ j = 8 ∨ j = 9 ∨ j = 10 ∨ j = 11 ∨ j = 12 ∨ j = 13 by omega) with rfl | rfl | rfl | rfl | rfl | rfl | rfl | rfl | rfl | rfl | rfl | rfl | rfl | rfl <;> rfl)
set_option maxRecDepth 100000 in
set_option maxHeartbeats 16000000 in
theorem restart_any (c : Co) (p : Option Addr) (k : Nat) (w : World) (hF : LgFit c.l) (hE : EnSl w (.slice p c.l.es.length k) c.l.es) :
    Calls Tryz.prog 21 #[.agg #[.int .i64 c.id, .int .i64 c.role, .int .i64 c.tm, .int .i64 c.vt, .int .i64 c.ld, .int .i64 c.wt, .int .i64 c.cm, .int .i64 c.sf, .int .i64 c.l.b, .int .i64 c.l.bt, .int .u16 c.l.j.ov, .int .u16 c.l.j.ox, .int .u16 c.l.j.ol, .int .i64 c.l.j.oe, .int .i64 c.l.j.ok, .int .u16 c.l.j.nv, .int .u16 c.l.j.nx, .int .u16 c.l.j.nl, .int .i64 c.l.j.ne, .int .i64 c.l.j.nk, .bool c.l.j.two, .slice p c.l.es.length k, .string c.sn, .int .u16 c.vs, .int .u16 c.hd, .int .i64 (c.nx 0), .int .i64 (c.nx 1), .int .i64 (c.nx 2), .int .i64 (c.nx 3), .int .i64 (c.nx 4), .int .i64 (c.nx 5), .int .i64 (c.nx 6), .int .i64 (c.nx 7), .int .i64 (c.nx 8), .int .i64 (c.nx 9), .int .i64 (c.mt 0), .int .i64 (c.mt 1), .int .i64 (c.mt 2), .int .i64 (c.mt 3), .int .i64 (c.mt 4), .int .i64 (c.mt 5), .int .i64 (c.mt 6), .int .i64 (c.mt 7), .int .i64 (c.mt 8), .int .i64 (c.mt 9)]] w (CoRet w (restartC c)) := by
  obtain ⟨W0, hW0⟩ : ∃ z : World, w.alloc (.cells #[.int .i64 c.id, .int .i64 c.role, .int .i64 c.tm, .int .i64 c.vt, .int .i64 c.ld, .int .i64 c.wt, .int .i64 c.cm, .int .i64 c.sf, .int .i64 c.l.b, .int .i64 c.l.bt, .int .u16 c.l.j.ov, .int .u16 c.l.j.ox, .int .u16 c.l.j.ol, .int .i64 c.l.j.oe, .int .i64 c.l.j.ok, .int .u16 c.l.j.nv, .int .u16 c.l.j.nx, .int .u16 c.l.j.nl, .int .i64 c.l.j.ne, .int .i64 c.l.j.nk, .bool c.l.j.two, .slice p c.l.es.length k, .string c.sn, .int .u16 c.vs, .int .u16 c.hd, .int .i64 (c.nx 0), .int .i64 (c.nx 1), .int .i64 (c.nx 2), .int .i64 (c.nx 3), .int .i64 (c.nx 4), .int .i64 (c.nx 5), .int .i64 (c.nx 6), .int .i64 (c.nx 7), .int .i64 (c.nx 8), .int .i64 (c.nx 9), .int .i64 (c.mt 0), .int .i64 (c.mt 1), .int .i64 (c.mt 2), .int .i64 (c.mt 3), .int .i64 (c.mt 4), .int .i64 (c.mt 5), .int .i64 (c.mt 6), .int .i64 (c.mt 7), .int .i64 (c.mt 8), .int .i64 (c.mt 9)] 33) = z := ⟨_, rfl⟩
  obtain ⟨W, hW⟩ : ∃ z : World, W0.alloc (.cells #[.int .i64 0, .int .i64 0, .int .i64 0, .int .i64 0, .int .i64 0, .int .i64 0, .int .i64 0, .int .i64 0, .int .i64 0, .int .i64 0, .int .u16 0, .int .u16 0, .int .u16 0, .int .i64 0, .int .i64 0, .int .u16 0, .int .u16 0, .int .u16 0, .int .i64 0, .int .i64 0, .bool false, .slice none 0 0, .string ⟨#[]⟩, .int .u16 0, .int .u16 0, .int .i64 0, .int .i64 0, .int .i64 0, .int .i64 0, .int .i64 0, .int .i64 0, .int .i64 0, .int .i64 0, .int .i64 0, .int .i64 0, .int .i64 0, .int .i64 0, .int .i64 0, .int .i64 0, .int .i64 0, .int .i64 0, .int .i64 0, .int .i64 0, .int .i64 0, .int .i64 0] 33) = z := ⟨_, rfl⟩
  have hs0 : W0.heap.size = w.heap.size + 1 := by rw [← hW0]; simp
  have b0 : Below w.heap.size w W0 := by rw [← hW0]; exact (Below.refl _ _).alloc (Nat.le_refl _) _
  have b1 : Below W0.heap.size W0 W := by rw [← hW]; exact (Below.refl _ _).alloc (Nat.le_refl _) _
  have bW := b0.trans (b1.mono b0.size)
  have hX : W.heap[w.heap.size]? = some (.cells #[.int .i64 c.id, .int .i64 c.role, .int .i64 c.tm, .int .i64 c.vt, .int .i64 c.ld, .int .i64 c.wt, .int .i64 c.cm, .int .i64 c.sf, .int .i64 c.l.b, .int .i64 c.l.bt, .int .u16 c.l.j.ov, .int .u16 c.l.j.ox, .int .u16 c.l.j.ol, .int .i64 c.l.j.oe, .int .i64 c.l.j.ok, .int .u16 c.l.j.nv, .int .u16 c.l.j.nx, .int .u16 c.l.j.nl, .int .i64 c.l.j.ne, .int .i64 c.l.j.nk, .bool c.l.j.two, .slice p c.l.es.length k, .string c.sn, .int .u16 c.vs, .int .u16 c.hd, .int .i64 (c.nx 0), .int .i64 (c.nx 1), .int .i64 (c.nx 2), .int .i64 (c.nx 3), .int .i64 (c.nx 4), .int .i64 (c.nx 5), .int .i64 (c.nx 6), .int .i64 (c.nx 7), .int .i64 (c.nx 8), .int .i64 (c.nx 9), .int .i64 (c.mt 0), .int .i64 (c.mt 1), .int .i64 (c.mt 2), .int .i64 (c.mt 3), .int .i64 (c.mt 4), .int .i64 (c.mt 5), .int .i64 (c.mt 6), .int .i64 (c.mt 7), .int .i64 (c.mt 8), .int .i64 (c.mt 9)] 33 (0, 0)) := below_block b1 (by omega) (by rw [← hW0]; exact heap_last w _)
  have hZ : W.heap[w.heap.size + 1]? = some (.cells (coL co0 none 0).toArray 33 (0, 0)) := by rw [← hW, ← hs0]; exact heap_last W0 _
  obtain ⟨X, eX⟩ : ∃ z, w.heap.size = z := ⟨_, rfl⟩
  obtain ⟨Z, eZ⟩ : ∃ z, X + 1 = z := ⟨_, rfl⟩
  rw [eX] at hX hZ
  rw [eZ] at hZ
  have hWs : W.heap.size = Z + 1 := by rw [← hW]; simp only [World.size_alloc]; omega
  have HWG := Lib.hid (show (w.alloc (.cells #[.int .i64 c.id, .int .i64 c.role, .int .i64 c.tm, .int .i64 c.vt, .int .i64 c.ld, .int .i64 c.wt, .int .i64 c.cm, .int .i64 c.sf, .int .i64 c.l.b, .int .i64 c.l.bt, .int .u16 c.l.j.ov, .int .u16 c.l.j.ox, .int .u16 c.l.j.ol, .int .i64 c.l.j.oe, .int .i64 c.l.j.ok, .int .u16 c.l.j.nv, .int .u16 c.l.j.nx, .int .u16 c.l.j.nl, .int .i64 c.l.j.ne, .int .i64 c.l.j.nk, .bool c.l.j.two, .slice p c.l.es.length k, .string c.sn, .int .u16 c.vs, .int .u16 c.hd, .int .i64 (c.nx 0), .int .i64 (c.nx 1), .int .i64 (c.nx 2), .int .i64 (c.nx 3), .int .i64 (c.nx 4), .int .i64 (c.nx 5), .int .i64 (c.nx 6), .int .i64 (c.nx 7), .int .i64 (c.nx 8), .int .i64 (c.nx 9), .int .i64 (c.mt 0), .int .i64 (c.mt 1), .int .i64 (c.mt 2), .int .i64 (c.mt 3), .int .i64 (c.mt 4), .int .i64 (c.mt 5), .int .i64 (c.mt 6), .int .i64 (c.mt 7), .int .i64 (c.mt 8), .int .i64 (c.mt 9)] 33)).alloc (.cells #[.int .i64 0, .int .i64 0, .int .i64 0, .int .i64 0, .int .i64 0, .int .i64 0, .int .i64 0, .int .i64 0, .int .i64 0, .int .i64 0, .int .u16 0, .int .u16 0, .int .u16 0, .int .i64 0, .int .i64 0, .int .u16 0, .int .u16 0, .int .u16 0, .int .i64 0, .int .i64 0, .bool false, .slice none 0 0, .string ⟨#[]⟩, .int .u16 0, .int .u16 0, .int .i64 0, .int .i64 0, .int .i64 0, .int .i64 0, .int .i64 0, .int .i64 0, .int .i64 0, .int .i64 0, .int .i64 0, .int .i64 0, .int .i64 0, .int .i64 0, .int .i64 0, .int .i64 0, .int .i64 0, .int .i64 0, .int .i64 0, .int .i64 0, .int .i64 0, .int .i64 0] 33) = W by rw [hW0]; exact hW)
  have HX := Lib.hid hX; have HZ := Lib.hid hZ; have HBW := Lib.hid bW; have HEX := Lib.hid eX; have HEZ := Lib.hid eZ; have HF : Hid (LgFit c.l) := hF; have HWS := Lib.hid hWs
  have HE := Lib.hid (hE.keep bW (Nat.le_refl _))
  clear hF hE hW0 hW hs0 b0 b1 bW hX hZ eX eZ hWs
  go_enter Tryz.func21, Tryz.ntmps21
  go_upto_region 1 with fail
  rw [HWG.out, HEX.out]
  (try rw [HEZ.out])
  clear HWG
  have h0 : RAll X #[.int .i64 c.id, .int .i64 c.role, .int .i64 c.tm, .int .i64 c.vt, .int .i64 c.ld, .int .i64 c.wt, .int .i64 c.cm, .int .i64 c.sf, .int .i64 c.l.b, .int .i64 c.l.bt, .int .u16 c.l.j.ov, .int .u16 c.l.j.ox, .int .u16 c.l.j.ol, .int .i64 c.l.j.oe, .int .i64 c.l.j.ok, .int .u16 c.l.j.nv, .int .u16 c.l.j.nx, .int .u16 c.l.j.nl, .int .i64 c.l.j.ne, .int .i64 c.l.j.nk, .bool c.l.j.two, .slice p c.l.es.length k, .string c.sn, .int .u16 c.vs, .int .u16 c.hd, .int .i64 (c.nx 0), .int .i64 (c.nx 1), .int .i64 (c.nx 2), .int .i64 (c.nx 3), .int .i64 (c.nx 4), .int .i64 (c.nx 5), .int .i64 (c.nx 6), .int .i64 (c.nx 7), .int .i64 (c.nx 8), .int .i64 (c.nx 9), .int .i64 (c.mt 0), .int .i64 (c.mt 1), .int .i64 (c.mt 2), .int .i64 (c.mt 3), .int .i64 (c.mt 4), .int .i64 (c.mt 5), .int .i64 (c.mt 6), .int .i64 (c.mt 7), .int .i64 (c.mt 8), .int .i64 (c.mt 9)] W.drew := RAll.of (w := W.drew) HX.out
  refine wp_region_held_drew (S := RAll X #[.int .i64 c.id, .int .i64 c.role, .int .i64 c.tm, .int .i64 c.vt, .int .i64 c.ld, .int .i64 c.wt, .int .i64 c.cm, .int .i64 c.sf, .int .i64 c.l.b, .int .i64 c.l.bt, .int .u16 c.l.j.ov, .int .u16 c.l.j.ox, .int .u16 c.l.j.ol, .int .i64 c.l.j.oe, .int .i64 c.l.j.ok, .int .u16 c.l.j.nv, .int .u16 c.l.j.nx, .int .u16 c.l.j.nl, .int .i64 c.l.j.ne, .int .i64 c.l.j.nk, .bool c.l.j.two, .slice p c.l.es.length k, .string c.sn, .int .u16 c.vs, .int .u16 c.hd, .int .i64 (c.nx 0), .int .i64 (c.nx 1), .int .i64 (c.nx 2), .int .i64 (c.nx 3), .int .i64 (c.nx 4), .int .i64 (c.nx 5), .int .i64 (c.nx 6), .int .i64 (c.nx 7), .int .i64 (c.nx 8), .int .i64 (c.nx 9), .int .i64 (c.mt 0), .int .i64 (c.mt 1), .int .i64 (c.mt 2), .int .i64 (c.mt 3), .int .i64 (c.mt 4), .int .i64 (c.mt 5), .int .i64 (c.mt 6), .int .i64 (c.mt 7), .int .i64 (c.mt 8), .int .i64 (c.mt 9)]) (by kernel_rfl) h0 (fun hHeld => ?_)
  have HBD := Lib.hid (show Below W.heap.size W W.drew from (Below.refl _ _).drew)
  have HXD := Lib.hid (show W.drew.heap[X]? = some (.cells #[.int .i64 c.id, .int .i64 c.role, .int .i64 c.tm, .int .i64 c.vt, .int .i64 c.ld, .int .i64 c.wt, .int .i64 c.cm, .int .i64 c.sf, .int .i64 c.l.b, .int .i64 c.l.bt, .int .u16 c.l.j.ov, .int .u16 c.l.j.ox, .int .u16 c.l.j.ol, .int .i64 c.l.j.oe, .int .i64 c.l.j.ok, .int .u16 c.l.j.nv, .int .u16 c.l.j.nx, .int .u16 c.l.j.nl, .int .i64 c.l.j.ne, .int .i64 c.l.j.nk, .bool c.l.j.two, .slice p c.l.es.length k, .string c.sn, .int .u16 c.vs, .int .u16 c.hd, .int .i64 (c.nx 0), .int .i64 (c.nx 1), .int .i64 (c.nx 2), .int .i64 (c.nx 3), .int .i64 (c.nx 4), .int .i64 (c.nx 5), .int .i64 (c.nx 6), .int .i64 (c.nx 7), .int .i64 (c.nx 8), .int .i64 (c.nx 9), .int .i64 (c.mt 0), .int .i64 (c.mt 1), .int .i64 (c.mt 2), .int .i64 (c.mt 3), .int .i64 (c.mt 4), .int .i64 (c.mt 5), .int .i64 (c.mt 6), .int .i64 (c.mt 7), .int .i64 (c.mt 8), .int .i64 (c.mt 9)] 33 (0, 0)) from HX.out)
  have HZD := Lib.hid (show W.drew.heap[Z]? = some (.cells (coL co0 none 0).toArray 33 (0, 0)) from HZ.out)
  have HED := Lib.hid (HE.out.keep HBD.out (Nat.le_refl _))
  obtain ⟨wd, ewd⟩ : ∃ x, W.drew = x := ⟨_, rfl⟩
  rewrite [ewd] at h0 hHeld HBD HXD HZD HED ⊢
  clear ewd
  have k0 : ∀ w', RAll X #[.int .i64 c.id, .int .i64 c.role, .int .i64 c.tm, .int .i64 c.vt, .int .i64 c.ld, .int .i64 c.wt, .int .i64 c.cm, .int .i64 c.sf, .int .i64 c.l.b, .int .i64 c.l.bt, .int .u16 c.l.j.ov, .int .u16 c.l.j.ox, .int .u16 c.l.j.ol, .int .i64 c.l.j.oe, .int .i64 c.l.j.ok, .int .u16 c.l.j.nv, .int .u16 c.l.j.nx, .int .u16 c.l.j.nl, .int .i64 c.l.j.ne, .int .i64 c.l.j.nk, .bool c.l.j.two, .slice p c.l.es.length k, .string c.sn, .int .u16 c.vs, .int .u16 c.hd, .int .i64 (c.nx 0), .int .i64 (c.nx 1), .int .i64 (c.nx 2), .int .i64 (c.nx 3), .int .i64 (c.nx 4), .int .i64 (c.nx 5), .int .i64 (c.nx 6), .int .i64 (c.nx 7), .int .i64 (c.nx 8), .int .i64 (c.nx 9), .int .i64 (c.mt 0), .int .i64 (c.mt 1), .int .i64 (c.mt 2), .int .i64 (c.mt 3), .int .i64 (c.mt 4), .int .i64 (c.mt 5), .int .i64 (c.mt 6), .int .i64 (c.mt 7), .int .i64 (c.mt 8), .int .i64 (c.mt 9)] w' → w'.cell? ⟨X, 0, none⟩ = some (.int .i64 c.id) := fun w' h => h.r 0
  have k2 : ∀ w', RAll X #[.int .i64 c.id, .int .i64 c.role, .int .i64 c.tm, .int .i64 c.vt, .int .i64 c.ld, .int .i64 c.wt, .int .i64 c.cm, .int .i64 c.sf, .int .i64 c.l.b, .int .i64 c.l.bt, .int .u16 c.l.j.ov, .int .u16 c.l.j.ox, .int .u16 c.l.j.ol, .int .i64 c.l.j.oe, .int .i64 c.l.j.ok, .int .u16 c.l.j.nv, .int .u16 c.l.j.nx, .int .u16 c.l.j.nl, .int .i64 c.l.j.ne, .int .i64 c.l.j.nk, .bool c.l.j.two, .slice p c.l.es.length k, .string c.sn, .int .u16 c.vs, .int .u16 c.hd, .int .i64 (c.nx 0), .int .i64 (c.nx 1), .int .i64 (c.nx 2), .int .i64 (c.nx 3), .int .i64 (c.nx 4), .int .i64 (c.nx 5), .int .i64 (c.nx 6), .int .i64 (c.nx 7), .int .i64 (c.nx 8), .int .i64 (c.nx 9), .int .i64 (c.mt 0), .int .i64 (c.mt 1), .int .i64 (c.mt 2), .int .i64 (c.mt 3), .int .i64 (c.mt 4), .int .i64 (c.mt 5), .int .i64 (c.mt 6), .int .i64 (c.mt 7), .int .i64 (c.mt 8), .int .i64 (c.mt 9)] w' → w'.cell? ⟨X, 2, none⟩ = some (.int .i64 c.tm) := fun w' h => h.r 2
  have k3 : ∀ w', RAll X #[.int .i64 c.id, .int .i64 c.role, .int .i64 c.tm, .int .i64 c.vt, .int .i64 c.ld, .int .i64 c.wt, .int .i64 c.cm, .int .i64 c.sf, .int .i64 c.l.b, .int .i64 c.l.bt, .int .u16 c.l.j.ov, .int .u16 c.l.j.ox, .int .u16 c.l.j.ol, .int .i64 c.l.j.oe, .int .i64 c.l.j.ok, .int .u16 c.l.j.nv, .int .u16 c.l.j.nx, .int .u16 c.l.j.nl, .int .i64 c.l.j.ne, .int .i64 c.l.j.nk, .bool c.l.j.two, .slice p c.l.es.length k, .string c.sn, .int .u16 c.vs, .int .u16 c.hd, .int .i64 (c.nx 0), .int .i64 (c.nx 1), .int .i64 (c.nx 2), .int .i64 (c.nx 3), .int .i64 (c.nx 4), .int .i64 (c.nx 5), .int .i64 (c.nx 6), .int .i64 (c.nx 7), .int .i64 (c.nx 8), .int .i64 (c.nx 9), .int .i64 (c.mt 0), .int .i64 (c.mt 1), .int .i64 (c.mt 2), .int .i64 (c.mt 3), .int .i64 (c.mt 4), .int .i64 (c.mt 5), .int .i64 (c.mt 6), .int .i64 (c.mt 7), .int .i64 (c.mt 8), .int .i64 (c.mt 9)] w' → w'.cell? ⟨X, 3, none⟩ = some (.int .i64 c.vt) := fun w' h => h.r 3
  have k8 : ∀ w', RAll X #[.int .i64 c.id, .int .i64 c.role, .int .i64 c.tm, .int .i64 c.vt, .int .i64 c.ld, .int .i64 c.wt, .int .i64 c.cm, .int .i64 c.sf, .int .i64 c.l.b, .int .i64 c.l.bt, .int .u16 c.l.j.ov, .int .u16 c.l.j.ox, .int .u16 c.l.j.ol, .int .i64 c.l.j.oe, .int .i64 c.l.j.ok, .int .u16 c.l.j.nv, .int .u16 c.l.j.nx, .int .u16 c.l.j.nl, .int .i64 c.l.j.ne, .int .i64 c.l.j.nk, .bool c.l.j.two, .slice p c.l.es.length k, .string c.sn, .int .u16 c.vs, .int .u16 c.hd, .int .i64 (c.nx 0), .int .i64 (c.nx 1), .int .i64 (c.nx 2), .int .i64 (c.nx 3), .int .i64 (c.nx 4), .int .i64 (c.nx 5), .int .i64 (c.nx 6), .int .i64 (c.nx 7), .int .i64 (c.nx 8), .int .i64 (c.nx 9), .int .i64 (c.mt 0), .int .i64 (c.mt 1), .int .i64 (c.mt 2), .int .i64 (c.mt 3), .int .i64 (c.mt 4), .int .i64 (c.mt 5), .int .i64 (c.mt 6), .int .i64 (c.mt 7), .int .i64 (c.mt 8), .int .i64 (c.mt 9)] w' → w'.cell? ⟨X, 8, none⟩ = some (.int .i64 c.l.b) := fun w' h => h.r 8
  have k22 : ∀ w', RAll X #[.int .i64 c.id, .int .i64 c.role, .int .i64 c.tm, .int .i64 c.vt, .int .i64 c.ld, .int .i64 c.wt, .int .i64 c.cm, .int .i64 c.sf, .int .i64 c.l.b, .int .i64 c.l.bt, .int .u16 c.l.j.ov, .int .u16 c.l.j.ox, .int .u16 c.l.j.ol, .int .i64 c.l.j.oe, .int .i64 c.l.j.ok, .int .u16 c.l.j.nv, .int .u16 c.l.j.nx, .int .u16 c.l.j.nl, .int .i64 c.l.j.ne, .int .i64 c.l.j.nk, .bool c.l.j.two, .slice p c.l.es.length k, .string c.sn, .int .u16 c.vs, .int .u16 c.hd, .int .i64 (c.nx 0), .int .i64 (c.nx 1), .int .i64 (c.nx 2), .int .i64 (c.nx 3), .int .i64 (c.nx 4), .int .i64 (c.nx 5), .int .i64 (c.nx 6), .int .i64 (c.nx 7), .int .i64 (c.nx 8), .int .i64 (c.nx 9), .int .i64 (c.mt 0), .int .i64 (c.mt 1), .int .i64 (c.mt 2), .int .i64 (c.mt 3), .int .i64 (c.mt 4), .int .i64 (c.mt 5), .int .i64 (c.mt 6), .int .i64 (c.mt 7), .int .i64 (c.mt 8), .int .i64 (c.mt 9)] w' → w'.cell? ⟨X, 22, none⟩ = some (.string c.sn) := fun w' h => h.r 22
  refine tkL 0 rfl hHeld ?_
  try simp only [zA, zC, Act.put, zD, zE, zF]
  refine tkL 1 rfl hHeld ?_
  try simp only [zA, zB, zC, Act.put, zD, zE, zF]
  refine tkL 2 rfl hHeld ?_
  try simp only [zA, zB, zC, Act.put, zD, zE, zF]
  refine tkL 3 rfl hHeld ?_
  try simp only [zA, zB, zC, Act.put, zD, zE, zF]
  refine tkL 4 rfl hHeld ?_
  try simp only [zA, zB, zC, Act.put, zD, zE, zF]
  refine tkL 5 rfl hHeld ?_
  try simp only [zA, zB, zC, Act.put, zD, zE, zF]
  refine tkL 6 rfl hHeld ?_
  try simp only [zA, zB, zC, Act.put, zD, zE, zF]
  refine tkL 7 rfl hHeld ?_
  try simp only [zA, zB, zC, Act.put, zD, zE, zF]
  refine tkL 8 rfl hHeld ?_
  try simp only [zA, zB, zC, Act.put, zD, zE, zF]
  refine tkH (i := 9) (v := .agg (coL c p k).toArray) rfl (yieldsIf_load_mid (by rfl) _ _ rfl X 0 rfl (coL c p k) _ (fun w' h => co_row h) Tryz.underlying33 rfl (by kernel_rfl)) hHeld ?_
  try simp only [zA, zB, zC, Act.put, zD, zE, zF]
  refine tkL 15 rfl hHeld ?_
  try simp only [zA, zB, zC, Act.put, zD, zE, zF]
  refine tkL 16 rfl hHeld ?_
  try simp only [zA, zB, zC, Act.put, zD, zE, zF]
  clear k0 k2 k3 k8 k22
  refine wpAnyH_ready (rs := [10]) (by kernel_rfl) (by simp) ?_; refine AllReadyH.cons rfl (fun K hK => ?_) AllReadyH.nil
  try simp only [zA, zB, zC]
  go_simp
  refine (show Calls Tryz.prog 35 #[.agg (coL c p k).toArray] wd _ from begin_act c p k wd HF.out HED.out).mono ?_; rintro r w1 ⟨R, q, d, rfl, hA, b1⟩
  have hX1 := below_block b1 (block_lt HXD.out) HXD.out
  have hZ1 := below_block b1 (block_lt HZD.out) HZD.out
  have s1 : RAll X #[.int .i64 c.id, .int .i64 c.role, .int .i64 c.tm, .int .i64 c.vt, .int .i64 c.ld, .int .i64 c.wt, .int .i64 c.cm, .int .i64 c.sf, .int .i64 c.l.b, .int .i64 c.l.bt, .int .u16 c.l.j.ov, .int .u16 c.l.j.ox, .int .u16 c.l.j.ol, .int .i64 c.l.j.oe, .int .i64 c.l.j.ok, .int .u16 c.l.j.nv, .int .u16 c.l.j.nx, .int .u16 c.l.j.nl, .int .i64 c.l.j.ne, .int .i64 c.l.j.nk, .bool c.l.j.two, .slice p c.l.es.length k, .string c.sn, .int .u16 c.vs, .int .u16 c.hd, .int .i64 (c.nx 0), .int .i64 (c.nx 1), .int .i64 (c.nx 2), .int .i64 (c.nx 3), .int .i64 (c.nx 4), .int .i64 (c.nx 5), .int .i64 (c.nx 6), .int .i64 (c.nx 7), .int .i64 (c.nx 8), .int .i64 (c.nx 9), .int .i64 (c.mt 0), .int .i64 (c.mt 1), .int .i64 (c.mt 2), .int .i64 (c.mt 3), .int .i64 (c.mt 4), .int .i64 (c.mt 5), .int .i64 (c.mt 6), .int .i64 (c.mt 7), .int .i64 (c.mt 8), .int .i64 (c.mt 9)] w1 := RAll.of hX1
  have HZ1 := Lib.hid hZ1; have HX1 := Lib.hid hX1
  have HRL := Lib.hid (act_log (show w1.heap[R]? = some (.cells #[.int .i64 c.id, .int .i64 c.role, .int .i64 c.tm, .int .i64 c.vt, .int .i64 c.ld, .int .i64 c.wt, .int .i64 c.cm, .int .i64 c.sf, .int .i64 c.l.b, .int .i64 c.l.bt, .int .u16 c.l.j.ov, .int .u16 c.l.j.ox, .int .u16 c.l.j.ol, .int .i64 c.l.j.oe, .int .i64 c.l.j.ok, .int .u16 c.l.j.nv, .int .u16 c.l.j.nx, .int .u16 c.l.j.nl, .int .i64 c.l.j.ne, .int .i64 c.l.j.nk, .bool c.l.j.two, .slice q c.l.es.length d, .string c.sn, .int .u16 c.vs, .int .u16 c.hd, .int .i64 (c.nx 0), .int .i64 (c.nx 1), .int .i64 (c.nx 2), .int .i64 (c.nx 3), .int .i64 (c.nx 4), .int .i64 (c.nx 5), .int .i64 (c.nx 6), .int .i64 (c.nx 7), .int .i64 (c.nx 8), .int .i64 (c.nx 9), .int .i64 (c.mt 0), .int .i64 (c.mt 1), .int .i64 (c.mt 2), .int .i64 (c.mt 3), .int .i64 (c.mt 4), .int .i64 (c.mt 5), .int .i64 (c.mt 6), .int .i64 (c.mt 7), .int .i64 (c.mt 8), .int .i64 (c.mt 9), .slice none 0 0] 69 (0, 0)) from hA.blk))
  have HO1 := Lib.hid (own_baseC hA.en HBD.out.size); have HB1 := Lib.hid (HBD.out.trans (b1.mono HBD.out.size))
  clear hA b1 hX1 hZ1
  refine hK.out _ _ s1 (fun _ => ?_)
  clear hK K hHeld
  try simp only [zA, zB, zC, Act.put, zD, zE, zF]
  have hHeld := s1
  refine tkL 11 rfl hHeld ?_
  try simp only [zA, zB, zC, Act.put, zD, zE, zF]
  refine tkL 12 rfl hHeld ?_
  try simp only [zA, zB, zC, Act.put, zD, zE, zF]
  refine tkL 13 rfl hHeld ?_
  try simp only [zA, zB, zC, Act.put, zD, zE, zF]
  refine wpAnyH_ready (rs := [14]) (by kernel_rfl) (by simp) ?_; refine AllReadyH.cons rfl (fun K hK => ?_) AllReadyH.nil
  rw [if_pos (by rfl)]
  refine wp_load_mid _ _ (by rfl) R 8 (by rfl) [.int .i64 c.l.b, .int .i64 c.l.bt, .int .u16 c.l.j.ov, .int .u16 c.l.j.ox, .int .u16 c.l.j.ol, .int .i64 c.l.j.oe, .int .i64 c.l.j.ok, .int .u16 c.l.j.nv, .int .u16 c.l.j.nx, .int .u16 c.l.j.nl, .int .i64 c.l.j.ne, .int .i64 c.l.j.nk, .bool c.l.j.two, .slice q c.l.es.length d] _ HRL.out Tryz.underlying30 rfl (by kernel_rfl) ?_
  refine hK.out _ _ s1 (fun _ => ?_)
  clear hK K hHeld
  try simp only [zA, zB, zC, Act.put, zD, zE, zF]
  have hHeld := s1
  refine tkH (i := 17) (v := .agg (coL (restartC c) q d).toArray) rfl (Or.inl ⟨by rfl, fun w' _ => by kernel_rfl⟩) hHeld ?_
  try simp only [zA, zB, zC, Act.put, zD, zE, zF]
  have HTe := Lib.hid (there_of_block (o := 0) (n := 45) HZ1.out (Nat.le_of_ble_eq_true rfl))
  have hg := (block_setCells (coL (restartC c) q d) 0 HZ1.out).2
  have hXZ : X ≠ Z := by have := HEZ.out; omega
  have s2 : RAll X #[.int .i64 c.id, .int .i64 c.role, .int .i64 c.tm, .int .i64 c.vt, .int .i64 c.ld, .int .i64 c.wt, .int .i64 c.cm, .int .i64 c.sf, .int .i64 c.l.b, .int .i64 c.l.bt, .int .u16 c.l.j.ov, .int .u16 c.l.j.ox, .int .u16 c.l.j.ol, .int .i64 c.l.j.oe, .int .i64 c.l.j.ok, .int .u16 c.l.j.nv, .int .u16 c.l.j.nx, .int .u16 c.l.j.nl, .int .i64 c.l.j.ne, .int .i64 c.l.j.nk, .bool c.l.j.two, .slice p c.l.es.length k, .string c.sn, .int .u16 c.vs, .int .u16 c.hd, .int .i64 (c.nx 0), .int .i64 (c.nx 1), .int .i64 (c.nx 2), .int .i64 (c.nx 3), .int .i64 (c.nx 4), .int .i64 (c.nx 5), .int .i64 (c.nx 6), .int .i64 (c.nx 7), .int .i64 (c.nx 8), .int .i64 (c.nx 9), .int .i64 (c.mt 0), .int .i64 (c.mt 1), .int .i64 (c.mt 2), .int .i64 (c.mt 3), .int .i64 (c.mt 4), .int .i64 (c.mt 5), .int .i64 (c.mt 6), .int .i64 (c.mt 7), .int .i64 (c.mt 8), .int .i64 (c.mt 9)] (w1.setCells Z 0 (coL (restartC c) q d)) := RAll.of ((hg.block X (block_lt HX1.out) (fun e => hXZ (by simpa using e))).trans HX1.out)
  have hO2 : CoOwn W.heap.size (w1.setCells Z 0 (coL (restartC c) q d)) ⟨c, q, d⟩ := WorldRow.kept HO1.out HZ1.out hg
  have hB2 := HB1.out.mono (show w.heap.size ≤ W.heap.size from HBW.out.size)
  have HEND := Lib.hid (show CoRet w (restartC c) (.returned (.agg (coL (restartC c) q d).toArray)) (w1.setCells Z 0 (coL (restartC c) q d)) from
    ⟨q, d, rfl, own_baseC (x := ⟨restartC c, q, d⟩) hO2 HBW.out.size, (HBW.out.trans hB2).grown hg (by have := HBW.out.size; have := HB1.out.size; omega) (fun b e => by simp only [Option.some.injEq] at e; have := HEX.out; have := HEZ.out; omega)⟩)
  clear hg hO2 hB2
  refine wpAnyH_ready (rs := [18]) (by kernel_rfl) (by simp) ?_; refine AllReadyH.cons rfl (fun K hK => ?_) AllReadyH.nil
  rw [if_pos (by rfl)]
  refine wp_store_mid _ _ _ (by rfl) Z 0 (coL (restartC c) q d).toArray (by rfl) (by rfl) HTe.out (by kernel_rfl) (one_all rfl) ?_
  refine hK.out _ _ s2 (fun _ => ?_)
  clear hK K hHeld
  try simp only [zA, zB, zC, Act.put]
  have hHeld := s2
  refine wpAnyH_done (by kernel_rfl) ?_ _
  clear hHeld s2
  go_wp2_with fail
  have hZf : (w1.setCells Z 0 (coL (restartC c) q d)).heap[Z]? = some (.cells (coL (restartC c) q d).toArray 33 (0, 0)) := setCells_full (n := 45) (vs := (coL (restartC c) q d).toArray) HZ1.out rfl rfl
  refine bodyPost_ret (v := .agg (coL (restartC c) q d).toArray) ?_ rfl ?_
  · exact results_cell_row rfl _ _ Z _ _ _ _ (by rfl) hZf Tryz.underlying33 rfl (by kernel_rfl)
  · exact HEND.out
set_option maxRecDepth 100000 in
set_option maxHeartbeats 16000000 in
theorem rrestart_any (c : Co) (p : Option Addr) (k : Nat) (w : World) (hF : LgFit c.l) (hE : EnSl w (.slice p c.l.es.length k) c.l.es) :
    Calls Tryz.prog 22 #[.agg #[.int .i64 c.id, .int .i64 c.role, .int .i64 c.tm, .int .i64 c.vt, .int .i64 c.ld, .int .i64 c.wt, .int .i64 c.cm, .int .i64 c.sf, .int .i64 c.l.b, .int .i64 c.l.bt, .int .u16 c.l.j.ov, .int .u16 c.l.j.ox, .int .u16 c.l.j.ol, .int .i64 c.l.j.oe, .int .i64 c.l.j.ok, .int .u16 c.l.j.nv, .int .u16 c.l.j.nx, .int .u16 c.l.j.nl, .int .i64 c.l.j.ne, .int .i64 c.l.j.nk, .bool c.l.j.two, .slice p c.l.es.length k, .string c.sn, .int .u16 c.vs, .int .u16 c.hd, .int .i64 (c.nx 0), .int .i64 (c.nx 1), .int .i64 (c.nx 2), .int .i64 (c.nx 3), .int .i64 (c.nx 4), .int .i64 (c.nx 5), .int .i64 (c.nx 6), .int .i64 (c.nx 7), .int .i64 (c.nx 8), .int .i64 (c.nx 9), .int .i64 (c.mt 0), .int .i64 (c.mt 1), .int .i64 (c.mt 2), .int .i64 (c.mt 3), .int .i64 (c.mt 4), .int .i64 (c.mt 5), .int .i64 (c.mt 6), .int .i64 (c.mt 7), .int .i64 (c.mt 8), .int .i64 (c.mt 9)]] w (CoRet w (restartC c)) := by
  obtain ⟨W0, hW0⟩ : ∃ z : World, w.alloc (.cells #[.int .i64 c.id, .int .i64 c.role, .int .i64 c.tm, .int .i64 c.vt, .int .i64 c.ld, .int .i64 c.wt, .int .i64 c.cm, .int .i64 c.sf, .int .i64 c.l.b, .int .i64 c.l.bt, .int .u16 c.l.j.ov, .int .u16 c.l.j.ox, .int .u16 c.l.j.ol, .int .i64 c.l.j.oe, .int .i64 c.l.j.ok, .int .u16 c.l.j.nv, .int .u16 c.l.j.nx, .int .u16 c.l.j.nl, .int .i64 c.l.j.ne, .int .i64 c.l.j.nk, .bool c.l.j.two, .slice p c.l.es.length k, .string c.sn, .int .u16 c.vs, .int .u16 c.hd, .int .i64 (c.nx 0), .int .i64 (c.nx 1), .int .i64 (c.nx 2), .int .i64 (c.nx 3), .int .i64 (c.nx 4), .int .i64 (c.nx 5), .int .i64 (c.nx 6), .int .i64 (c.nx 7), .int .i64 (c.nx 8), .int .i64 (c.nx 9), .int .i64 (c.mt 0), .int .i64 (c.mt 1), .int .i64 (c.mt 2), .int .i64 (c.mt 3), .int .i64 (c.mt 4), .int .i64 (c.mt 5), .int .i64 (c.mt 6), .int .i64 (c.mt 7), .int .i64 (c.mt 8), .int .i64 (c.mt 9)] 33) = z := ⟨_, rfl⟩
  obtain ⟨W, hW⟩ : ∃ z : World, W0.alloc (.cells #[.int .i64 0, .int .i64 0, .int .i64 0, .int .i64 0, .int .i64 0, .int .i64 0, .int .i64 0, .int .i64 0, .int .i64 0, .int .i64 0, .int .u16 0, .int .u16 0, .int .u16 0, .int .i64 0, .int .i64 0, .int .u16 0, .int .u16 0, .int .u16 0, .int .i64 0, .int .i64 0, .bool false, .slice none 0 0, .string ⟨#[]⟩, .int .u16 0, .int .u16 0, .int .i64 0, .int .i64 0, .int .i64 0, .int .i64 0, .int .i64 0, .int .i64 0, .int .i64 0, .int .i64 0, .int .i64 0, .int .i64 0, .int .i64 0, .int .i64 0, .int .i64 0, .int .i64 0, .int .i64 0, .int .i64 0, .int .i64 0, .int .i64 0, .int .i64 0, .int .i64 0] 33) = z := ⟨_, rfl⟩
  have hs0 : W0.heap.size = w.heap.size + 1 := by rw [← hW0]; simp
  have b0 : Below w.heap.size w W0 := by rw [← hW0]; exact (Below.refl _ _).alloc (Nat.le_refl _) _
  have b1 : Below W0.heap.size W0 W := by rw [← hW]; exact (Below.refl _ _).alloc (Nat.le_refl _) _
  have bW := b0.trans (b1.mono b0.size)
  have hX : W.heap[w.heap.size]? = some (.cells #[.int .i64 c.id, .int .i64 c.role, .int .i64 c.tm, .int .i64 c.vt, .int .i64 c.ld, .int .i64 c.wt, .int .i64 c.cm, .int .i64 c.sf, .int .i64 c.l.b, .int .i64 c.l.bt, .int .u16 c.l.j.ov, .int .u16 c.l.j.ox, .int .u16 c.l.j.ol, .int .i64 c.l.j.oe, .int .i64 c.l.j.ok, .int .u16 c.l.j.nv, .int .u16 c.l.j.nx, .int .u16 c.l.j.nl, .int .i64 c.l.j.ne, .int .i64 c.l.j.nk, .bool c.l.j.two, .slice p c.l.es.length k, .string c.sn, .int .u16 c.vs, .int .u16 c.hd, .int .i64 (c.nx 0), .int .i64 (c.nx 1), .int .i64 (c.nx 2), .int .i64 (c.nx 3), .int .i64 (c.nx 4), .int .i64 (c.nx 5), .int .i64 (c.nx 6), .int .i64 (c.nx 7), .int .i64 (c.nx 8), .int .i64 (c.nx 9), .int .i64 (c.mt 0), .int .i64 (c.mt 1), .int .i64 (c.mt 2), .int .i64 (c.mt 3), .int .i64 (c.mt 4), .int .i64 (c.mt 5), .int .i64 (c.mt 6), .int .i64 (c.mt 7), .int .i64 (c.mt 8), .int .i64 (c.mt 9)] 33 (0, 0)) := below_block b1 (by omega) (by rw [← hW0]; exact heap_last w _)
  have hZ : W.heap[w.heap.size + 1]? = some (.cells (coL co0 none 0).toArray 33 (0, 0)) := by rw [← hW, ← hs0]; exact heap_last W0 _
  obtain ⟨X, eX⟩ : ∃ z, w.heap.size = z := ⟨_, rfl⟩
  obtain ⟨Z, eZ⟩ : ∃ z, X + 1 = z := ⟨_, rfl⟩
  rw [eX] at hX hZ
  rw [eZ] at hZ
  have hWs : W.heap.size = Z + 1 := by rw [← hW]; simp only [World.size_alloc]; omega
  have HWG := Lib.hid (show (w.alloc (.cells #[.int .i64 c.id, .int .i64 c.role, .int .i64 c.tm, .int .i64 c.vt, .int .i64 c.ld, .int .i64 c.wt, .int .i64 c.cm, .int .i64 c.sf, .int .i64 c.l.b, .int .i64 c.l.bt, .int .u16 c.l.j.ov, .int .u16 c.l.j.ox, .int .u16 c.l.j.ol, .int .i64 c.l.j.oe, .int .i64 c.l.j.ok, .int .u16 c.l.j.nv, .int .u16 c.l.j.nx, .int .u16 c.l.j.nl, .int .i64 c.l.j.ne, .int .i64 c.l.j.nk, .bool c.l.j.two, .slice p c.l.es.length k, .string c.sn, .int .u16 c.vs, .int .u16 c.hd, .int .i64 (c.nx 0), .int .i64 (c.nx 1), .int .i64 (c.nx 2), .int .i64 (c.nx 3), .int .i64 (c.nx 4), .int .i64 (c.nx 5), .int .i64 (c.nx 6), .int .i64 (c.nx 7), .int .i64 (c.nx 8), .int .i64 (c.nx 9), .int .i64 (c.mt 0), .int .i64 (c.mt 1), .int .i64 (c.mt 2), .int .i64 (c.mt 3), .int .i64 (c.mt 4), .int .i64 (c.mt 5), .int .i64 (c.mt 6), .int .i64 (c.mt 7), .int .i64 (c.mt 8), .int .i64 (c.mt 9)] 33)).alloc (.cells #[.int .i64 0, .int .i64 0, .int .i64 0, .int .i64 0, .int .i64 0, .int .i64 0, .int .i64 0, .int .i64 0, .int .i64 0, .int .i64 0, .int .u16 0, .int .u16 0, .int .u16 0, .int .i64 0, .int .i64 0, .int .u16 0, .int .u16 0, .int .u16 0, .int .i64 0, .int .i64 0, .bool false, .slice none 0 0, .string ⟨#[]⟩, .int .u16 0, .int .u16 0, .int .i64 0, .int .i64 0, .int .i64 0, .int .i64 0, .int .i64 0, .int .i64 0, .int .i64 0, .int .i64 0, .int .i64 0, .int .i64 0, .int .i64 0, .int .i64 0, .int .i64 0, .int .i64 0, .int .i64 0, .int .i64 0, .int .i64 0, .int .i64 0, .int .i64 0, .int .i64 0] 33) = W by rw [hW0]; exact hW)
  have HX := Lib.hid hX; have HZ := Lib.hid hZ; have HBW := Lib.hid bW; have HEX := Lib.hid eX; have HEZ := Lib.hid eZ; have HF : Hid (LgFit c.l) := hF; have HWS := Lib.hid hWs
  have HE := Lib.hid (hE.keep bW (Nat.le_refl _))
  clear hF hE hW0 hW hs0 b0 b1 bW hX hZ eX eZ hWs
  go_enter Tryz.func22, Tryz.ntmps22
  go_upto_region 1 with fail
  rw [HWG.out, HEX.out]
  (try rw [HEZ.out])
  clear HWG
  have h0 : RAll X #[.int .i64 c.id, .int .i64 c.role, .int .i64 c.tm, .int .i64 c.vt, .int .i64 c.ld, .int .i64 c.wt, .int .i64 c.cm, .int .i64 c.sf, .int .i64 c.l.b, .int .i64 c.l.bt, .int .u16 c.l.j.ov, .int .u16 c.l.j.ox, .int .u16 c.l.j.ol, .int .i64 c.l.j.oe, .int .i64 c.l.j.ok, .int .u16 c.l.j.nv, .int .u16 c.l.j.nx, .int .u16 c.l.j.nl, .int .i64 c.l.j.ne, .int .i64 c.l.j.nk, .bool c.l.j.two, .slice p c.l.es.length k, .string c.sn, .int .u16 c.vs, .int .u16 c.hd, .int .i64 (c.nx 0), .int .i64 (c.nx 1), .int .i64 (c.nx 2), .int .i64 (c.nx 3), .int .i64 (c.nx 4), .int .i64 (c.nx 5), .int .i64 (c.nx 6), .int .i64 (c.nx 7), .int .i64 (c.nx 8), .int .i64 (c.nx 9), .int .i64 (c.mt 0), .int .i64 (c.mt 1), .int .i64 (c.mt 2), .int .i64 (c.mt 3), .int .i64 (c.mt 4), .int .i64 (c.mt 5), .int .i64 (c.mt 6), .int .i64 (c.mt 7), .int .i64 (c.mt 8), .int .i64 (c.mt 9)] W.drew := RAll.of (w := W.drew) HX.out
  refine wp_region_held_drew (S := RAll X #[.int .i64 c.id, .int .i64 c.role, .int .i64 c.tm, .int .i64 c.vt, .int .i64 c.ld, .int .i64 c.wt, .int .i64 c.cm, .int .i64 c.sf, .int .i64 c.l.b, .int .i64 c.l.bt, .int .u16 c.l.j.ov, .int .u16 c.l.j.ox, .int .u16 c.l.j.ol, .int .i64 c.l.j.oe, .int .i64 c.l.j.ok, .int .u16 c.l.j.nv, .int .u16 c.l.j.nx, .int .u16 c.l.j.nl, .int .i64 c.l.j.ne, .int .i64 c.l.j.nk, .bool c.l.j.two, .slice p c.l.es.length k, .string c.sn, .int .u16 c.vs, .int .u16 c.hd, .int .i64 (c.nx 0), .int .i64 (c.nx 1), .int .i64 (c.nx 2), .int .i64 (c.nx 3), .int .i64 (c.nx 4), .int .i64 (c.nx 5), .int .i64 (c.nx 6), .int .i64 (c.nx 7), .int .i64 (c.nx 8), .int .i64 (c.nx 9), .int .i64 (c.mt 0), .int .i64 (c.mt 1), .int .i64 (c.mt 2), .int .i64 (c.mt 3), .int .i64 (c.mt 4), .int .i64 (c.mt 5), .int .i64 (c.mt 6), .int .i64 (c.mt 7), .int .i64 (c.mt 8), .int .i64 (c.mt 9)]) (by kernel_rfl) h0 (fun hHeld => ?_)
  have HBD := Lib.hid (show Below W.heap.size W W.drew from (Below.refl _ _).drew)
  have HXD := Lib.hid (show W.drew.heap[X]? = some (.cells #[.int .i64 c.id, .int .i64 c.role, .int .i64 c.tm, .int .i64 c.vt, .int .i64 c.ld, .int .i64 c.wt, .int .i64 c.cm, .int .i64 c.sf, .int .i64 c.l.b, .int .i64 c.l.bt, .int .u16 c.l.j.ov, .int .u16 c.l.j.ox, .int .u16 c.l.j.ol, .int .i64 c.l.j.oe, .int .i64 c.l.j.ok, .int .u16 c.l.j.nv, .int .u16 c.l.j.nx, .int .u16 c.l.j.nl, .int .i64 c.l.j.ne, .int .i64 c.l.j.nk, .bool c.l.j.two, .slice p c.l.es.length k, .string c.sn, .int .u16 c.vs, .int .u16 c.hd, .int .i64 (c.nx 0), .int .i64 (c.nx 1), .int .i64 (c.nx 2), .int .i64 (c.nx 3), .int .i64 (c.nx 4), .int .i64 (c.nx 5), .int .i64 (c.nx 6), .int .i64 (c.nx 7), .int .i64 (c.nx 8), .int .i64 (c.nx 9), .int .i64 (c.mt 0), .int .i64 (c.mt 1), .int .i64 (c.mt 2), .int .i64 (c.mt 3), .int .i64 (c.mt 4), .int .i64 (c.mt 5), .int .i64 (c.mt 6), .int .i64 (c.mt 7), .int .i64 (c.mt 8), .int .i64 (c.mt 9)] 33 (0, 0)) from HX.out)
  have HZD := Lib.hid (show W.drew.heap[Z]? = some (.cells (coL co0 none 0).toArray 33 (0, 0)) from HZ.out)
  have HED := Lib.hid (HE.out.keep HBD.out (Nat.le_refl _))
  obtain ⟨wd, ewd⟩ : ∃ x, W.drew = x := ⟨_, rfl⟩
  rewrite [ewd] at h0 hHeld HBD HXD HZD HED ⊢
  clear ewd
  have k0 : ∀ w', RAll X #[.int .i64 c.id, .int .i64 c.role, .int .i64 c.tm, .int .i64 c.vt, .int .i64 c.ld, .int .i64 c.wt, .int .i64 c.cm, .int .i64 c.sf, .int .i64 c.l.b, .int .i64 c.l.bt, .int .u16 c.l.j.ov, .int .u16 c.l.j.ox, .int .u16 c.l.j.ol, .int .i64 c.l.j.oe, .int .i64 c.l.j.ok, .int .u16 c.l.j.nv, .int .u16 c.l.j.nx, .int .u16 c.l.j.nl, .int .i64 c.l.j.ne, .int .i64 c.l.j.nk, .bool c.l.j.two, .slice p c.l.es.length k, .string c.sn, .int .u16 c.vs, .int .u16 c.hd, .int .i64 (c.nx 0), .int .i64 (c.nx 1), .int .i64 (c.nx 2), .int .i64 (c.nx 3), .int .i64 (c.nx 4), .int .i64 (c.nx 5), .int .i64 (c.nx 6), .int .i64 (c.nx 7), .int .i64 (c.nx 8), .int .i64 (c.nx 9), .int .i64 (c.mt 0), .int .i64 (c.mt 1), .int .i64 (c.mt 2), .int .i64 (c.mt 3), .int .i64 (c.mt 4), .int .i64 (c.mt 5), .int .i64 (c.mt 6), .int .i64 (c.mt 7), .int .i64 (c.mt 8), .int .i64 (c.mt 9)] w' → w'.cell? ⟨X, 0, none⟩ = some (.int .i64 c.id) := fun w' h => h.r 0
  have k2 : ∀ w', RAll X #[.int .i64 c.id, .int .i64 c.role, .int .i64 c.tm, .int .i64 c.vt, .int .i64 c.ld, .int .i64 c.wt, .int .i64 c.cm, .int .i64 c.sf, .int .i64 c.l.b, .int .i64 c.l.bt, .int .u16 c.l.j.ov, .int .u16 c.l.j.ox, .int .u16 c.l.j.ol, .int .i64 c.l.j.oe, .int .i64 c.l.j.ok, .int .u16 c.l.j.nv, .int .u16 c.l.j.nx, .int .u16 c.l.j.nl, .int .i64 c.l.j.ne, .int .i64 c.l.j.nk, .bool c.l.j.two, .slice p c.l.es.length k, .string c.sn, .int .u16 c.vs, .int .u16 c.hd, .int .i64 (c.nx 0), .int .i64 (c.nx 1), .int .i64 (c.nx 2), .int .i64 (c.nx 3), .int .i64 (c.nx 4), .int .i64 (c.nx 5), .int .i64 (c.nx 6), .int .i64 (c.nx 7), .int .i64 (c.nx 8), .int .i64 (c.nx 9), .int .i64 (c.mt 0), .int .i64 (c.mt 1), .int .i64 (c.mt 2), .int .i64 (c.mt 3), .int .i64 (c.mt 4), .int .i64 (c.mt 5), .int .i64 (c.mt 6), .int .i64 (c.mt 7), .int .i64 (c.mt 8), .int .i64 (c.mt 9)] w' → w'.cell? ⟨X, 2, none⟩ = some (.int .i64 c.tm) := fun w' h => h.r 2
  have k3 : ∀ w', RAll X #[.int .i64 c.id, .int .i64 c.role, .int .i64 c.tm, .int .i64 c.vt, .int .i64 c.ld, .int .i64 c.wt, .int .i64 c.cm, .int .i64 c.sf, .int .i64 c.l.b, .int .i64 c.l.bt, .int .u16 c.l.j.ov, .int .u16 c.l.j.ox, .int .u16 c.l.j.ol, .int .i64 c.l.j.oe, .int .i64 c.l.j.ok, .int .u16 c.l.j.nv, .int .u16 c.l.j.nx, .int .u16 c.l.j.nl, .int .i64 c.l.j.ne, .int .i64 c.l.j.nk, .bool c.l.j.two, .slice p c.l.es.length k, .string c.sn, .int .u16 c.vs, .int .u16 c.hd, .int .i64 (c.nx 0), .int .i64 (c.nx 1), .int .i64 (c.nx 2), .int .i64 (c.nx 3), .int .i64 (c.nx 4), .int .i64 (c.nx 5), .int .i64 (c.nx 6), .int .i64 (c.nx 7), .int .i64 (c.nx 8), .int .i64 (c.nx 9), .int .i64 (c.mt 0), .int .i64 (c.mt 1), .int .i64 (c.mt 2), .int .i64 (c.mt 3), .int .i64 (c.mt 4), .int .i64 (c.mt 5), .int .i64 (c.mt 6), .int .i64 (c.mt 7), .int .i64 (c.mt 8), .int .i64 (c.mt 9)] w' → w'.cell? ⟨X, 3, none⟩ = some (.int .i64 c.vt) := fun w' h => h.r 3
  have k8 : ∀ w', RAll X #[.int .i64 c.id, .int .i64 c.role, .int .i64 c.tm, .int .i64 c.vt, .int .i64 c.ld, .int .i64 c.wt, .int .i64 c.cm, .int .i64 c.sf, .int .i64 c.l.b, .int .i64 c.l.bt, .int .u16 c.l.j.ov, .int .u16 c.l.j.ox, .int .u16 c.l.j.ol, .int .i64 c.l.j.oe, .int .i64 c.l.j.ok, .int .u16 c.l.j.nv, .int .u16 c.l.j.nx, .int .u16 c.l.j.nl, .int .i64 c.l.j.ne, .int .i64 c.l.j.nk, .bool c.l.j.two, .slice p c.l.es.length k, .string c.sn, .int .u16 c.vs, .int .u16 c.hd, .int .i64 (c.nx 0), .int .i64 (c.nx 1), .int .i64 (c.nx 2), .int .i64 (c.nx 3), .int .i64 (c.nx 4), .int .i64 (c.nx 5), .int .i64 (c.nx 6), .int .i64 (c.nx 7), .int .i64 (c.nx 8), .int .i64 (c.nx 9), .int .i64 (c.mt 0), .int .i64 (c.mt 1), .int .i64 (c.mt 2), .int .i64 (c.mt 3), .int .i64 (c.mt 4), .int .i64 (c.mt 5), .int .i64 (c.mt 6), .int .i64 (c.mt 7), .int .i64 (c.mt 8), .int .i64 (c.mt 9)] w' → w'.cell? ⟨X, 8, none⟩ = some (.int .i64 c.l.b) := fun w' h => h.r 8
  have k22 : ∀ w', RAll X #[.int .i64 c.id, .int .i64 c.role, .int .i64 c.tm, .int .i64 c.vt, .int .i64 c.ld, .int .i64 c.wt, .int .i64 c.cm, .int .i64 c.sf, .int .i64 c.l.b, .int .i64 c.l.bt, .int .u16 c.l.j.ov, .int .u16 c.l.j.ox, .int .u16 c.l.j.ol, .int .i64 c.l.j.oe, .int .i64 c.l.j.ok, .int .u16 c.l.j.nv, .int .u16 c.l.j.nx, .int .u16 c.l.j.nl, .int .i64 c.l.j.ne, .int .i64 c.l.j.nk, .bool c.l.j.two, .slice p c.l.es.length k, .string c.sn, .int .u16 c.vs, .int .u16 c.hd, .int .i64 (c.nx 0), .int .i64 (c.nx 1), .int .i64 (c.nx 2), .int .i64 (c.nx 3), .int .i64 (c.nx 4), .int .i64 (c.nx 5), .int .i64 (c.nx 6), .int .i64 (c.nx 7), .int .i64 (c.nx 8), .int .i64 (c.nx 9), .int .i64 (c.mt 0), .int .i64 (c.mt 1), .int .i64 (c.mt 2), .int .i64 (c.mt 3), .int .i64 (c.mt 4), .int .i64 (c.mt 5), .int .i64 (c.mt 6), .int .i64 (c.mt 7), .int .i64 (c.mt 8), .int .i64 (c.mt 9)] w' → w'.cell? ⟨X, 22, none⟩ = some (.string c.sn) := fun w' h => h.r 22
  refine tkL 0 rfl hHeld ?_
  try simp only [zA, zC, Act.put, zD, zE, zF]
  refine tkL 1 rfl hHeld ?_
  try simp only [zA, zB, zC, Act.put, zD, zE, zF]
  refine tkL 2 rfl hHeld ?_
  try simp only [zA, zB, zC, Act.put, zD, zE, zF]
  refine tkL 3 rfl hHeld ?_
  try simp only [zA, zB, zC, Act.put, zD, zE, zF]
  refine tkL 4 rfl hHeld ?_
  try simp only [zA, zB, zC, Act.put, zD, zE, zF]
  refine tkL 5 rfl hHeld ?_
  try simp only [zA, zB, zC, Act.put, zD, zE, zF]
  refine tkL 6 rfl hHeld ?_
  try simp only [zA, zB, zC, Act.put, zD, zE, zF]
  refine tkL 7 rfl hHeld ?_
  try simp only [zA, zB, zC, Act.put, zD, zE, zF]
  refine tkL 8 rfl hHeld ?_
  try simp only [zA, zB, zC, Act.put, zD, zE, zF]
  refine tkL 9 rfl hHeld ?_
  try simp only [zA, zB, zC, Act.put, zD, zE, zF]
  refine tkH (i := 10) (v := .agg #[.int .i64 c.l.b, .int .i64 c.l.bt, .int .u16 c.l.j.ov, .int .u16 c.l.j.ox, .int .u16 c.l.j.ol, .int .i64 c.l.j.oe, .int .i64 c.l.j.ok, .int .u16 c.l.j.nv, .int .u16 c.l.j.nx, .int .u16 c.l.j.nl, .int .i64 c.l.j.ne, .int .i64 c.l.j.nk, .bool c.l.j.two, .slice p c.l.es.length k]) rfl (yieldsIf_load_mid (by rfl) _ _ rfl X 8 rfl [.int .i64 c.l.b, .int .i64 c.l.bt, .int .u16 c.l.j.ov, .int .u16 c.l.j.ox, .int .u16 c.l.j.ol, .int .i64 c.l.j.oe, .int .i64 c.l.j.ok, .int .u16 c.l.j.nv, .int .u16 c.l.j.nx, .int .u16 c.l.j.nl, .int .i64 c.l.j.ne, .int .i64 c.l.j.nk, .bool c.l.j.two, .slice p c.l.es.length k] _ (fun w' h => co_log h) Tryz.underlying30 rfl (by kernel_rfl)) hHeld ?_
  try simp only [zA, zB, zC, Act.put, zD, zE, zF]
  refine tkL 12 rfl hHeld ?_
  try simp only [zA, zB, zC, Act.put, zD, zE, zF]
  refine tkL 13 rfl hHeld ?_
  try simp only [zA, zB, zC, Act.put, zD, zE, zF]
  clear k0 k2 k3 k8 k22
  refine wpAnyH_ready (rs := [11]) (by kernel_rfl) (by simp) ?_; refine AllReadyH.cons rfl (fun K hK => ?_) AllReadyH.nil
  try simp only [zA, zB, zC]
  go_simp
  refine (copy_any c.l p k wd HF.out.n HED.out).mono ?_; rintro r w1 ⟨q, d, rfl, hu, b1⟩
  have hX1 := below_block b1 (block_lt HXD.out) HXD.out
  have hZ1 := below_block b1 (block_lt HZD.out) HZD.out
  have s1 : RAll X #[.int .i64 c.id, .int .i64 c.role, .int .i64 c.tm, .int .i64 c.vt, .int .i64 c.ld, .int .i64 c.wt, .int .i64 c.cm, .int .i64 c.sf, .int .i64 c.l.b, .int .i64 c.l.bt, .int .u16 c.l.j.ov, .int .u16 c.l.j.ox, .int .u16 c.l.j.ol, .int .i64 c.l.j.oe, .int .i64 c.l.j.ok, .int .u16 c.l.j.nv, .int .u16 c.l.j.nx, .int .u16 c.l.j.nl, .int .i64 c.l.j.ne, .int .i64 c.l.j.nk, .bool c.l.j.two, .slice p c.l.es.length k, .string c.sn, .int .u16 c.vs, .int .u16 c.hd, .int .i64 (c.nx 0), .int .i64 (c.nx 1), .int .i64 (c.nx 2), .int .i64 (c.nx 3), .int .i64 (c.nx 4), .int .i64 (c.nx 5), .int .i64 (c.nx 6), .int .i64 (c.nx 7), .int .i64 (c.nx 8), .int .i64 (c.nx 9), .int .i64 (c.mt 0), .int .i64 (c.mt 1), .int .i64 (c.mt 2), .int .i64 (c.mt 3), .int .i64 (c.mt 4), .int .i64 (c.mt 5), .int .i64 (c.mt 6), .int .i64 (c.mt 7), .int .i64 (c.mt 8), .int .i64 (c.mt 9)] w1 := RAll.of hX1
  have HZ1 := Lib.hid hZ1; have HX1 := Lib.hid hX1
  have HO1 : Hid (CoOwn W.heap.size w1 ⟨c, q, d⟩) := own_baseC (x := ⟨c, q, d⟩) hu HBD.out.size
  have HB1 := Lib.hid (HBD.out.trans (b1.mono HBD.out.size))
  clear hu b1 hX1 hZ1
  refine hK.out _ _ s1 (fun _ => ?_)
  clear hK K hHeld
  try simp only [zA, zB, zC, Act.put, zD, zE, zF]
  have hHeld := s1
  refine tkH (i := 14) (v := .agg (coL (restartC c) q d).toArray) rfl (Or.inl ⟨by rfl, fun w' _ => by kernel_rfl⟩) hHeld ?_
  try simp only [zA, zB, zC, Act.put, zD, zE, zF]
  have HTe := Lib.hid (there_of_block (o := 0) (n := 45) HZ1.out (Nat.le_of_ble_eq_true rfl))
  have hg := (block_setCells (coL (restartC c) q d) 0 HZ1.out).2
  have hXZ : X ≠ Z := by have := HEZ.out; omega
  have s2 : RAll X #[.int .i64 c.id, .int .i64 c.role, .int .i64 c.tm, .int .i64 c.vt, .int .i64 c.ld, .int .i64 c.wt, .int .i64 c.cm, .int .i64 c.sf, .int .i64 c.l.b, .int .i64 c.l.bt, .int .u16 c.l.j.ov, .int .u16 c.l.j.ox, .int .u16 c.l.j.ol, .int .i64 c.l.j.oe, .int .i64 c.l.j.ok, .int .u16 c.l.j.nv, .int .u16 c.l.j.nx, .int .u16 c.l.j.nl, .int .i64 c.l.j.ne, .int .i64 c.l.j.nk, .bool c.l.j.two, .slice p c.l.es.length k, .string c.sn, .int .u16 c.vs, .int .u16 c.hd, .int .i64 (c.nx 0), .int .i64 (c.nx 1), .int .i64 (c.nx 2), .int .i64 (c.nx 3), .int .i64 (c.nx 4), .int .i64 (c.nx 5), .int .i64 (c.nx 6), .int .i64 (c.nx 7), .int .i64 (c.nx 8), .int .i64 (c.nx 9), .int .i64 (c.mt 0), .int .i64 (c.mt 1), .int .i64 (c.mt 2), .int .i64 (c.mt 3), .int .i64 (c.mt 4), .int .i64 (c.mt 5), .int .i64 (c.mt 6), .int .i64 (c.mt 7), .int .i64 (c.mt 8), .int .i64 (c.mt 9)] (w1.setCells Z 0 (coL (restartC c) q d)) := RAll.of ((hg.block X (block_lt HX1.out) (fun e => hXZ (by simpa using e))).trans HX1.out)
  have hO2 : CoOwn W.heap.size (w1.setCells Z 0 (coL (restartC c) q d)) ⟨c, q, d⟩ := WorldRow.kept HO1.out HZ1.out hg
  have hB2 := HB1.out.mono (show w.heap.size ≤ W.heap.size from HBW.out.size)
  have HEND := Lib.hid (show CoRet w (restartC c) (.returned (.agg (coL (restartC c) q d).toArray)) (w1.setCells Z 0 (coL (restartC c) q d)) from
    ⟨q, d, rfl, own_baseC (x := ⟨restartC c, q, d⟩) hO2 HBW.out.size, (HBW.out.trans hB2).grown hg (by have := HBW.out.size; have := HB1.out.size; omega) (fun b e => by simp only [Option.some.injEq] at e; have := HEX.out; have := HEZ.out; omega)⟩)
  clear hg hO2 hB2
  refine wpAnyH_ready (rs := [15]) (by kernel_rfl) (by simp) ?_; refine AllReadyH.cons rfl (fun K hK => ?_) AllReadyH.nil
  rw [if_pos (by rfl)]
  refine wp_store_mid _ _ _ (by rfl) Z 0 (coL (restartC c) q d).toArray (by rfl) (by rfl) HTe.out (by kernel_rfl) (one_all rfl) ?_
  refine hK.out _ _ s2 (fun _ => ?_)
  clear hK K hHeld
  try simp only [zA, zB, zC, Act.put]
  have hHeld := s2
  refine wpAnyH_done (by kernel_rfl) ?_ _
  clear hHeld s2
  go_wp2_with fail
  have hZf : (w1.setCells Z 0 (coL (restartC c) q d)).heap[Z]? = some (.cells (coL (restartC c) q d).toArray 33 (0, 0)) := setCells_full (n := 45) (vs := (coL (restartC c) q d).toArray) HZ1.out rfl rfl
  refine bodyPost_ret (v := .agg (coL (restartC c) q d).toArray) ?_ rfl ?_
  · exact results_cell_row rfl _ _ Z _ _ _ _ (by rfl) hZf Tryz.underlying33 rfl (by kernel_rfl)
  · exact HEND.out
end Go.Proofs.YtbnndbdnejfehaaGreatDoor
