/- Core: methods of an act: an entry of its own behind all. -/
import Derived.Test.YtbnndbdnejfehaaGreatDoorActA
namespace Go.Proofs.YtbnndbdnejfehaaGreatDoor
open Go.ChangeShapes Go.WideShapes Go.ChangeAt Go.RowKit

theorem setL_get : ∀ (vs xs : List Value) (i j : Nat) (_ : j < i ∨ i + vs.length ≤ j), (setL xs i vs)[j]? = xs[j]?
  | [], _, _, _, _ => rfl
  | v :: r, xs, i, j, h => by
    rw [List.length_cons] at h
    rw [setL, setL_get r (xs.set i v) (i + 1) j (by omega), List.getElem?_set_ne (by omega)]
theorem mt_set (c : Co) (q : Option Addr) (d : Nat) {n : Nat} (hn : n < 10) (u : Int) : coL { c with mt := upd c.mt n u } q d = (coL c q d).set (35 + n) (.int .i64 u) := by
  rcases (show n = 0 ∨ n = 1 ∨ n = 2 ∨ n = 3 ∨ n = 4 ∨ n = 5 ∨ n = 6 ∨ n = 7 ∨ n = 8 ∨ n = 9 by omega) with rfl | rfl | rfl | rfl | rfl | rfl | rfl | rfl | rfl | rfl <;> rfl
theorem nx_set (c : Co) (q : Option Addr) (d : Nat) {n : Nat} (hn : n < 10) (u : Int) : coL { c with nx := upd c.nx n u } q d = (coL c q d).set (25 + n) (.int .i64 u) := by
  rcases (show n = 0 ∨ n = 1 ∨ n = 2 ∨ n = 3 ∨ n = 4 ∨ n = 5 ∨ n = 6 ∨ n = 7 ∨ n = 8 ∨ n = 9 by omega) with rfl | rfl | rfl | rfl | rfl | rfl | rfl | rfl | rfl | rfl <;> rfl
theorem ac_nx {w : World} {R n : Nat} {c : Co} {p : Option Addr} {k : Nat} {v : Value} {t : TypeId} (h : w.heap[R]? = some (.cells #[.int .i64 c.id, .int .i64 c.role, .int .i64 c.tm, .int .i64 c.vt, .int .i64 c.ld, .int .i64 c.wt, .int .i64 c.cm, .int .i64 c.sf, .int .i64 c.l.b, .int .i64 c.l.bt, .int .u16 c.l.j.ov, .int .u16 c.l.j.ox, .int .u16 c.l.j.ol, .int .i64 c.l.j.oe, .int .i64 c.l.j.ok, .int .u16 c.l.j.nv, .int .u16 c.l.j.nx, .int .u16 c.l.j.nl, .int .i64 c.l.j.ne, .int .i64 c.l.j.nk, .bool c.l.j.two, .slice p c.l.es.length k, .string c.sn, .int .u16 c.vs, .int .u16 c.hd, .int .i64 (c.nx 0), .int .i64 (c.nx 1), .int .i64 (c.nx 2), .int .i64 (c.nx 3), .int .i64 (c.nx 4), .int .i64 (c.nx 5), .int .i64 (c.nx 6), .int .i64 (c.nx 7), .int .i64 (c.nx 8), .int .i64 (c.nx 9), .int .i64 (c.mt 0), .int .i64 (c.mt 1), .int .i64 (c.mt 2), .int .i64 (c.mt 3), .int .i64 (c.mt 4), .int .i64 (c.mt 5), .int .i64 (c.mt 6), .int .i64 (c.mt 7), .int .i64 (c.mt 8), .int .i64 (c.mt 9), v] t (0, 0))) (hn : n < 10) : w.cell? ⟨R, 25 + n, none⟩ = some (.int .i64 (c.nx n)) := by
  rw [block_cells h]
  rcases (show n = 0 ∨ n = 1 ∨ n = 2 ∨ n = 3 ∨ n = 4 ∨ n = 5 ∨ n = 6 ∨ n = 7 ∨ n = 8 ∨ n = 9 by omega) with rfl | rfl | rfl | rfl | rfl | rfl | rfl | rfl | rfl | rfl <;> rfl
theorem ac_mt {w : World} {R n : Nat} {c : Co} {p : Option Addr} {k : Nat} {v : Value} {t : TypeId} (h : w.heap[R]? = some (.cells #[.int .i64 c.id, .int .i64 c.role, .int .i64 c.tm, .int .i64 c.vt, .int .i64 c.ld, .int .i64 c.wt, .int .i64 c.cm, .int .i64 c.sf, .int .i64 c.l.b, .int .i64 c.l.bt, .int .u16 c.l.j.ov, .int .u16 c.l.j.ox, .int .u16 c.l.j.ol, .int .i64 c.l.j.oe, .int .i64 c.l.j.ok, .int .u16 c.l.j.nv, .int .u16 c.l.j.nx, .int .u16 c.l.j.nl, .int .i64 c.l.j.ne, .int .i64 c.l.j.nk, .bool c.l.j.two, .slice p c.l.es.length k, .string c.sn, .int .u16 c.vs, .int .u16 c.hd, .int .i64 (c.nx 0), .int .i64 (c.nx 1), .int .i64 (c.nx 2), .int .i64 (c.nx 3), .int .i64 (c.nx 4), .int .i64 (c.nx 5), .int .i64 (c.nx 6), .int .i64 (c.nx 7), .int .i64 (c.nx 8), .int .i64 (c.nx 9), .int .i64 (c.mt 0), .int .i64 (c.mt 1), .int .i64 (c.mt 2), .int .i64 (c.mt 3), .int .i64 (c.mt 4), .int .i64 (c.mt 5), .int .i64 (c.mt 6), .int .i64 (c.mt 7), .int .i64 (c.mt 8), .int .i64 (c.mt 9), v] t (0, 0))) (hn : n < 10) : w.cell? ⟨R, 35 + n, none⟩ = some (.int .i64 (c.mt n)) := by
  rw [block_cells h]
  rcases (show n = 0 ∨ n = 1 ∨ n = 2 ∨ n = 3 ∨ n = 4 ∨ n = 5 ∨ n = 6 ∨ n = 7 ∨ n = 8 ∨ n = 9 by omega) with rfl | rfl | rfl | rfl | rfl | rfl | rfl | rfl | rfl | rfl <;> rfl
/-- The class of a region that replaces the log. -/
structure PshS (R X : Nat) (cs es : Array Value) (w' : World) : Prop where
  r : ∀ j, j < 8 ∨ 22 ≤ j → w'.cell? ⟨R, j, none⟩ = cs[j]?
  x : ∀ j, w'.cell? ⟨X, j, none⟩ = es[j]?
theorem PshS.of {R X : Nat} {cs es : Array Value} {t t' : TypeId} {w : World} (hR : w.heap[R]? = some (.cells cs t (0, 0))) (hX : w.heap[X]? = some (.cells es t' (0, 0))) : PshS R X cs es w := ⟨fun j _ => block_cells hR j, block_cells hX⟩
theorem PshS.log {R X : Nat} {cs es : Array Value} {t t' : TypeId} {w : World} (hR : w.heap[R]? = some (.cells cs t (0, 0))) (hX : w.heap[X]? = some (.cells es t' (0, 0))) (hne : X ≠ R) (vs : List Value) (hv : vs.length = 14) : PshS R X cs es (w.setCells R 8 vs) := by
  obtain ⟨h1, h2⟩ := block_setCells vs 8 hR
  refine ⟨fun j hj => ?_, fun j => ?_⟩
  · rw [block_cells h1, List.getElem?_toArray, setL_get _ _ _ _ (by omega), Array.getElem?_toList]
  · rw [block_cells ((h2.block X (block_lt hX) (fun e => hne (by simpa using e))).trans hX)]
structure R35 (R : Nat) (cs : Array Value) (w' : World) : Prop where
  r : ∀ j, j < 35 → w'.cell? ⟨R, j, none⟩ = cs[j]?
theorem push_last (l : Lg) (e : Ent) : (pushL l e).last = l.last + 1 := by unfold pushL Lg.last; simp; omega
theorem push_fit {l : Lg} {e : Ent} (h : LgFit l) (hl : l.es.length < 1000000) : LgFit (pushL l e) := ⟨h.b0, h.b1, by unfold pushL; simp; omega⟩
/-- A row that was made behind the messages' rows is none of theirs. -/
theorem sep_new {B b0 : Nat} {w w' : World} {v : Value} {l : List MsX} {c : Co} {q : Option Addr} {d : Nat} (ho : MsAt B w v l) (hb : w.heap.size ≤ b0) (hq : w'.ownsRow b0 47 14 (.slice q c.l.es.length d) c.l.es.length (entRow c.l.es)) : ∀ z ∈ l, ∀ b, z.bk = some b → CoX.bk ⟨c, q, d⟩ ≠ some b := fun z hz b hzb e => by
  have h1 := ((ho.en z hz).lt b hzb).2
  have h2 := (hq.lt b e).1
  omega

set_option maxRecDepth 100000 in
set_option maxHeartbeats 8000000 in
theorem push_act (B R n : Nat) (c : Co) (p : Option Addr) (k : Nat) (v : Value) (l : List MsX) (e : Ent) (w : World) (h : AcW 69 B w R ⟨c, p, k⟩ v l) (hF : LgFit c.l) (hid : c.id = (n : Int)) (hn : n < 10) (hl : c.l.es.length < 900000) :
    Calls Tryz.prog 77 #[.pointer (some ⟨R, 0, none⟩), .agg #[.int .i64 e.t, .int .i64 e.k, .string e.d, .int .u16 e.j.ov, .int .u16 e.j.ox, .int .u16 e.j.ol, .int .i64 e.j.oe, .int .i64 e.j.ok, .int .u16 e.j.nv, .int .u16 e.j.nx, .int .u16 e.j.nl, .int .i64 e.j.ne, .int .i64 e.j.nk, .bool e.j.two]] w fun r w' => r = .returned (.int .i64 (c.l.last + 1)) ∧ ∃ q d, AcW 69 B w' R ⟨pushC c e, q, d⟩ v l ∧ AcR w w' R v v := by
  obtain ⟨e2, he2⟩ : ∃ e2 : Ent, { e with t := c.tm } = e2 := ⟨_, rfl⟩
  obtain ⟨lg, hlg⟩ : ∃ lg : Lg, pushL c.l e2 = lg := ⟨_, rfl⟩
  obtain ⟨c2, hc2⟩ : ∃ c2 : Co, { c with l := lg } = c2 := ⟨_, rfl⟩
  have hpc : pushC c e = { c2 with mt := upd c2.mt n (c.l.last + 1) } := by
    rw [← hc2, ← hlg, ← he2]; unfold pushC; rw [hid]; rfl
  obtain ⟨W, hW⟩ : ∃ z : World, w.alloc (.cells #[.int .i64 e.t, .int .i64 e.k, .string e.d, .int .u16 e.j.ov, .int .u16 e.j.ox, .int .u16 e.j.ol, .int .i64 e.j.oe, .int .i64 e.j.ok, .int .u16 e.j.nv, .int .u16 e.j.nx, .int .u16 e.j.nl, .int .i64 e.j.ne, .int .i64 e.j.nk, .bool e.j.two] 47) = z := ⟨_, rfl⟩
  obtain ⟨X, eX⟩ : ∃ X, w.heap.size = X := ⟨_, rfl⟩
  have hb : Below w.heap.size w W := by rw [← hW]; exact (Below.refl _ _).alloc (Nat.le_refl _) _
  have hX : W.heap[X]? = some (.cells #[.int .i64 e.t, .int .i64 e.k, .string e.d, .int .u16 e.j.ov, .int .u16 e.j.ox, .int .u16 e.j.ol, .int .i64 e.j.oe, .int .i64 e.j.ok, .int .u16 e.j.nv, .int .u16 e.j.nx, .int .u16 e.j.nl, .int .i64 e.j.ne, .int .i64 e.j.nk, .bool e.j.two] 47 (0, 0)) := by rw [← hW, ← eX]; exact heap_last w _
  have hb2 : Below w.heap.size w (W.setCell ⟨X, 0, none⟩ (.int .i64 c.tm)) := hb.setCell (p := ⟨X, 0, none⟩) (by show w.heap.size ≤ X; omega) _
  have hX2 : (W.setCell ⟨X, 0, none⟩ (.int .i64 c.tm)).heap[X]? = some (.cells #[.int .i64 e2.t, .int .i64 e2.k, .string e2.d, .int .u16 e2.j.ov, .int .u16 e2.j.ox, .int .u16 e2.j.ol, .int .i64 e2.j.oe, .int .i64 e2.j.ok, .int .u16 e2.j.nv, .int .u16 e2.j.nx, .int .u16 e2.j.nl, .int .i64 e2.j.ne, .int .i64 e2.j.nk, .bool e2.j.two] 47 (0, 0)) := by rw [← he2]; exact cells_setW hX 0 _
  have hRX : R < X := by have := h.lt; omega
  have hA1 := h.keep hb
  have hR1 : W.heap[R]? = some (.cells #[.int .i64 c.id, .int .i64 c.role, .int .i64 c.tm, .int .i64 c.vt, .int .i64 c.ld, .int .i64 c.wt, .int .i64 c.cm, .int .i64 c.sf, .int .i64 c.l.b, .int .i64 c.l.bt, .int .u16 c.l.j.ov, .int .u16 c.l.j.ox, .int .u16 c.l.j.ol, .int .i64 c.l.j.oe, .int .i64 c.l.j.ok, .int .u16 c.l.j.nv, .int .u16 c.l.j.nx, .int .u16 c.l.j.nl, .int .i64 c.l.j.ne, .int .i64 c.l.j.nk, .bool c.l.j.two, .slice p c.l.es.length k, .string c.sn, .int .u16 c.vs, .int .u16 c.hd, .int .i64 (c.nx 0), .int .i64 (c.nx 1), .int .i64 (c.nx 2), .int .i64 (c.nx 3), .int .i64 (c.nx 4), .int .i64 (c.nx 5), .int .i64 (c.nx 6), .int .i64 (c.nx 7), .int .i64 (c.nx 8), .int .i64 (c.nx 9), .int .i64 (c.mt 0), .int .i64 (c.mt 1), .int .i64 (c.mt 2), .int .i64 (c.mt 3), .int .i64 (c.mt 4), .int .i64 (c.mt 5), .int .i64 (c.mt 6), .int .i64 (c.mt 7), .int .i64 (c.mt 8), .int .i64 (c.mt 9), v] 69 (0, 0)) := hA1.blk
  have HA2 := Lib.hid (h.keep hb2); have HX2 := Lib.hid hX2; have HB2 := Lib.hid (AcR.below (R := R) (v := v) hb2)
  have HW := Lib.hid hW; have HEX := Lib.hid eX; have HPC := Lib.hid hpc; have HC2 := Lib.hid hc2; have HLG := Lib.hid hlg; have HF : Hid (LgFit c.l) := hF; have HID := Lib.hid hid; have HLE := Lib.hid hl
  have kR := block_cells hR1
  have kX := block_cells hX
  have fX := block_free hX
  rw [hpc]
  have hne : ¬ R = X := by omega
  have hne2 : ¬ X = R := by omega
  clear h hW hb hX hb2 hX2 hA1 hR1 eX hpc hc2 hlg hF hid hl he2 hRX
  go_enter Tryz.func77, Tryz.ntmps77
  go_upto_region 1 with fail
  rw [HW.out]
  (try rw [HEX.out])
  clear HW
  go_upto_region 2 with fail
  obtain ⟨W2, hW2⟩ : ∃ z : World, W.setCell ⟨X, 0, none⟩ (.int .i64 c.tm) = z := ⟨_, rfl⟩
  rw [hW2] at HA2 HX2 HB2 ⊢
  clear hW2 kR kX fX
  have hR2 : W2.heap[R]? = some (.cells #[.int .i64 c.id, .int .i64 c.role, .int .i64 c.tm, .int .i64 c.vt, .int .i64 c.ld, .int .i64 c.wt, .int .i64 c.cm, .int .i64 c.sf, .int .i64 c.l.b, .int .i64 c.l.bt, .int .u16 c.l.j.ov, .int .u16 c.l.j.ox, .int .u16 c.l.j.ol, .int .i64 c.l.j.oe, .int .i64 c.l.j.ok, .int .u16 c.l.j.nv, .int .u16 c.l.j.nx, .int .u16 c.l.j.nl, .int .i64 c.l.j.ne, .int .i64 c.l.j.nk, .bool c.l.j.two, .slice p c.l.es.length k, .string c.sn, .int .u16 c.vs, .int .u16 c.hd, .int .i64 (c.nx 0), .int .i64 (c.nx 1), .int .i64 (c.nx 2), .int .i64 (c.nx 3), .int .i64 (c.nx 4), .int .i64 (c.nx 5), .int .i64 (c.nx 6), .int .i64 (c.nx 7), .int .i64 (c.nx 8), .int .i64 (c.nx 9), .int .i64 (c.mt 0), .int .i64 (c.mt 1), .int .i64 (c.mt 2), .int .i64 (c.mt 3), .int .i64 (c.mt 4), .int .i64 (c.mt 5), .int .i64 (c.mt 6), .int .i64 (c.mt 7), .int .i64 (c.mt 8), .int .i64 (c.mt 9), v] 69 (0, 0)) := HA2.out.blk
  have h0 : PshS R X #[.int .i64 c.id, .int .i64 c.role, .int .i64 c.tm, .int .i64 c.vt, .int .i64 c.ld, .int .i64 c.wt, .int .i64 c.cm, .int .i64 c.sf, .int .i64 c.l.b, .int .i64 c.l.bt, .int .u16 c.l.j.ov, .int .u16 c.l.j.ox, .int .u16 c.l.j.ol, .int .i64 c.l.j.oe, .int .i64 c.l.j.ok, .int .u16 c.l.j.nv, .int .u16 c.l.j.nx, .int .u16 c.l.j.nl, .int .i64 c.l.j.ne, .int .i64 c.l.j.nk, .bool c.l.j.two, .slice p c.l.es.length k, .string c.sn, .int .u16 c.vs, .int .u16 c.hd, .int .i64 (c.nx 0), .int .i64 (c.nx 1), .int .i64 (c.nx 2), .int .i64 (c.nx 3), .int .i64 (c.nx 4), .int .i64 (c.nx 5), .int .i64 (c.nx 6), .int .i64 (c.nx 7), .int .i64 (c.nx 8), .int .i64 (c.nx 9), .int .i64 (c.mt 0), .int .i64 (c.mt 1), .int .i64 (c.mt 2), .int .i64 (c.mt 3), .int .i64 (c.mt 4), .int .i64 (c.mt 5), .int .i64 (c.mt 6), .int .i64 (c.mt 7), .int .i64 (c.mt 8), .int .i64 (c.mt 9), v] #[.int .i64 e2.t, .int .i64 e2.k, .string e2.d, .int .u16 e2.j.ov, .int .u16 e2.j.ox, .int .u16 e2.j.ol, .int .i64 e2.j.oe, .int .i64 e2.j.ok, .int .u16 e2.j.nv, .int .u16 e2.j.nx, .int .u16 e2.j.nl, .int .i64 e2.j.ne, .int .i64 e2.j.nk, .bool e2.j.two] W2.drew := PshS.of (w := W2.drew) hR2 HX2.out
  refine wp_region_held_drew (S := PshS R X #[.int .i64 c.id, .int .i64 c.role, .int .i64 c.tm, .int .i64 c.vt, .int .i64 c.ld, .int .i64 c.wt, .int .i64 c.cm, .int .i64 c.sf, .int .i64 c.l.b, .int .i64 c.l.bt, .int .u16 c.l.j.ov, .int .u16 c.l.j.ox, .int .u16 c.l.j.ol, .int .i64 c.l.j.oe, .int .i64 c.l.j.ok, .int .u16 c.l.j.nv, .int .u16 c.l.j.nx, .int .u16 c.l.j.nl, .int .i64 c.l.j.ne, .int .i64 c.l.j.nk, .bool c.l.j.two, .slice p c.l.es.length k, .string c.sn, .int .u16 c.vs, .int .u16 c.hd, .int .i64 (c.nx 0), .int .i64 (c.nx 1), .int .i64 (c.nx 2), .int .i64 (c.nx 3), .int .i64 (c.nx 4), .int .i64 (c.nx 5), .int .i64 (c.nx 6), .int .i64 (c.nx 7), .int .i64 (c.nx 8), .int .i64 (c.nx 9), .int .i64 (c.mt 0), .int .i64 (c.mt 1), .int .i64 (c.mt 2), .int .i64 (c.mt 3), .int .i64 (c.mt 4), .int .i64 (c.mt 5), .int .i64 (c.mt 6), .int .i64 (c.mt 7), .int .i64 (c.mt 8), .int .i64 (c.mt 9), v] #[.int .i64 e2.t, .int .i64 e2.k, .string e2.d, .int .u16 e2.j.ov, .int .u16 e2.j.ox, .int .u16 e2.j.ol, .int .i64 e2.j.oe, .int .i64 e2.j.ok, .int .u16 e2.j.nv, .int .u16 e2.j.nx, .int .u16 e2.j.nl, .int .i64 e2.j.ne, .int .i64 e2.j.nk, .bool e2.j.two]) (by kernel_rfl) h0 (fun hHeld => ?_)
  have HA3 := Lib.hid (HA2.out.keep (Below.refl _ _).drew)
  have HX3 : Hid (W2.drew.heap[X]? = some (.cells #[.int .i64 e2.t, .int .i64 e2.k, .string e2.d, .int .u16 e2.j.ov, .int .u16 e2.j.ox, .int .u16 e2.j.ol, .int .i64 e2.j.oe, .int .i64 e2.j.ok, .int .u16 e2.j.nv, .int .u16 e2.j.nx, .int .u16 e2.j.nl, .int .i64 e2.j.ne, .int .i64 e2.j.nk, .bool e2.j.two] 47 (0, 0))) := HX2.out
  have HB3 := Lib.hid HB2.out.drew
  obtain ⟨wd, ewd⟩ : ∃ x, W2.drew = x := ⟨_, rfl⟩
  rw [ewd] at h0 hHeld HA3 HX3 HB3 ⊢
  clear ewd hR2 HA2 HX2 HB2
  have kXX : ∀ w', PshS R X #[.int .i64 c.id, .int .i64 c.role, .int .i64 c.tm, .int .i64 c.vt, .int .i64 c.ld, .int .i64 c.wt, .int .i64 c.cm, .int .i64 c.sf, .int .i64 c.l.b, .int .i64 c.l.bt, .int .u16 c.l.j.ov, .int .u16 c.l.j.ox, .int .u16 c.l.j.ol, .int .i64 c.l.j.oe, .int .i64 c.l.j.ok, .int .u16 c.l.j.nv, .int .u16 c.l.j.nx, .int .u16 c.l.j.nl, .int .i64 c.l.j.ne, .int .i64 c.l.j.nk, .bool c.l.j.two, .slice p c.l.es.length k, .string c.sn, .int .u16 c.vs, .int .u16 c.hd, .int .i64 (c.nx 0), .int .i64 (c.nx 1), .int .i64 (c.nx 2), .int .i64 (c.nx 3), .int .i64 (c.nx 4), .int .i64 (c.nx 5), .int .i64 (c.nx 6), .int .i64 (c.nx 7), .int .i64 (c.nx 8), .int .i64 (c.nx 9), .int .i64 (c.mt 0), .int .i64 (c.mt 1), .int .i64 (c.mt 2), .int .i64 (c.mt 3), .int .i64 (c.mt 4), .int .i64 (c.mt 5), .int .i64 (c.mt 6), .int .i64 (c.mt 7), .int .i64 (c.mt 8), .int .i64 (c.mt 9), v] #[.int .i64 e2.t, .int .i64 e2.k, .string e2.d, .int .u16 e2.j.ov, .int .u16 e2.j.ox, .int .u16 e2.j.ol, .int .i64 e2.j.oe, .int .i64 e2.j.ok, .int .u16 e2.j.nv, .int .u16 e2.j.nx, .int .u16 e2.j.nl, .int .i64 e2.j.ne, .int .i64 e2.j.nk, .bool e2.j.two] w' → ∀ j, w'.cell? ⟨X, j, none⟩ = #[.int .i64 e2.t, .int .i64 e2.k, .string e2.d, .int .u16 e2.j.ov, .int .u16 e2.j.ox, .int .u16 e2.j.ol, .int .i64 e2.j.oe, .int .i64 e2.j.ok, .int .u16 e2.j.nv, .int .u16 e2.j.nx, .int .u16 e2.j.nl, .int .i64 e2.j.ne, .int .i64 e2.j.nk, .bool e2.j.two][j]? := fun w' h => h.x
  refine tkL 0 rfl hHeld ?_
  try simp only [zA, zC, Act.put, zD, zE, zF]
  refine tkL 1 rfl hHeld ?_
  try simp only [zA, zB, zC, Act.put, zD, zE, zF]
  refine tkL 2 rfl hHeld ?_
  try simp only [zA, zB, zC, Act.put, zD, zE, zF]
  refine tkL 3 rfl hHeld ?_
  try simp only [zA, zB, zC, Act.put, zD, zE, zF]
  refine tkL 4 rfl hHeld ?_
  try simp only [zA, zB, zC, Act.put, zD, zE, zF]
  refine tkL 6 rfl hHeld ?_
  try simp only [zA, zB, zC, Act.put, zD, zE, zF]
  refine wpAnyH_ready (rs := [5]) (by kernel_rfl) (by simp) ?_; refine AllReadyH.cons rfl (fun K hK => ?_) AllReadyH.nil
  have hRd : wd.heap[R]? = some (.cells #[.int .i64 c.id, .int .i64 c.role, .int .i64 c.tm, .int .i64 c.vt, .int .i64 c.ld, .int .i64 c.wt, .int .i64 c.cm, .int .i64 c.sf, .int .i64 c.l.b, .int .i64 c.l.bt, .int .u16 c.l.j.ov, .int .u16 c.l.j.ox, .int .u16 c.l.j.ol, .int .i64 c.l.j.oe, .int .i64 c.l.j.ok, .int .u16 c.l.j.nv, .int .u16 c.l.j.nx, .int .u16 c.l.j.nl, .int .i64 c.l.j.ne, .int .i64 c.l.j.nk, .bool c.l.j.two, .slice p c.l.es.length k, .string c.sn, .int .u16 c.vs, .int .u16 c.hd, .int .i64 (c.nx 0), .int .i64 (c.nx 1), .int .i64 (c.nx 2), .int .i64 (c.nx 3), .int .i64 (c.nx 4), .int .i64 (c.nx 5), .int .i64 (c.nx 6), .int .i64 (c.nx 7), .int .i64 (c.nx 8), .int .i64 (c.nx 9), .int .i64 (c.mt 0), .int .i64 (c.mt 1), .int .i64 (c.mt 2), .int .i64 (c.mt 3), .int .i64 (c.mt 4), .int .i64 (c.mt 5), .int .i64 (c.mt 6), .int .i64 (c.mt 7), .int .i64 (c.mt 8), .int .i64 (c.mt 9), v] 69 (0, 0)) := HA3.out.blk
  have kRd := block_cells hRd
  try simp only [zA, zB, zC]
  go_simp
  refine hK.out _ _ hHeld (fun _ => ?_)
  clear hK K kRd hRd
  try simp only [zA, zB, zC, Act.put, zD, zE, zF]
  refine wpAnyH_ready (rs := [7]) (by kernel_rfl) (by simp) ?_; refine AllReadyH.cons rfl (fun K hK => ?_) AllReadyH.nil; (try simp only [zA, zB, zC]); go_simp
  refine (show Calls Tryz.prog _ _ wd (LgEnd wd.heap.size wd lg) from by have := push_any c.l p k e2 wd (EnSl.of_own HA3.out.en) (by have := HLE.out; omega); rw [HLG.out] at this; exact this).mono ?_; rintro r0 w3 ⟨q, d, rfl, ho, b3⟩
  have hA4 := HA3.out.keep b3
  have hR4 : w3.heap[R]? = some (.cells #[.int .i64 c.id, .int .i64 c.role, .int .i64 c.tm, .int .i64 c.vt, .int .i64 c.ld, .int .i64 c.wt, .int .i64 c.cm, .int .i64 c.sf, .int .i64 c.l.b, .int .i64 c.l.bt, .int .u16 c.l.j.ov, .int .u16 c.l.j.ox, .int .u16 c.l.j.ol, .int .i64 c.l.j.oe, .int .i64 c.l.j.ok, .int .u16 c.l.j.nv, .int .u16 c.l.j.nx, .int .u16 c.l.j.nl, .int .i64 c.l.j.ne, .int .i64 c.l.j.nk, .bool c.l.j.two, .slice p c.l.es.length k, .string c.sn, .int .u16 c.vs, .int .u16 c.hd, .int .i64 (c.nx 0), .int .i64 (c.nx 1), .int .i64 (c.nx 2), .int .i64 (c.nx 3), .int .i64 (c.nx 4), .int .i64 (c.nx 5), .int .i64 (c.nx 6), .int .i64 (c.nx 7), .int .i64 (c.nx 8), .int .i64 (c.nx 9), .int .i64 (c.mt 0), .int .i64 (c.mt 1), .int .i64 (c.mt 2), .int .i64 (c.mt 3), .int .i64 (c.mt 4), .int .i64 (c.mt 5), .int .i64 (c.mt 6), .int .i64 (c.mt 7), .int .i64 (c.mt 8), .int .i64 (c.mt 9), v] 69 (0, 0)) := hA4.blk
  have hX4 := below_block b3 (block_lt HX3.out) HX3.out
  have S3 : PshS R X #[.int .i64 c.id, .int .i64 c.role, .int .i64 c.tm, .int .i64 c.vt, .int .i64 c.ld, .int .i64 c.wt, .int .i64 c.cm, .int .i64 c.sf, .int .i64 c.l.b, .int .i64 c.l.bt, .int .u16 c.l.j.ov, .int .u16 c.l.j.ox, .int .u16 c.l.j.ol, .int .i64 c.l.j.oe, .int .i64 c.l.j.ok, .int .u16 c.l.j.nv, .int .u16 c.l.j.nx, .int .u16 c.l.j.nl, .int .i64 c.l.j.ne, .int .i64 c.l.j.nk, .bool c.l.j.two, .slice p c.l.es.length k, .string c.sn, .int .u16 c.vs, .int .u16 c.hd, .int .i64 (c.nx 0), .int .i64 (c.nx 1), .int .i64 (c.nx 2), .int .i64 (c.nx 3), .int .i64 (c.nx 4), .int .i64 (c.nx 5), .int .i64 (c.nx 6), .int .i64 (c.nx 7), .int .i64 (c.nx 8), .int .i64 (c.nx 9), .int .i64 (c.mt 0), .int .i64 (c.mt 1), .int .i64 (c.mt 2), .int .i64 (c.mt 3), .int .i64 (c.mt 4), .int .i64 (c.mt 5), .int .i64 (c.mt 6), .int .i64 (c.mt 7), .int .i64 (c.mt 8), .int .i64 (c.mt 9), v] #[.int .i64 e2.t, .int .i64 e2.k, .string e2.d, .int .u16 e2.j.ov, .int .u16 e2.j.ox, .int .u16 e2.j.ol, .int .i64 e2.j.oe, .int .i64 e2.j.ok, .int .u16 e2.j.nv, .int .u16 e2.j.nx, .int .u16 e2.j.nl, .int .i64 e2.j.ne, .int .i64 e2.j.nk, .bool e2.j.two] w3 := PshS.of hR4 hX4
  have S4 : PshS R X #[.int .i64 c.id, .int .i64 c.role, .int .i64 c.tm, .int .i64 c.vt, .int .i64 c.ld, .int .i64 c.wt, .int .i64 c.cm, .int .i64 c.sf, .int .i64 c.l.b, .int .i64 c.l.bt, .int .u16 c.l.j.ov, .int .u16 c.l.j.ox, .int .u16 c.l.j.ol, .int .i64 c.l.j.oe, .int .i64 c.l.j.ok, .int .u16 c.l.j.nv, .int .u16 c.l.j.nx, .int .u16 c.l.j.nl, .int .i64 c.l.j.ne, .int .i64 c.l.j.nk, .bool c.l.j.two, .slice p c.l.es.length k, .string c.sn, .int .u16 c.vs, .int .u16 c.hd, .int .i64 (c.nx 0), .int .i64 (c.nx 1), .int .i64 (c.nx 2), .int .i64 (c.nx 3), .int .i64 (c.nx 4), .int .i64 (c.nx 5), .int .i64 (c.nx 6), .int .i64 (c.nx 7), .int .i64 (c.nx 8), .int .i64 (c.nx 9), .int .i64 (c.mt 0), .int .i64 (c.mt 1), .int .i64 (c.mt 2), .int .i64 (c.mt 3), .int .i64 (c.mt 4), .int .i64 (c.mt 5), .int .i64 (c.mt 6), .int .i64 (c.mt 7), .int .i64 (c.mt 8), .int .i64 (c.mt 9), v] #[.int .i64 e2.t, .int .i64 e2.k, .string e2.d, .int .u16 e2.j.ov, .int .u16 e2.j.ox, .int .u16 e2.j.ol, .int .i64 e2.j.oe, .int .i64 e2.j.ok, .int .u16 e2.j.nv, .int .u16 e2.j.nx, .int .u16 e2.j.nl, .int .i64 e2.j.ne, .int .i64 e2.j.nk, .bool e2.j.two] (w3.setCells R 8 [.int .i64 lg.b, .int .i64 lg.bt, .int .u16 lg.j.ov, .int .u16 lg.j.ox, .int .u16 lg.j.ol, .int .i64 lg.j.oe, .int .i64 lg.j.ok, .int .u16 lg.j.nv, .int .u16 lg.j.nx, .int .u16 lg.j.nl, .int .i64 lg.j.ne, .int .i64 lg.j.nk, .bool lg.j.two, .slice q lg.es.length d]) := PshS.log hR4 hX4 hne2 _ rfl
  have ho2 : w3.ownsRow wd.heap.size 47 14 (.slice q ({ c with l := lg } : Co).l.es.length d) ({ c with l := lg } : Co).l.es.length (entRow ({ c with l := lg } : Co).l.es) := ho
  have hp := hA4.puts 8 [.int .i64 lg.b, .int .i64 lg.bt, .int .u16 lg.j.ov, .int .u16 lg.j.ox, .int .u16 lg.j.ol, .int .i64 lg.j.oe, .int .i64 lg.j.ok, .int .u16 lg.j.nv, .int .u16 lg.j.nx, .int .u16 lg.j.nl, .int .i64 lg.j.ne, .int .i64 lg.j.nk, .bool lg.j.two, .slice q lg.es.length d] (by show 8 + 14 ≤ 45; decide) ⟨{ c with l := lg }, q, d⟩ rfl (ho2.mono (by have := HA3.out.le; have := HA3.out.lt; omega)) (sep_new HA3.out.out (Nat.le_refl _) ho2)
  rw [HC2.out] at hp
  have HA5 := Lib.hid hp.1
  have HB5 := Lib.hid ((HB3.out.trans (AcR.below b3)).trans hp.2)
  have HT := Lib.hid (there_of_block (o := 8) (n := 14) hR4 (by show 8 + 14 ≤ 46; decide))
  refine hK.out _ _ S3 (fun _ => ?_)
  clear hK K ho ho2 b3 hA4 hR4 hX4 hp HA3 HX3 HB3 kXX hHeld h0
  try simp only [zA, zB, zC, Act.put, zD, zE, zF]
  have hHeld := S3
  refine tkL 8 rfl hHeld ?_
  try simp only [zA, zB, zC, Act.put, zD, zE, zF]
  refine tkL 9 rfl hHeld ?_
  try simp only [zA, zB, zC, Act.put, zD, zE, zF]
  refine tkL 10 rfl hHeld ?_
  try simp only [zA, zB, zC, Act.put, zD, zE, zF]
  refine wpAnyH_ready (rs := [11]) (by kernel_rfl) (by simp) ?_; refine AllReadyH.cons rfl (fun K hK => ?_) AllReadyH.nil
  rw [if_pos (by rfl)]
  refine wp_store_mid _ _ _ (by rfl) R 8 #[.int .i64 lg.b, .int .i64 lg.bt, .int .u16 lg.j.ov, .int .u16 lg.j.ox, .int .u16 lg.j.ol, .int .i64 lg.j.oe, .int .i64 lg.j.ok, .int .u16 lg.j.nv, .int .u16 lg.j.nx, .int .u16 lg.j.nl, .int .i64 lg.j.ne, .int .i64 lg.j.nk, .bool lg.j.two, .slice q lg.es.length d] (by rfl) (by rfl) HT.out (by kernel_rfl) (one_all rfl) ?_
  refine hK.out _ _ S4 (fun _ => ?_)
  clear hK K hHeld S3 S4 HT
  try simp only [zA, zB, zC, Act.put]
  refine wpAnyH_done (by kernel_rfl) ?_ _
  obtain ⟨W5, hW5⟩ : ∃ z : World, w3.setCells R 8 [.int .i64 lg.b, .int .i64 lg.bt, .int .u16 lg.j.ov, .int .u16 lg.j.ox, .int .u16 lg.j.ol, .int .i64 lg.j.oe, .int .i64 lg.j.ok, .int .u16 lg.j.nv, .int .u16 lg.j.nx, .int .u16 lg.j.nl, .int .i64 lg.j.ne, .int .i64 lg.j.nk, .bool lg.j.two, .slice q lg.es.length d] = z := ⟨_, rfl⟩
  rw [hW5] at HA5 HB5
  (try rw [hW5])
  (try rw [show w3.setCells R 8 (#[.int .i64 lg.b, .int .i64 lg.bt, .int .u16 lg.j.ov, .int .u16 lg.j.ox, .int .u16 lg.j.ol, .int .i64 lg.j.oe, .int .i64 lg.j.ok, .int .u16 lg.j.nv, .int .u16 lg.j.nx, .int .u16 lg.j.nl, .int .i64 lg.j.ne, .int .i64 lg.j.nk, .bool lg.j.two, .slice q lg.es.length d] : Array Value).toList = W5 from hW5])
  clear hW5
  have hl2 : c2.l = pushL c.l e2 := by rw [← HC2.out, HLG.out]
  have HF2 : Hid (LgFit c2.l) := by show LgFit c2.l; rw [hl2]; exact push_fit HF.out (by have := HLE.out; omega)
  have HL2 : Hid (c2.l.last = c.l.last + 1) := by show _ = _; rw [hl2, push_last]
  have HI2 : Hid (c2.id = (n : Int)) := by show _ = _; rw [← HID.out, ← HC2.out]
  clear hl2
  have hR5 : W5.heap[R]? = some (.cells #[.int .i64 c2.id, .int .i64 c2.role, .int .i64 c2.tm, .int .i64 c2.vt, .int .i64 c2.ld, .int .i64 c2.wt, .int .i64 c2.cm, .int .i64 c2.sf, .int .i64 c2.l.b, .int .i64 c2.l.bt, .int .u16 c2.l.j.ov, .int .u16 c2.l.j.ox, .int .u16 c2.l.j.ol, .int .i64 c2.l.j.oe, .int .i64 c2.l.j.ok, .int .u16 c2.l.j.nv, .int .u16 c2.l.j.nx, .int .u16 c2.l.j.nl, .int .i64 c2.l.j.ne, .int .i64 c2.l.j.nk, .bool c2.l.j.two, .slice q c2.l.es.length d, .string c2.sn, .int .u16 c2.vs, .int .u16 c2.hd, .int .i64 (c2.nx 0), .int .i64 (c2.nx 1), .int .i64 (c2.nx 2), .int .i64 (c2.nx 3), .int .i64 (c2.nx 4), .int .i64 (c2.nx 5), .int .i64 (c2.nx 6), .int .i64 (c2.nx 7), .int .i64 (c2.nx 8), .int .i64 (c2.nx 9), .int .i64 (c2.mt 0), .int .i64 (c2.mt 1), .int .i64 (c2.mt 2), .int .i64 (c2.mt 3), .int .i64 (c2.mt 4), .int .i64 (c2.mt 5), .int .i64 (c2.mt 6), .int .i64 (c2.mt 7), .int .i64 (c2.mt 8), .int .i64 (c2.mt 9), v] 69 (0, 0)) := HA5.out.blk
  have kR := block_cells hR5
  obtain ⟨L, hL⟩ : ∃ L, c.l.last + 1 = L := ⟨_, rfl⟩
  have HCL := Lib.hid (show Calls Tryz.prog 64 #[.agg #[.int .i64 c2.l.b, .int .i64 c2.l.bt, .int .u16 c2.l.j.ov, .int .u16 c2.l.j.ox, .int .u16 c2.l.j.ol, .int .i64 c2.l.j.oe, .int .i64 c2.l.j.ok, .int .u16 c2.l.j.nv, .int .u16 c2.l.j.nx, .int .u16 c2.l.j.nl, .int .i64 c2.l.j.ne, .int .i64 c2.l.j.nk, .bool c2.l.j.two, .slice q c2.l.es.length d]] W5 fun r w2 => r = .returned (.int .i64 L) ∧ Below W5.heap.size W5 w2 from by have := last_any c2.l q d W5 HF2.out.b0 HF2.out.b1 HF2.out.n; rw [HL2.out, hL] at this; exact this)
  have HLL := Lib.hid hL
  clear hR5 hL
  go_wp2_with fail
  refine HCL.out.mono ?_; rintro r w6 ⟨rfl, b6⟩
  have HA6 := Lib.hid (HA5.out.keep b6); have HB6 := Lib.hid (HB5.out.trans (AcR.below b6))
  clear b6 HCL kR HA5 HB5
  have hR6 : w6.heap[R]? = some (.cells #[.int .i64 c2.id, .int .i64 c2.role, .int .i64 c2.tm, .int .i64 c2.vt, .int .i64 c2.ld, .int .i64 c2.wt, .int .i64 c2.cm, .int .i64 c2.sf, .int .i64 c2.l.b, .int .i64 c2.l.bt, .int .u16 c2.l.j.ov, .int .u16 c2.l.j.ox, .int .u16 c2.l.j.ol, .int .i64 c2.l.j.oe, .int .i64 c2.l.j.ok, .int .u16 c2.l.j.nv, .int .u16 c2.l.j.nx, .int .u16 c2.l.j.nl, .int .i64 c2.l.j.ne, .int .i64 c2.l.j.nk, .bool c2.l.j.two, .slice q c2.l.es.length d, .string c2.sn, .int .u16 c2.vs, .int .u16 c2.hd, .int .i64 (c2.nx 0), .int .i64 (c2.nx 1), .int .i64 (c2.nx 2), .int .i64 (c2.nx 3), .int .i64 (c2.nx 4), .int .i64 (c2.nx 5), .int .i64 (c2.nx 6), .int .i64 (c2.nx 7), .int .i64 (c2.nx 8), .int .i64 (c2.nx 9), .int .i64 (c2.mt 0), .int .i64 (c2.mt 1), .int .i64 (c2.mt 2), .int .i64 (c2.mt 3), .int .i64 (c2.mt 4), .int .i64 (c2.mt 5), .int .i64 (c2.mt 6), .int .i64 (c2.mt 7), .int .i64 (c2.mt 8), .int .i64 (c2.mt 9), v] 69 (0, 0)) := HA6.out.blk
  have k0 : w6.cell? ⟨R, 0, none⟩ = some (.int .i64 (n : Int)) := by rw [← HI2.out]; exact block_cells hR6 0
  have kM := ac_mt hR6 hn
  have fM := block_free hR6 (35 + n)
  have hn0 : 0 ≤ (n : Int) := by omega
  have hn1 : (n : Int) < 10 := by omega
  have hp := HA6.out.put (35 + n) (.int .i64 L) (by omega) ⟨{ c2 with mt := upd c2.mt n L }, q, d⟩ (mt_set c2 q d hn L) rfl rfl rfl
  have HP := Lib.hid (And.intro (hp.1.keep (Below.refl _ _).drew) (HB6.out.trans hp.2).drew)
  clear hR6 hp HA6 HB6
  go_upto_region 4 with fail
  apply cut2W
  · intro hcut
    go_region_law (fail)
    all_goals exact hcut
  go_wp2_with fail
  go_ret
  rw [HLL.out]
  exact ⟨rfl, q, d, HP.out.1, HP.out.2⟩
set_option maxRecDepth 100000 in
set_option maxHeartbeats 8000000 in
theorem rpush_act (B R n : Nat) (c : Co) (p : Option Addr) (k : Nat) (v : Value) (l : List MsX) (e : Ent) (w : World) (h : AcW 76 B w R ⟨c, p, k⟩ v l) (hF : LgFit c.l) (hid : c.id = (n : Int)) (hn : n < 10) (hl : c.l.es.length < 900000) :
    Calls Tryz.prog 80 #[.pointer (some ⟨R, 0, none⟩), .agg #[.int .i64 e.t, .int .i64 e.k, .string e.d, .int .u16 e.j.ov, .int .u16 e.j.ox, .int .u16 e.j.ol, .int .i64 e.j.oe, .int .i64 e.j.ok, .int .u16 e.j.nv, .int .u16 e.j.nx, .int .u16 e.j.nl, .int .i64 e.j.ne, .int .i64 e.j.nk, .bool e.j.two]] w fun r w' => r = .returned (.tuple #[]) ∧ ∃ q d, AcW 76 B w' R ⟨pushC c e, q, d⟩ v l ∧ AcR w w' R v v := by
  obtain ⟨e2, he2⟩ : ∃ e2 : Ent, { e with t := c.tm } = e2 := ⟨_, rfl⟩
  obtain ⟨lg, hlg⟩ : ∃ lg : Lg, pushL c.l e2 = lg := ⟨_, rfl⟩
  obtain ⟨c2, hc2⟩ : ∃ c2 : Co, { c with l := lg } = c2 := ⟨_, rfl⟩
  have hpc : pushC c e = { c2 with mt := upd c2.mt n (c.l.last + 1) } := by
    rw [← hc2, ← hlg, ← he2]; unfold pushC; rw [hid]; rfl
  obtain ⟨W, hW⟩ : ∃ z : World, w.alloc (.cells #[.int .i64 e.t, .int .i64 e.k, .string e.d, .int .u16 e.j.ov, .int .u16 e.j.ox, .int .u16 e.j.ol, .int .i64 e.j.oe, .int .i64 e.j.ok, .int .u16 e.j.nv, .int .u16 e.j.nx, .int .u16 e.j.nl, .int .i64 e.j.ne, .int .i64 e.j.nk, .bool e.j.two] 47) = z := ⟨_, rfl⟩
  obtain ⟨X, eX⟩ : ∃ X, w.heap.size = X := ⟨_, rfl⟩
  have hb : Below w.heap.size w W := by rw [← hW]; exact (Below.refl _ _).alloc (Nat.le_refl _) _
  have hX : W.heap[X]? = some (.cells #[.int .i64 e.t, .int .i64 e.k, .string e.d, .int .u16 e.j.ov, .int .u16 e.j.ox, .int .u16 e.j.ol, .int .i64 e.j.oe, .int .i64 e.j.ok, .int .u16 e.j.nv, .int .u16 e.j.nx, .int .u16 e.j.nl, .int .i64 e.j.ne, .int .i64 e.j.nk, .bool e.j.two] 47 (0, 0)) := by rw [← hW, ← eX]; exact heap_last w _
  have hb2 : Below w.heap.size w (W.setCell ⟨X, 0, none⟩ (.int .i64 c.tm)) := hb.setCell (p := ⟨X, 0, none⟩) (by show w.heap.size ≤ X; omega) _
  have hX2 : (W.setCell ⟨X, 0, none⟩ (.int .i64 c.tm)).heap[X]? = some (.cells #[.int .i64 e2.t, .int .i64 e2.k, .string e2.d, .int .u16 e2.j.ov, .int .u16 e2.j.ox, .int .u16 e2.j.ol, .int .i64 e2.j.oe, .int .i64 e2.j.ok, .int .u16 e2.j.nv, .int .u16 e2.j.nx, .int .u16 e2.j.nl, .int .i64 e2.j.ne, .int .i64 e2.j.nk, .bool e2.j.two] 47 (0, 0)) := by rw [← he2]; exact cells_setW hX 0 _
  have hRX : R < X := by have := h.lt; omega
  have hA1 := h.keep hb
  have hR1 : W.heap[R]? = some (.cells #[.int .i64 c.id, .int .i64 c.role, .int .i64 c.tm, .int .i64 c.vt, .int .i64 c.ld, .int .i64 c.wt, .int .i64 c.cm, .int .i64 c.sf, .int .i64 c.l.b, .int .i64 c.l.bt, .int .u16 c.l.j.ov, .int .u16 c.l.j.ox, .int .u16 c.l.j.ol, .int .i64 c.l.j.oe, .int .i64 c.l.j.ok, .int .u16 c.l.j.nv, .int .u16 c.l.j.nx, .int .u16 c.l.j.nl, .int .i64 c.l.j.ne, .int .i64 c.l.j.nk, .bool c.l.j.two, .slice p c.l.es.length k, .string c.sn, .int .u16 c.vs, .int .u16 c.hd, .int .i64 (c.nx 0), .int .i64 (c.nx 1), .int .i64 (c.nx 2), .int .i64 (c.nx 3), .int .i64 (c.nx 4), .int .i64 (c.nx 5), .int .i64 (c.nx 6), .int .i64 (c.nx 7), .int .i64 (c.nx 8), .int .i64 (c.nx 9), .int .i64 (c.mt 0), .int .i64 (c.mt 1), .int .i64 (c.mt 2), .int .i64 (c.mt 3), .int .i64 (c.mt 4), .int .i64 (c.mt 5), .int .i64 (c.mt 6), .int .i64 (c.mt 7), .int .i64 (c.mt 8), .int .i64 (c.mt 9), v] 76 (0, 0)) := hA1.blk
  have HA2 := Lib.hid (h.keep hb2); have HX2 := Lib.hid hX2; have HB2 := Lib.hid (AcR.below (R := R) (v := v) hb2)
  have HW := Lib.hid hW; have HEX := Lib.hid eX; have HPC := Lib.hid hpc; have HC2 := Lib.hid hc2; have HLG := Lib.hid hlg; have HF : Hid (LgFit c.l) := hF; have HID := Lib.hid hid; have HLE := Lib.hid hl
  have kR := block_cells hR1
  have kX := block_cells hX
  have fX := block_free hX
  rw [hpc]
  have hne : ¬ R = X := by omega
  have hne2 : ¬ X = R := by omega
  clear h hW hb hX hb2 hX2 hA1 hR1 eX hpc hc2 hlg hF hid hl he2 hRX
  go_enter Tryz.func80, Tryz.ntmps80
  go_upto_region 1 with fail
  rw [HW.out]
  (try rw [HEX.out])
  clear HW
  go_upto_region 2 with fail
  obtain ⟨W2, hW2⟩ : ∃ z : World, W.setCell ⟨X, 0, none⟩ (.int .i64 c.tm) = z := ⟨_, rfl⟩
  rw [hW2] at HA2 HX2 HB2 ⊢
  clear hW2 kR kX fX
  have hR2 : W2.heap[R]? = some (.cells #[.int .i64 c.id, .int .i64 c.role, .int .i64 c.tm, .int .i64 c.vt, .int .i64 c.ld, .int .i64 c.wt, .int .i64 c.cm, .int .i64 c.sf, .int .i64 c.l.b, .int .i64 c.l.bt, .int .u16 c.l.j.ov, .int .u16 c.l.j.ox, .int .u16 c.l.j.ol, .int .i64 c.l.j.oe, .int .i64 c.l.j.ok, .int .u16 c.l.j.nv, .int .u16 c.l.j.nx, .int .u16 c.l.j.nl, .int .i64 c.l.j.ne, .int .i64 c.l.j.nk, .bool c.l.j.two, .slice p c.l.es.length k, .string c.sn, .int .u16 c.vs, .int .u16 c.hd, .int .i64 (c.nx 0), .int .i64 (c.nx 1), .int .i64 (c.nx 2), .int .i64 (c.nx 3), .int .i64 (c.nx 4), .int .i64 (c.nx 5), .int .i64 (c.nx 6), .int .i64 (c.nx 7), .int .i64 (c.nx 8), .int .i64 (c.nx 9), .int .i64 (c.mt 0), .int .i64 (c.mt 1), .int .i64 (c.mt 2), .int .i64 (c.mt 3), .int .i64 (c.mt 4), .int .i64 (c.mt 5), .int .i64 (c.mt 6), .int .i64 (c.mt 7), .int .i64 (c.mt 8), .int .i64 (c.mt 9), v] 76 (0, 0)) := HA2.out.blk
  have h0 : PshS R X #[.int .i64 c.id, .int .i64 c.role, .int .i64 c.tm, .int .i64 c.vt, .int .i64 c.ld, .int .i64 c.wt, .int .i64 c.cm, .int .i64 c.sf, .int .i64 c.l.b, .int .i64 c.l.bt, .int .u16 c.l.j.ov, .int .u16 c.l.j.ox, .int .u16 c.l.j.ol, .int .i64 c.l.j.oe, .int .i64 c.l.j.ok, .int .u16 c.l.j.nv, .int .u16 c.l.j.nx, .int .u16 c.l.j.nl, .int .i64 c.l.j.ne, .int .i64 c.l.j.nk, .bool c.l.j.two, .slice p c.l.es.length k, .string c.sn, .int .u16 c.vs, .int .u16 c.hd, .int .i64 (c.nx 0), .int .i64 (c.nx 1), .int .i64 (c.nx 2), .int .i64 (c.nx 3), .int .i64 (c.nx 4), .int .i64 (c.nx 5), .int .i64 (c.nx 6), .int .i64 (c.nx 7), .int .i64 (c.nx 8), .int .i64 (c.nx 9), .int .i64 (c.mt 0), .int .i64 (c.mt 1), .int .i64 (c.mt 2), .int .i64 (c.mt 3), .int .i64 (c.mt 4), .int .i64 (c.mt 5), .int .i64 (c.mt 6), .int .i64 (c.mt 7), .int .i64 (c.mt 8), .int .i64 (c.mt 9), v] #[.int .i64 e2.t, .int .i64 e2.k, .string e2.d, .int .u16 e2.j.ov, .int .u16 e2.j.ox, .int .u16 e2.j.ol, .int .i64 e2.j.oe, .int .i64 e2.j.ok, .int .u16 e2.j.nv, .int .u16 e2.j.nx, .int .u16 e2.j.nl, .int .i64 e2.j.ne, .int .i64 e2.j.nk, .bool e2.j.two] W2.drew := PshS.of (w := W2.drew) hR2 HX2.out
  refine wp_region_held_drew (S := PshS R X #[.int .i64 c.id, .int .i64 c.role, .int .i64 c.tm, .int .i64 c.vt, .int .i64 c.ld, .int .i64 c.wt, .int .i64 c.cm, .int .i64 c.sf, .int .i64 c.l.b, .int .i64 c.l.bt, .int .u16 c.l.j.ov, .int .u16 c.l.j.ox, .int .u16 c.l.j.ol, .int .i64 c.l.j.oe, .int .i64 c.l.j.ok, .int .u16 c.l.j.nv, .int .u16 c.l.j.nx, .int .u16 c.l.j.nl, .int .i64 c.l.j.ne, .int .i64 c.l.j.nk, .bool c.l.j.two, .slice p c.l.es.length k, .string c.sn, .int .u16 c.vs, .int .u16 c.hd, .int .i64 (c.nx 0), .int .i64 (c.nx 1), .int .i64 (c.nx 2), .int .i64 (c.nx 3), .int .i64 (c.nx 4), .int .i64 (c.nx 5), .int .i64 (c.nx 6), .int .i64 (c.nx 7), .int .i64 (c.nx 8), .int .i64 (c.nx 9), .int .i64 (c.mt 0), .int .i64 (c.mt 1), .int .i64 (c.mt 2), .int .i64 (c.mt 3), .int .i64 (c.mt 4), .int .i64 (c.mt 5), .int .i64 (c.mt 6), .int .i64 (c.mt 7), .int .i64 (c.mt 8), .int .i64 (c.mt 9), v] #[.int .i64 e2.t, .int .i64 e2.k, .string e2.d, .int .u16 e2.j.ov, .int .u16 e2.j.ox, .int .u16 e2.j.ol, .int .i64 e2.j.oe, .int .i64 e2.j.ok, .int .u16 e2.j.nv, .int .u16 e2.j.nx, .int .u16 e2.j.nl, .int .i64 e2.j.ne, .int .i64 e2.j.nk, .bool e2.j.two]) (by kernel_rfl) h0 (fun hHeld => ?_)
  have HA3 := Lib.hid (HA2.out.keep (Below.refl _ _).drew)
  have HX3 : Hid (W2.drew.heap[X]? = some (.cells #[.int .i64 e2.t, .int .i64 e2.k, .string e2.d, .int .u16 e2.j.ov, .int .u16 e2.j.ox, .int .u16 e2.j.ol, .int .i64 e2.j.oe, .int .i64 e2.j.ok, .int .u16 e2.j.nv, .int .u16 e2.j.nx, .int .u16 e2.j.nl, .int .i64 e2.j.ne, .int .i64 e2.j.nk, .bool e2.j.two] 47 (0, 0))) := HX2.out
  have HB3 := Lib.hid HB2.out.drew
  obtain ⟨wd, ewd⟩ : ∃ x, W2.drew = x := ⟨_, rfl⟩
  rw [ewd] at h0 hHeld HA3 HX3 HB3 ⊢
  clear ewd hR2 HA2 HX2 HB2
  have kXX : ∀ w', PshS R X #[.int .i64 c.id, .int .i64 c.role, .int .i64 c.tm, .int .i64 c.vt, .int .i64 c.ld, .int .i64 c.wt, .int .i64 c.cm, .int .i64 c.sf, .int .i64 c.l.b, .int .i64 c.l.bt, .int .u16 c.l.j.ov, .int .u16 c.l.j.ox, .int .u16 c.l.j.ol, .int .i64 c.l.j.oe, .int .i64 c.l.j.ok, .int .u16 c.l.j.nv, .int .u16 c.l.j.nx, .int .u16 c.l.j.nl, .int .i64 c.l.j.ne, .int .i64 c.l.j.nk, .bool c.l.j.two, .slice p c.l.es.length k, .string c.sn, .int .u16 c.vs, .int .u16 c.hd, .int .i64 (c.nx 0), .int .i64 (c.nx 1), .int .i64 (c.nx 2), .int .i64 (c.nx 3), .int .i64 (c.nx 4), .int .i64 (c.nx 5), .int .i64 (c.nx 6), .int .i64 (c.nx 7), .int .i64 (c.nx 8), .int .i64 (c.nx 9), .int .i64 (c.mt 0), .int .i64 (c.mt 1), .int .i64 (c.mt 2), .int .i64 (c.mt 3), .int .i64 (c.mt 4), .int .i64 (c.mt 5), .int .i64 (c.mt 6), .int .i64 (c.mt 7), .int .i64 (c.mt 8), .int .i64 (c.mt 9), v] #[.int .i64 e2.t, .int .i64 e2.k, .string e2.d, .int .u16 e2.j.ov, .int .u16 e2.j.ox, .int .u16 e2.j.ol, .int .i64 e2.j.oe, .int .i64 e2.j.ok, .int .u16 e2.j.nv, .int .u16 e2.j.nx, .int .u16 e2.j.nl, .int .i64 e2.j.ne, .int .i64 e2.j.nk, .bool e2.j.two] w' → ∀ j, w'.cell? ⟨X, j, none⟩ = #[.int .i64 e2.t, .int .i64 e2.k, .string e2.d, .int .u16 e2.j.ov, .int .u16 e2.j.ox, .int .u16 e2.j.ol, .int .i64 e2.j.oe, .int .i64 e2.j.ok, .int .u16 e2.j.nv, .int .u16 e2.j.nx, .int .u16 e2.j.nl, .int .i64 e2.j.ne, .int .i64 e2.j.nk, .bool e2.j.two][j]? := fun w' h => h.x
  refine tkL 0 rfl hHeld ?_
  try simp only [zA, zC, Act.put, zD, zE, zF]
  refine tkL 1 rfl hHeld ?_
  try simp only [zA, zB, zC, Act.put, zD, zE, zF]
  refine tkL 2 rfl hHeld ?_
  try simp only [zA, zB, zC, Act.put, zD, zE, zF]
  refine tkL 3 rfl hHeld ?_
  try simp only [zA, zB, zC, Act.put, zD, zE, zF]
  refine tkL 4 rfl hHeld ?_
  try simp only [zA, zB, zC, Act.put, zD, zE, zF]
  refine tkL 6 rfl hHeld ?_
  try simp only [zA, zB, zC, Act.put, zD, zE, zF]
  refine wpAnyH_ready (rs := [5]) (by kernel_rfl) (by simp) ?_; refine AllReadyH.cons rfl (fun K hK => ?_) AllReadyH.nil
  have hRd : wd.heap[R]? = some (.cells #[.int .i64 c.id, .int .i64 c.role, .int .i64 c.tm, .int .i64 c.vt, .int .i64 c.ld, .int .i64 c.wt, .int .i64 c.cm, .int .i64 c.sf, .int .i64 c.l.b, .int .i64 c.l.bt, .int .u16 c.l.j.ov, .int .u16 c.l.j.ox, .int .u16 c.l.j.ol, .int .i64 c.l.j.oe, .int .i64 c.l.j.ok, .int .u16 c.l.j.nv, .int .u16 c.l.j.nx, .int .u16 c.l.j.nl, .int .i64 c.l.j.ne, .int .i64 c.l.j.nk, .bool c.l.j.two, .slice p c.l.es.length k, .string c.sn, .int .u16 c.vs, .int .u16 c.hd, .int .i64 (c.nx 0), .int .i64 (c.nx 1), .int .i64 (c.nx 2), .int .i64 (c.nx 3), .int .i64 (c.nx 4), .int .i64 (c.nx 5), .int .i64 (c.nx 6), .int .i64 (c.nx 7), .int .i64 (c.nx 8), .int .i64 (c.nx 9), .int .i64 (c.mt 0), .int .i64 (c.mt 1), .int .i64 (c.mt 2), .int .i64 (c.mt 3), .int .i64 (c.mt 4), .int .i64 (c.mt 5), .int .i64 (c.mt 6), .int .i64 (c.mt 7), .int .i64 (c.mt 8), .int .i64 (c.mt 9), v] 76 (0, 0)) := HA3.out.blk
  have kRd := block_cells hRd
  try simp only [zA, zB, zC]
  go_simp
  refine hK.out _ _ hHeld (fun _ => ?_)
  clear hK K kRd hRd
  try simp only [zA, zB, zC, Act.put, zD, zE, zF]
  refine wpAnyH_ready (rs := [7]) (by kernel_rfl) (by simp) ?_; refine AllReadyH.cons rfl (fun K hK => ?_) AllReadyH.nil; (try simp only [zA, zB, zC]); go_simp
  refine (show Calls Tryz.prog _ _ wd (LgEnd wd.heap.size wd lg) from by have := rpush_any c.l p k e2 wd (EnSl.of_own HA3.out.en) (by have := HLE.out; omega); rw [HLG.out] at this; exact this).mono ?_; rintro r0 w3 ⟨q, d, rfl, ho, b3⟩
  have hA4 := HA3.out.keep b3
  have hR4 : w3.heap[R]? = some (.cells #[.int .i64 c.id, .int .i64 c.role, .int .i64 c.tm, .int .i64 c.vt, .int .i64 c.ld, .int .i64 c.wt, .int .i64 c.cm, .int .i64 c.sf, .int .i64 c.l.b, .int .i64 c.l.bt, .int .u16 c.l.j.ov, .int .u16 c.l.j.ox, .int .u16 c.l.j.ol, .int .i64 c.l.j.oe, .int .i64 c.l.j.ok, .int .u16 c.l.j.nv, .int .u16 c.l.j.nx, .int .u16 c.l.j.nl, .int .i64 c.l.j.ne, .int .i64 c.l.j.nk, .bool c.l.j.two, .slice p c.l.es.length k, .string c.sn, .int .u16 c.vs, .int .u16 c.hd, .int .i64 (c.nx 0), .int .i64 (c.nx 1), .int .i64 (c.nx 2), .int .i64 (c.nx 3), .int .i64 (c.nx 4), .int .i64 (c.nx 5), .int .i64 (c.nx 6), .int .i64 (c.nx 7), .int .i64 (c.nx 8), .int .i64 (c.nx 9), .int .i64 (c.mt 0), .int .i64 (c.mt 1), .int .i64 (c.mt 2), .int .i64 (c.mt 3), .int .i64 (c.mt 4), .int .i64 (c.mt 5), .int .i64 (c.mt 6), .int .i64 (c.mt 7), .int .i64 (c.mt 8), .int .i64 (c.mt 9), v] 76 (0, 0)) := hA4.blk
  have hX4 := below_block b3 (block_lt HX3.out) HX3.out
  have S3 : PshS R X #[.int .i64 c.id, .int .i64 c.role, .int .i64 c.tm, .int .i64 c.vt, .int .i64 c.ld, .int .i64 c.wt, .int .i64 c.cm, .int .i64 c.sf, .int .i64 c.l.b, .int .i64 c.l.bt, .int .u16 c.l.j.ov, .int .u16 c.l.j.ox, .int .u16 c.l.j.ol, .int .i64 c.l.j.oe, .int .i64 c.l.j.ok, .int .u16 c.l.j.nv, .int .u16 c.l.j.nx, .int .u16 c.l.j.nl, .int .i64 c.l.j.ne, .int .i64 c.l.j.nk, .bool c.l.j.two, .slice p c.l.es.length k, .string c.sn, .int .u16 c.vs, .int .u16 c.hd, .int .i64 (c.nx 0), .int .i64 (c.nx 1), .int .i64 (c.nx 2), .int .i64 (c.nx 3), .int .i64 (c.nx 4), .int .i64 (c.nx 5), .int .i64 (c.nx 6), .int .i64 (c.nx 7), .int .i64 (c.nx 8), .int .i64 (c.nx 9), .int .i64 (c.mt 0), .int .i64 (c.mt 1), .int .i64 (c.mt 2), .int .i64 (c.mt 3), .int .i64 (c.mt 4), .int .i64 (c.mt 5), .int .i64 (c.mt 6), .int .i64 (c.mt 7), .int .i64 (c.mt 8), .int .i64 (c.mt 9), v] #[.int .i64 e2.t, .int .i64 e2.k, .string e2.d, .int .u16 e2.j.ov, .int .u16 e2.j.ox, .int .u16 e2.j.ol, .int .i64 e2.j.oe, .int .i64 e2.j.ok, .int .u16 e2.j.nv, .int .u16 e2.j.nx, .int .u16 e2.j.nl, .int .i64 e2.j.ne, .int .i64 e2.j.nk, .bool e2.j.two] w3 := PshS.of hR4 hX4
  have S4 : PshS R X #[.int .i64 c.id, .int .i64 c.role, .int .i64 c.tm, .int .i64 c.vt, .int .i64 c.ld, .int .i64 c.wt, .int .i64 c.cm, .int .i64 c.sf, .int .i64 c.l.b, .int .i64 c.l.bt, .int .u16 c.l.j.ov, .int .u16 c.l.j.ox, .int .u16 c.l.j.ol, .int .i64 c.l.j.oe, .int .i64 c.l.j.ok, .int .u16 c.l.j.nv, .int .u16 c.l.j.nx, .int .u16 c.l.j.nl, .int .i64 c.l.j.ne, .int .i64 c.l.j.nk, .bool c.l.j.two, .slice p c.l.es.length k, .string c.sn, .int .u16 c.vs, .int .u16 c.hd, .int .i64 (c.nx 0), .int .i64 (c.nx 1), .int .i64 (c.nx 2), .int .i64 (c.nx 3), .int .i64 (c.nx 4), .int .i64 (c.nx 5), .int .i64 (c.nx 6), .int .i64 (c.nx 7), .int .i64 (c.nx 8), .int .i64 (c.nx 9), .int .i64 (c.mt 0), .int .i64 (c.mt 1), .int .i64 (c.mt 2), .int .i64 (c.mt 3), .int .i64 (c.mt 4), .int .i64 (c.mt 5), .int .i64 (c.mt 6), .int .i64 (c.mt 7), .int .i64 (c.mt 8), .int .i64 (c.mt 9), v] #[.int .i64 e2.t, .int .i64 e2.k, .string e2.d, .int .u16 e2.j.ov, .int .u16 e2.j.ox, .int .u16 e2.j.ol, .int .i64 e2.j.oe, .int .i64 e2.j.ok, .int .u16 e2.j.nv, .int .u16 e2.j.nx, .int .u16 e2.j.nl, .int .i64 e2.j.ne, .int .i64 e2.j.nk, .bool e2.j.two] (w3.setCells R 8 [.int .i64 lg.b, .int .i64 lg.bt, .int .u16 lg.j.ov, .int .u16 lg.j.ox, .int .u16 lg.j.ol, .int .i64 lg.j.oe, .int .i64 lg.j.ok, .int .u16 lg.j.nv, .int .u16 lg.j.nx, .int .u16 lg.j.nl, .int .i64 lg.j.ne, .int .i64 lg.j.nk, .bool lg.j.two, .slice q lg.es.length d]) := PshS.log hR4 hX4 hne2 _ rfl
  have ho2 : w3.ownsRow wd.heap.size 47 14 (.slice q ({ c with l := lg } : Co).l.es.length d) ({ c with l := lg } : Co).l.es.length (entRow ({ c with l := lg } : Co).l.es) := ho
  have hp := hA4.puts 8 [.int .i64 lg.b, .int .i64 lg.bt, .int .u16 lg.j.ov, .int .u16 lg.j.ox, .int .u16 lg.j.ol, .int .i64 lg.j.oe, .int .i64 lg.j.ok, .int .u16 lg.j.nv, .int .u16 lg.j.nx, .int .u16 lg.j.nl, .int .i64 lg.j.ne, .int .i64 lg.j.nk, .bool lg.j.two, .slice q lg.es.length d] (by show 8 + 14 ≤ 45; decide) ⟨{ c with l := lg }, q, d⟩ rfl (ho2.mono (by have := HA3.out.le; have := HA3.out.lt; omega)) (sep_new HA3.out.out (Nat.le_refl _) ho2)
  rw [HC2.out] at hp
  have HA5 := Lib.hid hp.1
  have HB5 := Lib.hid ((HB3.out.trans (AcR.below b3)).trans hp.2)
  have HT := Lib.hid (there_of_block (o := 8) (n := 14) hR4 (by show 8 + 14 ≤ 46; decide))
  refine hK.out _ _ S3 (fun _ => ?_)
  clear hK K ho ho2 b3 hA4 hR4 hX4 hp HA3 HX3 HB3 kXX hHeld h0
  try simp only [zA, zB, zC, Act.put, zD, zE, zF]
  have hHeld := S3
  refine tkL 8 rfl hHeld ?_
  try simp only [zA, zB, zC, Act.put, zD, zE, zF]
  refine tkL 9 rfl hHeld ?_
  try simp only [zA, zB, zC, Act.put, zD, zE, zF]
  refine tkL 10 rfl hHeld ?_
  try simp only [zA, zB, zC, Act.put, zD, zE, zF]
  refine wpAnyH_ready (rs := [11]) (by kernel_rfl) (by simp) ?_; refine AllReadyH.cons rfl (fun K hK => ?_) AllReadyH.nil
  rw [if_pos (by rfl)]
  refine wp_store_mid _ _ _ (by rfl) R 8 #[.int .i64 lg.b, .int .i64 lg.bt, .int .u16 lg.j.ov, .int .u16 lg.j.ox, .int .u16 lg.j.ol, .int .i64 lg.j.oe, .int .i64 lg.j.ok, .int .u16 lg.j.nv, .int .u16 lg.j.nx, .int .u16 lg.j.nl, .int .i64 lg.j.ne, .int .i64 lg.j.nk, .bool lg.j.two, .slice q lg.es.length d] (by rfl) (by rfl) HT.out (by kernel_rfl) (one_all rfl) ?_
  refine hK.out _ _ S4 (fun _ => ?_)
  clear hK K hHeld S3 S4 HT
  try simp only [zA, zB, zC, Act.put]
  refine wpAnyH_done (by kernel_rfl) ?_ _
  obtain ⟨W5, hW5⟩ : ∃ z : World, w3.setCells R 8 [.int .i64 lg.b, .int .i64 lg.bt, .int .u16 lg.j.ov, .int .u16 lg.j.ox, .int .u16 lg.j.ol, .int .i64 lg.j.oe, .int .i64 lg.j.ok, .int .u16 lg.j.nv, .int .u16 lg.j.nx, .int .u16 lg.j.nl, .int .i64 lg.j.ne, .int .i64 lg.j.nk, .bool lg.j.two, .slice q lg.es.length d] = z := ⟨_, rfl⟩
  rw [hW5] at HA5 HB5
  (try rw [hW5])
  (try rw [show w3.setCells R 8 (#[.int .i64 lg.b, .int .i64 lg.bt, .int .u16 lg.j.ov, .int .u16 lg.j.ox, .int .u16 lg.j.ol, .int .i64 lg.j.oe, .int .i64 lg.j.ok, .int .u16 lg.j.nv, .int .u16 lg.j.nx, .int .u16 lg.j.nl, .int .i64 lg.j.ne, .int .i64 lg.j.nk, .bool lg.j.two, .slice q lg.es.length d] : Array Value).toList = W5 from hW5])
  clear hW5
  have hl2 : c2.l = pushL c.l e2 := by rw [← HC2.out, HLG.out]
  have HF2 : Hid (LgFit c2.l) := by show LgFit c2.l; rw [hl2]; exact push_fit HF.out (by have := HLE.out; omega)
  have HL2 : Hid (c2.l.last = c.l.last + 1) := by show _ = _; rw [hl2, push_last]
  have HI2 : Hid (c2.id = (n : Int)) := by show _ = _; rw [← HID.out, ← HC2.out]
  clear hl2
  go_upto_region 3 with fail
  have hR5 : W5.drew.heap[R]? = some (.cells #[.int .i64 c2.id, .int .i64 c2.role, .int .i64 c2.tm, .int .i64 c2.vt, .int .i64 c2.ld, .int .i64 c2.wt, .int .i64 c2.cm, .int .i64 c2.sf, .int .i64 c2.l.b, .int .i64 c2.l.bt, .int .u16 c2.l.j.ov, .int .u16 c2.l.j.ox, .int .u16 c2.l.j.ol, .int .i64 c2.l.j.oe, .int .i64 c2.l.j.ok, .int .u16 c2.l.j.nv, .int .u16 c2.l.j.nx, .int .u16 c2.l.j.nl, .int .i64 c2.l.j.ne, .int .i64 c2.l.j.nk, .bool c2.l.j.two, .slice q c2.l.es.length d, .string c2.sn, .int .u16 c2.vs, .int .u16 c2.hd, .int .i64 (c2.nx 0), .int .i64 (c2.nx 1), .int .i64 (c2.nx 2), .int .i64 (c2.nx 3), .int .i64 (c2.nx 4), .int .i64 (c2.nx 5), .int .i64 (c2.nx 6), .int .i64 (c2.nx 7), .int .i64 (c2.nx 8), .int .i64 (c2.nx 9), .int .i64 (c2.mt 0), .int .i64 (c2.mt 1), .int .i64 (c2.mt 2), .int .i64 (c2.mt 3), .int .i64 (c2.mt 4), .int .i64 (c2.mt 5), .int .i64 (c2.mt 6), .int .i64 (c2.mt 7), .int .i64 (c2.mt 8), .int .i64 (c2.mt 9), v] 76 (0, 0)) := HA5.out.blk
  have h0 : R35 R #[.int .i64 c2.id, .int .i64 c2.role, .int .i64 c2.tm, .int .i64 c2.vt, .int .i64 c2.ld, .int .i64 c2.wt, .int .i64 c2.cm, .int .i64 c2.sf, .int .i64 c2.l.b, .int .i64 c2.l.bt, .int .u16 c2.l.j.ov, .int .u16 c2.l.j.ox, .int .u16 c2.l.j.ol, .int .i64 c2.l.j.oe, .int .i64 c2.l.j.ok, .int .u16 c2.l.j.nv, .int .u16 c2.l.j.nx, .int .u16 c2.l.j.nl, .int .i64 c2.l.j.ne, .int .i64 c2.l.j.nk, .bool c2.l.j.two, .slice q c2.l.es.length d, .string c2.sn, .int .u16 c2.vs, .int .u16 c2.hd, .int .i64 (c2.nx 0), .int .i64 (c2.nx 1), .int .i64 (c2.nx 2), .int .i64 (c2.nx 3), .int .i64 (c2.nx 4), .int .i64 (c2.nx 5), .int .i64 (c2.nx 6), .int .i64 (c2.nx 7), .int .i64 (c2.nx 8), .int .i64 (c2.nx 9), .int .i64 (c2.mt 0), .int .i64 (c2.mt 1), .int .i64 (c2.mt 2), .int .i64 (c2.mt 3), .int .i64 (c2.mt 4), .int .i64 (c2.mt 5), .int .i64 (c2.mt 6), .int .i64 (c2.mt 7), .int .i64 (c2.mt 8), .int .i64 (c2.mt 9), v] W5.drew := ⟨fun j _ => block_cells hR5 j⟩
  refine wp_region_held_drew (S := R35 R #[.int .i64 c2.id, .int .i64 c2.role, .int .i64 c2.tm, .int .i64 c2.vt, .int .i64 c2.ld, .int .i64 c2.wt, .int .i64 c2.cm, .int .i64 c2.sf, .int .i64 c2.l.b, .int .i64 c2.l.bt, .int .u16 c2.l.j.ov, .int .u16 c2.l.j.ox, .int .u16 c2.l.j.ol, .int .i64 c2.l.j.oe, .int .i64 c2.l.j.ok, .int .u16 c2.l.j.nv, .int .u16 c2.l.j.nx, .int .u16 c2.l.j.nl, .int .i64 c2.l.j.ne, .int .i64 c2.l.j.nk, .bool c2.l.j.two, .slice q c2.l.es.length d, .string c2.sn, .int .u16 c2.vs, .int .u16 c2.hd, .int .i64 (c2.nx 0), .int .i64 (c2.nx 1), .int .i64 (c2.nx 2), .int .i64 (c2.nx 3), .int .i64 (c2.nx 4), .int .i64 (c2.nx 5), .int .i64 (c2.nx 6), .int .i64 (c2.nx 7), .int .i64 (c2.nx 8), .int .i64 (c2.nx 9), .int .i64 (c2.mt 0), .int .i64 (c2.mt 1), .int .i64 (c2.mt 2), .int .i64 (c2.mt 3), .int .i64 (c2.mt 4), .int .i64 (c2.mt 5), .int .i64 (c2.mt 6), .int .i64 (c2.mt 7), .int .i64 (c2.mt 8), .int .i64 (c2.mt 9), v]) (by kernel_rfl) h0 (fun hHeld => ?_)
  have HA6 := Lib.hid (HA5.out.keep (Below.refl _ _).drew); have HB6 := Lib.hid HB5.out.drew
  obtain ⟨wd, ewd⟩ : ∃ x, W5.drew = x := ⟨_, rfl⟩
  rw [ewd] at h0 hHeld HA6 HB6 ⊢
  obtain ⟨L, hL⟩ : ∃ L, c.l.last + 1 = L := ⟨_, rfl⟩
  have HCL := Lib.hid (show Calls Tryz.prog 33 #[.agg #[.int .i64 c2.l.b, .int .i64 c2.l.bt, .int .u16 c2.l.j.ov, .int .u16 c2.l.j.ox, .int .u16 c2.l.j.ol, .int .i64 c2.l.j.oe, .int .i64 c2.l.j.ok, .int .u16 c2.l.j.nv, .int .u16 c2.l.j.nx, .int .u16 c2.l.j.nl, .int .i64 c2.l.j.ne, .int .i64 c2.l.j.nk, .bool c2.l.j.two, .slice q c2.l.es.length d]] wd fun r w2 => r = .returned (.int .i64 L) ∧ Below wd.heap.size wd w2 from by have := rlast_any c2.l q d wd HF2.out.b0 HF2.out.b1 HF2.out.n; rw [HL2.out, hL] at this; exact this)
  have HLL := Lib.hid hL
  clear ewd hR5 hL HA5 HB5
  have k0 : ∀ w', R35 R #[.int .i64 c2.id, .int .i64 c2.role, .int .i64 c2.tm, .int .i64 c2.vt, .int .i64 c2.ld, .int .i64 c2.wt, .int .i64 c2.cm, .int .i64 c2.sf, .int .i64 c2.l.b, .int .i64 c2.l.bt, .int .u16 c2.l.j.ov, .int .u16 c2.l.j.ox, .int .u16 c2.l.j.ol, .int .i64 c2.l.j.oe, .int .i64 c2.l.j.ok, .int .u16 c2.l.j.nv, .int .u16 c2.l.j.nx, .int .u16 c2.l.j.nl, .int .i64 c2.l.j.ne, .int .i64 c2.l.j.nk, .bool c2.l.j.two, .slice q c2.l.es.length d, .string c2.sn, .int .u16 c2.vs, .int .u16 c2.hd, .int .i64 (c2.nx 0), .int .i64 (c2.nx 1), .int .i64 (c2.nx 2), .int .i64 (c2.nx 3), .int .i64 (c2.nx 4), .int .i64 (c2.nx 5), .int .i64 (c2.nx 6), .int .i64 (c2.nx 7), .int .i64 (c2.nx 8), .int .i64 (c2.nx 9), .int .i64 (c2.mt 0), .int .i64 (c2.mt 1), .int .i64 (c2.mt 2), .int .i64 (c2.mt 3), .int .i64 (c2.mt 4), .int .i64 (c2.mt 5), .int .i64 (c2.mt 6), .int .i64 (c2.mt 7), .int .i64 (c2.mt 8), .int .i64 (c2.mt 9), v] w' → w'.cell? ⟨R, 0, none⟩ = some (.int .i64 (n : Int)) := fun w' h => by rw [← HI2.out]; exact h.r 0 (by decide)
  have k8 : ∀ w', R35 R #[.int .i64 c2.id, .int .i64 c2.role, .int .i64 c2.tm, .int .i64 c2.vt, .int .i64 c2.ld, .int .i64 c2.wt, .int .i64 c2.cm, .int .i64 c2.sf, .int .i64 c2.l.b, .int .i64 c2.l.bt, .int .u16 c2.l.j.ov, .int .u16 c2.l.j.ox, .int .u16 c2.l.j.ol, .int .i64 c2.l.j.oe, .int .i64 c2.l.j.ok, .int .u16 c2.l.j.nv, .int .u16 c2.l.j.nx, .int .u16 c2.l.j.nl, .int .i64 c2.l.j.ne, .int .i64 c2.l.j.nk, .bool c2.l.j.two, .slice q c2.l.es.length d, .string c2.sn, .int .u16 c2.vs, .int .u16 c2.hd, .int .i64 (c2.nx 0), .int .i64 (c2.nx 1), .int .i64 (c2.nx 2), .int .i64 (c2.nx 3), .int .i64 (c2.nx 4), .int .i64 (c2.nx 5), .int .i64 (c2.nx 6), .int .i64 (c2.nx 7), .int .i64 (c2.nx 8), .int .i64 (c2.nx 9), .int .i64 (c2.mt 0), .int .i64 (c2.mt 1), .int .i64 (c2.mt 2), .int .i64 (c2.mt 3), .int .i64 (c2.mt 4), .int .i64 (c2.mt 5), .int .i64 (c2.mt 6), .int .i64 (c2.mt 7), .int .i64 (c2.mt 8), .int .i64 (c2.mt 9), v] w' → ∀ j, j < 14 → w'.cell? ⟨R, 8 + j, none⟩ = #[.int .i64 c2.l.b, .int .i64 c2.l.bt, .int .u16 c2.l.j.ov, .int .u16 c2.l.j.ox, .int .u16 c2.l.j.ol, .int .i64 c2.l.j.oe, .int .i64 c2.l.j.ok, .int .u16 c2.l.j.nv, .int .u16 c2.l.j.nx, .int .u16 c2.l.j.nl, .int .i64 c2.l.j.ne, .int .i64 c2.l.j.nk, .bool c2.l.j.two, .slice q c2.l.es.length d][j]? := fun w' h j hj => by
    rw [h.r (8 + j) (by omega)]
    rcases (show j = 0 ∨ j = 1 ∨ j = 2 ∨ j = 3 ∨ j = 4 ∨ j = 5 ∨ j = 6 ∨ j = 7 ∨ j = 8 ∨ j = 9 ∨ j = 10 ∨ j = 11 ∨ j = 12 ∨ j = 13 by omega) with rfl | rfl | rfl | rfl | rfl | rfl | rfl | rfl | rfl | rfl | rfl | rfl | rfl | rfl <;> rfl
  have hn0 : 0 ≤ (n : Int) := by omega
  have hn1 : (n : Int) < 10 := by omega
  refine tkL 0 rfl hHeld ?_
  try simp only [zA, zC, Act.put, zD, zE, zF]
  refine tkL 1 rfl hHeld ?_
  try simp only [zA, zB, zC, Act.put, zD, zE, zF]
  refine tkL 2 rfl hHeld ?_
  try simp only [zA, zB, zC, Act.put, zD, zE, zF]
  refine tkL 3 rfl hHeld ?_
  try simp only [zA, zB, zC, Act.put, zD, zE, zF]
  refine tkL 4 rfl hHeld ?_
  try simp only [zA, zB, zC, Act.put, zD, zE, zF]
  refine tkL 5 rfl hHeld ?_
  try simp only [zA, zB, zC, Act.put, zD, zE, zF]
  refine tkL 6 rfl hHeld ?_
  try simp only [zA, zB, zC, Act.put, zD, zE, zF]
  refine tkL 7 rfl hHeld ?_
  try simp only [zA, zB, zC, Act.put, zD, zE, zF]
  refine tkL 8 rfl hHeld ?_
  try simp only [zA, zB, zC, Act.put, zD, zE, zF]
  refine tkL 9 rfl hHeld ?_
  try simp only [zA, zB, zC, Act.put, zD, zE, zF]
  refine tkL 12 rfl hHeld ?_
  try simp only [zA, zB, zC, Act.put, zD, zE, zF]
  refine tkL 13 rfl hHeld ?_
  try simp only [zA, zB, zC, Act.put, zD, zE, zF]
  refine tkL 14 rfl hHeld ?_
  try simp only [zA, zB, zC, Act.put, zD, zE, zF]
  refine tkH (i := 10) (v := .agg #[.int .i64 c2.l.b, .int .i64 c2.l.bt, .int .u16 c2.l.j.ov, .int .u16 c2.l.j.ox, .int .u16 c2.l.j.ol, .int .i64 c2.l.j.oe, .int .i64 c2.l.j.ok, .int .u16 c2.l.j.nv, .int .u16 c2.l.j.nx, .int .u16 c2.l.j.nl, .int .i64 c2.l.j.ne, .int .i64 c2.l.j.nk, .bool c2.l.j.two, .slice q c2.l.es.length d]) rfl (yieldsIf_load_mid (by rfl) _ _ rfl R 8 rfl [.int .i64 c2.l.b, .int .i64 c2.l.bt, .int .u16 c2.l.j.ov, .int .u16 c2.l.j.ox, .int .u16 c2.l.j.ol, .int .i64 c2.l.j.oe, .int .i64 c2.l.j.ok, .int .u16 c2.l.j.nv, .int .u16 c2.l.j.nx, .int .u16 c2.l.j.nl, .int .i64 c2.l.j.ne, .int .i64 c2.l.j.nk, .bool c2.l.j.two, .slice q c2.l.es.length d] _ (fun w' h => range_of (n := 14) rfl (fun j hj => by rw [k8 w' h j hj, List.getElem?_toArray])) Tryz.underlying30 rfl (by kernel_rfl)) hHeld ?_
  try simp only [zA, zB, zC, Act.put, zD, zE, zF]
  refine wpAnyH_ready (rs := [11]) (by kernel_rfl) (by simp) ?_; refine AllReadyH.cons rfl (fun K hK => ?_) AllReadyH.nil; (try simp only [zA, zB, zC]); go_simp
  refine HCL.out.mono ?_; rintro r0 w6 ⟨rfl, b6⟩
  have hA7 := HA6.out.keep b6
  have hR6 : w6.heap[R]? = some (.cells #[.int .i64 c2.id, .int .i64 c2.role, .int .i64 c2.tm, .int .i64 c2.vt, .int .i64 c2.ld, .int .i64 c2.wt, .int .i64 c2.cm, .int .i64 c2.sf, .int .i64 c2.l.b, .int .i64 c2.l.bt, .int .u16 c2.l.j.ov, .int .u16 c2.l.j.ox, .int .u16 c2.l.j.ol, .int .i64 c2.l.j.oe, .int .i64 c2.l.j.ok, .int .u16 c2.l.j.nv, .int .u16 c2.l.j.nx, .int .u16 c2.l.j.nl, .int .i64 c2.l.j.ne, .int .i64 c2.l.j.nk, .bool c2.l.j.two, .slice q c2.l.es.length d, .string c2.sn, .int .u16 c2.vs, .int .u16 c2.hd, .int .i64 (c2.nx 0), .int .i64 (c2.nx 1), .int .i64 (c2.nx 2), .int .i64 (c2.nx 3), .int .i64 (c2.nx 4), .int .i64 (c2.nx 5), .int .i64 (c2.nx 6), .int .i64 (c2.nx 7), .int .i64 (c2.nx 8), .int .i64 (c2.nx 9), .int .i64 (c2.mt 0), .int .i64 (c2.mt 1), .int .i64 (c2.mt 2), .int .i64 (c2.mt 3), .int .i64 (c2.mt 4), .int .i64 (c2.mt 5), .int .i64 (c2.mt 6), .int .i64 (c2.mt 7), .int .i64 (c2.mt 8), .int .i64 (c2.mt 9), v] 76 (0, 0)) := hA7.blk
  have S6 : R35 R #[.int .i64 c2.id, .int .i64 c2.role, .int .i64 c2.tm, .int .i64 c2.vt, .int .i64 c2.ld, .int .i64 c2.wt, .int .i64 c2.cm, .int .i64 c2.sf, .int .i64 c2.l.b, .int .i64 c2.l.bt, .int .u16 c2.l.j.ov, .int .u16 c2.l.j.ox, .int .u16 c2.l.j.ol, .int .i64 c2.l.j.oe, .int .i64 c2.l.j.ok, .int .u16 c2.l.j.nv, .int .u16 c2.l.j.nx, .int .u16 c2.l.j.nl, .int .i64 c2.l.j.ne, .int .i64 c2.l.j.nk, .bool c2.l.j.two, .slice q c2.l.es.length d, .string c2.sn, .int .u16 c2.vs, .int .u16 c2.hd, .int .i64 (c2.nx 0), .int .i64 (c2.nx 1), .int .i64 (c2.nx 2), .int .i64 (c2.nx 3), .int .i64 (c2.nx 4), .int .i64 (c2.nx 5), .int .i64 (c2.nx 6), .int .i64 (c2.nx 7), .int .i64 (c2.nx 8), .int .i64 (c2.nx 9), .int .i64 (c2.mt 0), .int .i64 (c2.mt 1), .int .i64 (c2.mt 2), .int .i64 (c2.mt 3), .int .i64 (c2.mt 4), .int .i64 (c2.mt 5), .int .i64 (c2.mt 6), .int .i64 (c2.mt 7), .int .i64 (c2.mt 8), .int .i64 (c2.mt 9), v] w6 := ⟨fun j _ => block_cells hR6 j⟩
  have hp := hA7.put (35 + n) (.int .i64 L) (by omega) ⟨{ c2 with mt := upd c2.mt n L }, q, d⟩ (mt_set c2 q d hn L) rfl rfl rfl
  have S7 : R35 R #[.int .i64 c2.id, .int .i64 c2.role, .int .i64 c2.tm, .int .i64 c2.vt, .int .i64 c2.ld, .int .i64 c2.wt, .int .i64 c2.cm, .int .i64 c2.sf, .int .i64 c2.l.b, .int .i64 c2.l.bt, .int .u16 c2.l.j.ov, .int .u16 c2.l.j.ox, .int .u16 c2.l.j.ol, .int .i64 c2.l.j.oe, .int .i64 c2.l.j.ok, .int .u16 c2.l.j.nv, .int .u16 c2.l.j.nx, .int .u16 c2.l.j.nl, .int .i64 c2.l.j.ne, .int .i64 c2.l.j.nk, .bool c2.l.j.two, .slice q c2.l.es.length d, .string c2.sn, .int .u16 c2.vs, .int .u16 c2.hd, .int .i64 (c2.nx 0), .int .i64 (c2.nx 1), .int .i64 (c2.nx 2), .int .i64 (c2.nx 3), .int .i64 (c2.nx 4), .int .i64 (c2.nx 5), .int .i64 (c2.nx 6), .int .i64 (c2.nx 7), .int .i64 (c2.nx 8), .int .i64 (c2.nx 9), .int .i64 (c2.mt 0), .int .i64 (c2.mt 1), .int .i64 (c2.mt 2), .int .i64 (c2.mt 3), .int .i64 (c2.mt 4), .int .i64 (c2.mt 5), .int .i64 (c2.mt 6), .int .i64 (c2.mt 7), .int .i64 (c2.mt 8), .int .i64 (c2.mt 9), v] (w6.setCell ⟨R, 35 + n, none⟩ (.int .i64 L)) := ⟨fun j hj => by
    rw [block_cells (cells_setW hR6 (35 + n) _), Array.getElem?_setIfInBounds_ne (by omega)]⟩
  have HP := Lib.hid (And.intro hp.1 ((HB6.out.trans (AcR.below b6)).trans hp.2))
  have kM := ac_mt hR6 hn
  have fM := block_free hR6 (35 + n)
  refine hK.out _ _ S6 (fun _ => ?_)
  clear hK K hA7 hR6 hp b6 HCL HA6 HB6 k8 hHeld h0
  try simp only [zA, zB, zC, Act.put, zD, zE, zF]
  have hHeld := S6
  refine tkL 15 rfl hHeld ?_
  try simp only [zA, zB, zC, Act.put, zD, zE, zF]
  refine wpAnyH_ready (rs := [16]) (by kernel_rfl) (by simp) ?_; refine AllReadyH.cons rfl (fun K hK => ?_) AllReadyH.nil
  try simp only [zA, zB, zC]
  go_simp
  refine hK.out _ _ S7 (fun _ => ?_)
  clear hK K hHeld S6 S7 kM fM
  try simp only [zA, zB, zC, Act.put, zD, zE, zF]
  refine wpAnyH_done (by kernel_rfl) ?_ _
  go_wp2_with fail
  go_end0
  rw [HLL.out]
  exact ⟨rfl, ⟨q, d, HP.out.1⟩, HP.out.2⟩
end Go.Proofs.YtbnndbdnejfehaaGreatDoor
