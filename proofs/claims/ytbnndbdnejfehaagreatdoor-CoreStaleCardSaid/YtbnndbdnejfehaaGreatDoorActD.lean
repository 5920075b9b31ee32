import Derived.Test.YtbnndbdnejfehaaGreatDoorActA
/- Core: methods of an act: an entry of its own behind all. -/
namespace Go.Proofs.YtbnndbdnejfehaaGreatDoor
open Go.ChangeShapes Go.WideShapes Go.ChangeAt Go.RowKit

theorem setL_get : ∀ (vs xs : List Value) (i j : Nat) (_ : j < i ∨ i + vs.length ≤ j), (setL xs i vs)[j]? = xs[j]?
  | [], _, _, _, _ => rfl
  | v :: r, xs, i, j, h => by
    rw [List.length_cons] at h
    rw [setL, setL_get r (xs.set i v) (i + 1) j (by omega), List.getElem?_set_ne (by omega)]
theorem mt_set (c : Co) (q : Option Addr) (d : Nat) {n : Nat} (hn : n < 10) (u : Int) : coL { c with mt := upd c.mt n u } q d = (coL c q d).set (35 + n) (.int .i64 u) := by
  rcases (show n = 0 ∨ n = 1 ∨ n = 2 ∨ n = 3 ∨ n = 4 ∨ n = 5 ∨ n = 6 ∨ n = 7 ∨ n = 8 ∨ n = 9 by omega) with rfl | rfl | rfl | rfl | rfl | rfl | rfl | rfl | rfl | rfl <;> rfl
theorem nx_set (c : Co) (q : Option Addr) (d : Nat) {n : Nat} (hn : n < 10) (u : Int) : coL { c with nx := upd c.nx n u } q d = (coL c q d).set (25 + n) (.int .i64 u) := by
  rcases (show n = 0 ∨ n = 1 ∨ n = 2 ∨ n = 3 ∨ n = 4 ∨ n = 5 ∨ n = 6 ∨ n = 7 ∨ n = 8 ∨ n = 9 by omega) with rfl | rfl | rfl | rfl | rfl | rfl | rfl | rfl | rfl | rfl <;> rfl
theorem ac_nx {w : World} {R n : Nat} {c : Co} {p : Option Addr} {k : Nat} {v : Value} {t : TypeId} (h : w.heap[R]? = some (.cells #[.int .i64 c.id, .int .i64 c.role, .int .i64 c.tm, .int .i64 c.vt, .int .i64 c.ld, .int .i64 c.wt, .int .i64 c.cm, .int .i64 c.sf, .int .i64 c.l.b, .int .i64 c.l.bt, .int .u16 c.l.j.ov, .int .u16 c.l.j.ox, .int .u16 c.l.j.ol, .int .i64 c.l.j.oe, .int .i64 c.l.j.ok, .int .u16 c.l.j.nv, .int .u16 c.l.j.nx, .int .u16 c.l.j.nl, .int .i64 c.l.j.ne, .int .i64 c.l.j.nk, .bool c.l.j.two, .slice p c.l.es.length k, .string c.sn, .int .u16 c.vs, .int .u16 c.hd, .int .i64 (c.nx 0), .int .i64 (c.nx 1), .int .i64 (c.nx 2), .int .i64 (c.nx 3), .int .i64 (c.nx 4), .int .i64 (c.nx 5), .int .i64 (c.nx 6), .int .i64 (c.nx 7), .int .i64 (c.nx 8), .int .i64 (c.nx 9), .int .i64 (c.mt 0), .int .i64 (c.mt 1), .int .i64 (c.mt 2), .int .i64 (c.mt 3), .int .i64 (c.mt 4), .int .i64 (c.mt 5), .int .i64 (c.mt 6), .int .i64 (c.mt 7), .int .i64 (c.mt 8), .int .i64 (c.mt 9), v] t (0, 0))) (hn : n < 10) : w.cell? ⟨R, 25 + n, none⟩ = some (.int .i64 (c.nx n)) := by
  rw [block_cells h]
  rcases (show n = 0 ∨ n = 1 ∨ n = 2 ∨ n = 3 ∨ n = 4 ∨ n = 5 ∨ n = 6 ∨ n = 7 ∨ n = 8 ∨ n = 9 by omega) with rfl | rfl | rfl | rfl | rfl | rfl | rfl | rfl | rfl | rfl <;> rfl
theorem ac_mt {w : World} {R n : Nat} {c : Co} {p : Option Addr} {k : Nat} {v : Value} {t : TypeId} (h : w.heap[R]? = some (.cells #[.int .i64 c.id, .int .i64 c.role, .int .i64 c.tm, .int .i64 c.vt, .int .i64 c.ld, .int .i64 c.wt, .int .i64 c.cm, .int .i64 c.sf, .int .i64 c.l.b, .int .i64 c.l.bt, .int .u16 c.l.j.ov, .int .u16 c.l.j.ox, .int .u16 c.l.j.ol, .int .i64 c.l.j.oe, .int .i64 c.l.j.ok, .int .u16 c.l.j.nv, .int .u16 c.l.j.nx, .int .u16 c.l.j.nl, .int .i64 c.l.j.ne, .int .i64 c.l.j.nk, .bool c.l.j.two, .slice p c.l.es.length k, .string c.sn, .int .u16 c.vs, .int .u16 c.hd, .int .i64 (c.nx 0), .int .i64 (c.nx 1), .int .i64 (c.nx 2), .int .i64 (c.nx 3), .int .i64 (c.nx 4), .int .i64 (c.nx 5), .int .i64 (c.nx 6), .int .i64 (c.nx 7), .int .i64 (c.nx 8), .int .i64 (c.nx 9), .int .i64 (c.mt 0), .int .i64 (c.mt 1), .int .i64 (c.mt 2), .int .i64 (c.mt 3), .int .i64 (c.mt 4), .int .i64 (c.mt 5), .int .i64 (c.mt 6), .int .i64 (c.mt 7), .int .i64 (c.mt 8), .int .i64 (c.mt 9), v] t (0, 0))) (hn : n < 10) : w.cell? ⟨R, 35 + n, none⟩ = some (.int .i64 (c.mt n)) := by
  rw [block_cells h]
  rcases (show n = 0 ∨ n = 1 ∨ n = 2 ∨ n = 3 ∨ n = 4 ∨ n = 5 ∨ n = 6 ∨ n = 7 ∨ n = 8 ∨ n = 9 by omega) with rfl | rfl | rfl | rfl | rfl | rfl | rfl | rfl | rfl | rfl <;> rfl
/-- The class of a region that replaces the log. -/
structure PshS (R X : Nat) (cs es : Array Value) (w' : World) : Prop where
  r : ∀ j, j < 8 ∨ 22 ≤ j → w'.cell? ⟨R, j, none⟩ = cs[j]?
  x : ∀ j, w'.cell? ⟨X, j, none⟩ = es[j]?
theorem PshS.of {R X : Nat} {cs es : Array Value} {t t' : TypeId} {w : World} (hR : w.heap[R]? = some (.cells cs t (0, 0))) (hX : w.heap[X]? = some (.cells es t' (0, 0))) : PshS R X cs es w := ⟨fun j _ => block_cells hR j, block_cells hX⟩
theorem PshS.log {R X : Nat} {cs es : Array Value} {t t' : TypeId} {w : World} (hR : w.heap[R]? = some (.cells cs t (0, 0))) (hX : w.heap[X]? = some (.cells es t' (0, 0))) (hne : X ≠ R) (vs : List Value) (hv : vs.length = 14) : PshS R X cs es (w.setCells R 8 vs) := by
  obtain ⟨h1, h2⟩ := block_setCells vs 8 hR
  refine ⟨fun j hj => ?_, fun j => ?_⟩
  · rw [block_cells h1, List.getElem?_toArray, setL_get _ _ _ _ (by omega), Array.getElem?_toList]
  · rw [block_cells ((h2.block X (block_lt hX) (fun e => hne (by simpa using e))).trans hX)]
structure R35 (R : Nat) (cs : Array Value) (w' : World) : Prop where
  r : ∀ j, j < 35 → w'.cell? ⟨R, j, none⟩ = cs[j]?
theorem push_last (l : Lg) (e : Ent) : (pushL l e).last = l.last + 1 := by unfold pushL Lg.last; simp; omega
theorem push_fit {l : Lg} {e : Ent} (h : LgFit l) (hl : l.es.length < 1000000) : LgFit (pushL l e) := ⟨h.b0, h.b1, by unfold pushL; simp; omega⟩
/-- A row that was made behind the messages' rows is none of theirs. -/
theorem sep_new {B b0 : Nat} {w w' : World} {v : Value} {l : List MsX} {c : Co} {q : Option Addr} {d : Nat} (ho : MsAt B w v l) (hb : w.heap.size ≤ b0) (hq : w'.ownsRow b0 47 14 (.slice q c.l.es.length d) c.l.es.length (entRow c.l.es)) : ∀ z ∈ l, ∀ b, z.bk = some b → CoX.bk ⟨c, q, d⟩ ≠ some b := fun z hz b hzb e => by
  have h1 := ((ho.en z hz).lt b hzb).2
  have h2 := (hq.lt b e).1
  omega

set_option maxRecDepth 100000 in
set_option maxHeartbeats 8000000 in
theorem push_act (B R n : Nat) (c : Co) (p : Option Addr) (k : Nat) (v : Value) (l : List MsX) (e : Ent) (w : World) (h : AcW 69 B w R ⟨c, p, k⟩ v l) (hF : LgFit c.l) (hid : c.id = (n : Int)) (hn : n < 10) (hl : c.l.es.length < 900000) :
    Calls Tryz.prog 77 #[.pointer (some ⟨R, 0, none⟩), .agg #[.int .i64 e.t, .int .i64 e.k, .string e.d, .int .u16 e.j.ov, .int .u16 e.j.ox, .int .u16 e.j.ol, .int .i64 e.j.oe, .int .i64 e.j.ok, .int .u16 e.j.nv, .int .u16 e.j.nx, .int .u16 e.j.nl, .int .i64 e.j.ne, .int .i64 e.j.nk, .bool e.j.two]] w fun r w' => r = .returned (.int .i64 (c.l.last + 1)) ∧ ∃ q d, AcW 69 B w' R ⟨pushC c e, q, d⟩ v l ∧ AcR w w' R v v := by
  obtain ⟨e2, he2⟩ : ∃ e2 : Ent, { e with t := c.tm } = e2 := ⟨_, rfl⟩
  obtain ⟨lg, hlg⟩ : ∃ lg : Lg, pushL c.l e2 = lg := ⟨_, rfl⟩
  obtain ⟨c2, hc2⟩ : ∃ c2 : Co, { c with l := lg } = c2 := ⟨_, rfl⟩
  have hpc : pushC c e = { c2 with mt := upd c2.mt n (c.l.last + 1) } := by
    rw [← hc2, ← hlg, ← he2]; unfold pushC; rw [hid]; rfl
  obtain ⟨W, hW⟩ : ∃ z : World, w.alloc (.cells #[.int .i64 e.t, .int .i64 e.k, .string e.d, .int .u16 e.j.ov, .int .u16 e.j.ox, .int .u16 e.j.ol, .int .i64 e.j.oe, .int .i64 e.j.ok, .int .u16 e.j.nv, .int .u16 e.j.nx, .int .u16 e.j.nl, .int .i64 e.j.ne, .int .i64 e.j.nk, .bool e.j.two] 47) = z := ⟨_, rfl⟩
  obtain ⟨X, eX⟩ : ∃ X, w.heap.size = X := ⟨_, rfl⟩
  have hb : Below w.heap.size w W := by rw [← hW]; exact (Below.refl _ _).alloc (Nat.le_refl _) _
  have hX : W.heap[X]? = some (.cells #[.int .i64 e.t, .int .i64 e.k, .string e.d, .int .u16 e.j.ov, .int .u16 e.j.ox, .int .u16 e.j.ol, .int .i64 e.j.oe, .int .i64 e.j.ok, .int .u16 e.j.nv, .int .u16 e.j.nx, .int .u16 e.j.nl, .int .i64 e.j.ne, .int .i64 e.j.nk, .bool e.j.two] 47 (0, 0)) := by rw [← hW, ← eX]; exact heap_last w _
  have hb2 : Below w.heap.size w (W.setCell ⟨X, 0, none⟩ (.int .i64 c.tm)) := hb.setCell (p := ⟨X, 0, none⟩) (by show w.heap.size ≤ X; omega) _
  have hX2 : (W.setCell ⟨X, 0, none⟩ (.int .i64 c.tm)).heap[X]? = some (.cells #[.int .i64 e2.t, .int .i64 e2.k, .string e2.d, .int .u16 e2.j.ov, .int .u16 e2.j.ox, .int .u16 e2.j.ol, .int .i64 e2.j.oe, .int .i64 e2.j.ok, .int .u16 e2.j.nv, .int .u16 e2.j.nx, .int .u16 e2.j.nl, .int .i64 e2.j.ne, .int .i64 e2.j.nk, .bool e2.j.two] 47 (0, 0)) := by rw [← he2]; exact cells_setW hX 0 _
  have hRX : R < X := by have := h.lt; omega
  have hA1 := h.keep hb
  have hR1 : W.heap[R]? = some (.cells #[.int .i64 c.id, .int .i64 c.role, .int .i64 c.tm, .int .i64 c.vt, .int .i64 c.ld, .int .i64 c.wt, .int .i64 c.cm, .int .i64 c.sf, .int .i64 c.l.b, .int .i64 c.l.bt, .int .u16 c.l.j.ov, .int .u16 c.l.j.ox, .int .u16 c.l.j.ol, .int .i64 c.l.j.oe, .int .i64 c.l.j.ok, .int .u16 c.l.j.nv, .int .u16 c.l.j.nx, .int .u16 c.l.j.nl, .int .i64 c.l.j.ne, .int .i64 c.l.j.nk, .bool c.l.j.two, .slice p c.l.es.length k, .string c.sn, .int .u16 c.vs, .int .u16 c.hd, .int .i64 (c.nx 0), .int .i64 (c.nx 1), .int .i64 (c.nx 2), .int .i64 (c.nx 3), .int .i64 (c.nx 4), .int .i64 (c.nx 5), .int .i64 (c.nx 6), .int .i64 (c.nx 7), .int .i64 (c.nx 8), .int .i64 (c.nx 9), .int .i64 (c.mt 0), .int .i64 (c.mt 1), .int .i64 (c.mt 2), .int .i64 (c.mt 3), .int .i64 (c.mt 4), .int .i64 (c.mt 5), .int .i64 (c.mt 6), .int .i64 (c.mt 7), .int .i64 (c.mt 8), .int .i64 (c.mt 9), v] 69 (0, 0)) := hA1.blk
  have HA2 := Lib.hid (h.keep hb2); have HX2 := Lib.hid hX2; have HB2 := Lib.hid (AcR.below (R := R) (v := v) hb2)
  have HW := Lib.hid hW; have HEX := Lib.hid eX; have HPC := Lib.hid hpc; have HC2 := Lib.hid hc2; have HLG := Lib.hid hlg; have HF : Hid (LgFit c.l) := hF; have HID := Lib.hid hid; have HLE := Lib.hid hl
  have kR := block_cells hR1
  have kX := block_cells hX
  have fX := block_free hX
  rw [hpc]
  have hne : ¬ R = X := by omega
  have hne2 : ¬ X = R := by omega
  clear h hW hb hX hb2 hX2 hA1 hR1 eX hpc hc2 hlg hF hid hl he2 hRX
  go_enter Tryz.func77, Tryz.ntmps77
  go_upto_region 1 with fail
  rw [HW.out]
  (try rw [HEX.out])
  clear HW
  go_upto_region 2 with fail
  obtain ⟨W2, hW2⟩ : ∃ z : World, W.setCell ⟨X, 0, none⟩ (.int .i64 c.tm) = z := ⟨_, rfl⟩
  rw [hW2] at HA2 HX2 HB2 ⊢
  clear hW2 kR kX fX
  have hR2 : W2.heap[R]? = some (.cells #[.int .i64 c.id, .int .i64 c.role, .int .i64 c.tm, .int .i64 c.vt, .int .i64 c.ld, .int .i64 c.wt, .int .i64 c.cm, .int .i64 c.sf, .int .i64 c.l.b, .int .i64 c.l.bt, .int .u16 c.l.j.ov, .int .u16 c.l.j.ox, .int .u16 c.l.j.ol, .int .i64 c.l.j.oe, .int .i64 c.l.j.ok, .int .u16 c.l.j.nv, .int .u16 c.l.j.nx, .int .u16 c.l.j.nl, .int .i64 c.l.j.ne, .int .i64 c.l.j.nk, .bool c.l.j.two, .slice p c.l.es.length k, .string c.sn, .int .u16 c.vs, .int .u16 c.hd, .int .i64 (c.nx 0), .int .i64 (c.nx 1), .int .i64 (c.nx 2), .int .i64 (c.nx 3), .int .i64 (c.nx 4), .int .i64 (c.nx 5), .int .i64 (c.nx 6), .int .i64 (c.nx 7), .int .i64 (c.nx 8), .int .i64 (c.nx 9), .int .i64 (c.mt 0), .int .i64 (c.mt 1), .int .i64 (c.mt 2), .int .i64 (c.mt 3), .int .i64 (c.mt 4), .int .i64 (c.mt 5), .int .i64 (c.mt 6), .int .i64 (c.mt 7), .int .i64 (c.mt 8), .int .i64 (c.mt 9), v] 69 (0, 0)) := HA2.out.blk
  have h0 : PshS R X #[.int .i64 c.id, .int .i64 c.role, .int .i64 c.tm, .int .i64 c.vt, .int .i64 c.ld, .int .i64 c.wt, .int .i64 c.cm, .int .i64 c.sf, .int .i64 c.l.b, .int .i64 c.l.bt, .int .u16 c.l.j.ov, .int .u16 c.l.j.ox, .int .u16 c.l.j.ol, .int .i64 c.l.j.oe, .int .i64 c.l.j.ok, .int .u16 c.l.j.nv, .int .u16 c.l.j.nx, .int .u16 c.l.j.nl, .int .i64 c.l.j.ne, .int .i64 c.l.j.nk, .bool c.l.j.two, .slice p c.l.es.length k, .string c.sn, .int .u16 c.vs, .int .u16 c.hd, .int .i64 (c.nx 0), .int .i64 (c.nx 1), .int .i64 (c.nx 2), .int .i64 (c.nx 3), .int .i64 (c.nx 4), .int .i64 (c.nx 5), .int .i64 (c.nx 6), .int .i64 (c.nx 7), .int .i64 (c.nx 8), .int .i64 (c.nx 9), .int .i64 (c.mt 0), .int .i64 (c.mt 1), .int .i64 (c.mt 2), .int .i64 (c.mt 3), .int .i64 (c.mt 4), .int .i64 (c.mt 5), .int .i64 (c.mt 6), .int .i64 (c.mt 7), .int .i64 (c.mt 8), .int .i64 (c.mt 9), v] #[.int .i64 e2.t, .int .i64 e2.k, .string e2.d, .int .u16 e2.j.ov, .int .u16 e2.j.ox, .int .u16 e2.j.ol, .int .i64 e2.j.oe, .int .i64 e2.j.ok, .int .u16 e2.j.nv, .int .u16 e2.j.nx, .int .u16 e2.j.nl, .int .i64 e2.j.ne, .int .i64 e2.j.nk, .bool e2.j.two] W2.drew := PshS.of (w := W2.drew) hR2 HX2.out
  refine wp_region_held_drew (S := PshS R X #[.int .i64 c.id, .int .i64 c.role, .int .i64 c.tm, .int .i64 c.vt, .int .i64 c.ld, .int .i64 c.wt, .int .i64 c.cm, .int .i64 c.sf, .int .i64 c.l.b, .int .i64 c.l.bt, .int .u16 c.l.j.ov, .int .u16 c.l.j.ox, .int .u16 c.l.j.ol, .int .i64 c.l.j.oe, .int .i64 c.l.j.ok, .int .u16 c.l.j.nv, .int .u16 c.l.j.nx, .int .u16 c.l.j.nl, .int .i64 c.l.j.ne, .int .i64 c.l.j.nk, .bool c.l.j.two, .slice p c.l.es.length k, .string c.sn, .int .u16 c.vs, .int .u16 c.hd, .int .i64 (c.nx 0), .int .i64 (c.nx 1), .int .i64 (c.nx 2), .int .i64 (c.nx 3), .int .i64 (c.nx 4), .int .i64 (c.nx 5), .int .i64 (c.nx 6), .int .i64 (c.nx 7), .int .i64 (c.nx 8), .int .i64 (c.nx 9), .int .i64 (c.mt 0), .int .i64 (c.mt 1), .int .i64 (c.mt 2), .int .i64 (c.mt 3), .int .i64 (c.mt 4), .int .i64 (c.mt 5), .int .i64 (c.mt 6), .int .i64 (c.mt 7), .int .i64 (c.mt 8), .int .i64 (c.mt 9), v] #[.int .i64 e2.t, .int .i64 e2.k, .string e2.d, .int .u16 e2.j.ov, .int .u16 e2.j.ox, .int .u16 e2.j.ol, .int .i64 e2.j.oe, .int .i64 e2.j.ok, .int .u16 e2.j.nv, .int .u16 e2.j.nx, .int .u16 e2.j.nl, .int .i64 e2.j.ne, .int .i64 e2.j.nk, .bool e2.j.two]) (by kernel_rfl) h0 (fun hHeld => ?_)
  have HA3 := Lib.hid (HA2.out.keep (Below.refl _ _).drew)
  have HX3 : Hid (W2.drew.heap[X]? = some (.cells #[.int .i64 e2.t, .int .i64 e2.k, .string e2.d, .int .u16 e2.j.ov, .int .u16 e2.j.ox, .int .u16 e2.j.ol, .int .i64 e2.j.oe, .int .i64 e2.j.ok, .int .u16 e2.j.nv, .int .u16 e2.j.nx, .int .u16 e2.j.nl, .int .i64 e2.j.ne, .int .i64 e2.j.nk, .bool e2.j.two] 47 (0, 0))) := HX2.out
  have HB3 := Lib.hid HB2.out.drew
  obtain ⟨wd, ewd⟩ : ∃ x, W2.drew = x := ⟨_, rfl⟩
  rw [ewd] at h0 hHeld HA3 HX3 HB3 ⊢
  clear ewd hR2 HA2 HX2 HB2
  have kXX : ∀ w', PshS R X #[.int .i64 c.id, .int .i64 c.role, .int .i64 c.tm, .int .i64 c.vt, .int .i64 c.ld, .int .i64 c.wt, .int .i64 c.cm, .int .i64 c.sf, .int .i64 c.l.b, .int .i64 c.l.bt, .int .u16 c.l.j.ov, .int .u16 c.l.j.ox, .int .u16 c.l.j.ol, .int .i64 c.l.j.oe, .int .i64 c.l.j.ok, .int .u16 c.l.j.nv, .int .u16 c.l.j.nx, .int .u16 c.l.j.nl, .int .i64 c.l.j.ne, .int .i64 c.l.j.nk, .bool c.l.j.two, .slice p c.l.es.length k, .string c.sn, .int .u16 c.vs, .int .u16 c.hd, .int .i64 (c.nx 0), .int .i64 (c.nx 1), .int .i64 (c.nx 2), .int .i64 (c.nx 3), .int .i64 (c.nx 4), .int .i64 (c.nx 5), .int .i64 (c.nx 6), .int .i64 (c.nx 7), .int .i64 (c.nx 8), .int .i64 (c.nx 9), .int .i64 (c.mt 0), .int .i64 (c.mt 1), .int .i64 (c.mt 2), .int .i64 (c.mt 3), .int .i64 (c.mt 4), .int .i64 (c.mt 5), .int .i64 (c.mt 6), .int .i64 (c.mt 7), .int .i64 (c.mt 8), .int .i64 (c.mt 9), v] #[.int .i64 e2.t, .int .i64 e2.k, .string e2.d, .int .u16 e2.j.ov, .int .u16 e2.j.ox, .int .u16 e2.j.ol, .int .i64 e2.j.oe, .int .i64 e2.j.ok, .int .u16 e2.j.nv, .int .u16 e2.j.nx, .int .u16 e2.j.nl, .int .i64 e2.j.ne, .int .i64 e2.j.nk, .bool e2.j.two] w' → ∀ j, w'.cell? ⟨X, j, none⟩ = #[.int .i64 e2.t, .int .i64 e2.k, .string e2.d, .int .u16 e2.j.ov, .int .u16 e2.j.ox, .int .u16 e2.j.ol, .int .i64 e2.j.oe, .int .i64 e2.j.ok, .int .u16 e2.j.nv, .int .u16 e2.j.nx, .int .u16 e2.j.nl, .int .i64 e2.j.ne, .int .i64 e2.j.nk, .bool e2.j.two][j]? := fun w' h => h.x
  refine tkH (i := 0) (v := ?_) rfl (Or.inl ⟨by rfl, ?_⟩) hHeld ?_
  rotate_left
  · (intro wz hSw; (try dsimp only at hSw); (try simp only [zA, zC]); go_simp; try with_reducible rfl)
  try simp only [zA, zC, Act.put, zD, zE, zF]
  refine tkH (i := 1) (v := ?_) rfl (Or.inl ⟨by rfl, ?_⟩) hHeld ?_
  rotate_left
  · (intro wz hSw; (try dsimp only at hSw); (try simp only [zA, zB, zC]); go_simp; try with_reducible rfl)
  try simp only [zA, zB, zC, Act.put, zD, zE, zF]
  refine tkH (i := 2) (v := ?_) rfl (Or.inl ⟨by rfl, ?_⟩) hHeld ?_
  rotate_left
  · (intro wz hSw; (try dsimp only at hSw); (try simp only [zA, zB, zC]); go_simp; try with_reducible rfl)
  try simp only [zA, zB, zC, Act.put, zD, zE, zF]
  refine tkH (i := 3) (v := ?_) rfl (Or.inl ⟨by rfl, ?_⟩) hHeld ?_
  rotate_left
  · (intro wz hSw; (try dsimp only at hSw); (try simp only [zA, zB, zC]); go_simp; try with_reducible rfl)
  try simp only [zA, zB, zC, Act.put, zD, zE, zF]
  refine tkH (i := 4) (v := ?_) rfl (Or.inl ⟨by rfl, ?_⟩) hHeld ?_
  rotate_left
  · (intro wz hSw; (try dsimp only at hSw); (try simp only [zA, zB, zC]); go_simp; try with_reducible rfl)
  try simp only [zA, zB, zC, Act.put, zD, zE, zF]
  refine tkH (i := 6) (v := ?_) rfl (Or.inl ⟨by rfl, ?_⟩) hHeld ?_
  rotate_left
  · (intro wz hSw; (try dsimp only at hSw); (try simp only [zA, zB, zC]); go_simp; try with_reducible rfl)
  try simp only [zA, zB, zC, Act.put, zD, zE, zF]
  refine wpAnyH_ready (rs := [5]) (by kernel_rfl) (by simp) ?_; refine AllReadyH.cons rfl (fun K hK => ?_) AllReadyH.nil
  have hRd : wd.heap[R]? = some (.cells #[.int .i64 c.id, .int .i64 c.role, .int .i64 c.tm, .int .i64 c.vt, .int .i64 c.ld, .int .i64 c.wt, .int .i64 c.cm, .int .i64 c.sf, .int .i64 c.l.b, .int .i64 c.l.bt, .int .u16 c.l.j.ov, .int .u16 c.l.j.ox, .int .u16 c.l.j.ol, .int .i64 c.l.j.oe, .int .i64 c.l.j.ok, .int .u16 c.l.j.nv, .int .u16 c.l.j.nx, .int .u16 c.l.j.nl, .int .i64 c.l.j.ne, .int .i64 c.l.j.nk, .bool c.l.j.two, .slice p c.l.es.length k, .string c.sn, .int .u16 c.vs, .int .u16 c.hd, .int .i64 (c.nx 0), .int .i64 (c.nx 1), .int .i64 (c.nx 2), .int .i64 (c.nx 3), .int .i64 (c.nx 4), .int .i64 (c.nx 5), .int .i64 (c.nx 6), .int .i64 (c.nx 7), .int .i64 (c.nx 8), .int .i64 (c.nx 9), .int .i64 (c.mt 0), .int .i64 (c.mt 1), .int .i64 (c.mt 2), .int .i64 (c.mt 3), .int .i64 (c.mt 4), .int .i64 (c.mt 5), .int .i64 (c.mt 6), .int .i64 (c.mt 7), .int .i64 (c.mt 8), .int .i64 (c.mt 9), v] 69 (0, 0)) := HA3.out.blk
  have kRd := block_cells hRd
  try simp only [zA, zB, zC]
  go_simp
  refine hK.out _ _ hHeld (fun _ => ?_)
  clear hK K kRd hRd
  try simp only [zA, zB, zC, Act.put, zD, zE, zF]
  refine wpAnyH_ready (rs := [7]) (by kernel_rfl) (by simp) ?_; refine AllReadyH.cons rfl (fun K hK => ?_) AllReadyH.nil; (try simp only [zA, zB, zC]); go_simp
  refine (show Calls Tryz.prog _ _ wd (LgEnd wd.heap.size wd lg) from by have := push_any c.l p k e2 wd (EnSl.of_own HA3.out.en) (by have := HLE.out; omega); rw [HLG.out] at this; exact this).mono ?_; rintro r0 w3 ⟨q, d, rfl, ho, b3⟩
  have hA4 := HA3.out.keep b3
  have hR4 : w3.heap[R]? = some (.cells #[.int .i64 c.id, .int .i64 c.role, .int .i64 c.tm, .int .i64 c.vt, .int .i64 c.ld, .int .i64 c.wt, .int .i64 c.cm, .int .i64 c.sf, .int .i64 c.l.b, .int .i64 c.l.bt, .int .u16 c.l.j.ov, .int .u16 c.l.j.ox, .int .u16 c.l.j.ol, .int .i64 c.l.j.oe, .int .i64 c.l.j.ok, .int .u16 c.l.j.nv, .int .u16 c.l.j.nx, .int .u16 c.l.j.nl, .int .i64 c.l.j.ne, .int .i64 c.l.j.nk, .bool c.l.j.two, .slice p c.l.es.length k, .string c.sn, .int .u16 c.vs, .int .u16 c.hd, .int .i64 (c.nx 0), .int .i64 (c.nx 1), .int .i64 (c.nx 2), .int .i64 (c.nx 3), .int .i64 (c.nx 4), .int .i64 (c.nx 5), .int .i64 (c.nx 6), .int .i64 (c.nx 7), .int .i64 (c.nx 8), .int .i64 (c.nx 9), .int .i64 (c.mt 0), .int .i64 (c.mt 1), .int .i64 (c.mt 2), .int .i64 (c.mt 3), .int .i64 (c.mt 4), .int .i64 (c.mt 5), .int .i64 (c.mt 6), .int .i64 (c.mt 7), .int .i64 (c.mt 8), .int .i64 (c.mt 9), v] 69 (0, 0)) := hA4.blk
  have hX4 := below_block b3 (block_lt HX3.out) HX3.out
  have S3 : PshS R X #[.int .i64 c.id, .int .i64 c.role, .int .i64 c.tm, .int .i64 c.vt, .int .i64 c.ld, .int .i64 c.wt, .int .i64 c.cm, .int .i64 c.sf, .int .i64 c.l.b, .int .i64 c.l.bt, .int .u16 c.l.j.ov, .int .u16 c.l.j.ox, .int .u16 c.l.j.ol, .int .i64 c.l.j.oe, .int .i64 c.l.j.ok, .int .u16 c.l.j.nv, .int .u16 c.l.j.nx, .int .u16 c.l.j.nl, .int .i64 c.l.j.ne, .int .i64 c.l.j.nk, .bool c.l.j.two, .slice p c.l.es.length k, .string c.sn, .int .u16 c.vs, .int .u16 c.hd, .int .i64 (c.nx 0), .int .i64 (c.nx 1), .int .i64 (c.nx 2), .int .i64 (c.nx 3), .int .i64 (c.nx 4), .int .i64 (c.nx 5), .int .i64 (c.nx 6), .int .i64 (c.nx 7), .int .i64 (c.nx 8), .int .i64 (c.nx 9), .int .i64 (c.mt 0), .int .i64 (c.mt 1), .int .i64 (c.mt 2), .int .i64 (c.mt 3), .int .i64 (c.mt 4), .int .i64 (c.mt 5), .int .i64 (c.mt 6), .int .i64 (c.mt 7), .int .i64 (c.mt 8), .int .i64 (c.mt 9), v] #[.int .i64 e2.t, .int .i64 e2.k, .string e2.d, .int .u16 e2.j.ov, .int .u16 e2.j.ox, .int .u16 e2.j.ol, .int .i64 e2.j.oe, .int .i64 e2.j.ok, .int .u16 e2.j.nv, .int .u16 e2.j.nx, .int .u16 e2.j.nl, .int .i64 e2.j.ne, .int .i64 e2.j.nk, .bool e2.j.two] w3 := PshS.of hR4 hX4
  have S4 : PshS R X #[.int .i64 c.id, .int .i64 c.role, .int .i64 c.tm, .int .i64 c.vt, .int .i64 c.ld, .int .i64 c.wt, .int .i64 c.cm, .int .i64 c.sf, .int .i64 c.l.b, .int .i64 c.l.bt, .int .u16 c.l.j.ov, .int .u16 c.l.j.ox, .int .u16 c.l.j.ol, .int .i64 c.l.j.oe, .int .i64 c.l.j.ok, .int .u16 c.l.j.nv, .int .u16 c.l.j.nx, .int .u16 c.l.j.nl, .int .i64 c.l.j.ne, .int .i64 c.l.j.nk, .bool c.l.j.two, .slice p c.l.es.length k, .string c.sn, .int .u16 c.vs, .int .u16 c.hd, .int .i64 (c.nx 0), .int .i64 (c.nx 1), .int .i64 (c.nx 2), .int .i64 (c.nx 3), .int .i64 (c.nx 4), .int .i64 (c.nx 5), .int .i64 (c.nx 6), .int .i64 (c.nx 7), .int .i64 (c.nx 8), .int .i64 (c.nx 9), .int .i64 (c.mt 0), .int .i64 (c.mt 1), .int .i64 (c.mt 2), .int .i64 (c.mt 3), .int .i64 (c.mt 4), .int .i64 (c.mt 5), .int .i64 (c.mt 6), .int .i64 (c.mt 7), .int .i64 (c.mt 8), .int .i64 (c.mt 9), v] #[.int .i64 e2.t, .int .i64 e2.k, .string e2.d, .int .u16 e2.j.ov, .int .u16 e2.j.ox, .int .u16 e2.j.ol, .int .i64 e2.j.oe, .int .i64 e2.j.ok, .int .u16 e2.j.nv, .int .u16 e2.j.nx, .int .u16 e2.j.nl, .int .i64 e2.j.ne, .int .i64 e2.j.nk, .bool e2.j.two] (w3.setCells R 8 [.int .i64 lg.b, .int .i64 lg.bt, .int .u16 lg.j.ov, .int .u16 lg.j.ox, .int .u16 lg.j.ol, .int .i64 lg.j.oe, .int .i64 lg.j.ok, .int .u16 lg.j.nv, .int .u16 lg.j.nx, .int .u16 lg.j.nl, .int .i64 lg.j.ne, .int .i64 lg.j.nk, .bool lg.j.two, .slice q lg.es.length d]) := PshS.log hR4 hX4 hne2 _ rfl
  have ho2 : w3.ownsRow wd.heap.size 47 14 (.slice q ({ c with l := lg } : Co).l.es.length d) ({ c with l := lg } : Co).l.es.length (entRow ({ c with l := lg } : Co).l.es) := ho
  have hp := hA4.puts 8 [.int .i64 lg.b, .int .i64 lg.bt, .int .u16 lg.j.ov, .int .u16 lg.j.ox, .int .u16 lg.j.ol, .int .i64 lg.j.oe, .int .i64 lg.j.ok, .int .u16 lg.j.nv, .int .u16 lg.j.nx, .int .u16 lg.j.nl, .int .i64 lg.j.ne, .int .i64 lg.j.nk, .bool lg.j.two, .slice q lg.es.length d] (by show 8 + 14 ≤ 45; decide) ⟨{ c with l := lg }, q, d⟩ rfl (ho2.mono (by have := HA3.out.le; have := HA3.out.lt; omega)) (sep_new HA3.out.out (Nat.le_refl _) ho2)
  rw [HC2.out] at hp
  have HA5 := Lib.hid hp.1
  have HB5 := Lib.hid ((HB3.out.trans (AcR.below b3)).trans hp.2)
  have HT := Lib.hid (there_of_block (o := 8) (n := 14) hR4 (by show 8 + 14 ≤ 46; decide))
  refine hK.out _ _ S3 (fun _ => ?_)
  clear hK K ho ho2 b3 hA4 hR4 hX4 hp HA3 HX3 HB3 kXX hHeld h0
  try simp only [zA, zB, zC, Act.put, zD, zE, zF]
  have hHeld := S3
  refine tkH (i := 8) (v := ?_) rfl (Or.inl ⟨by rfl, ?_⟩) hHeld ?_
  rotate_left
  · (intro wz hSw; (try dsimp only at hSw); (try simp only [zA, zB, zC]); go_simp; try with_reducible rfl)
  try simp only [zA, zB, zC, Act.put, zD, zE, zF]
  refine tkH (i := 9) (v := ?_) rfl (Or.inl ⟨by rfl, ?_⟩) hHeld ?_
  rotate_left
  · (intro wz hSw; (try dsimp only at hSw); (try simp only [zA, zB, zC]); go_simp; try with_reducible rfl)
  try simp only [zA, zB, zC, Act.put, zD, zE, zF]
  refine tkH (i := 10) (v := ?_) rfl (Or.inl ⟨by rfl, ?_⟩) hHeld ?_
  rotate_left
  · (intro wz hSw; (try dsimp only at hSw); (try simp only [zA, zB, zC]); go_simp; try with_reducible rfl)
  try simp only [zA, zB, zC, Act.put, zD, zE, zF]
  refine wpAnyH_ready (rs := [11]) (by kernel_rfl) (by simp) ?_; refine AllReadyH.cons rfl (fun K hK => ?_) AllReadyH.nil
  rw [if_pos (by rfl)]
  refine wp_store_mid _ _ _ (by rfl) R 8 #[.int .i64 lg.b, .int .i64 lg.bt, .int .u16 lg.j.ov, .int .u16 lg.j.ox, .int .u16 lg.j.ol, .int .i64 lg.j.oe, .int .i64 lg.j.ok, .int .u16 lg.j.nv, .int .u16 lg.j.nx, .int .u16 lg.j.nl, .int .i64 lg.j.ne, .int .i64 lg.j.nk, .bool lg.j.two, .slice q lg.es.length d] (by rfl) (by rfl) HT.out (by kernel_rfl) (one_all rfl) ?_
  refine hK.out _ _ S4 (fun _ => ?_)
  clear hK K hHeld S3 S4 HT
  try simp only [zA, zB, zC, Act.put]
  refine wpAnyH_done (by kernel_rfl) ?_ _
  obtain ⟨W5, hW5⟩ : ∃ z : World, w3.setCells R 8 [.int .i64 lg.b, .int .i64 lg.bt, .int .u16 lg.j.ov, .int .u16 lg.j.ox, .int .u16 lg.j.ol, .int .i64 lg.j.oe, .int .i64 lg.j.ok, .int .u16 lg.j.nv, .int .u16 lg.j.nx, .int .u16 lg.j.nl, .int .i64 lg.j.ne, .int .i64 lg.j.nk, .bool lg.j.two, .slice q lg.es.length d] = z := ⟨_, rfl⟩
  rw [hW5] at HA5 HB5
  (try rw [hW5])
  (try rw [show w3.setCells R 8 (#[.int .i64 lg.b, .int .i64 lg.bt, .int .u16 lg.j.ov, .int .u16 lg.j.ox, .int .u16 lg.j.ol, .int .i64 lg.j.oe, .int .i64 lg.j.ok, .int .u16 lg.j.nv, .int .u16 lg.j.nx, .int .u16 lg.j.nl, .int .i64 lg.j.ne, .int .i64 lg.j.nk, .bool lg.j.two, .slice q lg.es.length d] : Array Value).toList = W5 from hW5])
  clear hW5
  have hl2 : c2.l = pushL c.l e2 := by rw [← HC2.out, HLG.out]
  have HF2 : Hid (LgFit c2.l) := by show LgFit c2.l; rw [hl2]; exact push_fit HF.out (by have := HLE.out; omega)
  have HL2 : Hid (c2.l.last = c.l.last + 1) := by show _ = _; rw [hl2, push_last]
  have HI2 : Hid (c2.id = (n : Int)) := by show _ = _; rw [← HID.out, ← HC2.out]
  clear hl2
  have hR5 : W5.heap[R]? = some (.cells #[.int .i64 c2.id, .int .i64 c2.role, .int .i64 c2.tm, .int .i64 c2.vt, .int .i64 c2.ld, .int .i64 c2.wt, .int .i64 c2.cm, .int .i64 c2.sf, .int .i64 c2.l.b, .int .i64 c2.l.bt, .int .u16 c2.l.j.ov, .int .u16 c2.l.j.ox, .int .u16 c2.l.j.ol, .int .i64 c2.l.j.oe, .int .i64 c2.l.j.ok, .int .u16 c2.l.j.nv, .int .u16 c2.l.j.nx, .int .u16 c2.l.j.nl, .int .i64 c2.l.j.ne, .int .i64 c2.l.j.nk, .bool c2.l.j.two, .slice q c2.l.es.length d, .string c2.sn, .int .u16 c2.vs, .int .u16 c2.hd, .int .i64 (c2.nx 0), .int .i64 (c2.nx 1), .int .i64 (c2.nx 2), .int .i64 (c2.nx 3), .int .i64 (c2.nx 4), .int .i64 (c2.nx 5), .int .i64 (c2.nx 6), .int .i64 (c2.nx 7), .int .i64 (c2.nx 8), .int .i64 (c2.nx 9), .int .i64 (c2.mt 0), .int .i64 (c2.mt 1), .int .i64 (c2.mt 2), .int .i64 (c2.mt 3), .int .i64 (c2.mt 4), .int .i64 (c2.mt 5), .int .i64 (c2.mt 6), .int .i64 (c2.mt 7), .int .i64 (c2.mt 8), .int .i64 (c2.mt 9), v] 69 (0, 0)) := HA5.out.blk
  have kR := block_cells hR5
  obtain ⟨L, hL⟩ : ∃ L, c.l.last + 1 = L := ⟨_, rfl⟩
  have HCL := Lib.hid (show Calls Tryz.prog 64 #[.agg #[.int .i64 c2.l.b, .int .i64 c2.l.bt, .int .u16 c2.l.j.ov, .int .u16 c2.l.j.ox, .int .u16 c2.l.j.ol, .int .i64 c2.l.j.oe, .int .i64 c2.l.j.ok, .int .u16 c2.l.j.nv, .int .u16 c2.l.j.nx, .int .u16 c2.l.j.nl, .int .i64 c2.l.j.ne, .int .i64 c2.l.j.nk, .bool c2.l.j.two, .slice q c2.l.es.length d]] W5 fun r w2 => r = .returned (.int .i64 L) ∧ Below W5.heap.size W5 w2 from by have := last_any c2.l q d W5 HF2.out.b0 HF2.out.b1 HF2.out.n; rw [HL2.out, hL] at this; exact this)
  have HLL := Lib.hid hL
  clear hR5 hL
  go_wp2_with fail
  refine HCL.out.mono ?_; rintro r w6 ⟨rfl, b6⟩
  have HA6 := Lib.hid (HA5.out.keep b6); have HB6 := Lib.hid (HB5.out.trans (AcR.below b6))
  clear b6 HCL kR HA5 HB5
  have hR6 : w6.heap[R]? = some (.cells #[.int .i64 c2.id, .int .i64 c2.role, .int .i64 c2.tm, .int .i64 c2.vt, .int .i64 c2.ld, .int .i64 c2.wt, .int .i64 c2.cm, .int .i64 c2.sf, .int .i64 c2.l.b, .int .i64 c2.l.bt, .int .u16 c2.l.j.ov, .int .u16 c2.l.j.ox, .int .u16 c2.l.j.ol, .int .i64 c2.l.j.oe, .int .i64 c2.l.j.ok, .int .u16 c2.l.j.nv, .int .u16 c2.l.j.nx, .int .u16 c2.l.j.nl, .int .i64 c2.l.j.ne, .int .i64 c2.l.j.nk, .bool c2.l.j.two, .slice q c2.l.es.length d, .string c2.sn, .int .u16 c2.vs, .int .u16 c2.hd, .int .i64 (c2.nx 0), .int .i64 (c2.nx 1), .int .i64 (c2.nx 2), .int .i64 (c2.nx 3), .int .i64 (c2.nx 4), .int .i64 (c2.nx 5), .int .i64 (c2.nx 6), .int .i64 (c2.nx 7), .int .i64 (c2.nx 8), .int .i64 (c2.nx 9), .int .i64 (c2.mt 0), .int .i64 (c2.mt 1), .int .i64 (c2.mt 2), .int .i64 (c2.mt 3), .int .i64 (c2.mt 4), .int .i64 (c2.mt 5), .int .i64 (c2.mt 6), .int .i64 (c2.mt 7), .int .i64 (c2.mt 8), .int .i64 (c2.mt 9), v] 69 (0, 0)) := HA6.out.blk
  have k0 : w6.cell? ⟨R, 0, none⟩ = some (.int .i64 (n : Int)) := by rw [← HI2.out]; exact block_cells hR6 0
  have kM := ac_mt hR6 hn
  have fM := block_free hR6 (35 + n)
  have hn0 : 0 ≤ (n : Int) := by omega
  have hn1 : (n : Int) < 10 := by omega
  have hp := HA6.out.put (35 + n) (.int .i64 L) (by omega) ⟨{ c2 with mt := upd c2.mt n L }, q, d⟩ (mt_set c2 q d hn L) rfl rfl rfl
  have HP := Lib.hid (And.intro (hp.1.keep (Below.refl _ _).drew) (HB6.out.trans hp.2).drew)
  clear hR6 hp HA6 HB6
  go_upto_region 4 with fail
  apply cut2W
  · intro hcut
    go_region_law (fail)
    all_goals exact hcut
  go_wp2_with fail
  go_ret
  rw [HLL.out]
  exact ⟨rfl, q, d, HP.out.1, HP.out.2⟩
end Go.Proofs.YtbnndbdnejfehaaGreatDoor
/- Core: methods of an act: a node is sent what it lacks (the program's). -/
namespace Go.Proofs.YtbnndbdnejfehaaGreatDoor
open Go.ChangeShapes Go.WideShapes Go.ChangeAt Go.RowKit

theorem wp_store_newA {P : Program} {op : Oper} {a : Act} {w : World} {K : Act → World → Prop} {Q : Exit → Act → World → Prop} (ty : TypeId) (x y : Operand) (ho : op.op = .store ty x y)
    (c c' : Array Value) (hx : a.eval x = .pointer (some ⟨w.heap.size, 0, none⟩)) (hy : a.eval y = .agg c') (hi : (P.info? ty).map (·.size) = some c'.size) (hs : c.size = c'.size) (h1 : c'.all (·.oneCell') = true)
    (h : K (a.put op.dst undef) (w.alloc (.cells c' ty))) : op.wp P a (w.alloc (.cells c ty)) K Q := by
  unfold Oper.wp execOp
  simp only [ho, hx, hy, run_storeAt_new w ty c c' hi hs h1, Sem.run_bind, Sem.run_pure, Result.andThen_ok]
  exact h
/-- A message of no entries, in memory. -/
theorem MsOwn.none {B : Nat} {w : World} {m : Ms} (h : m.es = []) : MsOwn B w ⟨m, none, 0⟩ := by
  unfold MsOwn
  rw [h]
  exact ⟨rfl, .inl ⟨rfl, rfl⟩⟩
theorem AcR.upto2 {w W W2 : World} {R X : Nat} {v : Value} (h : AcR w W R v v) (hg : W.grownBy W2 (some X)) (_hX : R ≠ X) (hs : w.heap.size ≤ X) : AcR w W2 R v v :=
  ⟨hg.os.trans h.os, hg.tape.trans h.tape, hg.output.trans h.output, Nat.le_trans h.size hg.size, fun b hb hR hv => by
    have h1 := (h.oth b hb hR hv).1
    have h3 := hg.block b (Nat.lt_of_lt_of_le hb h.size) (fun e => by simp only [Option.some.injEq] at e; omega)
    exact ⟨h3.trans h1, hv⟩⟩
/-- All cells of an act's block. -/
structure RAll (R : Nat) (cs : Array Value) (w' : World) : Prop where
  r : ∀ j, w'.cell? ⟨R, j, none⟩ = cs[j]?
theorem RAll.of {R : Nat} {cs : Array Value} {t : TypeId} {w : World} (hR : w.heap[R]? = some (.cells cs t (0, 0))) : RAll R cs w := ⟨block_cells hR⟩

set_option maxRecDepth 100000 in
set_option maxHeartbeats 16000000 in
theorem bring_act (B R n : Nat) (c : Co) (p : Option Addr) (k : Nat) (v : Value) (l : List MsX) (w : World) (h : AcW 69 B w R ⟨c, p, k⟩ v l) (hF : LgFit c.l) (hn : n < 10) (hx : 0 ≤ c.nx n ∧ c.nx n ≤ 4611686018427387904) (hl : l.length ≤ 100000) :
    Calls Tryz.prog 97 #[.pointer (some ⟨R, 0, none⟩), .int .i64 (n : Int)] w fun e w' => e = .returned (.tuple #[]) ∧ ∃ v' q d, AcW 69 B w' R ⟨c, p, k⟩ v' (l ++ [⟨putM c (n : Int) (bringM c n), q, d⟩]) ∧ AcR w w' R v v' := by
  obtain ⟨m0, hm0⟩ : ∃ m0 : Ms, { ms0 with k := 5, ix := c.l.b, lt := c.l.bt, sn := c.sn, cf := c.l.j, cm := c.cm, sf := c.sf } = m0 := ⟨_, rfl⟩
  have hE := EnSl.of_own h.en
  have HA := Lib.hid h; have HF : Hid (LgFit c.l) := hF; have HL := Lib.hid hl
  have HM0 := Lib.hid hm0
  have hR : w.heap[R]? = some (.cells #[.int .i64 c.id, .int .i64 c.role, .int .i64 c.tm, .int .i64 c.vt, .int .i64 c.ld, .int .i64 c.wt, .int .i64 c.cm, .int .i64 c.sf, .int .i64 c.l.b, .int .i64 c.l.bt, .int .u16 c.l.j.ov, .int .u16 c.l.j.ox, .int .u16 c.l.j.ol, .int .i64 c.l.j.oe, .int .i64 c.l.j.ok, .int .u16 c.l.j.nv, .int .u16 c.l.j.nx, .int .u16 c.l.j.nl, .int .i64 c.l.j.ne, .int .i64 c.l.j.nk, .bool c.l.j.two, .slice p c.l.es.length k, .string c.sn, .int .u16 c.vs, .int .u16 c.hd, .int .i64 (c.nx 0), .int .i64 (c.nx 1), .int .i64 (c.nx 2), .int .i64 (c.nx 3), .int .i64 (c.nx 4), .int .i64 (c.nx 5), .int .i64 (c.nx 6), .int .i64 (c.nx 7), .int .i64 (c.nx 8), .int .i64 (c.nx 9), .int .i64 (c.mt 0), .int .i64 (c.mt 1), .int .i64 (c.mt 2), .int .i64 (c.mt 3), .int .i64 (c.mt 4), .int .i64 (c.mt 5), .int .i64 (c.mt 6), .int .i64 (c.mt 7), .int .i64 (c.mt 8), .int .i64 (c.mt 9), v] 69 (0, 0)) := h.blk
  have hRl := h.lt
  clear h hF hE hl
  go_enter Tryz.func97, Tryz.ntmps97
  go_upto_region 0 with fail
  have h0 : RAll R #[.int .i64 c.id, .int .i64 c.role, .int .i64 c.tm, .int .i64 c.vt, .int .i64 c.ld, .int .i64 c.wt, .int .i64 c.cm, .int .i64 c.sf, .int .i64 c.l.b, .int .i64 c.l.bt, .int .u16 c.l.j.ov, .int .u16 c.l.j.ox, .int .u16 c.l.j.ol, .int .i64 c.l.j.oe, .int .i64 c.l.j.ok, .int .u16 c.l.j.nv, .int .u16 c.l.j.nx, .int .u16 c.l.j.nl, .int .i64 c.l.j.ne, .int .i64 c.l.j.nk, .bool c.l.j.two, .slice p c.l.es.length k, .string c.sn, .int .u16 c.vs, .int .u16 c.hd, .int .i64 (c.nx 0), .int .i64 (c.nx 1), .int .i64 (c.nx 2), .int .i64 (c.nx 3), .int .i64 (c.nx 4), .int .i64 (c.nx 5), .int .i64 (c.nx 6), .int .i64 (c.nx 7), .int .i64 (c.nx 8), .int .i64 (c.nx 9), .int .i64 (c.mt 0), .int .i64 (c.mt 1), .int .i64 (c.mt 2), .int .i64 (c.mt 3), .int .i64 (c.mt 4), .int .i64 (c.mt 5), .int .i64 (c.mt 6), .int .i64 (c.mt 7), .int .i64 (c.mt 8), .int .i64 (c.mt 9), v] w.drew := RAll.of (w := w.drew) hR
  refine wp_region_held_drew (S := RAll R #[.int .i64 c.id, .int .i64 c.role, .int .i64 c.tm, .int .i64 c.vt, .int .i64 c.ld, .int .i64 c.wt, .int .i64 c.cm, .int .i64 c.sf, .int .i64 c.l.b, .int .i64 c.l.bt, .int .u16 c.l.j.ov, .int .u16 c.l.j.ox, .int .u16 c.l.j.ol, .int .i64 c.l.j.oe, .int .i64 c.l.j.ok, .int .u16 c.l.j.nv, .int .u16 c.l.j.nx, .int .u16 c.l.j.nl, .int .i64 c.l.j.ne, .int .i64 c.l.j.nk, .bool c.l.j.two, .slice p c.l.es.length k, .string c.sn, .int .u16 c.vs, .int .u16 c.hd, .int .i64 (c.nx 0), .int .i64 (c.nx 1), .int .i64 (c.nx 2), .int .i64 (c.nx 3), .int .i64 (c.nx 4), .int .i64 (c.nx 5), .int .i64 (c.nx 6), .int .i64 (c.nx 7), .int .i64 (c.nx 8), .int .i64 (c.nx 9), .int .i64 (c.mt 0), .int .i64 (c.mt 1), .int .i64 (c.mt 2), .int .i64 (c.mt 3), .int .i64 (c.mt 4), .int .i64 (c.mt 5), .int .i64 (c.mt 6), .int .i64 (c.mt 7), .int .i64 (c.mt 8), .int .i64 (c.mt 9), v]) (by kernel_rfl) h0 (fun hHeld => ?_)
  have HA1 := Lib.hid (HA.out.keep (Below.refl _ _).drew); have HB1 := Lib.hid (AcR.refl w R v).drew
  obtain ⟨wd, ewd⟩ : ∃ x, w.drew = x := ⟨_, rfl⟩
  rw [ewd] at h0 hHeld HA1 HB1 ⊢
  have kR : ∀ w', RAll R #[.int .i64 c.id, .int .i64 c.role, .int .i64 c.tm, .int .i64 c.vt, .int .i64 c.ld, .int .i64 c.wt, .int .i64 c.cm, .int .i64 c.sf, .int .i64 c.l.b, .int .i64 c.l.bt, .int .u16 c.l.j.ov, .int .u16 c.l.j.ox, .int .u16 c.l.j.ol, .int .i64 c.l.j.oe, .int .i64 c.l.j.ok, .int .u16 c.l.j.nv, .int .u16 c.l.j.nx, .int .u16 c.l.j.nl, .int .i64 c.l.j.ne, .int .i64 c.l.j.nk, .bool c.l.j.two, .slice p c.l.es.length k, .string c.sn, .int .u16 c.vs, .int .u16 c.hd, .int .i64 (c.nx 0), .int .i64 (c.nx 1), .int .i64 (c.nx 2), .int .i64 (c.nx 3), .int .i64 (c.nx 4), .int .i64 (c.nx 5), .int .i64 (c.nx 6), .int .i64 (c.nx 7), .int .i64 (c.nx 8), .int .i64 (c.nx 9), .int .i64 (c.mt 0), .int .i64 (c.mt 1), .int .i64 (c.mt 2), .int .i64 (c.mt 3), .int .i64 (c.mt 4), .int .i64 (c.mt 5), .int .i64 (c.mt 6), .int .i64 (c.mt 7), .int .i64 (c.mt 8), .int .i64 (c.mt 9), v] w' → ∀ j, w'.cell? ⟨R, j, none⟩ = #[.int .i64 c.id, .int .i64 c.role, .int .i64 c.tm, .int .i64 c.vt, .int .i64 c.ld, .int .i64 c.wt, .int .i64 c.cm, .int .i64 c.sf, .int .i64 c.l.b, .int .i64 c.l.bt, .int .u16 c.l.j.ov, .int .u16 c.l.j.ox, .int .u16 c.l.j.ol, .int .i64 c.l.j.oe, .int .i64 c.l.j.ok, .int .u16 c.l.j.nv, .int .u16 c.l.j.nx, .int .u16 c.l.j.nl, .int .i64 c.l.j.ne, .int .i64 c.l.j.nk, .bool c.l.j.two, .slice p c.l.es.length k, .string c.sn, .int .u16 c.vs, .int .u16 c.hd, .int .i64 (c.nx 0), .int .i64 (c.nx 1), .int .i64 (c.nx 2), .int .i64 (c.nx 3), .int .i64 (c.nx 4), .int .i64 (c.nx 5), .int .i64 (c.nx 6), .int .i64 (c.nx 7), .int .i64 (c.nx 8), .int .i64 (c.nx 9), .int .i64 (c.mt 0), .int .i64 (c.mt 1), .int .i64 (c.mt 2), .int .i64 (c.mt 3), .int .i64 (c.mt 4), .int .i64 (c.mt 5), .int .i64 (c.mt 6), .int .i64 (c.mt 7), .int .i64 (c.mt 8), .int .i64 (c.mt 9), v][j]? := fun w' h => h.r
  refine tkH (i := 0) (v := ?_) rfl (Or.inl ⟨by rfl, ?_⟩) hHeld ?_
  rotate_left
  · (intro wz hSw; (try dsimp only at hSw); (try simp only [zA, zC]); go_simp; try with_reducible rfl)
  try simp only [zA, zC, Act.put, zD, zE, zF]
  refine tkH (i := 1) (v := ?_) rfl (Or.inl ⟨by rfl, ?_⟩) hHeld ?_
  rotate_left
  · (intro wz hSw; (try dsimp only at hSw); (try simp only [zA, zB, zC]); go_simp; try with_reducible rfl)
  try simp only [zA, zB, zC, Act.put, zD, zE, zF]
  refine tkH (i := 2) (v := ?_) rfl (Or.inl ⟨by rfl, ?_⟩) hHeld ?_
  rotate_left
  · (intro wz hSw; (try dsimp only at hSw); (try simp only [zA, zB, zC]); go_simp; try with_reducible rfl)
  try simp only [zA, zB, zC, Act.put, zD, zE, zF]
  refine tkH (i := 3) (v := ?_) rfl (Or.inl ⟨by rfl, ?_⟩) hHeld ?_
  rotate_left
  · (intro wz hSw; (try dsimp only at hSw); (try simp only [zA, zB, zC]); go_simp; try with_reducible rfl)
  try simp only [zA, zB, zC, Act.put, zD, zE, zF]
  refine tkH (i := 4) (v := ?_) rfl (Or.inl ⟨by rfl, ?_⟩) hHeld ?_
  rotate_left
  · (intro wz hSw; (try dsimp only at hSw); (try simp only [zA, zB, zC]); go_simp; try with_reducible rfl)
  try simp only [zA, zB, zC, Act.put, zD, zE, zF]
  refine tkH (i := 5) (v := ?_) rfl (Or.inl ⟨by rfl, ?_⟩) hHeld ?_
  rotate_left
  · (intro wz hSw; (try dsimp only at hSw); (try simp only [zA, zB, zC]); go_simp; try with_reducible rfl)
  try simp only [zA, zB, zC, Act.put, zD, zE, zF]
  refine tkH (i := 6) (v := ?_) rfl (Or.inl ⟨by rfl, ?_⟩) hHeld ?_
  rotate_left
  · (intro wz hSw; (try dsimp only at hSw); (try simp only [zA, zB, zC]); go_simp; try with_reducible rfl)
  try simp only [zA, zB, zC, Act.put, zD, zE, zF]
  refine tkH (i := 7) (v := ?_) rfl (Or.inl ⟨by rfl, ?_⟩) hHeld ?_
  rotate_left
  · (intro wz hSw; (try dsimp only at hSw); (try simp only [zA, zB, zC]); go_simp; try with_reducible rfl)
  try simp only [zA, zB, zC, Act.put, zD, zE, zF]
  refine tkH (i := 8) (v := ?_) rfl (Or.inl ⟨by rfl, ?_⟩) hHeld ?_
  rotate_left
  · (intro wz hSw; (try dsimp only at hSw); (try simp only [zA, zB, zC]); go_simp; try with_reducible rfl)
  try simp only [zA, zB, zC, Act.put, zD, zE, zF]
  refine tkH (i := 9) (v := ?_) rfl (Or.inl ⟨by rfl, ?_⟩) hHeld ?_
  rotate_left
  · (intro wz hSw; (try dsimp only at hSw); (try simp only [zA, zB, zC]); go_simp; try with_reducible rfl)
  try simp only [zA, zB, zC, Act.put, zD, zE, zF]
  refine tkH (i := 10) (v := ?_) rfl (Or.inl ⟨by rfl, ?_⟩) hHeld ?_
  rotate_left
  · (intro wz hSw; (try dsimp only at hSw); (try simp only [zA, zB, zC]); go_simp; try with_reducible rfl)
  try simp only [zA, zB, zC, Act.put, zD, zE, zF]
  refine tkH (i := 11) (v := ?_) rfl (Or.inl ⟨by rfl, ?_⟩) hHeld ?_
  rotate_left
  · (intro wz hSw; (try dsimp only at hSw); (try simp only [zA, zB, zC]); go_simp; try with_reducible rfl)
  try simp only [zA, zB, zC, Act.put, zD, zE, zF]
  refine tkH (i := 12) (v := ?_) rfl (Or.inl ⟨by rfl, ?_⟩) hHeld ?_
  rotate_left
  · (intro wz hSw; (try dsimp only at hSw); (try simp only [zA, zB, zC]); go_simp; try with_reducible rfl)
  try simp only [zA, zB, zC, Act.put, zD, zE, zF]
  refine tkH (i := 13) (v := ?_) rfl (Or.inl ⟨by rfl, ?_⟩) hHeld ?_
  rotate_left
  · (intro wz hSw; (try dsimp only at hSw); (try simp only [zA, zB, zC]); go_simp; try with_reducible rfl)
  try simp only [zA, zB, zC, Act.put, zD, zE, zF]
  refine tkH (i := 14) (v := ?_) rfl (Or.inl ⟨by rfl, ?_⟩) hHeld ?_
  rotate_left
  · (intro wz hSw; (try dsimp only at hSw); (try simp only [zA, zB, zC]); go_simp; try with_reducible rfl)
  try simp only [zA, zB, zC, Act.put, zD, zE, zF]
  refine tkH (i := 15) (v := ?_) rfl (Or.inl ⟨by rfl, ?_⟩) hHeld ?_
  rotate_left
  · (intro wz hSw; (try dsimp only at hSw); (try simp only [zA, zB, zC]); go_simp; try with_reducible rfl)
  try simp only [zA, zB, zC, Act.put, zD, zE, zF]
  refine tkH (i := 16) (v := ?_) rfl (Or.inl ⟨by rfl, ?_⟩) hHeld ?_
  rotate_left
  · (intro wz hSw; (try dsimp only at hSw); (try simp only [zA, zB, zC]); go_simp; try with_reducible rfl)
  try simp only [zA, zB, zC, Act.put, zD, zE, zF]
  refine tkH (i := 17) (v := ?_) rfl (Or.inl ⟨by rfl, ?_⟩) hHeld ?_
  rotate_left
  · (intro wz hSw; (try dsimp only at hSw); (try simp only [zA, zB, zC]); go_simp; try with_reducible rfl)
  try simp only [zA, zB, zC, Act.put, zD, zE, zF]
  refine tkH (i := 18) (v := ?_) rfl (Or.inl ⟨by rfl, ?_⟩) hHeld ?_
  rotate_left
  · (intro wz hSw; (try dsimp only at hSw); (try simp only [zA, zB, zC]); go_simp; try with_reducible rfl)
  try simp only [zA, zB, zC, Act.put, zD, zE, zF]
  refine tkH (i := 19) (v := ?_) rfl (Or.inl ⟨by rfl, ?_⟩) hHeld ?_
  rotate_left
  · (intro wz hSw; (try dsimp only at hSw); (try simp only [zA, zB, zC]); go_simp; try with_reducible rfl)
  try simp only [zA, zB, zC, Act.put, zD, zE, zF]
  refine tkH (i := 20) (v := ?_) rfl (Or.inl ⟨by rfl, ?_⟩) hHeld ?_
  rotate_left
  · (intro wz hSw; (try dsimp only at hSw); (try simp only [zA, zB, zC]); go_simp; try with_reducible rfl)
  try simp only [zA, zB, zC, Act.put, zD, zE, zF]
  refine tkH (i := 21) (v := ?_) rfl (Or.inl ⟨by rfl, ?_⟩) hHeld ?_
  rotate_left
  · (intro wz hSw; (try dsimp only at hSw); (try simp only [zA, zB, zC]); go_simp; try with_reducible rfl)
  try simp only [zA, zB, zC, Act.put, zD, zE, zF]
  refine tkH (i := 22) (v := ?_) rfl (Or.inl ⟨by rfl, ?_⟩) hHeld ?_
  rotate_left
  · (intro wz hSw; (try dsimp only at hSw); (try simp only [zA, zB, zC]); go_simp; try with_reducible rfl)
  try simp only [zA, zB, zC, Act.put, zD, zE, zF]
  refine tkH (i := 23) (v := ?_) rfl (Or.inl ⟨by rfl, ?_⟩) hHeld ?_
  rotate_left
  · (intro wz hSw; (try dsimp only at hSw); (try simp only [zA, zB, zC]); go_simp; try with_reducible rfl)
  try simp only [zA, zB, zC, Act.put, zD, zE, zF]
  refine tkH (i := 24) (v := ?_) rfl (Or.inl ⟨by rfl, ?_⟩) hHeld ?_
  rotate_left
  · (intro wz hSw; (try dsimp only at hSw); (try simp only [zA, zB, zC]); go_simp; try with_reducible rfl)
  try simp only [zA, zB, zC, Act.put, zD, zE, zF]
  refine tkH (i := 25) (v := ?_) rfl (Or.inl ⟨by rfl, ?_⟩) hHeld ?_
  rotate_left
  · (intro wz hSw; (try dsimp only at hSw); (try simp only [zA, zB, zC]); go_simp; try with_reducible rfl)
  try simp only [zA, zB, zC, Act.put, zD, zE, zF]
  refine tkH (i := 26) (v := ?_) rfl (Or.inl ⟨by rfl, ?_⟩) hHeld ?_
  rotate_left
  · (intro wz hSw; (try dsimp only at hSw); (try simp only [zA, zB, zC]); go_simp; try with_reducible rfl)
  try simp only [zA, zB, zC, Act.put, zD, zE, zF]
  refine tkH (i := 27) (v := ?_) rfl (Or.inl ⟨by rfl, ?_⟩) hHeld ?_
  rotate_left
  · (intro wz hSw; (try dsimp only at hSw); (try simp only [zA, zB, zC]); go_simp; try with_reducible rfl)
  try simp only [zA, zB, zC, Act.put, zD, zE, zF]
  refine tkH (i := 28) (v := ?_) rfl (Or.inl ⟨by rfl, ?_⟩) hHeld ?_
  rotate_left
  · (intro wz hSw; (try dsimp only at hSw); (try simp only [zA, zB, zC]); go_simp; try with_reducible rfl)
  try simp only [zA, zB, zC, Act.put, zD, zE, zF]
  refine tkH (i := 29) (v := ?_) rfl (Or.inl ⟨by rfl, ?_⟩) hHeld ?_
  rotate_left
  · (intro wz hSw; (try dsimp only at hSw); (try simp only [zA, zB, zC]); go_simp; try with_reducible rfl)
  try simp only [zA, zB, zC, Act.put, zD, zE, zF]
  refine tkH (i := 30) (v := ?_) rfl (Or.inl ⟨by rfl, ?_⟩) hHeld ?_
  rotate_left
  · (intro wz hSw; (try dsimp only at hSw); (try simp only [zA, zB, zC]); go_simp; try with_reducible rfl)
  try simp only [zA, zB, zC, Act.put, zD, zE, zF]
  refine tkH (i := 31) (v := ?_) rfl (Or.inl ⟨by rfl, ?_⟩) hHeld ?_
  rotate_left
  · (intro wz hSw; (try dsimp only at hSw); (try simp only [zA, zB, zC]); go_simp; try with_reducible rfl)
  try simp only [zA, zB, zC, Act.put, zD, zE, zF]
  refine tkH (i := 32) (v := ?_) rfl (Or.inl ⟨by rfl, ?_⟩) hHeld ?_
  rotate_left
  · (intro wz hSw; (try dsimp only at hSw); (try simp only [zA, zB, zC]); go_simp; try with_reducible rfl)
  try simp only [zA, zB, zC, Act.put, zD, zE, zF]
  refine tkH (i := 33) (v := .agg (msC m0 none 0).toArray) rfl (Or.inl ⟨by rfl, fun w' _ => by subst hm0; kernel_rfl⟩) hHeld ?_
  try simp only [zA, zB, zC, Act.put, zD, zE, zF]
  have SA : RAll R #[.int .i64 c.id, .int .i64 c.role, .int .i64 c.tm, .int .i64 c.vt, .int .i64 c.ld, .int .i64 c.wt, .int .i64 c.cm, .int .i64 c.sf, .int .i64 c.l.b, .int .i64 c.l.bt, .int .u16 c.l.j.ov, .int .u16 c.l.j.ox, .int .u16 c.l.j.ol, .int .i64 c.l.j.oe, .int .i64 c.l.j.ok, .int .u16 c.l.j.nv, .int .u16 c.l.j.nx, .int .u16 c.l.j.nl, .int .i64 c.l.j.ne, .int .i64 c.l.j.nk, .bool c.l.j.two, .slice p c.l.es.length k, .string c.sn, .int .u16 c.vs, .int .u16 c.hd, .int .i64 (c.nx 0), .int .i64 (c.nx 1), .int .i64 (c.nx 2), .int .i64 (c.nx 3), .int .i64 (c.nx 4), .int .i64 (c.nx 5), .int .i64 (c.nx 6), .int .i64 (c.nx 7), .int .i64 (c.nx 8), .int .i64 (c.nx 9), .int .i64 (c.mt 0), .int .i64 (c.mt 1), .int .i64 (c.mt 2), .int .i64 (c.mt 3), .int .i64 (c.mt 4), .int .i64 (c.mt 5), .int .i64 (c.mt 6), .int .i64 (c.mt 7), .int .i64 (c.mt 8), .int .i64 (c.mt 9), v] (wd.alloc (.cells #[.int .i64 0, .int .i64 0, .int .i64 0, .int .i64 0, .int .i64 0, .int .i64 0, .int .i64 0, .int .i64 0, .bool false, .slice none 0 0, .string ⟨#[]⟩, .int .u16 0, .int .u16 0, .int .u16 0, .int .i64 0, .int .i64 0, .int .u16 0, .int .u16 0, .int .u16 0, .int .i64 0, .int .i64 0, .bool false] 39)) := RAll.of (heap_prev _ HA1.out.blk)
  have SB : RAll R #[.int .i64 c.id, .int .i64 c.role, .int .i64 c.tm, .int .i64 c.vt, .int .i64 c.ld, .int .i64 c.wt, .int .i64 c.cm, .int .i64 c.sf, .int .i64 c.l.b, .int .i64 c.l.bt, .int .u16 c.l.j.ov, .int .u16 c.l.j.ox, .int .u16 c.l.j.ol, .int .i64 c.l.j.oe, .int .i64 c.l.j.ok, .int .u16 c.l.j.nv, .int .u16 c.l.j.nx, .int .u16 c.l.j.nl, .int .i64 c.l.j.ne, .int .i64 c.l.j.nk, .bool c.l.j.two, .slice p c.l.es.length k, .string c.sn, .int .u16 c.vs, .int .u16 c.hd, .int .i64 (c.nx 0), .int .i64 (c.nx 1), .int .i64 (c.nx 2), .int .i64 (c.nx 3), .int .i64 (c.nx 4), .int .i64 (c.nx 5), .int .i64 (c.nx 6), .int .i64 (c.nx 7), .int .i64 (c.nx 8), .int .i64 (c.nx 9), .int .i64 (c.mt 0), .int .i64 (c.mt 1), .int .i64 (c.mt 2), .int .i64 (c.mt 3), .int .i64 (c.mt 4), .int .i64 (c.mt 5), .int .i64 (c.mt 6), .int .i64 (c.mt 7), .int .i64 (c.mt 8), .int .i64 (c.mt 9), v] (wd.alloc (.cells (msC m0 none 0).toArray 39)) := RAll.of (heap_prev _ HA1.out.blk)
  refine wpAnyH_ready (rs := [34]) (by kernel_rfl) (by simp) ?_; refine AllReadyH.cons rfl (fun K hK => ?_) AllReadyH.nil
  try simp only [zA, zB, zC]
  go_simp
  refine hK.out _ _ SA (fun _ => ?_)
  clear hK K
  try simp only [zA, zB, zC, Act.put, zD, zE, zF]
  refine wpAnyH_ready (rs := [35]) (by kernel_rfl) (by simp) ?_; refine AllReadyH.cons rfl (fun K hK => ?_) AllReadyH.nil
  rw [if_pos (by rfl)]
  refine wp_store_newA _ _ _ (by rfl) #[.int .i64 0, .int .i64 0, .int .i64 0, .int .i64 0, .int .i64 0, .int .i64 0, .int .i64 0, .int .i64 0, .bool false, .slice none 0 0, .string ⟨#[]⟩, .int .u16 0, .int .u16 0, .int .u16 0, .int .i64 0, .int .i64 0, .int .u16 0, .int .u16 0, .int .u16 0, .int .i64 0, .int .i64 0, .bool false] (msC m0 none 0).toArray (by rfl) (by rfl) (by kernel_rfl) rfl (one_all rfl) ?_
  refine hK.out _ _ SB (fun _ => ?_)
  clear hK K
  try simp only [zA, zB, zC, Act.put]
  refine wpAnyH_done (by kernel_rfl) ?_ _
  obtain ⟨W1, hW1⟩ : ∃ z : World, wd.alloc (.cells (msC m0 none 0).toArray 39) = z := ⟨_, rfl⟩
  have b1 : Below wd.heap.size wd W1 := by rw [← hW1]; exact (Below.refl _ _).alloc (Nat.le_refl _) _
  have hX1 : W1.heap[wd.heap.size]? = some (.cells (msC m0 none 0).toArray 39 (0, 0)) := by rw [← hW1]; exact heap_last wd _
  rw [hW1]
  obtain ⟨X, eX⟩ : ∃ X, wd.heap.size = X := ⟨_, rfl⟩
  (try rw [eX])
  rw [eX] at hX1
  have HA2 := Lib.hid (HA1.out.keep b1); have HB2 := Lib.hid (HB1.out.trans (AcR.below b1)); have HX1 := Lib.hid hX1
  have HXG := Lib.hid (show w.heap.size ≤ X from by have := HB1.out.size; omega)
  have HVX := Lib.hid (show v.ownBlock ≠ some X from fun e => by have := (HA1.out.vge _ e).2; omega)
  have hRX : R < X := by have := HA1.out.lt; omega
  clear hW1 b1 hX1 eX SA SB hHeld h0 HA1 HB1 kR hR hRl HA
  obtain ⟨x, hxn⟩ : ∃ x, c.nx n = x := ⟨_, rfl⟩
  have hR2 : W1.heap[R]? = some (.cells #[.int .i64 c.id, .int .i64 c.role, .int .i64 c.tm, .int .i64 c.vt, .int .i64 c.ld, .int .i64 c.wt, .int .i64 c.cm, .int .i64 c.sf, .int .i64 c.l.b, .int .i64 c.l.bt, .int .u16 c.l.j.ov, .int .u16 c.l.j.ox, .int .u16 c.l.j.ol, .int .i64 c.l.j.oe, .int .i64 c.l.j.ok, .int .u16 c.l.j.nv, .int .u16 c.l.j.nx, .int .u16 c.l.j.nl, .int .i64 c.l.j.ne, .int .i64 c.l.j.nk, .bool c.l.j.two, .slice p c.l.es.length k, .string c.sn, .int .u16 c.vs, .int .u16 c.hd, .int .i64 (c.nx 0), .int .i64 (c.nx 1), .int .i64 (c.nx 2), .int .i64 (c.nx 3), .int .i64 (c.nx 4), .int .i64 (c.nx 5), .int .i64 (c.nx 6), .int .i64 (c.nx 7), .int .i64 (c.nx 8), .int .i64 (c.nx 9), .int .i64 (c.mt 0), .int .i64 (c.mt 1), .int .i64 (c.mt 2), .int .i64 (c.mt 3), .int .i64 (c.mt 4), .int .i64 (c.mt 5), .int .i64 (c.mt 6), .int .i64 (c.mt 7), .int .i64 (c.mt 8), .int .i64 (c.mt 9), v] 69 (0, 0)) := HA2.out.blk
  have kN : W1.cell? ⟨R, 25 + n, none⟩ = some (.int .i64 x) := by rw [← hxn]; exact ac_nx hR2 hn
  have k8 : W1.cell? ⟨R, 8, none⟩ = some (.int .i64 c.l.b) := block_cells hR2 8
  have hn0 : 0 ≤ (n : Int) := by omega
  have hn1 : (n : Int) < 10 := by omega
  rw [hxn] at hx
  have HXN := Lib.hid hxn
  clear hxn
  by_cases hgt : c.l.b < x
  · have HBM : Hid (bringM c n = { ms0 with k := 3, ix := x - 1, lt := (termL c.l (x - 1)).1, es := sliceL c.l x 8, cm := c.cm, sf := c.sf }) := by
      show _ = _; unfold bringM; rw [HXN.out, if_pos hgt]
    obtain ⟨⟨TT, bb⟩, hT⟩ : ∃ z, termL c.l (x - 1) = z := ⟨_, rfl⟩
    rw [hT] at HBM
    have HCT := Lib.hid (show Calls Tryz.prog 65 #[.agg #[.int .i64 c.l.b, .int .i64 c.l.bt, .int .u16 c.l.j.ov, .int .u16 c.l.j.ox, .int .u16 c.l.j.ol, .int .i64 c.l.j.oe, .int .i64 c.l.j.ok, .int .u16 c.l.j.nv, .int .u16 c.l.j.nx, .int .u16 c.l.j.nl, .int .i64 c.l.j.ne, .int .i64 c.l.j.nk, .bool c.l.j.two, .slice p c.l.es.length k], .int .i64 (x - 1)] W1 fun r w2 => r = .returned (.tuple #[.int .i64 TT, .bool bb]) ∧ Below W1.heap.size W1 w2 from by have := term_is c.l p k W1 HF.out (i := x - 1) (by omega) (EnSl.of_own HA2.out.en); rw [hT] at this; exact this)
    have kR2 := block_cells hR2
    clear hT k8
    go_wp2_with fail
    refine HCT.out.mono ?_; rintro r w2 ⟨rfl, b2⟩
    have hX2 := below_block b2 (block_lt HX1.out) HX1.out
    have HA3 := Lib.hid (HA2.out.keep b2); have HB3 := Lib.hid (HB2.out.trans (AcR.below b2))
    clear HCT b2 kR2 kN hR2 HA2 HB2 HX1
    go_upto_region 4 with fail
    have hR3 : w2.drew.heap[R]? = some (.cells #[.int .i64 c.id, .int .i64 c.role, .int .i64 c.tm, .int .i64 c.vt, .int .i64 c.ld, .int .i64 c.wt, .int .i64 c.cm, .int .i64 c.sf, .int .i64 c.l.b, .int .i64 c.l.bt, .int .u16 c.l.j.ov, .int .u16 c.l.j.ox, .int .u16 c.l.j.ol, .int .i64 c.l.j.oe, .int .i64 c.l.j.ok, .int .u16 c.l.j.nv, .int .u16 c.l.j.nx, .int .u16 c.l.j.nl, .int .i64 c.l.j.ne, .int .i64 c.l.j.nk, .bool c.l.j.two, .slice p c.l.es.length k, .string c.sn, .int .u16 c.vs, .int .u16 c.hd, .int .i64 (c.nx 0), .int .i64 (c.nx 1), .int .i64 (c.nx 2), .int .i64 (c.nx 3), .int .i64 (c.nx 4), .int .i64 (c.nx 5), .int .i64 (c.nx 6), .int .i64 (c.nx 7), .int .i64 (c.nx 8), .int .i64 (c.nx 9), .int .i64 (c.mt 0), .int .i64 (c.mt 1), .int .i64 (c.mt 2), .int .i64 (c.mt 3), .int .i64 (c.mt 4), .int .i64 (c.mt 5), .int .i64 (c.mt 6), .int .i64 (c.mt 7), .int .i64 (c.mt 8), .int .i64 (c.mt 9), v] 69 (0, 0)) := HA3.out.blk
    have h0 : RAll R #[.int .i64 c.id, .int .i64 c.role, .int .i64 c.tm, .int .i64 c.vt, .int .i64 c.ld, .int .i64 c.wt, .int .i64 c.cm, .int .i64 c.sf, .int .i64 c.l.b, .int .i64 c.l.bt, .int .u16 c.l.j.ov, .int .u16 c.l.j.ox, .int .u16 c.l.j.ol, .int .i64 c.l.j.oe, .int .i64 c.l.j.ok, .int .u16 c.l.j.nv, .int .u16 c.l.j.nx, .int .u16 c.l.j.nl, .int .i64 c.l.j.ne, .int .i64 c.l.j.nk, .bool c.l.j.two, .slice p c.l.es.length k, .string c.sn, .int .u16 c.vs, .int .u16 c.hd, .int .i64 (c.nx 0), .int .i64 (c.nx 1), .int .i64 (c.nx 2), .int .i64 (c.nx 3), .int .i64 (c.nx 4), .int .i64 (c.nx 5), .int .i64 (c.nx 6), .int .i64 (c.nx 7), .int .i64 (c.nx 8), .int .i64 (c.nx 9), .int .i64 (c.mt 0), .int .i64 (c.mt 1), .int .i64 (c.mt 2), .int .i64 (c.mt 3), .int .i64 (c.mt 4), .int .i64 (c.mt 5), .int .i64 (c.mt 6), .int .i64 (c.mt 7), .int .i64 (c.mt 8), .int .i64 (c.mt 9), v] w2.drew := RAll.of hR3
    refine wp_region_held_drew (S := RAll R #[.int .i64 c.id, .int .i64 c.role, .int .i64 c.tm, .int .i64 c.vt, .int .i64 c.ld, .int .i64 c.wt, .int .i64 c.cm, .int .i64 c.sf, .int .i64 c.l.b, .int .i64 c.l.bt, .int .u16 c.l.j.ov, .int .u16 c.l.j.ox, .int .u16 c.l.j.ol, .int .i64 c.l.j.oe, .int .i64 c.l.j.ok, .int .u16 c.l.j.nv, .int .u16 c.l.j.nx, .int .u16 c.l.j.nl, .int .i64 c.l.j.ne, .int .i64 c.l.j.nk, .bool c.l.j.two, .slice p c.l.es.length k, .string c.sn, .int .u16 c.vs, .int .u16 c.hd, .int .i64 (c.nx 0), .int .i64 (c.nx 1), .int .i64 (c.nx 2), .int .i64 (c.nx 3), .int .i64 (c.nx 4), .int .i64 (c.nx 5), .int .i64 (c.nx 6), .int .i64 (c.nx 7), .int .i64 (c.nx 8), .int .i64 (c.nx 9), .int .i64 (c.mt 0), .int .i64 (c.mt 1), .int .i64 (c.mt 2), .int .i64 (c.mt 3), .int .i64 (c.mt 4), .int .i64 (c.mt 5), .int .i64 (c.mt 6), .int .i64 (c.mt 7), .int .i64 (c.mt 8), .int .i64 (c.mt 9), v]) (by kernel_rfl) h0 (fun hHeld => ?_)
    have HA4 := Lib.hid (HA3.out.keep (Below.refl _ _).drew); have HB4 := Lib.hid HB3.out.drew
    have HX4 : Hid (w2.drew.heap[X]? = some (.cells (msC m0 none 0).toArray 39 (0, 0))) := hX2
    obtain ⟨wd2, ewd⟩ : ∃ z, w2.drew = z := ⟨_, rfl⟩
    rw [ewd] at h0 hHeld HA4 HB4 HX4 ⊢
    have kR : ∀ w', RAll R #[.int .i64 c.id, .int .i64 c.role, .int .i64 c.tm, .int .i64 c.vt, .int .i64 c.ld, .int .i64 c.wt, .int .i64 c.cm, .int .i64 c.sf, .int .i64 c.l.b, .int .i64 c.l.bt, .int .u16 c.l.j.ov, .int .u16 c.l.j.ox, .int .u16 c.l.j.ol, .int .i64 c.l.j.oe, .int .i64 c.l.j.ok, .int .u16 c.l.j.nv, .int .u16 c.l.j.nx, .int .u16 c.l.j.nl, .int .i64 c.l.j.ne, .int .i64 c.l.j.nk, .bool c.l.j.two, .slice p c.l.es.length k, .string c.sn, .int .u16 c.vs, .int .u16 c.hd, .int .i64 (c.nx 0), .int .i64 (c.nx 1), .int .i64 (c.nx 2), .int .i64 (c.nx 3), .int .i64 (c.nx 4), .int .i64 (c.nx 5), .int .i64 (c.nx 6), .int .i64 (c.nx 7), .int .i64 (c.nx 8), .int .i64 (c.nx 9), .int .i64 (c.mt 0), .int .i64 (c.mt 1), .int .i64 (c.mt 2), .int .i64 (c.mt 3), .int .i64 (c.mt 4), .int .i64 (c.mt 5), .int .i64 (c.mt 6), .int .i64 (c.mt 7), .int .i64 (c.mt 8), .int .i64 (c.mt 9), v] w' → ∀ j, w'.cell? ⟨R, j, none⟩ = #[.int .i64 c.id, .int .i64 c.role, .int .i64 c.tm, .int .i64 c.vt, .int .i64 c.ld, .int .i64 c.wt, .int .i64 c.cm, .int .i64 c.sf, .int .i64 c.l.b, .int .i64 c.l.bt, .int .u16 c.l.j.ov, .int .u16 c.l.j.ox, .int .u16 c.l.j.ol, .int .i64 c.l.j.oe, .int .i64 c.l.j.ok, .int .u16 c.l.j.nv, .int .u16 c.l.j.nx, .int .u16 c.l.j.nl, .int .i64 c.l.j.ne, .int .i64 c.l.j.nk, .bool c.l.j.two, .slice p c.l.es.length k, .string c.sn, .int .u16 c.vs, .int .u16 c.hd, .int .i64 (c.nx 0), .int .i64 (c.nx 1), .int .i64 (c.nx 2), .int .i64 (c.nx 3), .int .i64 (c.nx 4), .int .i64 (c.nx 5), .int .i64 (c.nx 6), .int .i64 (c.nx 7), .int .i64 (c.nx 8), .int .i64 (c.nx 9), .int .i64 (c.mt 0), .int .i64 (c.mt 1), .int .i64 (c.mt 2), .int .i64 (c.mt 3), .int .i64 (c.mt 4), .int .i64 (c.mt 5), .int .i64 (c.mt 6), .int .i64 (c.mt 7), .int .i64 (c.mt 8), .int .i64 (c.mt 9), v][j]? := fun w' h => h.r
    clear ewd hR3 HA3 HB3 hX2
    have hwr : IntKind.i64.wrap (x - 1) = x - 1 := by rw [IntKind.wrap_i64]; omega
    refine tkH (i := 0) (v := ?_) rfl (Or.inl ⟨by rfl, ?_⟩) hHeld ?_
    rotate_left
    · (intro wz hSw; (try dsimp only at hSw); (try simp only [zA, zC]); go_simp; try with_reducible rfl)
    try simp only [zA, zC, Act.put, zD, zE, zF]
    refine tkH (i := 1) (v := ?_) rfl (Or.inl ⟨by rfl, ?_⟩) hHeld ?_
    rotate_left
    · (intro wz hSw; (try dsimp only at hSw); (try simp only [zA, zB, zC]); go_simp; try with_reducible rfl)
    try simp only [zA, zB, zC, Act.put, zD, zE, zF]
    refine tkH (i := 2) (v := ?_) rfl (Or.inl ⟨by rfl, ?_⟩) hHeld ?_
    rotate_left
    · (intro wz hSw; (try dsimp only at hSw); (try simp only [zA, zB, zC]); go_simp; try with_reducible rfl)
    try simp only [zA, zB, zC, Act.put, zD, zE, zF]
    refine tkH (i := 3) (v := ?_) rfl (Or.inl ⟨by rfl, ?_⟩) hHeld ?_
    rotate_left
    · (intro wz hSw; (try dsimp only at hSw); (try simp only [zA, zB, zC]); go_simp; try with_reducible rfl)
    try simp only [zA, zB, zC, Act.put, zD, zE, zF]
    refine tkH (i := 4) (v := ?_) rfl (Or.inl ⟨by rfl, ?_⟩) hHeld ?_
    rotate_left
    · (intro wz hSw; (try dsimp only at hSw); (try simp only [zA, zB, zC]); go_simp; try with_reducible rfl)
    try simp only [zA, zB, zC, Act.put, zD, zE, zF]
    refine tkH (i := 5) (v := ?_) rfl (Or.inl ⟨by rfl, ?_⟩) hHeld ?_
    rotate_left
    · (intro wz hSw; (try dsimp only at hSw); (try simp only [zA, zB, zC]); go_simp; try with_reducible rfl)
    try simp only [zA, zB, zC, Act.put, zD, zE, zF]
    refine tkH (i := 6) (v := ?_) rfl (Or.inl ⟨by rfl, ?_⟩) hHeld ?_
    rotate_left
    · (intro wz hSw; (try dsimp only at hSw); (try simp only [zA, zB, zC]); go_simp; try with_reducible rfl)
    try simp only [zA, zB, zC, Act.put, zD, zE, zF]
    refine tkH (i := 7) (v := ?_) rfl (Or.inl ⟨by rfl, ?_⟩) hHeld ?_
    rotate_left
    · (intro wz hSw; (try dsimp only at hSw); (try simp only [zA, zB, zC]); go_simp; try with_reducible rfl)
    try simp only [zA, zB, zC, Act.put, zD, zE, zF]
    refine tkH (i := 8) (v := ?_) rfl (Or.inl ⟨by rfl, ?_⟩) hHeld ?_
    rotate_left
    · (intro wz hSw; (try dsimp only at hSw); (try simp only [zA, zB, zC]); go_simp; try with_reducible rfl)
    try simp only [zA, zB, zC, Act.put, zD, zE, zF]
    refine tkH (i := 10) (v := ?_) rfl (Or.inl ⟨by rfl, ?_⟩) hHeld ?_
    rotate_left
    · (intro wz hSw; (try dsimp only at hSw); (try simp only [zA, zB, zC]); go_simp; try with_reducible rfl)
    try simp only [zA, zB, zC, Act.put, zD, zE, zF]
    refine tkH (i := 11) (v := ?_) rfl (Or.inl ⟨by rfl, ?_⟩) hHeld ?_
    rotate_left
    · (intro wz hSw; (try dsimp only at hSw); (try simp only [zA, zB, zC]); go_simp; try with_reducible rfl)
    try simp only [zA, zB, zC, Act.put, zD, zE, zF]
    refine tkH (i := 12) (v := ?_) rfl (Or.inl ⟨by rfl, ?_⟩) hHeld ?_
    rotate_left
    · (intro wz hSw; (try dsimp only at hSw); (try simp only [zA, zB, zC]); go_simp; try with_reducible rfl)
    try simp only [zA, zB, zC, Act.put, zD, zE, zF]
    refine tkH (i := 13) (v := ?_) rfl (Or.inl ⟨by rfl, ?_⟩) hHeld ?_
    rotate_left
    · (intro wz hSw; (try dsimp only at hSw); (try simp only [zA, zB, zC]); go_simp; try with_reducible rfl)
    try simp only [zA, zB, zC, Act.put, zD, zE, zF]
    refine tkH (i := 14) (v := ?_) rfl (Or.inl ⟨by rfl, ?_⟩) hHeld ?_
    rotate_left
    · (intro wz hSw; (try dsimp only at hSw); (try simp only [zA, zB, zC]); go_simp; try with_reducible rfl)
    try simp only [zA, zB, zC, Act.put, zD, zE, zF]
    refine tkH (i := 15) (v := ?_) rfl (Or.inl ⟨by rfl, ?_⟩) hHeld ?_
    rotate_left
    · (intro wz hSw; (try dsimp only at hSw); (try simp only [zA, zB, zC]); go_simp; try with_reducible rfl)
    try simp only [zA, zB, zC, Act.put, zD, zE, zF]
    refine tkH (i := 16) (v := ?_) rfl (Or.inl ⟨by rfl, ?_⟩) hHeld ?_
    rotate_left
    · (intro wz hSw; (try dsimp only at hSw); (try simp only [zA, zB, zC]); go_simp; try with_reducible rfl)
    try simp only [zA, zB, zC, Act.put, zD, zE, zF]
    refine tkH (i := 17) (v := ?_) rfl (Or.inl ⟨by rfl, ?_⟩) hHeld ?_
    rotate_left
    · (intro wz hSw; (try dsimp only at hSw); (try simp only [zA, zB, zC]); go_simp; try with_reducible rfl)
    try simp only [zA, zB, zC, Act.put, zD, zE, zF]
    refine tkH (i := 18) (v := ?_) rfl (Or.inl ⟨by rfl, ?_⟩) hHeld ?_
    rotate_left
    · (intro wz hSw; (try dsimp only at hSw); (try simp only [zA, zB, zC]); go_simp; try with_reducible rfl)
    try simp only [zA, zB, zC, Act.put, zD, zE, zF]
    refine tkH (i := 19) (v := ?_) rfl (Or.inl ⟨by rfl, ?_⟩) hHeld ?_
    rotate_left
    · (intro wz hSw; (try dsimp only at hSw); (try simp only [zA, zB, zC]); go_simp; try with_reducible rfl)
    try simp only [zA, zB, zC, Act.put, zD, zE, zF]
    clear hwr
    refine wpAnyH_ready (rs := [9]) (by kernel_rfl) (by simp) ?_; refine AllReadyH.cons rfl (fun K hK => ?_) AllReadyH.nil; (try simp only [zA, zB, zC]); go_simp
    refine (slice_any c.l p k x 8 wd2 HF.out.b0 HF.out.b1 HF.out.n (by omega) (by decide) (EnSl.of_own HA4.out.en)).mono ?_; rintro r0 w5 ⟨v5, rfl, ho, b5⟩
    obtain ⟨q, d, rfl⟩ := own_formH ho
    obtain ⟨es, hes⟩ : ∃ es, sliceL c.l x 8 = es := ⟨_, rfl⟩
    rw [hes] at ho HBM ⊢
    obtain ⟨m1, hm1⟩ : ∃ m1 : Ms, { ms0 with k := 3, ix := x - 1, lt := TT, es := es, cm := c.cm, sf := c.sf } = m1 := ⟨_, rfl⟩
    have hA5 := HA4.out.keep b5
    have hX5 := below_block b5 (block_lt HX4.out) HX4.out
    have S5 : RAll R #[.int .i64 c.id, .int .i64 c.role, .int .i64 c.tm, .int .i64 c.vt, .int .i64 c.ld, .int .i64 c.wt, .int .i64 c.cm, .int .i64 c.sf, .int .i64 c.l.b, .int .i64 c.l.bt, .int .u16 c.l.j.ov, .int .u16 c.l.j.ox, .int .u16 c.l.j.ol, .int .i64 c.l.j.oe, .int .i64 c.l.j.ok, .int .u16 c.l.j.nv, .int .u16 c.l.j.nx, .int .u16 c.l.j.nl, .int .i64 c.l.j.ne, .int .i64 c.l.j.nk, .bool c.l.j.two, .slice p c.l.es.length k, .string c.sn, .int .u16 c.vs, .int .u16 c.hd, .int .i64 (c.nx 0), .int .i64 (c.nx 1), .int .i64 (c.nx 2), .int .i64 (c.nx 3), .int .i64 (c.nx 4), .int .i64 (c.nx 5), .int .i64 (c.nx 6), .int .i64 (c.nx 7), .int .i64 (c.nx 8), .int .i64 (c.nx 9), .int .i64 (c.mt 0), .int .i64 (c.mt 1), .int .i64 (c.mt 2), .int .i64 (c.mt 3), .int .i64 (c.mt 4), .int .i64 (c.mt 5), .int .i64 (c.mt 6), .int .i64 (c.mt 7), .int .i64 (c.mt 8), .int .i64 (c.mt 9), v] w5 := RAll.of hA5.blk
    have hg := (block_setCells (msC m1 q d) 0 hX5).2
    have hX6 := setCells_full hX5 (n := 22) rfl (vs := (msC m1 q d).toArray) rfl
    have hmo : MsOwn wd2.heap.size w5 ⟨m1, q, d⟩ := by rw [← hm1]; exact ho
    have hA6 := hA5.other hX5 (by decide) (by omega) HVX.out hg
    have S6 : RAll R #[.int .i64 c.id, .int .i64 c.role, .int .i64 c.tm, .int .i64 c.vt, .int .i64 c.ld, .int .i64 c.wt, .int .i64 c.cm, .int .i64 c.sf, .int .i64 c.l.b, .int .i64 c.l.bt, .int .u16 c.l.j.ov, .int .u16 c.l.j.ox, .int .u16 c.l.j.ol, .int .i64 c.l.j.oe, .int .i64 c.l.j.ok, .int .u16 c.l.j.nv, .int .u16 c.l.j.nx, .int .u16 c.l.j.nl, .int .i64 c.l.j.ne, .int .i64 c.l.j.nk, .bool c.l.j.two, .slice p c.l.es.length k, .string c.sn, .int .u16 c.vs, .int .u16 c.hd, .int .i64 (c.nx 0), .int .i64 (c.nx 1), .int .i64 (c.nx 2), .int .i64 (c.nx 3), .int .i64 (c.nx 4), .int .i64 (c.nx 5), .int .i64 (c.nx 6), .int .i64 (c.nx 7), .int .i64 (c.nx 8), .int .i64 (c.nx 9), .int .i64 (c.mt 0), .int .i64 (c.mt 1), .int .i64 (c.mt 2), .int .i64 (c.mt 3), .int .i64 (c.mt 4), .int .i64 (c.mt 5), .int .i64 (c.mt 6), .int .i64 (c.mt 7), .int .i64 (c.mt 8), .int .i64 (c.mt 9), v] (w5.setCells X 0 (msC m1 q d)) := RAll.of hA6.blk
    have HM6 := Lib.hid (MsOwn.other hmo hX5 (by decide) hg)
    have HSP := Lib.hid (show ∀ b, MsX.bk ⟨m1, q, d⟩ = some b → CoX.bk ⟨c, p, k⟩ ≠ some b from fun b hb e => by
      have h1 := (HM6.out.lt b hb).1
      have h2 := (HA4.out.en.lt b e).2
      omega)
    have HA6 := Lib.hid hA6; have HX6 := Lib.hid hX6
    have HZ := Lib.hid (show B ≤ wd2.heap.size from by have := HA4.out.le; have := HA4.out.lt; omega)
    have HB6 := Lib.hid ((HB4.out.trans (AcR.below b5)).size)
    have HBM1 : Hid (bringM c n = m1) := by show _ = _; rw [HBM.out, hm1]
    have HBX := Lib.hid (AcR.upto2 (HB4.out.trans (AcR.below b5)) hg (by omega) HXG.out)
    have HT := Lib.hid (there_of_block (o := 0) (n := 22) hX5 (by show 0 + 22 ≤ 22; decide))
    refine hK.out _ _ S5 (fun _ => ?_)
    clear hK K ho b5 hA5 hX5 hg hX6 hmo hA6 HA4 HB4 HX4 kR HBM hHeld h0 hes
    try simp only [zA, zB, zC, Act.put, zD, zE, zF]
    have hHeld := S5
    refine tkH (i := 20) (v := .agg (msC m1 q d).toArray) rfl (Or.inl ⟨by rfl, fun w' _ => by subst hm1; kernel_rfl⟩) hHeld ?_
    try simp only [zA, zB, zC, Act.put, zD, zE, zF]
    refine wpAnyH_ready (rs := [21]) (by kernel_rfl) (by simp) ?_; refine AllReadyH.cons rfl (fun K hK => ?_) AllReadyH.nil
    rw [if_pos (by rfl)]
    refine wp_store_mid _ _ _ (by rfl) X 0 (msC m1 q d).toArray (by rfl) (by rfl) HT.out (by kernel_rfl) (one_all rfl) ?_
    refine hK.out _ _ S6 (fun _ => ?_)
    clear hK K hHeld S5 S6 HT
    try simp only [zA, zB, zC, Act.put]
    refine wpAnyH_done (by kernel_rfl) ?_ _
    obtain ⟨w6, hw6⟩ : ∃ z : World, w5.setCells X 0 (msC m1 q d) = z := ⟨_, rfl⟩
    rw [hw6] at HM6 HA6 HBX
    have HX7 : Hid (w6.heap[X]? = some (.cells (msC m1 q d).toArray 39 (0, 0))) := by show _ = _; rw [← hw6]; exact HX6.out
    (try rw [show w5.setCells X 0 (msC m1 q d).toArray.toList = w6 from hw6])
    clear hw6 HX6
    have HRG := Lib.hid (range_of (n := 22) (cs := msC m1 q d) rfl (fun j _ => by rw [Nat.zero_add, block_cells HX7.out, List.getElem?_toArray] : ∀ j, j < 22 → w6.cell? ⟨X, 0 + j, none⟩ = (msC m1 q d)[j]?))
    have HCS := Lib.hid (show Calls Tryz.prog 89 #[.pointer (some ⟨R, 0, none⟩), .int .i64 (n : Int), .agg (msC m1 q d).toArray] w6 _ from send_act B R c p k v l (n : Int) m1 q d w6 HA6.out (HM6.out.mono HZ.out) HSP.out HL.out)
    go_wp2_with (with_reducible refine wpList_load_mid (op := ⟨some 91, _, _, _, _, _⟩) rfl _ _ rfl X 0 rfl (msC m1 q d) _ HRG.out Tryz.underlying39 rfl (by kernel_rfl) ?_)
    refine HCS.out.mono ?_; rintro r w8 ⟨rfl, v8, hA8, hr8⟩
    have HO := Lib.hid (And.intro hA8 (HBX.out.trans hr8))
    clear hA8 hr8 HCS
    go_wp2_with fail
    go_end0
    rw [HBM1.out]
    exact ⟨rfl, v8, q, d, HO.out.1, HO.out.2⟩
  · have HBM1 : Hid (bringM c n = m0) := by show _ = _; unfold bringM; rw [HXN.out, if_neg hgt]; exact HM0.out
    have HRG := Lib.hid (range_of (n := 22) (cs := msC m0 none 0) rfl (fun j _ => by rw [Nat.zero_add, block_cells HX1.out, List.getElem?_toArray] : ∀ j, j < 22 → W1.cell? ⟨X, 0 + j, none⟩ = (msC m0 none 0)[j]?))
    have HCS := Lib.hid (show Calls Tryz.prog 89 #[.pointer (some ⟨R, 0, none⟩), .int .i64 (n : Int), .agg (msC m0 none 0).toArray] W1 _ from send_act B R c p k v l (n : Int) m0 none 0 W1 HA2.out (MsOwn.none (by rw [← HM0.out]; rfl)) (fun b hb => by cases hb) HL.out)
    clear hR2
    go_wp2_with (with_reducible refine wpList_load_mid (op := ⟨some 91, _, _, _, _, _⟩) rfl _ _ rfl X 0 rfl (msC m0 none 0) _ HRG.out Tryz.underlying39 rfl (by kernel_rfl) ?_)
    refine HCS.out.mono ?_; rintro r w8 ⟨rfl, v8, hA8, hr8⟩
    have HO := Lib.hid (And.intro hA8 (HB2.out.trans hr8))
    clear hA8 hr8 HCS
    go_wp2_with fail
    go_end0
    rw [HBM1.out]
    exact ⟨rfl, v8, none, 0, HO.out.1, HO.out.2⟩
end Go.Proofs.YtbnndbdnejfehaaGreatDoor
/- Core: methods of a run (the reference's): a node is sent what it lacks. -/
namespace Go.Proofs.YtbnndbdnejfehaaGreatDoor
open Go.ChangeShapes Go.WideShapes Go.ChangeAt Go.RowKit

end Go.Proofs.YtbnndbdnejfehaaGreatDoor
