import Derived.Test.YtbnndbdnejfehaaGreatDoorActB
/- Core: methods of an act: a node is sent what it lacks (the program's). -/
namespace Go.Proofs.YtbnndbdnejfehaaGreatDoor
open Go.ChangeShapes Go.WideShapes Go.ChangeAt Go.RowKit

theorem wp_store_newA {P : Program} {op : Oper} {a : Act} {w : World} {K : Act → World → Prop} {Q : Exit → Act → World → Prop} (ty : TypeId) (x y : Operand) (ho : op.op = .store ty x y)
    (c c' : Array Value) (hx : a.eval x = .pointer (some ⟨w.heap.size, 0, none⟩)) (hy : a.eval y = .agg c') (hi : (P.info? ty).map (·.size) = some c'.size) (hs : c.size = c'.size) (h1 : c'.all (·.oneCell') = true)
    (h : K (a.put op.dst undef) (w.alloc (.cells c' ty))) : op.wp P a (w.alloc (.cells c ty)) K Q := by
  unfold Oper.wp execOp
  simp only [ho, hx, hy, run_storeAt_new w ty c c' hi hs h1, Sem.run_bind, Sem.run_pure, Result.andThen_ok]
  exact h
/-- A message of no entries, in memory. -/
theorem MsOwn.none {B : Nat} {w : World} {m : Ms} (h : m.es = []) : MsOwn B w ⟨m, none, 0⟩ := by
  unfold MsOwn
  rw [h]
  exact ⟨rfl, .inl ⟨rfl, rfl⟩⟩
theorem AcR.upto2 {w W W2 : World} {R X : Nat} {v : Value} (h : AcR w W R v v) (hg : W.grownBy W2 (some X)) (_hX : R ≠ X) (hs : w.heap.size ≤ X) : AcR w W2 R v v :=
  ⟨hg.os.trans h.os, hg.tape.trans h.tape, hg.output.trans h.output, Nat.le_trans h.size hg.size, fun b hb hR hv => by
    have h1 := (h.oth b hb hR hv).1
    have h3 := hg.block b (Nat.lt_of_lt_of_le hb h.size) (fun e => by simp only [Option.some.injEq] at e; omega)
    exact ⟨h3.trans h1, hv⟩⟩
/-- All cells of an act's block. -/
structure RAll (R : Nat) (cs : Array Value) (w' : World) : Prop where
  r : ∀ j, w'.cell? ⟨R, j, none⟩ = cs[j]?
theorem RAll.of {R : Nat} {cs : Array Value} {t : TypeId} {w : World} (hR : w.heap[R]? = some (.cells cs t (0, 0))) : RAll R cs w := ⟨block_cells hR⟩

set_option maxRecDepth 100000 in
set_option maxHeartbeats 16000000 in
theorem bring_act (B R n : Nat) (c : Co) (p : Option Addr) (k : Nat) (v : Value) (l : List MsX) (w : World) (h : AcW 69 B w R ⟨c, p, k⟩ v l) (hF : LgFit c.l) (hn : n < 10) (hx : 0 ≤ c.nx n ∧ c.nx n ≤ 4611686018427387904) (hl : l.length ≤ 100000) :
    Calls Tryz.prog 97 #[.pointer (some ⟨R, 0, none⟩), .int .i64 (n : Int)] w fun e w' => e = .returned (.tuple #[]) ∧ ∃ v' q d, AcW 69 B w' R ⟨c, p, k⟩ v' (l ++ [⟨putM c (n : Int) (bringM c n), q, d⟩]) ∧ AcR w w' R v v' := by
  obtain ⟨m0, hm0⟩ : ∃ m0 : Ms, { ms0 with k := 5, ix := c.l.b, lt := c.l.bt, sn := c.sn, cf := c.l.j, cm := c.cm, sf := c.sf } = m0 := ⟨_, rfl⟩
  have hE := EnSl.of_own h.en
  have HA := Lib.hid h; have HF : Hid (LgFit c.l) := hF; have HL := Lib.hid hl
  have HM0 := Lib.hid hm0
  have hR : w.heap[R]? = some (.cells #[.int .i64 c.id, .int .i64 c.role, .int .i64 c.tm, .int .i64 c.vt, .int .i64 c.ld, .int .i64 c.wt, .int .i64 c.cm, .int .i64 c.sf, .int .i64 c.l.b, .int .i64 c.l.bt, .int .u16 c.l.j.ov, .int .u16 c.l.j.ox, .int .u16 c.l.j.ol, .int .i64 c.l.j.oe, .int .i64 c.l.j.ok, .int .u16 c.l.j.nv, .int .u16 c.l.j.nx, .int .u16 c.l.j.nl, .int .i64 c.l.j.ne, .int .i64 c.l.j.nk, .bool c.l.j.two, .slice p c.l.es.length k, .string c.sn, .int .u16 c.vs, .int .u16 c.hd, .int .i64 (c.nx 0), .int .i64 (c.nx 1), .int .i64 (c.nx 2), .int .i64 (c.nx 3), .int .i64 (c.nx 4), .int .i64 (c.nx 5), .int .i64 (c.nx 6), .int .i64 (c.nx 7), .int .i64 (c.nx 8), .int .i64 (c.nx 9), .int .i64 (c.mt 0), .int .i64 (c.mt 1), .int .i64 (c.mt 2), .int .i64 (c.mt 3), .int .i64 (c.mt 4), .int .i64 (c.mt 5), .int .i64 (c.mt 6), .int .i64 (c.mt 7), .int .i64 (c.mt 8), .int .i64 (c.mt 9), v] 69 (0, 0)) := h.blk
  have hRl := h.lt
  clear h hF hE hl
  go_enter Tryz.func97, Tryz.ntmps97
  go_upto_region 0 with fail
  have h0 : RAll R #[.int .i64 c.id, .int .i64 c.role, .int .i64 c.tm, .int .i64 c.vt, .int .i64 c.ld, .int .i64 c.wt, .int .i64 c.cm, .int .i64 c.sf, .int .i64 c.l.b, .int .i64 c.l.bt, .int .u16 c.l.j.ov, .int .u16 c.l.j.ox, .int .u16 c.l.j.ol, .int .i64 c.l.j.oe, .int .i64 c.l.j.ok, .int .u16 c.l.j.nv, .int .u16 c.l.j.nx, .int .u16 c.l.j.nl, .int .i64 c.l.j.ne, .int .i64 c.l.j.nk, .bool c.l.j.two, .slice p c.l.es.length k, .string c.sn, .int .u16 c.vs, .int .u16 c.hd, .int .i64 (c.nx 0), .int .i64 (c.nx 1), .int .i64 (c.nx 2), .int .i64 (c.nx 3), .int .i64 (c.nx 4), .int .i64 (c.nx 5), .int .i64 (c.nx 6), .int .i64 (c.nx 7), .int .i64 (c.nx 8), .int .i64 (c.nx 9), .int .i64 (c.mt 0), .int .i64 (c.mt 1), .int .i64 (c.mt 2), .int .i64 (c.mt 3), .int .i64 (c.mt 4), .int .i64 (c.mt 5), .int .i64 (c.mt 6), .int .i64 (c.mt 7), .int .i64 (c.mt 8), .int .i64 (c.mt 9), v] w.drew := RAll.of (w := w.drew) hR
  refine wp_region_held_drew (S := RAll R #[.int .i64 c.id, .int .i64 c.role, .int .i64 c.tm, .int .i64 c.vt, .int .i64 c.ld, .int .i64 c.wt, .int .i64 c.cm, .int .i64 c.sf, .int .i64 c.l.b, .int .i64 c.l.bt, .int .u16 c.l.j.ov, .int .u16 c.l.j.ox, .int .u16 c.l.j.ol, .int .i64 c.l.j.oe, .int .i64 c.l.j.ok, .int .u16 c.l.j.nv, .int .u16 c.l.j.nx, .int .u16 c.l.j.nl, .int .i64 c.l.j.ne, .int .i64 c.l.j.nk, .bool c.l.j.two, .slice p c.l.es.length k, .string c.sn, .int .u16 c.vs, .int .u16 c.hd, .int .i64 (c.nx 0), .int .i64 (c.nx 1), .int .i64 (c.nx 2), .int .i64 (c.nx 3), .int .i64 (c.nx 4), .int .i64 (c.nx 5), .int .i64 (c.nx 6), .int .i64 (c.nx 7), .int .i64 (c.nx 8), .int .i64 (c.nx 9), .int .i64 (c.mt 0), .int .i64 (c.mt 1), .int .i64 (c.mt 2), .int .i64 (c.mt 3), .int .i64 (c.mt 4), .int .i64 (c.mt 5), .int .i64 (c.mt 6), .int .i64 (c.mt 7), .int .i64 (c.mt 8), .int .i64 (c.mt 9), v]) (by kernel_rfl) h0 (fun hHeld => ?_)
  have HA1 := Lib.hid (HA.out.keep (Below.refl _ _).drew); have HB1 := Lib.hid (AcR.refl w R v).drew
  obtain ⟨wd, ewd⟩ : ∃ x, w.drew = x := ⟨_, rfl⟩
  rw [ewd] at h0 hHeld HA1 HB1 ⊢
  have kR : ∀ w', RAll R #[.int .i64 c.id, .int .i64 c.role, .int .i64 c.tm, .int .i64 c.vt, .int .i64 c.ld, .int .i64 c.wt, .int .i64 c.cm, .int .i64 c.sf, .int .i64 c.l.b, .int .i64 c.l.bt, .int .u16 c.l.j.ov, .int .u16 c.l.j.ox, .int .u16 c.l.j.ol, .int .i64 c.l.j.oe, .int .i64 c.l.j.ok, .int .u16 c.l.j.nv, .int .u16 c.l.j.nx, .int .u16 c.l.j.nl, .int .i64 c.l.j.ne, .int .i64 c.l.j.nk, .bool c.l.j.two, .slice p c.l.es.length k, .string c.sn, .int .u16 c.vs, .int .u16 c.hd, .int .i64 (c.nx 0), .int .i64 (c.nx 1), .int .i64 (c.nx 2), .int .i64 (c.nx 3), .int .i64 (c.nx 4), .int .i64 (c.nx 5), .int .i64 (c.nx 6), .int .i64 (c.nx 7), .int .i64 (c.nx 8), .int .i64 (c.nx 9), .int .i64 (c.mt 0), .int .i64 (c.mt 1), .int .i64 (c.mt 2), .int .i64 (c.mt 3), .int .i64 (c.mt 4), .int .i64 (c.mt 5), .int .i64 (c.mt 6), .int .i64 (c.mt 7), .int .i64 (c.mt 8), .int .i64 (c.mt 9), v] w' → ∀ j, w'.cell? ⟨R, j, none⟩ = #[.int .i64 c.id, .int .i64 c.role, .int .i64 c.tm, .int .i64 c.vt, .int .i64 c.ld, .int .i64 c.wt, .int .i64 c.cm, .int .i64 c.sf, .int .i64 c.l.b, .int .i64 c.l.bt, .int .u16 c.l.j.ov, .int .u16 c.l.j.ox, .int .u16 c.l.j.ol, .int .i64 c.l.j.oe, .int .i64 c.l.j.ok, .int .u16 c.l.j.nv, .int .u16 c.l.j.nx, .int .u16 c.l.j.nl, .int .i64 c.l.j.ne, .int .i64 c.l.j.nk, .bool c.l.j.two, .slice p c.l.es.length k, .string c.sn, .int .u16 c.vs, .int .u16 c.hd, .int .i64 (c.nx 0), .int .i64 (c.nx 1), .int .i64 (c.nx 2), .int .i64 (c.nx 3), .int .i64 (c.nx 4), .int .i64 (c.nx 5), .int .i64 (c.nx 6), .int .i64 (c.nx 7), .int .i64 (c.nx 8), .int .i64 (c.nx 9), .int .i64 (c.mt 0), .int .i64 (c.mt 1), .int .i64 (c.mt 2), .int .i64 (c.mt 3), .int .i64 (c.mt 4), .int .i64 (c.mt 5), .int .i64 (c.mt 6), .int .i64 (c.mt 7), .int .i64 (c.mt 8), .int .i64 (c.mt 9), v][j]? := fun w' h => h.r
  refine tkL 0 rfl hHeld ?_
  try simp only [zA, zC, Act.put, zD, zE, zF]
  refine tkL 1 rfl hHeld ?_
  try simp only [zA, zB, zC, Act.put, zD, zE, zF]
  refine tkL 2 rfl hHeld ?_
  try simp only [zA, zB, zC, Act.put, zD, zE, zF]
  refine tkL 3 rfl hHeld ?_
  try simp only [zA, zB, zC, Act.put, zD, zE, zF]
  refine tkL 4 rfl hHeld ?_
  try simp only [zA, zB, zC, Act.put, zD, zE, zF]
  refine tkL 5 rfl hHeld ?_
  try simp only [zA, zB, zC, Act.put, zD, zE, zF]
  refine tkL 6 rfl hHeld ?_
  try simp only [zA, zB, zC, Act.put, zD, zE, zF]
  refine tkL 7 rfl hHeld ?_
  try simp only [zA, zB, zC, Act.put, zD, zE, zF]
  refine tkL 8 rfl hHeld ?_
  try simp only [zA, zB, zC, Act.put, zD, zE, zF]
  refine tkL 9 rfl hHeld ?_
  try simp only [zA, zB, zC, Act.put, zD, zE, zF]
  refine tkL 10 rfl hHeld ?_
  try simp only [zA, zB, zC, Act.put, zD, zE, zF]
  refine tkL 11 rfl hHeld ?_
  try simp only [zA, zB, zC, Act.put, zD, zE, zF]
  refine tkL 12 rfl hHeld ?_
  try simp only [zA, zB, zC, Act.put, zD, zE, zF]
  refine tkL 13 rfl hHeld ?_
  try simp only [zA, zB, zC, Act.put, zD, zE, zF]
  refine tkL 14 rfl hHeld ?_
  try simp only [zA, zB, zC, Act.put, zD, zE, zF]
  refine tkL 15 rfl hHeld ?_
  try simp only [zA, zB, zC, Act.put, zD, zE, zF]
  refine tkL 16 rfl hHeld ?_
  try simp only [zA, zB, zC, Act.put, zD, zE, zF]
  refine tkL 17 rfl hHeld ?_
  try simp only [zA, zB, zC, Act.put, zD, zE, zF]
  refine tkL 18 rfl hHeld ?_
  try simp only [zA, zB, zC, Act.put, zD, zE, zF]
  refine tkL 19 rfl hHeld ?_
  try simp only [zA, zB, zC, Act.put, zD, zE, zF]
  refine tkL 20 rfl hHeld ?_
  try simp only [zA, zB, zC, Act.put, zD, zE, zF]
  refine tkL 21 rfl hHeld ?_
  try simp only [zA, zB, zC, Act.put, zD, zE, zF]
  refine tkL 22 rfl hHeld ?_
  try simp only [zA, zB, zC, Act.put, zD, zE, zF]
  refine tkL 23 rfl hHeld ?_
  try simp only [zA, zB, zC, Act.put, zD, zE, zF]
  refine tkL 24 rfl hHeld ?_
  try simp only [zA, zB, zC, Act.put, zD, zE, zF]
  refine tkL 25 rfl hHeld ?_
  try simp only [zA, zB, zC, Act.put, zD, zE, zF]
  refine tkL 26 rfl hHeld ?_
  try simp only [zA, zB, zC, Act.put, zD, zE, zF]
  refine tkL 27 rfl hHeld ?_
  try simp only [zA, zB, zC, Act.put, zD, zE, zF]
  refine tkL 28 rfl hHeld ?_
  try simp only [zA, zB, zC, Act.put, zD, zE, zF]
  refine tkL 29 rfl hHeld ?_
  try simp only [zA, zB, zC, Act.put, zD, zE, zF]
  refine tkL 30 rfl hHeld ?_
  try simp only [zA, zB, zC, Act.put, zD, zE, zF]
  refine tkL 31 rfl hHeld ?_
  try simp only [zA, zB, zC, Act.put, zD, zE, zF]
  refine tkL 32 rfl hHeld ?_
  try simp only [zA, zB, zC, Act.put, zD, zE, zF]
  refine tkH (i := 33) (v := .agg (msC m0 none 0).toArray) rfl (Or.inl ⟨by rfl, fun w' _ => by subst hm0; kernel_rfl⟩) hHeld ?_
  try simp only [zA, zB, zC, Act.put, zD, zE, zF]
  have SA : RAll R #[.int .i64 c.id, .int .i64 c.role, .int .i64 c.tm, .int .i64 c.vt, .int .i64 c.ld, .int .i64 c.wt, .int .i64 c.cm, .int .i64 c.sf, .int .i64 c.l.b, .int .i64 c.l.bt, .int .u16 c.l.j.ov, .int .u16 c.l.j.ox, .int .u16 c.l.j.ol, .int .i64 c.l.j.oe, .int .i64 c.l.j.ok, .int .u16 c.l.j.nv, .int .u16 c.l.j.nx, .int .u16 c.l.j.nl, .int .i64 c.l.j.ne, .int .i64 c.l.j.nk, .bool c.l.j.two, .slice p c.l.es.length k, .string c.sn, .int .u16 c.vs, .int .u16 c.hd, .int .i64 (c.nx 0), .int .i64 (c.nx 1), .int .i64 (c.nx 2), .int .i64 (c.nx 3), .int .i64 (c.nx 4), .int .i64 (c.nx 5), .int .i64 (c.nx 6), .int .i64 (c.nx 7), .int .i64 (c.nx 8), .int .i64 (c.nx 9), .int .i64 (c.mt 0), .int .i64 (c.mt 1), .int .i64 (c.mt 2), .int .i64 (c.mt 3), .int .i64 (c.mt 4), .int .i64 (c.mt 5), .int .i64 (c.mt 6), .int .i64 (c.mt 7), .int .i64 (c.mt 8), .int .i64 (c.mt 9), v] (wd.alloc (.cells #[.int .i64 0, .int .i64 0, .int .i64 0, .int .i64 0, .int .i64 0, .int .i64 0, .int .i64 0, .int .i64 0, .bool false, .slice none 0 0, .string ⟨#[]⟩, .int .u16 0, .int .u16 0, .int .u16 0, .int .i64 0, .int .i64 0, .int .u16 0, .int .u16 0, .int .u16 0, .int .i64 0, .int .i64 0, .bool false] 39)) := RAll.of (heap_prev _ HA1.out.blk)
  have SB : RAll R #[.int .i64 c.id, .int .i64 c.role, .int .i64 c.tm, .int .i64 c.vt, .int .i64 c.ld, .int .i64 c.wt, .int .i64 c.cm, .int .i64 c.sf, .int .i64 c.l.b, .int .i64 c.l.bt, .int .u16 c.l.j.ov, .int .u16 c.l.j.ox, .int .u16 c.l.j.ol, .int .i64 c.l.j.oe, .int .i64 c.l.j.ok, .int .u16 c.l.j.nv, .int .u16 c.l.j.nx, .int .u16 c.l.j.nl, .int .i64 c.l.j.ne, .int .i64 c.l.j.nk, .bool c.l.j.two, .slice p c.l.es.length k, .string c.sn, .int .u16 c.vs, .int .u16 c.hd, .int .i64 (c.nx 0), .int .i64 (c.nx 1), .int .i64 (c.nx 2), .int .i64 (c.nx 3), .int .i64 (c.nx 4), .int .i64 (c.nx 5), .int .i64 (c.nx 6), .int .i64 (c.nx 7), .int .i64 (c.nx 8), .int .i64 (c.nx 9), .int .i64 (c.mt 0), .int .i64 (c.mt 1), .int .i64 (c.mt 2), .int .i64 (c.mt 3), .int .i64 (c.mt 4), .int .i64 (c.mt 5), .int .i64 (c.mt 6), .int .i64 (c.mt 7), .int .i64 (c.mt 8), .int .i64 (c.mt 9), v] (wd.alloc (.cells (msC m0 none 0).toArray 39)) := RAll.of (heap_prev _ HA1.out.blk)
  refine wpAnyH_ready (rs := [34]) (by kernel_rfl) (by simp) ?_; refine AllReadyH.cons rfl (fun K hK => ?_) AllReadyH.nil
  try simp only [zA, zB, zC]
  go_simp
  refine hK.out _ _ SA (fun _ => ?_)
  clear hK K
  try simp only [zA, zB, zC, Act.put, zD, zE, zF]
  refine wpAnyH_ready (rs := [35]) (by kernel_rfl) (by simp) ?_; refine AllReadyH.cons rfl (fun K hK => ?_) AllReadyH.nil
  rw [if_pos (by rfl)]
  refine wp_store_newA _ _ _ (by rfl) #[.int .i64 0, .int .i64 0, .int .i64 0, .int .i64 0, .int .i64 0, .int .i64 0, .int .i64 0, .int .i64 0, .bool false, .slice none 0 0, .string ⟨#[]⟩, .int .u16 0, .int .u16 0, .int .u16 0, .int .i64 0, .int .i64 0, .int .u16 0, .int .u16 0, .int .u16 0, .int .i64 0, .int .i64 0, .bool false] (msC m0 none 0).toArray (by rfl) (by rfl) (by kernel_rfl) rfl (one_all rfl) ?_
  refine hK.out _ _ SB (fun _ => ?_)
  clear hK K
  try simp only [zA, zB, zC, Act.put]
  refine wpAnyH_done (by kernel_rfl) ?_ _
  obtain ⟨W1, hW1⟩ : ∃ z : World, wd.alloc (.cells (msC m0 none 0).toArray 39) = z := ⟨_, rfl⟩
  have b1 : Below wd.heap.size wd W1 := by rw [← hW1]; exact (Below.refl _ _).alloc (Nat.le_refl _) _
  have hX1 : W1.heap[wd.heap.size]? = some (.cells (msC m0 none 0).toArray 39 (0, 0)) := by rw [← hW1]; exact heap_last wd _
  rw [hW1]
  obtain ⟨X, eX⟩ : ∃ X, wd.heap.size = X := ⟨_, rfl⟩
  (try rw [eX])
  rw [eX] at hX1
  have HA2 := Lib.hid (HA1.out.keep b1); have HB2 := Lib.hid (HB1.out.trans (AcR.below b1)); have HX1 := Lib.hid hX1
  have HXG := Lib.hid (show w.heap.size ≤ X from by have := HB1.out.size; omega)
  have HVX := Lib.hid (show v.ownBlock ≠ some X from fun e => by have := (HA1.out.vge _ e).2; omega)
  have hRX : R < X := by have := HA1.out.lt; omega
  clear hW1 b1 hX1 eX SA SB hHeld h0 HA1 HB1 kR hR hRl HA
  obtain ⟨x, hxn⟩ : ∃ x, c.nx n = x := ⟨_, rfl⟩
  have hR2 : W1.heap[R]? = some (.cells #[.int .i64 c.id, .int .i64 c.role, .int .i64 c.tm, .int .i64 c.vt, .int .i64 c.ld, .int .i64 c.wt, .int .i64 c.cm, .int .i64 c.sf, .int .i64 c.l.b, .int .i64 c.l.bt, .int .u16 c.l.j.ov, .int .u16 c.l.j.ox, .int .u16 c.l.j.ol, .int .i64 c.l.j.oe, .int .i64 c.l.j.ok, .int .u16 c.l.j.nv, .int .u16 c.l.j.nx, .int .u16 c.l.j.nl, .int .i64 c.l.j.ne, .int .i64 c.l.j.nk, .bool c.l.j.two, .slice p c.l.es.length k, .string c.sn, .int .u16 c.vs, .int .u16 c.hd, .int .i64 (c.nx 0), .int .i64 (c.nx 1), .int .i64 (c.nx 2), .int .i64 (c.nx 3), .int .i64 (c.nx 4), .int .i64 (c.nx 5), .int .i64 (c.nx 6), .int .i64 (c.nx 7), .int .i64 (c.nx 8), .int .i64 (c.nx 9), .int .i64 (c.mt 0), .int .i64 (c.mt 1), .int .i64 (c.mt 2), .int .i64 (c.mt 3), .int .i64 (c.mt 4), .int .i64 (c.mt 5), .int .i64 (c.mt 6), .int .i64 (c.mt 7), .int .i64 (c.mt 8), .int .i64 (c.mt 9), v] 69 (0, 0)) := HA2.out.blk
  have kN : W1.cell? ⟨R, 25 + n, none⟩ = some (.int .i64 x) := by rw [← hxn]; exact ac_nx hR2 hn
  have k8 : W1.cell? ⟨R, 8, none⟩ = some (.int .i64 c.l.b) := block_cells hR2 8
  have hn0 : 0 ≤ (n : Int) := by omega
  have hn1 : (n : Int) < 10 := by omega
  rw [hxn] at hx
  have HXN := Lib.hid hxn
  clear hxn
  by_cases hgt : c.l.b < x
  · have HBM : Hid (bringM c n = { ms0 with k := 3, ix := x - 1, lt := (termL c.l (x - 1)).1, es := sliceL c.l x 8, cm := c.cm, sf := c.sf }) := by
      show _ = _; unfold bringM; rw [HXN.out, if_pos hgt]
    obtain ⟨⟨TT, bb⟩, hT⟩ : ∃ z, termL c.l (x - 1) = z := ⟨_, rfl⟩
    rw [hT] at HBM
    have HCT := Lib.hid (show Calls Tryz.prog 65 #[.agg #[.int .i64 c.l.b, .int .i64 c.l.bt, .int .u16 c.l.j.ov, .int .u16 c.l.j.ox, .int .u16 c.l.j.ol, .int .i64 c.l.j.oe, .int .i64 c.l.j.ok, .int .u16 c.l.j.nv, .int .u16 c.l.j.nx, .int .u16 c.l.j.nl, .int .i64 c.l.j.ne, .int .i64 c.l.j.nk, .bool c.l.j.two, .slice p c.l.es.length k], .int .i64 (x - 1)] W1 fun r w2 => r = .returned (.tuple #[.int .i64 TT, .bool bb]) ∧ Below W1.heap.size W1 w2 from by have := term_is c.l p k W1 HF.out (i := x - 1) (by omega) (EnSl.of_own HA2.out.en); rw [hT] at this; exact this)
    have kR2 := block_cells hR2
    clear hT k8
    go_wp2_with fail
    refine HCT.out.mono ?_; rintro r w2 ⟨rfl, b2⟩
    have hX2 := below_block b2 (block_lt HX1.out) HX1.out
    have HA3 := Lib.hid (HA2.out.keep b2); have HB3 := Lib.hid (HB2.out.trans (AcR.below b2))
    clear HCT b2 kR2 kN hR2 HA2 HB2 HX1
    go_upto_region 4 with fail
    have hR3 : w2.drew.heap[R]? = some (.cells #[.int .i64 c.id, .int .i64 c.role, .int .i64 c.tm, .int .i64 c.vt, .int .i64 c.ld, .int .i64 c.wt, .int .i64 c.cm, .int .i64 c.sf, .int .i64 c.l.b, .int .i64 c.l.bt, .int .u16 c.l.j.ov, .int .u16 c.l.j.ox, .int .u16 c.l.j.ol, .int .i64 c.l.j.oe, .int .i64 c.l.j.ok, .int .u16 c.l.j.nv, .int .u16 c.l.j.nx, .int .u16 c.l.j.nl, .int .i64 c.l.j.ne, .int .i64 c.l.j.nk, .bool c.l.j.two, .slice p c.l.es.length k, .string c.sn, .int .u16 c.vs, .int .u16 c.hd, .int .i64 (c.nx 0), .int .i64 (c.nx 1), .int .i64 (c.nx 2), .int .i64 (c.nx 3), .int .i64 (c.nx 4), .int .i64 (c.nx 5), .int .i64 (c.nx 6), .int .i64 (c.nx 7), .int .i64 (c.nx 8), .int .i64 (c.nx 9), .int .i64 (c.mt 0), .int .i64 (c.mt 1), .int .i64 (c.mt 2), .int .i64 (c.mt 3), .int .i64 (c.mt 4), .int .i64 (c.mt 5), .int .i64 (c.mt 6), .int .i64 (c.mt 7), .int .i64 (c.mt 8), .int .i64 (c.mt 9), v] 69 (0, 0)) := HA3.out.blk
    have h0 : RAll R #[.int .i64 c.id, .int .i64 c.role, .int .i64 c.tm, .int .i64 c.vt, .int .i64 c.ld, .int .i64 c.wt, .int .i64 c.cm, .int .i64 c.sf, .int .i64 c.l.b, .int .i64 c.l.bt, .int .u16 c.l.j.ov, .int .u16 c.l.j.ox, .int .u16 c.l.j.ol, .int .i64 c.l.j.oe, .int .i64 c.l.j.ok, .int .u16 c.l.j.nv, .int .u16 c.l.j.nx, .int .u16 c.l.j.nl, .int .i64 c.l.j.ne, .int .i64 c.l.j.nk, .bool c.l.j.two, .slice p c.l.es.length k, .string c.sn, .int .u16 c.vs, .int .u16 c.hd, .int .i64 (c.nx 0), .int .i64 (c.nx 1), .int .i64 (c.nx 2), .int .i64 (c.nx 3), .int .i64 (c.nx 4), .int .i64 (c.nx 5), .int .i64 (c.nx 6), .int .i64 (c.nx 7), .int .i64 (c.nx 8), .int .i64 (c.nx 9), .int .i64 (c.mt 0), .int .i64 (c.mt 1), .int .i64 (c.mt 2), .int .i64 (c.mt 3), .int .i64 (c.mt 4), .int .i64 (c.mt 5), .int .i64 (c.mt 6), .int .i64 (c.mt 7), .int .i64 (c.mt 8), .int .i64 (c.mt 9), v] w2.drew := RAll.of hR3
    refine wp_region_held_drew (S := RAll R #[.int .i64 c.id, .int .i64 c.role, .int .i64 c.tm, .int .i64 c.vt, .int .i64 c.ld, .int .i64 c.wt, .int .i64 c.cm, .int .i64 c.sf, .int .i64 c.l.b, .int .i64 c.l.bt, .int .u16 c.l.j.ov, .int .u16 c.l.j.ox, .int .u16 c.l.j.ol, .int .i64 c.l.j.oe, .int .i64 c.l.j.ok, .int .u16 c.l.j.nv, .int .u16 c.l.j.nx, .int .u16 c.l.j.nl, .int .i64 c.l.j.ne, .int .i64 c.l.j.nk, .bool c.l.j.two, .slice p c.l.es.length k, .string c.sn, .int .u16 c.vs, .int .u16 c.hd, .int .i64 (c.nx 0), .int .i64 (c.nx 1), .int .i64 (c.nx 2), .int .i64 (c.nx 3), .int .i64 (c.nx 4), .int .i64 (c.nx 5), .int .i64 (c.nx 6), .int .i64 (c.nx 7), .int .i64 (c.nx 8), .int .i64 (c.nx 9), .int .i64 (c.mt 0), .int .i64 (c.mt 1), .int .i64 (c.mt 2), .int .i64 (c.mt 3), .int .i64 (c.mt 4), .int .i64 (c.mt 5), .int .i64 (c.mt 6), .int .i64 (c.mt 7), .int .i64 (c.mt 8), .int .i64 (c.mt 9), v]) (by kernel_rfl) h0 (fun hHeld => ?_)
    have HA4 := Lib.hid (HA3.out.keep (Below.refl _ _).drew); have HB4 := Lib.hid HB3.out.drew
    have HX4 : Hid (w2.drew.heap[X]? = some (.cells (msC m0 none 0).toArray 39 (0, 0))) := hX2
    obtain ⟨wd2, ewd⟩ : ∃ z, w2.drew = z := ⟨_, rfl⟩
    rw [ewd] at h0 hHeld HA4 HB4 HX4 ⊢
    have kR : ∀ w', RAll R #[.int .i64 c.id, .int .i64 c.role, .int .i64 c.tm, .int .i64 c.vt, .int .i64 c.ld, .int .i64 c.wt, .int .i64 c.cm, .int .i64 c.sf, .int .i64 c.l.b, .int .i64 c.l.bt, .int .u16 c.l.j.ov, .int .u16 c.l.j.ox, .int .u16 c.l.j.ol, .int .i64 c.l.j.oe, .int .i64 c.l.j.ok, .int .u16 c.l.j.nv, .int .u16 c.l.j.nx, .int .u16 c.l.j.nl, .int .i64 c.l.j.ne, .int .i64 c.l.j.nk, .bool c.l.j.two, .slice p c.l.es.length k, .string c.sn, .int .u16 c.vs, .int .u16 c.hd, .int .i64 (c.nx 0), .int .i64 (c.nx 1), .int .i64 (c.nx 2), .int .i64 (c.nx 3), .int .i64 (c.nx 4), .int .i64 (c.nx 5), .int .i64 (c.nx 6), .int .i64 (c.nx 7), .int .i64 (c.nx 8), .int .i64 (c.nx 9), .int .i64 (c.mt 0), .int .i64 (c.mt 1), .int .i64 (c.mt 2), .int .i64 (c.mt 3), .int .i64 (c.mt 4), .int .i64 (c.mt 5), .int .i64 (c.mt 6), .int .i64 (c.mt 7), .int .i64 (c.mt 8), .int .i64 (c.mt 9), v] w' → ∀ j, w'.cell? ⟨R, j, none⟩ = #[.int .i64 c.id, .int .i64 c.role, .int .i64 c.tm, .int .i64 c.vt, .int .i64 c.ld, .int .i64 c.wt, .int .i64 c.cm, .int .i64 c.sf, .int .i64 c.l.b, .int .i64 c.l.bt, .int .u16 c.l.j.ov, .int .u16 c.l.j.ox, .int .u16 c.l.j.ol, .int .i64 c.l.j.oe, .int .i64 c.l.j.ok, .int .u16 c.l.j.nv, .int .u16 c.l.j.nx, .int .u16 c.l.j.nl, .int .i64 c.l.j.ne, .int .i64 c.l.j.nk, .bool c.l.j.two, .slice p c.l.es.length k, .string c.sn, .int .u16 c.vs, .int .u16 c.hd, .int .i64 (c.nx 0), .int .i64 (c.nx 1), .int .i64 (c.nx 2), .int .i64 (c.nx 3), .int .i64 (c.nx 4), .int .i64 (c.nx 5), .int .i64 (c.nx 6), .int .i64 (c.nx 7), .int .i64 (c.nx 8), .int .i64 (c.nx 9), .int .i64 (c.mt 0), .int .i64 (c.mt 1), .int .i64 (c.mt 2), .int .i64 (c.mt 3), .int .i64 (c.mt 4), .int .i64 (c.mt 5), .int .i64 (c.mt 6), .int .i64 (c.mt 7), .int .i64 (c.mt 8), .int .i64 (c.mt 9), v][j]? := fun w' h => h.r
    clear ewd hR3 HA3 HB3 hX2
    have hwr : IntKind.i64.wrap (x - 1) = x - 1 := by rw [IntKind.wrap_i64]; omega
    refine tkL 0 rfl hHeld ?_
    try simp only [zA, zC, Act.put, zD, zE, zF]
    refine tkL 1 rfl hHeld ?_
    try simp only [zA, zB, zC, Act.put, zD, zE, zF]
    refine tkL 2 rfl hHeld ?_
    try simp only [zA, zB, zC, Act.put, zD, zE, zF]
    refine tkL 3 rfl hHeld ?_
    try simp only [zA, zB, zC, Act.put, zD, zE, zF]
    refine tkL 4 rfl hHeld ?_
    try simp only [zA, zB, zC, Act.put, zD, zE, zF]
    refine tkL 5 rfl hHeld ?_
    try simp only [zA, zB, zC, Act.put, zD, zE, zF]
    refine tkL 6 rfl hHeld ?_
    try simp only [zA, zB, zC, Act.put, zD, zE, zF]
    refine tkL 7 rfl hHeld ?_
    try simp only [zA, zB, zC, Act.put, zD, zE, zF]
    refine tkL 8 rfl hHeld ?_
    try simp only [zA, zB, zC, Act.put, zD, zE, zF]
    refine tkL 10 rfl hHeld ?_
    try simp only [zA, zB, zC, Act.put, zD, zE, zF]
    refine tkL 11 rfl hHeld ?_
    try simp only [zA, zB, zC, Act.put, zD, zE, zF]
    refine tkL 12 rfl hHeld ?_
    try simp only [zA, zB, zC, Act.put, zD, zE, zF]
    refine tkL 13 rfl hHeld ?_
    try simp only [zA, zB, zC, Act.put, zD, zE, zF]
    refine tkL 14 rfl hHeld ?_
    try simp only [zA, zB, zC, Act.put, zD, zE, zF]
    refine tkL 15 rfl hHeld ?_
    try simp only [zA, zB, zC, Act.put, zD, zE, zF]
    refine tkL 16 rfl hHeld ?_
    try simp only [zA, zB, zC, Act.put, zD, zE, zF]
    refine tkL 17 rfl hHeld ?_
    try simp only [zA, zB, zC, Act.put, zD, zE, zF]
    refine tkL 18 rfl hHeld ?_
    try simp only [zA, zB, zC, Act.put, zD, zE, zF]
    refine tkL 19 rfl hHeld ?_
    try simp only [zA, zB, zC, Act.put, zD, zE, zF]
    clear hwr
    refine wpAnyH_ready (rs := [9]) (by kernel_rfl) (by simp) ?_; refine AllReadyH.cons rfl (fun K hK => ?_) AllReadyH.nil; (try simp only [zA, zB, zC]); go_simp
    refine (slice_any c.l p k x 8 wd2 HF.out.b0 HF.out.b1 HF.out.n (by omega) (by decide) (EnSl.of_own HA4.out.en)).mono ?_; rintro r0 w5 ⟨v5, rfl, ho, b5⟩
    obtain ⟨q, d, rfl⟩ := own_formH ho
    obtain ⟨es, hes⟩ : ∃ es, sliceL c.l x 8 = es := ⟨_, rfl⟩
    rw [hes] at ho HBM ⊢
    obtain ⟨m1, hm1⟩ : ∃ m1 : Ms, { ms0 with k := 3, ix := x - 1, lt := TT, es := es, cm := c.cm, sf := c.sf } = m1 := ⟨_, rfl⟩
    have hA5 := HA4.out.keep b5
    have hX5 := below_block b5 (block_lt HX4.out) HX4.out
    have S5 : RAll R #[.int .i64 c.id, .int .i64 c.role, .int .i64 c.tm, .int .i64 c.vt, .int .i64 c.ld, .int .i64 c.wt, .int .i64 c.cm, .int .i64 c.sf, .int .i64 c.l.b, .int .i64 c.l.bt, .int .u16 c.l.j.ov, .int .u16 c.l.j.ox, .int .u16 c.l.j.ol, .int .i64 c.l.j.oe, .int .i64 c.l.j.ok, .int .u16 c.l.j.nv, .int .u16 c.l.j.nx, .int .u16 c.l.j.nl, .int .i64 c.l.j.ne, .int .i64 c.l.j.nk, .bool c.l.j.two, .slice p c.l.es.length k, .string c.sn, .int .u16 c.vs, .int .u16 c.hd, .int .i64 (c.nx 0), .int .i64 (c.nx 1), .int .i64 (c.nx 2), .int .i64 (c.nx 3), .int .i64 (c.nx 4), .int .i64 (c.nx 5), .int .i64 (c.nx 6), .int .i64 (c.nx 7), .int .i64 (c.nx 8), .int .i64 (c.nx 9), .int .i64 (c.mt 0), .int .i64 (c.mt 1), .int .i64 (c.mt 2), .int .i64 (c.mt 3), .int .i64 (c.mt 4), .int .i64 (c.mt 5), .int .i64 (c.mt 6), .int .i64 (c.mt 7), .int .i64 (c.mt 8), .int .i64 (c.mt 9), v] w5 := RAll.of hA5.blk
    have hg := (block_setCells (msC m1 q d) 0 hX5).2
    have hX6 := setCells_full hX5 (n := 22) rfl (vs := (msC m1 q d).toArray) rfl
    have hmo : MsOwn wd2.heap.size w5 ⟨m1, q, d⟩ := by rw [← hm1]; exact ho
    have hA6 := hA5.other hX5 (by decide) (by omega) HVX.out hg
    have S6 : RAll R #[.int .i64 c.id, .int .i64 c.role, .int .i64 c.tm, .int .i64 c.vt, .int .i64 c.ld, .int .i64 c.wt, .int .i64 c.cm, .int .i64 c.sf, .int .i64 c.l.b, .int .i64 c.l.bt, .int .u16 c.l.j.ov, .int .u16 c.l.j.ox, .int .u16 c.l.j.ol, .int .i64 c.l.j.oe, .int .i64 c.l.j.ok, .int .u16 c.l.j.nv, .int .u16 c.l.j.nx, .int .u16 c.l.j.nl, .int .i64 c.l.j.ne, .int .i64 c.l.j.nk, .bool c.l.j.two, .slice p c.l.es.length k, .string c.sn, .int .u16 c.vs, .int .u16 c.hd, .int .i64 (c.nx 0), .int .i64 (c.nx 1), .int .i64 (c.nx 2), .int .i64 (c.nx 3), .int .i64 (c.nx 4), .int .i64 (c.nx 5), .int .i64 (c.nx 6), .int .i64 (c.nx 7), .int .i64 (c.nx 8), .int .i64 (c.nx 9), .int .i64 (c.mt 0), .int .i64 (c.mt 1), .int .i64 (c.mt 2), .int .i64 (c.mt 3), .int .i64 (c.mt 4), .int .i64 (c.mt 5), .int .i64 (c.mt 6), .int .i64 (c.mt 7), .int .i64 (c.mt 8), .int .i64 (c.mt 9), v] (w5.setCells X 0 (msC m1 q d)) := RAll.of hA6.blk
    have HM6 := Lib.hid (MsOwn.other hmo hX5 (by decide) hg)
    have HSP := Lib.hid (show ∀ b, MsX.bk ⟨m1, q, d⟩ = some b → CoX.bk ⟨c, p, k⟩ ≠ some b from fun b hb e => by
      have h1 := (HM6.out.lt b hb).1
      have h2 := (HA4.out.en.lt b e).2
      omega)
    have HA6 := Lib.hid hA6; have HX6 := Lib.hid hX6
    have HZ := Lib.hid (show B ≤ wd2.heap.size from by have := HA4.out.le; have := HA4.out.lt; omega)
    have HB6 := Lib.hid ((HB4.out.trans (AcR.below b5)).size)
    have HBM1 : Hid (bringM c n = m1) := by show _ = _; rw [HBM.out, hm1]
    have HBX := Lib.hid (AcR.upto2 (HB4.out.trans (AcR.below b5)) hg (by omega) HXG.out)
    have HT := Lib.hid (there_of_block (o := 0) (n := 22) hX5 (by show 0 + 22 ≤ 22; decide))
    refine hK.out _ _ S5 (fun _ => ?_)
    clear hK K ho b5 hA5 hX5 hg hX6 hmo hA6 HA4 HB4 HX4 kR HBM hHeld h0 hes
    try simp only [zA, zB, zC, Act.put, zD, zE, zF]
    have hHeld := S5
    refine tkH (i := 20) (v := .agg (msC m1 q d).toArray) rfl (Or.inl ⟨by rfl, fun w' _ => by subst hm1; kernel_rfl⟩) hHeld ?_
    try simp only [zA, zB, zC, Act.put, zD, zE, zF]
    refine wpAnyH_ready (rs := [21]) (by kernel_rfl) (by simp) ?_; refine AllReadyH.cons rfl (fun K hK => ?_) AllReadyH.nil
    rw [if_pos (by rfl)]
    refine wp_store_mid _ _ _ (by rfl) X 0 (msC m1 q d).toArray (by rfl) (by rfl) HT.out (by kernel_rfl) (one_all rfl) ?_
    refine hK.out _ _ S6 (fun _ => ?_)
    clear hK K hHeld S5 S6 HT
    try simp only [zA, zB, zC, Act.put]
    refine wpAnyH_done (by kernel_rfl) ?_ _
    obtain ⟨w6, hw6⟩ : ∃ z : World, w5.setCells X 0 (msC m1 q d) = z := ⟨_, rfl⟩
    rw [hw6] at HM6 HA6 HBX
    have HX7 : Hid (w6.heap[X]? = some (.cells (msC m1 q d).toArray 39 (0, 0))) := by show _ = _; rw [← hw6]; exact HX6.out
    (try rw [show w5.setCells X 0 (msC m1 q d).toArray.toList = w6 from hw6])
    clear hw6 HX6
    have HRG := Lib.hid (range_of (n := 22) (cs := msC m1 q d) rfl (fun j _ => by rw [Nat.zero_add, block_cells HX7.out, List.getElem?_toArray] : ∀ j, j < 22 → w6.cell? ⟨X, 0 + j, none⟩ = (msC m1 q d)[j]?))
    have HCS := Lib.hid (show Calls Tryz.prog 89 #[.pointer (some ⟨R, 0, none⟩), .int .i64 (n : Int), .agg (msC m1 q d).toArray] w6 _ from send_act B R c p k v l (n : Int) m1 q d w6 HA6.out (HM6.out.mono HZ.out) HSP.out HL.out)
    go_wp2_with (with_reducible refine wpList_load_mid (op := ⟨some 91, _, _, _, _, _⟩) rfl _ _ rfl X 0 rfl (msC m1 q d) _ HRG.out Tryz.underlying39 rfl (by kernel_rfl) ?_)
    refine HCS.out.mono ?_; rintro r w8 ⟨rfl, v8, hA8, hr8⟩
    have HO := Lib.hid (And.intro hA8 (HBX.out.trans hr8))
    clear hA8 hr8 HCS
    go_wp2_with fail
    go_end0
    rw [HBM1.out]
    exact ⟨rfl, v8, q, d, HO.out.1, HO.out.2⟩
  · have HBM1 : Hid (bringM c n = m0) := by show _ = _; unfold bringM; rw [HXN.out, if_neg hgt]; exact HM0.out
    have HRG := Lib.hid (range_of (n := 22) (cs := msC m0 none 0) rfl (fun j _ => by rw [Nat.zero_add, block_cells HX1.out, List.getElem?_toArray] : ∀ j, j < 22 → W1.cell? ⟨X, 0 + j, none⟩ = (msC m0 none 0)[j]?))
    have HCS := Lib.hid (show Calls Tryz.prog 89 #[.pointer (some ⟨R, 0, none⟩), .int .i64 (n : Int), .agg (msC m0 none 0).toArray] W1 _ from send_act B R c p k v l (n : Int) m0 none 0 W1 HA2.out (MsOwn.none (by rw [← HM0.out]; rfl)) (fun b hb => by cases hb) HL.out)
    clear hR2
    go_wp2_with (with_reducible refine wpList_load_mid (op := ⟨some 91, _, _, _, _, _⟩) rfl _ _ rfl X 0 rfl (msC m0 none 0) _ HRG.out Tryz.underlying39 rfl (by kernel_rfl) ?_)
    refine HCS.out.mono ?_; rintro r w8 ⟨rfl, v8, hA8, hr8⟩
    have HO := Lib.hid (And.intro hA8 (HB2.out.trans hr8))
    clear hA8 hr8 HCS
    go_wp2_with fail
    go_end0
    rw [HBM1.out]
    exact ⟨rfl, v8, none, 0, HO.out.1, HO.out.2⟩
end Go.Proofs.YtbnndbdnejfehaaGreatDoor
/- Core: methods of a run (the reference's): a node is sent what it lacks. -/
namespace Go.Proofs.YtbnndbdnejfehaaGreatDoor
open Go.ChangeShapes Go.WideShapes Go.ChangeAt Go.RowKit

theorem ra_nx {Y n : Nat} {c : Co} {p : Option Addr} {k : Nat} {x : Int} {w' : World} (h : RAll Y #[.int .i64 c.id, .int .i64 c.role, .int .i64 c.tm, .int .i64 c.vt, .int .i64 c.ld, .int .i64 c.wt, .int .i64 c.cm, .int .i64 c.sf, .int .i64 c.l.b, .int .i64 c.l.bt, .int .u16 c.l.j.ov, .int .u16 c.l.j.ox, .int .u16 c.l.j.ol, .int .i64 c.l.j.oe, .int .i64 c.l.j.ok, .int .u16 c.l.j.nv, .int .u16 c.l.j.nx, .int .u16 c.l.j.nl, .int .i64 c.l.j.ne, .int .i64 c.l.j.nk, .bool c.l.j.two, .slice p c.l.es.length k, .string c.sn, .int .u16 c.vs, .int .u16 c.hd, .int .i64 (c.nx 0), .int .i64 (c.nx 1), .int .i64 (c.nx 2), .int .i64 (c.nx 3), .int .i64 (c.nx 4), .int .i64 (c.nx 5), .int .i64 (c.nx 6), .int .i64 (c.nx 7), .int .i64 (c.nx 8), .int .i64 (c.nx 9), .int .i64 (c.mt 0), .int .i64 (c.mt 1), .int .i64 (c.mt 2), .int .i64 (c.mt 3), .int .i64 (c.mt 4), .int .i64 (c.mt 5), .int .i64 (c.mt 6), .int .i64 (c.mt 7), .int .i64 (c.mt 8), .int .i64 (c.mt 9)] w') (hn : n < 10) (hx : c.nx n = x) : w'.cell? ⟨Y, 25 + n, none⟩ = some (.int .i64 x) := by
  rw [← hx, h.r (25 + n)]
  rcases (show n = 0 ∨ n = 1 ∨ n = 2 ∨ n = 3 ∨ n = 4 ∨ n = 5 ∨ n = 6 ∨ n = 7 ∨ n = 8 ∨ n = 9 by omega) with rfl | rfl | rfl | rfl | rfl | rfl | rfl | rfl | rfl | rfl <;> rfl

set_option maxRecDepth 100000 in
set_option maxHeartbeats 16000000 in
theorem rbring_act (B R n : Nat) (c : Co) (p : Option Addr) (k : Nat) (v : Value) (l : List MsX) (w : World) (h : AcW 76 B w R ⟨c, p, k⟩ v l) (hF : LgFit c.l) (hn : n < 10) (hx : 0 ≤ c.nx n ∧ c.nx n ≤ 4611686018427387904) (hl : l.length ≤ 100000) :
    Calls Tryz.prog 109 #[.pointer (some ⟨R, 0, none⟩), .int .i64 (n : Int)] w fun e w' => e = .returned (.tuple #[]) ∧ ∃ v' q d, AcW 76 B w' R ⟨c, p, k⟩ v' (l ++ [⟨putM c (n : Int) (bringM c n), q, d⟩]) ∧ AcR w w' R v v' := by
  have HF : Hid (LgFit c.l) := hF
  have HL := Lib.hid hl
  have HRW := Lib.hid (range_of (w := w) (b := R) (o := 0) (n := 45) (cs := coL c p k) rfl (fun j hj => by rw [Nat.zero_add, block_cells h.blk, List.getElem?_toArray, List.getElem?_append_left (by show j < 45; exact hj)]))
  have b1 : Below w.heap.size w (w.alloc (.cells (coL c p k).toArray 33)) := (Below.refl _ _).alloc (Nat.le_refl _) _
  have HA := Lib.hid (h.keep b1); have HB := Lib.hid (AcR.below (R := R) (v := v) b1)
  have HVY := Lib.hid (show v.ownBlock ≠ some w.heap.size from fun e => by have := (h.vge _ e).2; omega)
  have hRY : R < w.heap.size := h.lt
  obtain ⟨x, hxn⟩ : ∃ x, c.nx n = x := ⟨_, rfl⟩
  rewrite [hxn] at hx
  have HXN := Lib.hid hxn
  clear h hF hl b1 hxn
  go_enter Tryz.func109, Tryz.ntmps109
  go_upto_region 1 with (first | (with_reducible refine wpList_load_mid (op := ⟨some 10, _, _, _, _, _⟩) rfl _ _ rfl R 0 rfl (coL c p k) _ HRW.out Tryz.underlying33 rfl (by kernel_rfl) ?_) | (with_reducible refine wpList_store_new (op := ⟨none, .store 33 _ _, _, _, _, _⟩) rfl _ _ _ rfl _ (coL c p k).toArray rfl rfl (by kernel_rfl) rfl (one_all rfl) ?_))
  have hY0 := heap_last w (.cells (coL c p k).toArray 33)
  obtain ⟨W1, hW1⟩ : ∃ z : World, w.alloc (.cells (coL c p k).toArray 33) = z := ⟨_, rfl⟩
  rewrite [hW1] at HA HB hY0 ⊢
  obtain ⟨Y, eY⟩ : ∃ Y, w.heap.size = Y := ⟨_, rfl⟩
  (try rewrite [eY])
  rewrite [eY] at HVY hRY hY0
  have HEY := Lib.hid eY
  clear hW1 eY HRW
  have hn0 : 0 ≤ (n : Int) := by omega
  have hn1 : (n : Int) < 10 := by omega
  have hY1 : W1.drew.heap[Y]? = some (.cells #[.int .i64 c.id, .int .i64 c.role, .int .i64 c.tm, .int .i64 c.vt, .int .i64 c.ld, .int .i64 c.wt, .int .i64 c.cm, .int .i64 c.sf, .int .i64 c.l.b, .int .i64 c.l.bt, .int .u16 c.l.j.ov, .int .u16 c.l.j.ox, .int .u16 c.l.j.ol, .int .i64 c.l.j.oe, .int .i64 c.l.j.ok, .int .u16 c.l.j.nv, .int .u16 c.l.j.nx, .int .u16 c.l.j.nl, .int .i64 c.l.j.ne, .int .i64 c.l.j.nk, .bool c.l.j.two, .slice p c.l.es.length k, .string c.sn, .int .u16 c.vs, .int .u16 c.hd, .int .i64 (c.nx 0), .int .i64 (c.nx 1), .int .i64 (c.nx 2), .int .i64 (c.nx 3), .int .i64 (c.nx 4), .int .i64 (c.nx 5), .int .i64 (c.nx 6), .int .i64 (c.nx 7), .int .i64 (c.nx 8), .int .i64 (c.nx 9), .int .i64 (c.mt 0), .int .i64 (c.mt 1), .int .i64 (c.mt 2), .int .i64 (c.mt 3), .int .i64 (c.mt 4), .int .i64 (c.mt 5), .int .i64 (c.mt 6), .int .i64 (c.mt 7), .int .i64 (c.mt 8), .int .i64 (c.mt 9)] 33 (0, 0)) := hY0
  have h0 : RAll Y #[.int .i64 c.id, .int .i64 c.role, .int .i64 c.tm, .int .i64 c.vt, .int .i64 c.ld, .int .i64 c.wt, .int .i64 c.cm, .int .i64 c.sf, .int .i64 c.l.b, .int .i64 c.l.bt, .int .u16 c.l.j.ov, .int .u16 c.l.j.ox, .int .u16 c.l.j.ol, .int .i64 c.l.j.oe, .int .i64 c.l.j.ok, .int .u16 c.l.j.nv, .int .u16 c.l.j.nx, .int .u16 c.l.j.nl, .int .i64 c.l.j.ne, .int .i64 c.l.j.nk, .bool c.l.j.two, .slice p c.l.es.length k, .string c.sn, .int .u16 c.vs, .int .u16 c.hd, .int .i64 (c.nx 0), .int .i64 (c.nx 1), .int .i64 (c.nx 2), .int .i64 (c.nx 3), .int .i64 (c.nx 4), .int .i64 (c.nx 5), .int .i64 (c.nx 6), .int .i64 (c.nx 7), .int .i64 (c.nx 8), .int .i64 (c.nx 9), .int .i64 (c.mt 0), .int .i64 (c.mt 1), .int .i64 (c.mt 2), .int .i64 (c.mt 3), .int .i64 (c.mt 4), .int .i64 (c.mt 5), .int .i64 (c.mt 6), .int .i64 (c.mt 7), .int .i64 (c.mt 8), .int .i64 (c.mt 9)] W1.drew := RAll.of hY1
  have kN : ∀ w', RAll Y #[.int .i64 c.id, .int .i64 c.role, .int .i64 c.tm, .int .i64 c.vt, .int .i64 c.ld, .int .i64 c.wt, .int .i64 c.cm, .int .i64 c.sf, .int .i64 c.l.b, .int .i64 c.l.bt, .int .u16 c.l.j.ov, .int .u16 c.l.j.ox, .int .u16 c.l.j.ol, .int .i64 c.l.j.oe, .int .i64 c.l.j.ok, .int .u16 c.l.j.nv, .int .u16 c.l.j.nx, .int .u16 c.l.j.nl, .int .i64 c.l.j.ne, .int .i64 c.l.j.nk, .bool c.l.j.two, .slice p c.l.es.length k, .string c.sn, .int .u16 c.vs, .int .u16 c.hd, .int .i64 (c.nx 0), .int .i64 (c.nx 1), .int .i64 (c.nx 2), .int .i64 (c.nx 3), .int .i64 (c.nx 4), .int .i64 (c.nx 5), .int .i64 (c.nx 6), .int .i64 (c.nx 7), .int .i64 (c.nx 8), .int .i64 (c.nx 9), .int .i64 (c.mt 0), .int .i64 (c.mt 1), .int .i64 (c.mt 2), .int .i64 (c.mt 3), .int .i64 (c.mt 4), .int .i64 (c.mt 5), .int .i64 (c.mt 6), .int .i64 (c.mt 7), .int .i64 (c.mt 8), .int .i64 (c.mt 9)] w' → w'.cell? ⟨Y, 25 + n, none⟩ = some (.int .i64 x) := fun w' h => ra_nx h hn HXN.out
  have k8 : ∀ w', RAll Y #[.int .i64 c.id, .int .i64 c.role, .int .i64 c.tm, .int .i64 c.vt, .int .i64 c.ld, .int .i64 c.wt, .int .i64 c.cm, .int .i64 c.sf, .int .i64 c.l.b, .int .i64 c.l.bt, .int .u16 c.l.j.ov, .int .u16 c.l.j.ox, .int .u16 c.l.j.ol, .int .i64 c.l.j.oe, .int .i64 c.l.j.ok, .int .u16 c.l.j.nv, .int .u16 c.l.j.nx, .int .u16 c.l.j.nl, .int .i64 c.l.j.ne, .int .i64 c.l.j.nk, .bool c.l.j.two, .slice p c.l.es.length k, .string c.sn, .int .u16 c.vs, .int .u16 c.hd, .int .i64 (c.nx 0), .int .i64 (c.nx 1), .int .i64 (c.nx 2), .int .i64 (c.nx 3), .int .i64 (c.nx 4), .int .i64 (c.nx 5), .int .i64 (c.nx 6), .int .i64 (c.nx 7), .int .i64 (c.nx 8), .int .i64 (c.nx 9), .int .i64 (c.mt 0), .int .i64 (c.mt 1), .int .i64 (c.mt 2), .int .i64 (c.mt 3), .int .i64 (c.mt 4), .int .i64 (c.mt 5), .int .i64 (c.mt 6), .int .i64 (c.mt 7), .int .i64 (c.mt 8), .int .i64 (c.mt 9)] w' → w'.cell? ⟨Y, 8, none⟩ = some (.int .i64 c.l.b) := fun w' h => h.r 8
  refine wp_region_held_drew (S := RAll Y #[.int .i64 c.id, .int .i64 c.role, .int .i64 c.tm, .int .i64 c.vt, .int .i64 c.ld, .int .i64 c.wt, .int .i64 c.cm, .int .i64 c.sf, .int .i64 c.l.b, .int .i64 c.l.bt, .int .u16 c.l.j.ov, .int .u16 c.l.j.ox, .int .u16 c.l.j.ol, .int .i64 c.l.j.oe, .int .i64 c.l.j.ok, .int .u16 c.l.j.nv, .int .u16 c.l.j.nx, .int .u16 c.l.j.nl, .int .i64 c.l.j.ne, .int .i64 c.l.j.nk, .bool c.l.j.two, .slice p c.l.es.length k, .string c.sn, .int .u16 c.vs, .int .u16 c.hd, .int .i64 (c.nx 0), .int .i64 (c.nx 1), .int .i64 (c.nx 2), .int .i64 (c.nx 3), .int .i64 (c.nx 4), .int .i64 (c.nx 5), .int .i64 (c.nx 6), .int .i64 (c.nx 7), .int .i64 (c.nx 8), .int .i64 (c.nx 9), .int .i64 (c.mt 0), .int .i64 (c.mt 1), .int .i64 (c.mt 2), .int .i64 (c.mt 3), .int .i64 (c.mt 4), .int .i64 (c.mt 5), .int .i64 (c.mt 6), .int .i64 (c.mt 7), .int .i64 (c.mt 8), .int .i64 (c.mt 9)]) (by kernel_rfl) h0 (fun hHeld => ?_)
  have HA1 := Lib.hid (HA.out.keep (Below.refl _ _).drew); have HB1 := Lib.hid HB.out.drew
  have HY1 := Lib.hid hY1
  obtain ⟨W2, eW2⟩ : ∃ z, W1.drew = z := ⟨_, rfl⟩
  rewrite [eW2] at h0 hHeld HA1 HB1 HY1 ⊢
  clear eW2 hY1 hY0 HA HB
  refine tkL 0 rfl hHeld ?_
  try simp only [zA, zC, Act.put, zD, zE, zF]
  refine tkL 1 rfl hHeld ?_
  try simp only [zA, zB, zC, Act.put, zD, zE, zF]
  refine tkL 2 rfl hHeld ?_
  try simp only [zA, zB, zC, Act.put, zD, zE, zF]
  refine tkL 3 rfl hHeld ?_
  try simp only [zA, zB, zC, Act.put, zD, zE, zF]
  refine tkL 4 rfl hHeld ?_
  try simp only [zA, zB, zC, Act.put, zD, zE, zF]
  refine tkL 5 rfl hHeld ?_
  try simp only [zA, zB, zC, Act.put, zD, zE, zF]
  refine tkL 6 rfl hHeld ?_
  try simp only [zA, zB, zC, Act.put, zD, zE, zF]
  refine tkL 7 rfl hHeld ?_
  try simp only [zA, zB, zC, Act.put, zD, zE, zF]
  refine wpAnyH_done (by kernel_rfl) ?_ _
  clear hHeld h0 k8 kN
  by_cases hgt : c.l.b < x
  · have hd : decide (x ≤ c.l.b) = false := by simp; omega
    have HBM : Hid (bringM c n = { ms0 with k := 3, ix := x - 1, lt := (termL c.l (x - 1)).1, es := sliceL c.l x 8, cm := c.cm, sf := c.sf }) := by
      show _ = _; unfold bringM; rw [HXN.out, if_pos hgt]
    obtain ⟨⟨TT, bb⟩, hT⟩ : ∃ z, termL c.l (x - 1) = z := ⟨_, rfl⟩
    rewrite [hT] at HBM
    have HTT := Lib.hid hT
    clear hT
    go_upto_region 3 with fail
    have hY2 : W2.drew.heap[Y]? = some (.cells #[.int .i64 c.id, .int .i64 c.role, .int .i64 c.tm, .int .i64 c.vt, .int .i64 c.ld, .int .i64 c.wt, .int .i64 c.cm, .int .i64 c.sf, .int .i64 c.l.b, .int .i64 c.l.bt, .int .u16 c.l.j.ov, .int .u16 c.l.j.ox, .int .u16 c.l.j.ol, .int .i64 c.l.j.oe, .int .i64 c.l.j.ok, .int .u16 c.l.j.nv, .int .u16 c.l.j.nx, .int .u16 c.l.j.nl, .int .i64 c.l.j.ne, .int .i64 c.l.j.nk, .bool c.l.j.two, .slice p c.l.es.length k, .string c.sn, .int .u16 c.vs, .int .u16 c.hd, .int .i64 (c.nx 0), .int .i64 (c.nx 1), .int .i64 (c.nx 2), .int .i64 (c.nx 3), .int .i64 (c.nx 4), .int .i64 (c.nx 5), .int .i64 (c.nx 6), .int .i64 (c.nx 7), .int .i64 (c.nx 8), .int .i64 (c.nx 9), .int .i64 (c.mt 0), .int .i64 (c.mt 1), .int .i64 (c.mt 2), .int .i64 (c.mt 3), .int .i64 (c.mt 4), .int .i64 (c.mt 5), .int .i64 (c.mt 6), .int .i64 (c.mt 7), .int .i64 (c.mt 8), .int .i64 (c.mt 9)] 33 (0, 0)) := HY1.out
    have h0 : RAll Y #[.int .i64 c.id, .int .i64 c.role, .int .i64 c.tm, .int .i64 c.vt, .int .i64 c.ld, .int .i64 c.wt, .int .i64 c.cm, .int .i64 c.sf, .int .i64 c.l.b, .int .i64 c.l.bt, .int .u16 c.l.j.ov, .int .u16 c.l.j.ox, .int .u16 c.l.j.ol, .int .i64 c.l.j.oe, .int .i64 c.l.j.ok, .int .u16 c.l.j.nv, .int .u16 c.l.j.nx, .int .u16 c.l.j.nl, .int .i64 c.l.j.ne, .int .i64 c.l.j.nk, .bool c.l.j.two, .slice p c.l.es.length k, .string c.sn, .int .u16 c.vs, .int .u16 c.hd, .int .i64 (c.nx 0), .int .i64 (c.nx 1), .int .i64 (c.nx 2), .int .i64 (c.nx 3), .int .i64 (c.nx 4), .int .i64 (c.nx 5), .int .i64 (c.nx 6), .int .i64 (c.nx 7), .int .i64 (c.nx 8), .int .i64 (c.nx 9), .int .i64 (c.mt 0), .int .i64 (c.mt 1), .int .i64 (c.mt 2), .int .i64 (c.mt 3), .int .i64 (c.mt 4), .int .i64 (c.mt 5), .int .i64 (c.mt 6), .int .i64 (c.mt 7), .int .i64 (c.mt 8), .int .i64 (c.mt 9)] W2.drew := RAll.of hY2
    refine wp_region_held_drew (S := RAll Y #[.int .i64 c.id, .int .i64 c.role, .int .i64 c.tm, .int .i64 c.vt, .int .i64 c.ld, .int .i64 c.wt, .int .i64 c.cm, .int .i64 c.sf, .int .i64 c.l.b, .int .i64 c.l.bt, .int .u16 c.l.j.ov, .int .u16 c.l.j.ox, .int .u16 c.l.j.ol, .int .i64 c.l.j.oe, .int .i64 c.l.j.ok, .int .u16 c.l.j.nv, .int .u16 c.l.j.nx, .int .u16 c.l.j.nl, .int .i64 c.l.j.ne, .int .i64 c.l.j.nk, .bool c.l.j.two, .slice p c.l.es.length k, .string c.sn, .int .u16 c.vs, .int .u16 c.hd, .int .i64 (c.nx 0), .int .i64 (c.nx 1), .int .i64 (c.nx 2), .int .i64 (c.nx 3), .int .i64 (c.nx 4), .int .i64 (c.nx 5), .int .i64 (c.nx 6), .int .i64 (c.nx 7), .int .i64 (c.nx 8), .int .i64 (c.nx 9), .int .i64 (c.mt 0), .int .i64 (c.mt 1), .int .i64 (c.mt 2), .int .i64 (c.mt 3), .int .i64 (c.mt 4), .int .i64 (c.mt 5), .int .i64 (c.mt 6), .int .i64 (c.mt 7), .int .i64 (c.mt 8), .int .i64 (c.mt 9)]) (by kernel_rfl) h0 (fun hHeld => ?_)
    have HA2 := Lib.hid (HA1.out.keep (Below.refl _ _).drew); have HB2 := Lib.hid HB1.out.drew
    have HY2 := Lib.hid hY2
    obtain ⟨W3, eW3⟩ : ∃ z, W2.drew = z := ⟨_, rfl⟩
    rewrite [eW3] at h0 hHeld HA2 HB2 HY2 ⊢
    clear eW3 hY2 HA1 HB1 HY1
    have kY : ∀ w', RAll Y #[.int .i64 c.id, .int .i64 c.role, .int .i64 c.tm, .int .i64 c.vt, .int .i64 c.ld, .int .i64 c.wt, .int .i64 c.cm, .int .i64 c.sf, .int .i64 c.l.b, .int .i64 c.l.bt, .int .u16 c.l.j.ov, .int .u16 c.l.j.ox, .int .u16 c.l.j.ol, .int .i64 c.l.j.oe, .int .i64 c.l.j.ok, .int .u16 c.l.j.nv, .int .u16 c.l.j.nx, .int .u16 c.l.j.nl, .int .i64 c.l.j.ne, .int .i64 c.l.j.nk, .bool c.l.j.two, .slice p c.l.es.length k, .string c.sn, .int .u16 c.vs, .int .u16 c.hd, .int .i64 (c.nx 0), .int .i64 (c.nx 1), .int .i64 (c.nx 2), .int .i64 (c.nx 3), .int .i64 (c.nx 4), .int .i64 (c.nx 5), .int .i64 (c.nx 6), .int .i64 (c.nx 7), .int .i64 (c.nx 8), .int .i64 (c.nx 9), .int .i64 (c.mt 0), .int .i64 (c.mt 1), .int .i64 (c.mt 2), .int .i64 (c.mt 3), .int .i64 (c.mt 4), .int .i64 (c.mt 5), .int .i64 (c.mt 6), .int .i64 (c.mt 7), .int .i64 (c.mt 8), .int .i64 (c.mt 9)] w' → ∀ j, w'.cell? ⟨Y, j, none⟩ = #[.int .i64 c.id, .int .i64 c.role, .int .i64 c.tm, .int .i64 c.vt, .int .i64 c.ld, .int .i64 c.wt, .int .i64 c.cm, .int .i64 c.sf, .int .i64 c.l.b, .int .i64 c.l.bt, .int .u16 c.l.j.ov, .int .u16 c.l.j.ox, .int .u16 c.l.j.ol, .int .i64 c.l.j.oe, .int .i64 c.l.j.ok, .int .u16 c.l.j.nv, .int .u16 c.l.j.nx, .int .u16 c.l.j.nl, .int .i64 c.l.j.ne, .int .i64 c.l.j.nk, .bool c.l.j.two, .slice p c.l.es.length k, .string c.sn, .int .u16 c.vs, .int .u16 c.hd, .int .i64 (c.nx 0), .int .i64 (c.nx 1), .int .i64 (c.nx 2), .int .i64 (c.nx 3), .int .i64 (c.nx 4), .int .i64 (c.nx 5), .int .i64 (c.nx 6), .int .i64 (c.nx 7), .int .i64 (c.nx 8), .int .i64 (c.nx 9), .int .i64 (c.mt 0), .int .i64 (c.mt 1), .int .i64 (c.mt 2), .int .i64 (c.mt 3), .int .i64 (c.mt 4), .int .i64 (c.mt 5), .int .i64 (c.mt 6), .int .i64 (c.mt 7), .int .i64 (c.mt 8), .int .i64 (c.mt 9)][j]? := fun w' h => h.r
    have hwr : IntKind.i64.wrap (x - 1) = x - 1 := by rw [IntKind.wrap_i64]; omega
    refine tkL 0 rfl hHeld ?_
    try simp only [zA, zC, Act.put, zD, zE, zF]
    refine tkL 1 rfl hHeld ?_
    try simp only [zA, zB, zC, Act.put, zD, zE, zF]
    clear kY
    have kN : ∀ w', RAll Y #[.int .i64 c.id, .int .i64 c.role, .int .i64 c.tm, .int .i64 c.vt, .int .i64 c.ld, .int .i64 c.wt, .int .i64 c.cm, .int .i64 c.sf, .int .i64 c.l.b, .int .i64 c.l.bt, .int .u16 c.l.j.ov, .int .u16 c.l.j.ox, .int .u16 c.l.j.ol, .int .i64 c.l.j.oe, .int .i64 c.l.j.ok, .int .u16 c.l.j.nv, .int .u16 c.l.j.nx, .int .u16 c.l.j.nl, .int .i64 c.l.j.ne, .int .i64 c.l.j.nk, .bool c.l.j.two, .slice p c.l.es.length k, .string c.sn, .int .u16 c.vs, .int .u16 c.hd, .int .i64 (c.nx 0), .int .i64 (c.nx 1), .int .i64 (c.nx 2), .int .i64 (c.nx 3), .int .i64 (c.nx 4), .int .i64 (c.nx 5), .int .i64 (c.nx 6), .int .i64 (c.nx 7), .int .i64 (c.nx 8), .int .i64 (c.nx 9), .int .i64 (c.mt 0), .int .i64 (c.mt 1), .int .i64 (c.mt 2), .int .i64 (c.mt 3), .int .i64 (c.mt 4), .int .i64 (c.mt 5), .int .i64 (c.mt 6), .int .i64 (c.mt 7), .int .i64 (c.mt 8), .int .i64 (c.mt 9)] w' → w'.cell? ⟨Y, 25 + n, none⟩ = some (.int .i64 x) := fun w' h => ra_nx h hn HXN.out
    refine tkL 2 rfl hHeld ?_
    try simp only [zA, zB, zC, Act.put, zD, zE, zF]
    refine tkL 3 rfl hHeld ?_
    try simp only [zA, zB, zC, Act.put, zD, zE, zF]
    refine tkL 4 rfl hHeld ?_
    try simp only [zA, zB, zC, Act.put, zD, zE, zF]
    refine tkL 5 rfl hHeld ?_
    try simp only [zA, zB, zC, Act.put, zD, zE, zF]
    refine tkL 6 rfl hHeld ?_
    try simp only [zA, zB, zC, Act.put, zD, zE, zF]
    clear hwr
    refine wpAnyH_ready (rs := [7]) (by kernel_rfl) (by simp) ?_; refine AllReadyH.cons rfl (fun K hK => ?_) AllReadyH.nil; (try simp only [zA, zB, zC]); go_simp
    refine (show Calls Tryz.prog 87 #[.agg #[.int .i64 c.l.b, .int .i64 c.l.bt, .int .u16 c.l.j.ov, .int .u16 c.l.j.ox, .int .u16 c.l.j.ol, .int .i64 c.l.j.oe, .int .i64 c.l.j.ok, .int .u16 c.l.j.nv, .int .u16 c.l.j.nx, .int .u16 c.l.j.nl, .int .i64 c.l.j.ne, .int .i64 c.l.j.nk, .bool c.l.j.two, .slice p c.l.es.length k], .int .i64 (x - 1)] W3 fun r w2 => r = .returned (.tuple #[.int .i64 TT, .bool bb]) ∧ Below W3.heap.size W3 w2 from by have := rterm_is c.l p k W3 HF.out (i := x - 1) (by omega) (EnSl.of_own HA2.out.en); rw [HTT.out] at this; exact this).mono ?_; rintro r0 w4 ⟨rfl, b4⟩
    have hY4 := below_block b4 (block_lt HY2.out) HY2.out
    have S4 : RAll Y #[.int .i64 c.id, .int .i64 c.role, .int .i64 c.tm, .int .i64 c.vt, .int .i64 c.ld, .int .i64 c.wt, .int .i64 c.cm, .int .i64 c.sf, .int .i64 c.l.b, .int .i64 c.l.bt, .int .u16 c.l.j.ov, .int .u16 c.l.j.ox, .int .u16 c.l.j.ol, .int .i64 c.l.j.oe, .int .i64 c.l.j.ok, .int .u16 c.l.j.nv, .int .u16 c.l.j.nx, .int .u16 c.l.j.nl, .int .i64 c.l.j.ne, .int .i64 c.l.j.nk, .bool c.l.j.two, .slice p c.l.es.length k, .string c.sn, .int .u16 c.vs, .int .u16 c.hd, .int .i64 (c.nx 0), .int .i64 (c.nx 1), .int .i64 (c.nx 2), .int .i64 (c.nx 3), .int .i64 (c.nx 4), .int .i64 (c.nx 5), .int .i64 (c.nx 6), .int .i64 (c.nx 7), .int .i64 (c.nx 8), .int .i64 (c.nx 9), .int .i64 (c.mt 0), .int .i64 (c.mt 1), .int .i64 (c.mt 2), .int .i64 (c.mt 3), .int .i64 (c.mt 4), .int .i64 (c.mt 5), .int .i64 (c.mt 6), .int .i64 (c.mt 7), .int .i64 (c.mt 8), .int .i64 (c.mt 9)] w4 := RAll.of hY4
    have HA4 := Lib.hid (HA2.out.keep b4); have HB4 := Lib.hid (HB2.out.trans (AcR.below b4)); have HY4 := Lib.hid hY4
    refine hK.out _ _ S4 (fun _ => ?_)
    clear hK K b4 hY4 HA2 HB2 HY2 hHeld h0 kN
    try simp only [zA, zB, zC, Act.put, zD, zE, zF]
    have hHeld := S4
    refine tkL 8 rfl hHeld ?_
    try simp only [zA, zB, zC, Act.put, zD, zE, zF]
    refine tkL 9 rfl hHeld ?_
    try simp only [zA, zB, zC, Act.put, zD, zE, zF]
    refine tkL 10 rfl hHeld ?_
    try simp only [zA, zB, zC, Act.put, zD, zE, zF]
    refine tkL 11 rfl hHeld ?_
    try simp only [zA, zB, zC, Act.put, zD, zE, zF]
    refine tkL 12 rfl hHeld ?_
    try simp only [zA, zB, zC, Act.put, zD, zE, zF]
    refine wpAnyH_done (by kernel_rfl) ?_ _
    clear hHeld S4
    go_upto_region 4 with fail
    have hY5 : w4.drew.heap[Y]? = some (.cells #[.int .i64 c.id, .int .i64 c.role, .int .i64 c.tm, .int .i64 c.vt, .int .i64 c.ld, .int .i64 c.wt, .int .i64 c.cm, .int .i64 c.sf, .int .i64 c.l.b, .int .i64 c.l.bt, .int .u16 c.l.j.ov, .int .u16 c.l.j.ox, .int .u16 c.l.j.ol, .int .i64 c.l.j.oe, .int .i64 c.l.j.ok, .int .u16 c.l.j.nv, .int .u16 c.l.j.nx, .int .u16 c.l.j.nl, .int .i64 c.l.j.ne, .int .i64 c.l.j.nk, .bool c.l.j.two, .slice p c.l.es.length k, .string c.sn, .int .u16 c.vs, .int .u16 c.hd, .int .i64 (c.nx 0), .int .i64 (c.nx 1), .int .i64 (c.nx 2), .int .i64 (c.nx 3), .int .i64 (c.nx 4), .int .i64 (c.nx 5), .int .i64 (c.nx 6), .int .i64 (c.nx 7), .int .i64 (c.nx 8), .int .i64 (c.nx 9), .int .i64 (c.mt 0), .int .i64 (c.mt 1), .int .i64 (c.mt 2), .int .i64 (c.mt 3), .int .i64 (c.mt 4), .int .i64 (c.mt 5), .int .i64 (c.mt 6), .int .i64 (c.mt 7), .int .i64 (c.mt 8), .int .i64 (c.mt 9)] 33 (0, 0)) := HY4.out
    have h0 : RAll Y #[.int .i64 c.id, .int .i64 c.role, .int .i64 c.tm, .int .i64 c.vt, .int .i64 c.ld, .int .i64 c.wt, .int .i64 c.cm, .int .i64 c.sf, .int .i64 c.l.b, .int .i64 c.l.bt, .int .u16 c.l.j.ov, .int .u16 c.l.j.ox, .int .u16 c.l.j.ol, .int .i64 c.l.j.oe, .int .i64 c.l.j.ok, .int .u16 c.l.j.nv, .int .u16 c.l.j.nx, .int .u16 c.l.j.nl, .int .i64 c.l.j.ne, .int .i64 c.l.j.nk, .bool c.l.j.two, .slice p c.l.es.length k, .string c.sn, .int .u16 c.vs, .int .u16 c.hd, .int .i64 (c.nx 0), .int .i64 (c.nx 1), .int .i64 (c.nx 2), .int .i64 (c.nx 3), .int .i64 (c.nx 4), .int .i64 (c.nx 5), .int .i64 (c.nx 6), .int .i64 (c.nx 7), .int .i64 (c.nx 8), .int .i64 (c.nx 9), .int .i64 (c.mt 0), .int .i64 (c.mt 1), .int .i64 (c.mt 2), .int .i64 (c.mt 3), .int .i64 (c.mt 4), .int .i64 (c.mt 5), .int .i64 (c.mt 6), .int .i64 (c.mt 7), .int .i64 (c.mt 8), .int .i64 (c.mt 9)] w4.drew := RAll.of hY5
    refine wp_region_held_drew (S := RAll Y #[.int .i64 c.id, .int .i64 c.role, .int .i64 c.tm, .int .i64 c.vt, .int .i64 c.ld, .int .i64 c.wt, .int .i64 c.cm, .int .i64 c.sf, .int .i64 c.l.b, .int .i64 c.l.bt, .int .u16 c.l.j.ov, .int .u16 c.l.j.ox, .int .u16 c.l.j.ol, .int .i64 c.l.j.oe, .int .i64 c.l.j.ok, .int .u16 c.l.j.nv, .int .u16 c.l.j.nx, .int .u16 c.l.j.nl, .int .i64 c.l.j.ne, .int .i64 c.l.j.nk, .bool c.l.j.two, .slice p c.l.es.length k, .string c.sn, .int .u16 c.vs, .int .u16 c.hd, .int .i64 (c.nx 0), .int .i64 (c.nx 1), .int .i64 (c.nx 2), .int .i64 (c.nx 3), .int .i64 (c.nx 4), .int .i64 (c.nx 5), .int .i64 (c.nx 6), .int .i64 (c.nx 7), .int .i64 (c.nx 8), .int .i64 (c.nx 9), .int .i64 (c.mt 0), .int .i64 (c.mt 1), .int .i64 (c.mt 2), .int .i64 (c.mt 3), .int .i64 (c.mt 4), .int .i64 (c.mt 5), .int .i64 (c.mt 6), .int .i64 (c.mt 7), .int .i64 (c.mt 8), .int .i64 (c.mt 9)]) (by kernel_rfl) h0 (fun hHeld => ?_)
    have HA5 := Lib.hid (HA4.out.keep (Below.refl _ _).drew); have HB5 := Lib.hid HB4.out.drew
    have HY5 := Lib.hid hY5
    obtain ⟨W6, eW6⟩ : ∃ z, w4.drew = z := ⟨_, rfl⟩
    rewrite [eW6] at h0 hHeld HA5 HB5 HY5 ⊢
    clear eW6 hY5 HA4 HB4 HY4
    have kY : ∀ w', RAll Y #[.int .i64 c.id, .int .i64 c.role, .int .i64 c.tm, .int .i64 c.vt, .int .i64 c.ld, .int .i64 c.wt, .int .i64 c.cm, .int .i64 c.sf, .int .i64 c.l.b, .int .i64 c.l.bt, .int .u16 c.l.j.ov, .int .u16 c.l.j.ox, .int .u16 c.l.j.ol, .int .i64 c.l.j.oe, .int .i64 c.l.j.ok, .int .u16 c.l.j.nv, .int .u16 c.l.j.nx, .int .u16 c.l.j.nl, .int .i64 c.l.j.ne, .int .i64 c.l.j.nk, .bool c.l.j.two, .slice p c.l.es.length k, .string c.sn, .int .u16 c.vs, .int .u16 c.hd, .int .i64 (c.nx 0), .int .i64 (c.nx 1), .int .i64 (c.nx 2), .int .i64 (c.nx 3), .int .i64 (c.nx 4), .int .i64 (c.nx 5), .int .i64 (c.nx 6), .int .i64 (c.nx 7), .int .i64 (c.nx 8), .int .i64 (c.nx 9), .int .i64 (c.mt 0), .int .i64 (c.mt 1), .int .i64 (c.mt 2), .int .i64 (c.mt 3), .int .i64 (c.mt 4), .int .i64 (c.mt 5), .int .i64 (c.mt 6), .int .i64 (c.mt 7), .int .i64 (c.mt 8), .int .i64 (c.mt 9)] w' → ∀ j, w'.cell? ⟨Y, j, none⟩ = #[.int .i64 c.id, .int .i64 c.role, .int .i64 c.tm, .int .i64 c.vt, .int .i64 c.ld, .int .i64 c.wt, .int .i64 c.cm, .int .i64 c.sf, .int .i64 c.l.b, .int .i64 c.l.bt, .int .u16 c.l.j.ov, .int .u16 c.l.j.ox, .int .u16 c.l.j.ol, .int .i64 c.l.j.oe, .int .i64 c.l.j.ok, .int .u16 c.l.j.nv, .int .u16 c.l.j.nx, .int .u16 c.l.j.nl, .int .i64 c.l.j.ne, .int .i64 c.l.j.nk, .bool c.l.j.two, .slice p c.l.es.length k, .string c.sn, .int .u16 c.vs, .int .u16 c.hd, .int .i64 (c.nx 0), .int .i64 (c.nx 1), .int .i64 (c.nx 2), .int .i64 (c.nx 3), .int .i64 (c.nx 4), .int .i64 (c.nx 5), .int .i64 (c.nx 6), .int .i64 (c.nx 7), .int .i64 (c.nx 8), .int .i64 (c.nx 9), .int .i64 (c.mt 0), .int .i64 (c.mt 1), .int .i64 (c.mt 2), .int .i64 (c.mt 3), .int .i64 (c.mt 4), .int .i64 (c.mt 5), .int .i64 (c.mt 6), .int .i64 (c.mt 7), .int .i64 (c.mt 8), .int .i64 (c.mt 9)][j]? := fun w' h => h.r
    have hwr : IntKind.i64.wrap (x - 1) = x - 1 := by rw [IntKind.wrap_i64]; omega
    refine tkL 7 rfl hHeld ?_
    try simp only [zA, zB, zC, Act.put, zD, zE, zF]
    refine tkL 8 rfl hHeld ?_
    try simp only [zA, zB, zC, Act.put, zD, zE, zF]
    refine tkL 9 rfl hHeld ?_
    try simp only [zA, zB, zC, Act.put, zD, zE, zF]
    refine tkL 15 rfl hHeld ?_
    try simp only [zA, zB, zC, Act.put, zD, zE, zF]
    refine tkL 16 rfl hHeld ?_
    try simp only [zA, zB, zC, Act.put, zD, zE, zF]
    refine tkL 17 rfl hHeld ?_
    try simp only [zA, zB, zC, Act.put, zD, zE, zF]
    refine tkL 18 rfl hHeld ?_
    try simp only [zA, zB, zC, Act.put, zD, zE, zF]
    clear kY
    have kN : ∀ w', RAll Y #[.int .i64 c.id, .int .i64 c.role, .int .i64 c.tm, .int .i64 c.vt, .int .i64 c.ld, .int .i64 c.wt, .int .i64 c.cm, .int .i64 c.sf, .int .i64 c.l.b, .int .i64 c.l.bt, .int .u16 c.l.j.ov, .int .u16 c.l.j.ox, .int .u16 c.l.j.ol, .int .i64 c.l.j.oe, .int .i64 c.l.j.ok, .int .u16 c.l.j.nv, .int .u16 c.l.j.nx, .int .u16 c.l.j.nl, .int .i64 c.l.j.ne, .int .i64 c.l.j.nk, .bool c.l.j.two, .slice p c.l.es.length k, .string c.sn, .int .u16 c.vs, .int .u16 c.hd, .int .i64 (c.nx 0), .int .i64 (c.nx 1), .int .i64 (c.nx 2), .int .i64 (c.nx 3), .int .i64 (c.nx 4), .int .i64 (c.nx 5), .int .i64 (c.nx 6), .int .i64 (c.nx 7), .int .i64 (c.nx 8), .int .i64 (c.nx 9), .int .i64 (c.mt 0), .int .i64 (c.mt 1), .int .i64 (c.mt 2), .int .i64 (c.mt 3), .int .i64 (c.mt 4), .int .i64 (c.mt 5), .int .i64 (c.mt 6), .int .i64 (c.mt 7), .int .i64 (c.mt 8), .int .i64 (c.mt 9)] w' → w'.cell? ⟨Y, 25 + n, none⟩ = some (.int .i64 x) := fun w' h => ra_nx h hn HXN.out
    refine tkL 0 rfl hHeld ?_
    try simp only [zA, zC, Act.put, zD, zE, zF]
    refine tkL 1 rfl hHeld ?_
    try simp only [zA, zB, zC, Act.put, zD, zE, zF]
    refine tkL 2 rfl hHeld ?_
    try simp only [zA, zB, zC, Act.put, zD, zE, zF]
    refine tkL 3 rfl hHeld ?_
    try simp only [zA, zB, zC, Act.put, zD, zE, zF]
    refine tkL 4 rfl hHeld ?_
    try simp only [zA, zB, zC, Act.put, zD, zE, zF]
    refine tkL 5 rfl hHeld ?_
    try simp only [zA, zB, zC, Act.put, zD, zE, zF]
    refine tkL 6 rfl hHeld ?_
    try simp only [zA, zB, zC, Act.put, zD, zE, zF]
    refine tkL 10 rfl hHeld ?_
    try simp only [zA, zB, zC, Act.put, zD, zE, zF]
    refine tkL 11 rfl hHeld ?_
    try simp only [zA, zB, zC, Act.put, zD, zE, zF]
    refine tkL 12 rfl hHeld ?_
    try simp only [zA, zB, zC, Act.put, zD, zE, zF]
    refine tkL 13 rfl hHeld ?_
    try simp only [zA, zB, zC, Act.put, zD, zE, zF]
    clear hwr
    refine wpAnyH_ready (rs := [14]) (by kernel_rfl) (by simp) ?_; refine AllReadyH.cons rfl (fun K hK => ?_) AllReadyH.nil; (try simp only [zA, zB, zC]); go_simp
    refine (rslice_any c.l p k x 8 W6 HF.out (by omega) (by decide) (EnSl.of_own HA5.out.en)).mono ?_; rintro r0 w7 ⟨v5, rfl, ho, b5⟩
    obtain ⟨q, d, rfl⟩ := own_formH ho
    obtain ⟨es, hes⟩ : ∃ es, sliceL c.l x 8 = es := ⟨_, rfl⟩
    rewrite [hes] at ho HBM ⊢
    obtain ⟨m1, hm1⟩ : ∃ m1 : Ms, { ms0 with k := 3, ix := x - 1, lt := TT, es := es, cm := c.cm, sf := c.sf } = m1 := ⟨_, rfl⟩
    have hY7 := below_block b5 (block_lt HY5.out) HY5.out
    have S7 : RAll Y #[.int .i64 c.id, .int .i64 c.role, .int .i64 c.tm, .int .i64 c.vt, .int .i64 c.ld, .int .i64 c.wt, .int .i64 c.cm, .int .i64 c.sf, .int .i64 c.l.b, .int .i64 c.l.bt, .int .u16 c.l.j.ov, .int .u16 c.l.j.ox, .int .u16 c.l.j.ol, .int .i64 c.l.j.oe, .int .i64 c.l.j.ok, .int .u16 c.l.j.nv, .int .u16 c.l.j.nx, .int .u16 c.l.j.nl, .int .i64 c.l.j.ne, .int .i64 c.l.j.nk, .bool c.l.j.two, .slice p c.l.es.length k, .string c.sn, .int .u16 c.vs, .int .u16 c.hd, .int .i64 (c.nx 0), .int .i64 (c.nx 1), .int .i64 (c.nx 2), .int .i64 (c.nx 3), .int .i64 (c.nx 4), .int .i64 (c.nx 5), .int .i64 (c.nx 6), .int .i64 (c.nx 7), .int .i64 (c.nx 8), .int .i64 (c.nx 9), .int .i64 (c.mt 0), .int .i64 (c.mt 1), .int .i64 (c.mt 2), .int .i64 (c.mt 3), .int .i64 (c.mt 4), .int .i64 (c.mt 5), .int .i64 (c.mt 6), .int .i64 (c.mt 7), .int .i64 (c.mt 8), .int .i64 (c.mt 9)] w7 := RAll.of hY7
    have hmo : MsOwn W6.heap.size w7 ⟨m1, q, d⟩ := by rw [← hm1]; exact ho
    have HM7 := Lib.hid hmo
    have HSP := Lib.hid (show ∀ b, MsX.bk ⟨m1, q, d⟩ = some b → CoX.bk ⟨c, p, k⟩ ≠ some b from fun b hb e => by
      have h1 := (hmo.lt b hb).1
      have h2 := (HA5.out.en.lt b e).2
      omega)
    have HZ := Lib.hid (show B ≤ W6.heap.size from by have := HA5.out.le; have := HA5.out.lt; omega)
    have HA7 := Lib.hid (HA5.out.keep b5); have HB7 := Lib.hid (HB5.out.trans (AcR.below b5)); have HY7 := Lib.hid hY7
    have HBM1 : Hid (bringM c n = m1) := by show _ = _; rw [HBM.out, hm1]
    refine hK.out _ _ S7 (fun _ => ?_)
    clear hK K ho b5 hmo hY7 HA5 HB5 HY5 kN HBM hHeld h0 hes
    try simp only [zA, zB, zC, Act.put, zD, zE, zF]
    have hHeld := S7
    refine tkH (i := 19) (v := .agg (msC m1 q d).toArray) rfl (Or.inl ⟨by rfl, fun w' _ => by subst hm1; kernel_rfl⟩) hHeld ?_
    try simp only [zA, zB, zC, Act.put, zD, zE, zF]
    refine wpAnyH_ready (rs := [20]) (by kernel_rfl) (by simp) ?_; refine AllReadyH.cons rfl (fun K hK => ?_) AllReadyH.nil; (try simp only [zA, zB, zC]); go_simp
    refine (show Calls Tryz.prog 49 #[.pointer (some ⟨R, 0, none⟩), .int .i64 (n : Int), .agg (msC m1 q d).toArray] w7 _ from rsend_act B R c p k v l (n : Int) m1 q d w7 HA7.out (HM7.out.mono HZ.out) HSP.out HL.out).mono ?_; rintro r0 w8 ⟨rfl, v8, hA8, hr8⟩
    have S8 : RAll Y #[.int .i64 c.id, .int .i64 c.role, .int .i64 c.tm, .int .i64 c.vt, .int .i64 c.ld, .int .i64 c.wt, .int .i64 c.cm, .int .i64 c.sf, .int .i64 c.l.b, .int .i64 c.l.bt, .int .u16 c.l.j.ov, .int .u16 c.l.j.ox, .int .u16 c.l.j.ol, .int .i64 c.l.j.oe, .int .i64 c.l.j.ok, .int .u16 c.l.j.nv, .int .u16 c.l.j.nx, .int .u16 c.l.j.nl, .int .i64 c.l.j.ne, .int .i64 c.l.j.nk, .bool c.l.j.two, .slice p c.l.es.length k, .string c.sn, .int .u16 c.vs, .int .u16 c.hd, .int .i64 (c.nx 0), .int .i64 (c.nx 1), .int .i64 (c.nx 2), .int .i64 (c.nx 3), .int .i64 (c.nx 4), .int .i64 (c.nx 5), .int .i64 (c.nx 6), .int .i64 (c.nx 7), .int .i64 (c.nx 8), .int .i64 (c.nx 9), .int .i64 (c.mt 0), .int .i64 (c.mt 1), .int .i64 (c.mt 2), .int .i64 (c.mt 3), .int .i64 (c.mt 4), .int .i64 (c.mt 5), .int .i64 (c.mt 6), .int .i64 (c.mt 7), .int .i64 (c.mt 8), .int .i64 (c.mt 9)] w8 := RAll.of (hr8.blk HY7.out (by omega) HVY.out).1
    have HO := Lib.hid (And.intro hA8 (HB7.out.trans hr8))
    refine hK.out _ _ S8 (fun _ => ?_)
    clear hK K hA8 hr8 hHeld S7 S8
    try simp only [zA, zB, zC, Act.put, zD, zE, zF]
    refine wpAnyH_done (by kernel_rfl) ?_ _
    go_wp2_with fail
    go_end0
    rw [HBM1.out]
    first | exact ⟨rfl, v8, q, d, HO.out.1, HO.out.2⟩ | exact ⟨rfl, v8, ⟨q, d, HO.out.1⟩, HO.out.2⟩
  · have hd : decide (x ≤ c.l.b) = true := by simp; omega
    obtain ⟨m0, hm0⟩ : ∃ m0 : Ms, { ms0 with k := 5, ix := c.l.b, lt := c.l.bt, sn := c.sn, cf := c.l.j, cm := c.cm, sf := c.sf } = m0 := ⟨_, rfl⟩
    have HBM1 : Hid (bringM c n = m0) := by show _ = _; unfold bringM; rw [HXN.out, if_neg hgt]; exact hm0
    have kY := block_cells HY1.out
    have HCS := Lib.hid (show Calls Tryz.prog 49 #[.pointer (some ⟨R, 0, none⟩), .int .i64 (n : Int), .agg #[.int .i64 5, .int .i64 0, .int .i64 0, .int .i64 0, .int .i64 c.l.b, .int .i64 c.l.bt, .int .i64 c.cm, .int .i64 c.sf, .bool false, .slice none 0 0, .string c.sn, .int .u16 c.l.j.ov, .int .u16 c.l.j.ox, .int .u16 c.l.j.ol, .int .i64 c.l.j.oe, .int .i64 c.l.j.ok, .int .u16 c.l.j.nv, .int .u16 c.l.j.nx, .int .u16 c.l.j.nl, .int .i64 c.l.j.ne, .int .i64 c.l.j.nk, .bool c.l.j.two]] W2 (fun e w' => e = .returned (.tuple #[]) ∧ ∃ v', AcW 76 B w' R ⟨c, p, k⟩ v' (l ++ [⟨putM c (n : Int) m0, none, 0⟩]) ∧ AcR W2 w' R v v') from by
      subst hm0
      exact rsend_act B R c p k v l (n : Int) _ none 0 W2 HA1.out (MsOwn.none rfl) (fun b hb => by cases hb) HL.out)
    clear hm0
    go_wp2_with fail
    refine HCS.out.mono ?_; rintro r w8 ⟨rfl, v8, hA8, hr8⟩
    have HO := Lib.hid (And.intro hA8 (HB1.out.trans hr8))
    clear hA8 hr8 HCS kY
    go_wp2_with fail
    refine bodyPost_ret (results_none rfl _ _ _) rfl ?_
    rw [HBM1.out]
    first | exact ⟨rfl, v8, none, 0, HO.out.1, HO.out.2⟩ | exact ⟨rfl, v8, ⟨none, 0, HO.out.1⟩, HO.out.2⟩
end Go.Proofs.YtbnndbdnejfehaaGreatDoor
