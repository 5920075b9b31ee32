/- entries: Conf: what is in force at the end. -/
import Derived.Test.YtjaabakobpabjaaLogI
import Derived.Test.YtjaabakobpabjaaLogF
namespace Go.Proofs.Ytjaabakobpabjaa
open Go.ChangeShapes Go.WideShapes Go.ChangeAt Go.RowKit Go.Shelf
attribute [local go_sem] Oper.semAt_some

structure KpG (w wk : World) (C : Nat) (t : TypeId) (cs : Array Value) : Prop where
  blk : wk.heap[C]? = some (.cells cs t (0, 0))
  gr : w.grownBy wk (some C)
theorem KpG.step {w wk : World} {C : Nat} {t : TypeId} {cs : Array Value} (h : KpG w wk C t cs) (j : Nat) (v : Value) : KpG w (wk.setCell ⟨C, j, none⟩ v) C t (cs.setIfInBounds j v) := ⟨cells_setL h.blk j v, grown_setL h.gr j v⟩
def putJ (w : World) (C : Nat) (x0 x1 x2 x3 x4 x5 x6 x7 x8 x9 x10 : Value) : World := (((((((((((w.setCell ⟨C, 0, none⟩ x0).setCell ⟨C, 1, none⟩ x1).setCell ⟨C, 2, none⟩ x2).setCell ⟨C, 3, none⟩ x3).setCell ⟨C, 4, none⟩ x4).setCell ⟨C, 5, none⟩ x5).setCell ⟨C, 6, none⟩ x6).setCell ⟨C, 7, none⟩ x7).setCell ⟨C, 8, none⟩ x8).setCell ⟨C, 9, none⟩ x9).setCell ⟨C, 10, none⟩ x10)
theorem putJ_ok {w : World} {C : Nat} {t : TypeId} {a0 a1 a2 a3 a4 a5 a6 a7 a8 a9 a10 : Value} (hA : w.heap[C]? = some (.cells #[a0, a1, a2, a3, a4, a5, a6, a7, a8, a9, a10] t (0, 0))) (x0 x1 x2 x3 x4 x5 x6 x7 x8 x9 x10 : Value) :
    (putJ w C x0 x1 x2 x3 x4 x5 x6 x7 x8 x9 x10).heap[C]? = some (.cells #[x0, x1, x2, x3, x4, x5, x6, x7, x8, x9, x10] t (0, 0)) ∧ w.grownBy (putJ w C x0 x1 x2 x3 x4 x5 x6 x7 x8 x9 x10) (some C) := by
  have k0 : KpG w w C t _ := ⟨hA, grown_reflL w _⟩
  have k := (((((((((((k0.step 0 x0).step 1 x1).step 2 x2).step 3 x3).step 4 x4).step 5 x5).step 6 x6).step 7 x7).step 8 x8).step 9 x9).step 10 x10)
  have h := k.blk
  simp only [List.setIfInBounds_toArray, List.set_cons_zero, List.set_cons_succ] at h
  exact ⟨h, k.gr⟩
theorem block_own {β : Type} (B : Nat) (o : β → Obj) (hc : ∀ s, (o s).isCells = true) : Own (fun s W => W.heap[B]? = some (o s)) := fun s X Y row hs hg hrow =>
  (hg.block B (Array.getElem?_eq_some_iff.1 hs).1 (fun e' => by
    obtain ⟨o', ho, hc'⟩ := hrow B e'.symm
    have hs' : X.heap[B]? = some (o s) := hs
    rw [hs'] at ho; cases ho; rw [hc s] at hc'; cases hc')).trans hs
theorem grown_others {W W' : World} {C : Nat} {cs : Array Value} {t : TypeId} (hg : W.grownBy W' (some C)) (h : W.heap[C]? = some (.cells cs t (0, 0))) : KeepsOthers W W' :=
  KeepsOthers.of_grownBy hg (fun j o e ho => by cases e; rw [h] at ho; cases ho; rfl)
theorem below_grown {B : Nat} {w W W' : World} {C : Nat} (h : Below B w W) (hg : W.grownBy W' (some C)) (hB : B ≤ W.heap.size) (hC : B ≤ C) : Below B w W' := h.grown hg hB (fun k e => by cases e; exact hC)
theorem back_all {es : List Ent} (h : ∀ q ∈ backL es 0, q.2.k ≠ 2) : ∀ e ∈ es, e.k ≠ 2 := by
  intro e he
  obtain ⟨j, hj, rfl⟩ := List.getElem_of_mem he
  refine h (j, es[j]) ?_
  unfold backL
  simp only [List.mem_map, List.mem_reverse, List.mem_range'_1]
  exact ⟨j, by omega, by simp [List.getD, List.getElem?_eq_getElem hj]⟩
theorem back_from {es : List Ent} {m : Nat} (h : ∀ q ∈ backL es m, q.2.k ≠ 2) : ∀ e ∈ es.drop m, e.k ≠ 2 := by
  intro e he
  obtain ⟨j, hj, rfl⟩ := List.getElem_of_mem he
  rw [List.length_drop] at hj
  rw [List.getElem_drop]
  refine h (m + j, es[m + j]) ?_
  unfold backL
  simp only [List.mem_map, List.mem_reverse, List.mem_range'_1]
  exact ⟨m + j, by omega, by simp [List.getD, List.getElem?_eq_getElem (show m + j < es.length by omega)]⟩
set_option maxRecDepth 100000 in
set_option maxHeartbeats 8000000 in
theorem conf_in (F : Fence) (n : Nat) (h13 : F.fn 82) (h40 : F.fn 95) (h47 : F.fn 110) (hro : F.round = none) (hn : 3 ≤ n) (l : Lg) (p : Option Addr) (c : Nat) (w : World) (hl : l.es.length ≤ 1000000) (hE : EnSl w (.slice p l.es.length c) l.es) :
    CallsIn F n Try.prog 82 #[.agg #[.int .i64 l.b, .int .i64 l.bt, .int .u16 l.j.ov, .int .u16 l.j.ox, .int .u16 l.j.ol, .int .i64 l.j.oe, .int .i64 l.j.ok, .int .u16 l.j.nv, .int .u16 l.j.nx, .int .u16 l.j.nl, .int .i64 l.j.ne, .int .i64 l.j.nk, .bool l.j.two, .slice p l.es.length c]] w fun e W' => e = .returned (.agg #[.int .u16 (confL l).ov, .int .u16 (confL l).ox, .int .u16 (confL l).ol, .int .i64 (confL l).oe, .int .i64 (confL l).ok, .int .u16 (confL l).nv, .int .u16 (confL l).nx, .int .u16 (confL l).nl, .int .i64 (confL l).ne, .int .i64 (confL l).nk, .bool (confL l).two]) ∧ Below w.heap.size w W' := by
  have h1 : 1 ≤ n := by omega
  have HE := Lib.hid hE
  clear hE
  refine callsIn_of_wp_marks Try.func82 rfl h13 ?_ hro
  simp only [Try.ntmps82, List.size_toArray, List.length_cons, List.length_nil, Nat.reduceAdd, Nat.reduceSub, Array.replicate_succ, Array.replicate_zero, List.push_toArray, List.append_toArray, List.nil_append, List.cons_append]
  gi_wp2_with (gi_at_call 95; refine (back_in F (n - 1) h40 hro _ _ _ _).mono ?_; rintro e w' ⟨rfl, rfl⟩)
  obtain ⟨W0, hW0⟩ : ∃ W0, ((w.alloc (.cells #[.int .i64 l.b, .int .i64 l.bt, .int .u16 l.j.ov, .int .u16 l.j.ox, .int .u16 l.j.ol, .int .i64 l.j.oe, .int .i64 l.j.ok, .int .u16 l.j.nv, .int .u16 l.j.nx, .int .u16 l.j.nl, .int .i64 l.j.ne, .int .i64 l.j.nk, .bool l.j.two, .slice p l.es.length c] 45)).alloc (.cells #[.int .u16 0, .int .u16 0, .int .u16 0, .int .i64 0, .int .i64 0, .int .u16 0, .int .u16 0, .int .u16 0, .int .i64 0, .int .i64 0, .bool false] 42)).alloc (.cells #[.slice p l.es.length c] 43) = W0 := ⟨_, rfl⟩
  have hL0 : W0.heap[w.heap.size]? = some (.cells #[.int .i64 l.b, .int .i64 l.bt, .int .u16 l.j.ov, .int .u16 l.j.ox, .int .u16 l.j.ol, .int .i64 l.j.oe, .int .i64 l.j.ok, .int .u16 l.j.nv, .int .u16 l.j.nx, .int .u16 l.j.nl, .int .i64 l.j.ne, .int .i64 l.j.nk, .bool l.j.two, .slice p l.es.length c] 45 (0, 0)) := by rw [← hW0]; exact heap_prev _ (heap_prev _ (heap_last w _))
  have hR0 : W0.heap[w.heap.size + 1]? = some (.cells #[.int .u16 0, .int .u16 0, .int .u16 0, .int .i64 0, .int .i64 0, .int .u16 0, .int .u16 0, .int .u16 0, .int .i64 0, .int .i64 0, .bool false] 42 (0, 0)) := by rw [← hW0]; exact heap_prev _ (heap_atL (by simp))
  have hS0 : W0.heap[w.heap.size + 2]? = some (.cells #[.slice p l.es.length c] 43 (0, 0)) := by rw [← hW0]; exact heap_atL (by simp)
  have hB0 : Below w.heap.size w W0 := by rw [← hW0]; exact (((Below.refl _ w).alloc (Nat.le_refl _) _).alloc (by simp) _).alloc (by simp; omega) _
  have hsz : W0.heap.size = w.heap.size + 3 := by rw [← hW0]; simp
  rw [hW0]
  clear hW0
  have hcs : W0.cell? ⟨w.heap.size + 2, 0, none⟩ = some (.slice p l.es.length c) := block_cells hS0 0
  have hIs : Sl (w.heap.size + 3) W0 (.slice p l.es.length c) 14 l.es.length (entRow l.es) := (Sl.keep HE.out hB0).mono (by omega)
  refine wpIn_rangeFunc_ownH hro h1 (gf := 110) (lb := #[.pointer (some ⟨w.heap.size + 1 + 1, 0, none⟩)]) rfl h47 (enters_of Try.func110 (by kernel_rfl) rfl)
    (back_stops F (n - 1) h47 hro (by omega) (w.heap.size + 2) (w.heap.size + 3) p c l.es hl W0 (by omega) (by omega) hcs hIs) belowK_t (belowK_b (by omega)) (Below.refl _ _) (fun _ => rfl)
    (fun pre W => (∀ q ∈ pre, q.2.k ≠ 2) ∧ Below W0.heap.size W0 W)
    (fun cc pre W => (cc = .ret ∧ ∃ ini last, pre = ini ++ [last] ∧ (∀ q ∈ ini, q.2.k ≠ 2) ∧ last.2.k = 2 ∧ W.heap[w.heap.size + 1]? = some (.cells #[.int .u16 last.2.j.ov, .int .u16 last.2.j.ox, .int .u16 last.2.j.ol, .int .i64 last.2.j.oe, .int .i64 last.2.j.ok, .int .u16 last.2.j.nv, .int .u16 last.2.j.nx, .int .u16 last.2.j.nl, .int .i64 last.2.j.ne, .int .i64 last.2.j.nk, .bool last.2.j.two] 42 (0, 0))) ∧ Below w.heap.size w W)
    (OwnFrom.and (ownFrom_pure _ (fun pre : List (Nat × Ent) => ∀ q ∈ pre, q.2.k ≠ 2)) (ownFrom_below (Nat.le_refl _) (Nat.le_refl _)))
    (fun cc => OwnFrom.and (Own.from (fun s A B row hs hg hr => by
      obtain ⟨hc, ini, last, e1, e2, e3, e4⟩ := hs
      exact ⟨hc, ini, last, e1, e2, e3, block_own (w.heap.size + 1) (fun (_ : Unit) => Obj.cells #[.int .u16 last.2.j.ov, .int .u16 last.2.j.ox, .int .u16 last.2.j.ol, .int .i64 last.2.j.oe, .int .i64 last.2.j.ok, .int .u16 last.2.j.nv, .int .u16 last.2.j.nx, .int .u16 last.2.j.nl, .int .i64 last.2.j.ne, .int .i64 last.2.j.nk, .bool last.2.j.two] 42 (0, 0)) (fun _ => rfl) () A B row e4 hg hr⟩) _) (ownFrom_below (Nat.le_refl _) (by omega)))
    ⟨by simp, Below.refl _ _⟩
    (fun x a' W => ∃ Bx, w.heap.size + 2 < Bx ∧ W.heap[Bx]? = some (.cells #[.int .i64 x.2.t, .int .i64 x.2.k, .string x.2.d, .int .u16 x.2.j.ov, .int .u16 x.2.j.ox, .int .u16 x.2.j.ol, .int .i64 x.2.j.oe, .int .i64 x.2.j.ok, .int .u16 x.2.j.nv, .int .u16 x.2.j.nx, .int .u16 x.2.j.nl, .int .i64 x.2.j.ne, .int .i64 x.2.j.nk, .bool x.2.j.two] 85 (0, 0)) ∧ a' = { tmps := #[.agg #[.int .i64 l.b, .int .i64 l.bt, .int .u16 l.j.ov, .int .u16 l.j.ox, .int .u16 l.j.ol, .int .i64 l.j.oe, .int .i64 l.j.ok, .int .u16 l.j.nv, .int .u16 l.j.nx, .int .u16 l.j.nl, .int .i64 l.j.ne, .int .i64 l.j.nk, .bool l.j.two, .slice p l.es.length c], .pointer (some ⟨w.heap.size, 0, none⟩), .pointer (some ⟨w.heap.size + 1, 0, none⟩), undef, .pointer (some ⟨Bx, 0, none⟩), .pointer (some ⟨w.heap.size, 13, none⟩), .slice p l.es.length c, .func (.func 110) #[] #[.pointer (some ⟨w.heap.size + 1 + 1, 0, none⟩)], .int .i64 (x.1 : Int), .agg #[.int .i64 x.2.t, .int .i64 x.2.k, .string x.2.d, .int .u16 x.2.j.ov, .int .u16 x.2.j.ox, .int .u16 x.2.j.ol, .int .i64 x.2.j.oe, .int .i64 x.2.j.ok, .int .u16 x.2.j.nv, .int .u16 x.2.j.nx, .int .u16 x.2.j.nl, .int .i64 x.2.j.ne, .int .i64 x.2.j.nk, .bool x.2.j.two], undef, undef, undef, undef, undef, undef, undef], defers := [] })
    (fun x a' _ X Y row hs hg hr => by
      obtain ⟨Bx, h1, h2, h3⟩ := hs
      exact ⟨Bx, h1, block_own Bx (fun (_ : Unit) => Obj.cells #[.int .i64 x.2.t, .int .i64 x.2.k, .string x.2.d, .int .u16 x.2.j.ov, .int .u16 x.2.j.ox, .int .u16 x.2.j.ol, .int .i64 x.2.j.oe, .int .i64 x.2.j.ok, .int .u16 x.2.j.nv, .int .u16 x.2.j.nx, .int .u16 x.2.j.nl, .int .i64 x.2.j.ne, .int .i64 x.2.j.nk, .bool x.2.j.two] 85 (0, 0)) (fun _ => rfl) () X Y row h2 hg (fun r e => (hr r e).2), h3⟩)
    ?assign ?body ?done ?stop
  case assign =>
    rintro l2 pre x W K ⟨hp, hB⟩ hK
    have hs := hB.size
    simp only [encB, entC]
    gi_wp2
    exact hK _ _ ((KeepsOthers.alloc _ _).from _) ((Below.refl _ W).alloc (by omega) _) ⟨hp, hB.alloc hs _⟩ ⟨W.heap.size, by omega, heap_last W _, rfl⟩
  case body =>
    rintro l2 pre x a' W hl2 ⟨r, hr⟩ ⟨hp, hB⟩ ⟨Bx, hBx, bX, rfl⟩ hlt
    have hR := below_block hB (by omega) hR0
    have kX := block_cells bX
    have kR := block_cells hR
    have fR := block_free hR
    have hBw := hB0.trans (hB.mono (by omega))
    gi_wp2
    · have hk1 : (x.2.k == 2) = true := by assumption
      have hk2 : x.2.k = 2 := by simpa using hk1
      have F := putJ_ok hR (.int .u16 x.2.j.ov) (.int .u16 x.2.j.ox) (.int .u16 x.2.j.ol) (.int .i64 x.2.j.oe) (.int .i64 x.2.j.ok) (.int .u16 x.2.j.nv) (.int .u16 x.2.j.nx) (.int .u16 x.2.j.nl) (.int .i64 x.2.j.ne) (.int .i64 x.2.j.nk) (.bool x.2.j.two)
      unfold putJ at F
      exact ⟨(grown_others F.2 hR).from _, ⟨rfl, pre, x, rfl, hp, hk2, F.1⟩, below_grown hBw F.2 hBw.size (by omega)⟩
    · have hk1 : (x.2.k == 2) = false := by assumption
      have hk2 : x.2.k ≠ 2 := by simpa using hk1
      exact ⟨KeepsFrom.refl _ _, Below.refl _ _, fun q hq => (List.mem_append.1 hq).elim (hp q) (fun e => by simp at e; subst e; exact hk2), hB⟩
  case done =>
    rintro D ys W hD rfl ⟨hp, hB⟩ hK
    have hL := below_block hB (by omega) hL0
    have hR := below_block hB (by omega) hR0
    have kL := block_cells hL
    have kR := block_cells hR
    have fR := block_free hR
    have hBw := hB0.trans (hB.mono (by omega))
    have HCF : Hid (confL l = l.j) := confF_none (back_all hp)
    gi_wp2
    have F := putJ_ok hR (.int .u16 l.j.ov) (.int .u16 l.j.ox) (.int .u16 l.j.ol) (.int .i64 l.j.oe) (.int .i64 l.j.ok) (.int .u16 l.j.nv) (.int .u16 l.j.nx) (.int .u16 l.j.nl) (.int .i64 l.j.ne) (.int .i64 l.j.nk) (.bool l.j.two)
    unfold putJ at F
    have hK' := (grown_others F.2 hR).same D _ hK rfl
    have hR5 := (World.putObj_heap_other (o := .deferred none) (show w.heap.size + 1 ≠ D by omega)).trans F.1
    have k5 := block_cells hR5
    refine ⟨by simp, .inl ⟨_, _, rfl, run_takeDeferred hK', ?_⟩⟩
    refine ⟨.agg #[.int .u16 l.j.ov, .int .u16 l.j.ox, .int .u16 l.j.ol, .int .i64 l.j.oe, .int .i64 l.j.ok, .int .u16 l.j.nv, .int .u16 l.j.nx, .int .u16 l.j.nl, .int .i64 l.j.ne, .int .i64 l.j.nk, .bool l.j.two], ?_, by rw [HCF.out], (below_grown hBw F.2 hBw.size (by omega)).trans (belowK_b (w := w) (Nat.le_refl _) _ D _ _ (by omega) hK' rfl rfl)⟩
    simp [results, Try.results82, go_sem, k5]
  case stop =>
    rintro D cc pre W hD ⟨m, hm, rfl⟩ ⟨⟨rfl, ini, last, e1, e2, e3, hR⟩, hB⟩ hK
    have hml : m < l.es.length := by
      rcases Nat.lt_or_ge m l.es.length with h | h
      · exact h
      · obtain rfl : m = l.es.length := by omega
        rw [backL_all] at e1; simp at e1
    rw [backL_step l.es hml] at e1
    obtain ⟨rfl, e5⟩ := List.append_inj' e1 rfl
    obtain rfl : (m, l.es.getD m ent0) = last := by simpa using e5
    have hge : l.es.getD m ent0 = l.es[m] := by simp [List.getD, List.getElem?_eq_getElem hml]
    rw [hge] at e3
    have HCF : Hid (confL l = l.es[m].j) := confF_at hml e3 (back_from e2)
    rw [hge] at hR
    obtain ⟨j, hj⟩ : ∃ j, l.es[m].j = j := ⟨_, rfl⟩
    rw [hj] at hR HCF
    clear hj hge e3 e2
    gi_wp2
    have hR5 := (World.putObj_heap_other (o := .deferred none) (show w.heap.size + 1 ≠ D by omega)).trans hR
    have k5 := block_cells hR5
    refine ⟨by simp, .inl ⟨_, _, rfl, run_takeDeferred hK, ?_⟩⟩
    refine ⟨.agg #[.int .u16 j.ov, .int .u16 j.ox, .int .u16 j.ol, .int .i64 j.oe, .int .i64 j.ok, .int .u16 j.nv, .int .u16 j.nx, .int .u16 j.nl, .int .i64 j.ne, .int .i64 j.nk, .bool j.two], ?_, by rw [HCF.out], hB.trans (belowK_b (w := w) (Nat.le_refl _) _ D _ _ (by omega) hK rfl rfl)⟩
    simp [results, Try.results82, go_sem, k5]
set_option maxHeartbeats 1000000 in
theorem conf_any (l : Lg) (p : Option Addr) (c : Nat) (w : World) (hl : l.es.length ≤ 1000000) (hE : EnSl w (.slice p l.es.length c) l.es) :
    Calls Try.prog 82 #[.agg #[.int .i64 l.b, .int .i64 l.bt, .int .u16 l.j.ov, .int .u16 l.j.ox, .int .u16 l.j.ol, .int .i64 l.j.oe, .int .i64 l.j.ok, .int .u16 l.j.nv, .int .u16 l.j.nx, .int .u16 l.j.nl, .int .i64 l.j.ne, .int .i64 l.j.nk, .bool l.j.two, .slice p l.es.length c]] w fun r w' => r = .returned (.agg #[.int .u16 (confL l).ov, .int .u16 (confL l).ox, .int .u16 (confL l).ol, .int .i64 (confL l).oe, .int .i64 (confL l).ok, .int .u16 (confL l).nv, .int .u16 (confL l).nx, .int .u16 (confL l).nl, .int .i64 (confL l).ne, .int .i64 (confL l).nk, .bool (confL l).two]) ∧ Below w.heap.size w w' :=
  callsIn_wide.1 (conf_in Fence.wide 3 trivial trivial trivial rfl (Nat.le_refl _) l p c w hl hE)
end Go.Proofs.Ytjaabakobpabjaa
