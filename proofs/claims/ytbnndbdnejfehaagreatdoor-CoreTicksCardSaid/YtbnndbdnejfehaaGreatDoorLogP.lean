import Derived.RangeFuncNested
import Derived.RangeFuncBound
import Derived.RangeFuncCalls
import Derived.RangeFuncLeaves
import Derived.RangeFuncBox
import Derived.Shelf.Abstract
import Derived.Shelf.RegionOpen
import Derived.WalkKit
import Derived.OwnWalkIn
import Derived.TacticsInMore
import Derived.LoopNIn
import Derived.LoopIn
import Derived.Test.YtbnndbdnejfehaaGreatDoorLogJ
import Derived.Test.YtbnndbdnejfehaaGreatDoorPlainMayL
/- slices.Backward over entries. -/
namespace Go.Proofs.YtbnndbdnejfehaaGreatDoor
open Go.ChangeShapes Go.WideShapes Go.ChangeAt Go.RowKit Go.Shelf
attribute [local go_sem] Oper.semAt_some

/-- What has come when m are left. -/
def backL (L : List Ent) (m : Nat) : List (Nat × Ent) := (List.range' m (L.length - m)).reverse.map (fun j => (j, L.getD j ent0))
theorem backL_all (L : List Ent) : backL L L.length = [] := by simp [backL]
theorem backL_step (L : List Ent) {m : Nat} (hm : m < L.length) : backL L m = backL L (m + 1) ++ [(m, L.getD m ent0)] := by
  unfold backL
  rw [show L.length - m = (L.length - (m + 1)) + 1 by omega, List.range'_succ, List.reverse_cons, List.map_append]
  rfl
theorem backL_len (L : List Ent) {m : Nat} : (backL L m).length = L.length - m := by simp [backL]
theorem sl_atL {B : Nat} {w : World} {v : Value} {L : List Ent} (h : Sl B w v 14 L.length (entRow L)) (k : Nat) (hk : k < L.length) : ∃ g o cap, v = .slice (some ⟨g, o, none⟩) L.length cap ∧ g < B ∧ ∀ j, j < 14 → w.cell? ⟨g, o + k * 14 + j, none⟩ = (entC L[k])[j]? := by
  rcases h.2 with ⟨h2, h3⟩ | ⟨ad, cap, h2, h3, h4, h5⟩
  · omega
  · obtain ⟨g, o, rfl, h6, h7⟩ := h5 (by omega)
    exact ⟨g, o, cap, h2, h6, fun j hj => by rw [Nat.add_assoc, h7 _ (by omega), entRow_get hk hj]⟩
def encB (x : Nat × Ent) : Array Value := #[.int .i64 (x.1 : Int), .agg (entC x.2).toArray]
set_option maxRecDepth 100000 in
set_option maxHeartbeats 4000000 in
theorem back_in (F : Fence) (n : Nat) (h40 : F.fn 144) (hro : F.round = none) (a : Option Addr) (len cap : Nat) (w : World) :
    CallsIn F n Tryz.prog 144 #[.slice a len cap] w fun e w' => e = .returned (.func (.func 154) #[] #[.pointer (some ⟨w.heap.size, 0, none⟩)]) ∧ w' = w.alloc (.cells #[.slice a len cap] 28) := by
  refine callsIn_of_wp Tryz.func144 rfl h40 ?_ hro
  simp only [Tryz.ntmps144, List.size_toArray, List.length_cons, List.length_nil, Nat.reduceAdd, Nat.reduceSub, Array.replicate_succ, Array.replicate_zero, List.push_toArray, List.append_toArray, List.nil_append, List.cons_append]
  gi_wp2
  go_ret
  exact ⟨rfl, rfl⟩
set_option maxRecDepth 100000 in
set_option maxHeartbeats 8000000 in
theorem back1_in (F : Fence) (n : Nat) (h47 : F.fn 154) (hro : F.round = none) (hn : 1 ≤ n) (l Bs n₀ : Nat) (p : Option Addr) (c : Nat) (L : List Ent) (hl : L.length ≤ 1000000) (J Jx : List (Nat × Ent) → World → Prop)
    (hY : ∀ pre x W, J pre W → pre.length < L.length → YieldAt F (n - 1) Tryz.prog l (encB x) W fun e W' =>
      (e = .returned (.bool true) ∧ J (pre ++ [x]) W' ∧ Below n₀ W W') ∨ (e = .returned (.bool false) ∧ Jx (pre ++ [x]) W'))
    (W : World) (hBn : Bs < n₀) (hBs : W.cell? ⟨Bs, 0, none⟩ = some (.slice p L.length c)) (hc : Sl n₀ W (.slice p L.length c) 14 L.length (entRow L)) (h0 : J [] W) :
    CallsIn F n Tryz.prog 154 #[.func (.yield l) #[] #[], .pointer (some ⟨Bs, 0, none⟩)] W fun e W' => (∃ v, e = .returned v) ∧
      ((∃ ys, ys = backL L 0 ∧ J ys W') ∨ (∃ pre, (∃ m, m ≤ L.length ∧ pre = backL L m) ∧ Jx pre W')) := by
  have HC := Lib.hid hc
  clear hc
  refine callsIn_of_wp Tryz.func154 rfl h47 ?_ hro
  simp only [Tryz.ntmps154, List.size_toArray, List.length_cons, List.length_nil, Nat.reduceAdd, Nat.reduceSub, Array.replicate_succ, Array.replicate_zero, List.push_toArray, List.append_toArray, List.nil_append, List.cons_append]
  gi_wp2
  gi_loopw [3] (fun i wr => ∃ m : Nat, m ≤ L.length ∧ i = .int .i64 ((m : Int) - 1) ∧ J (backL L m) wr ∧ Hid (Below n₀ W wr)) (fun i _ => (intOf i + 1).toNat)
  case atStart => exact ⟨L.length, Nat.le_refl _, by go_num, by rw [backL_all]; exact h0, Below.refl _ _⟩
  case round =>
    obtain ⟨m, hm, rfl, hJs, HB⟩ := hrel
    have hbs : wr.cell? ⟨Bs, 0, none⟩ = some (.slice p L.length c) := (HB.out.cell (p := ⟨Bs, 0, none⟩) hBn).trans hBs
    cases m with
    | zero =>
      rw [show ((0 : Nat) : Int) - 1 = -1 from rfl]
      gi_wp2
      go_end0
      exact ⟨⟨_, rfl⟩, .inl ⟨_, rfl, hJs⟩⟩
    | succ m =>
      rw [show ((m + 1 : Nat) : Int) - 1 = (m : Int) by omega]
      obtain ⟨g, o, cap, hv, hg, hcs⟩ := sl_atL (HC.out.keep HB.out) m (by omega)
      simp only [Value.slice.injEq, true_and] at hv
      obtain ⟨rfl, rfl⟩ := hv
      obtain ⟨fn, tmps, assign, body, hy, hR⟩ := hY _ (m, L.getD m ent0) wr hJs (by rw [backL_len L]; omega)
      have hge : L[m] = L.getD m ent0 := by simp [List.getD, List.getElem?_eq_getElem (show m < L.length by omega)]
      rw [hge] at hcs
      have HS := Lib.hid (backL_step L (show m < L.length by omega))
      obtain ⟨e, he⟩ : ∃ e, L.getD m ent0 = e := ⟨_, rfl⟩
      rw [he] at hy hR hcs HS
      dsimp only [encB, entC] at hy
      have hq0 : wr.cell? ⟨g, o + m * 14, none⟩ = some (.int .i64 e.t) := hcs 0 (by decide)
      have hq1 : wr.cell? ⟨g, o + m * 14 + 1, none⟩ = some (.int .i64 e.k) := hcs 1 (by decide)
      have hq2 : wr.cell? ⟨g, o + m * 14 + 2, none⟩ = some (.string e.d) := hcs 2 (by decide)
      have hq3 : wr.cell? ⟨g, o + m * 14 + 3, none⟩ = some (.int .u16 e.j.ov) := hcs 3 (by decide)
      have hq4 : wr.cell? ⟨g, o + m * 14 + 4, none⟩ = some (.int .u16 e.j.ox) := hcs 4 (by decide)
      have hq5 : wr.cell? ⟨g, o + m * 14 + 5, none⟩ = some (.int .u16 e.j.ol) := hcs 5 (by decide)
      have hq6 : wr.cell? ⟨g, o + m * 14 + 6, none⟩ = some (.int .i64 e.j.oe) := hcs 6 (by decide)
      have hq7 : wr.cell? ⟨g, o + m * 14 + 7, none⟩ = some (.int .i64 e.j.ok) := hcs 7 (by decide)
      have hq8 : wr.cell? ⟨g, o + m * 14 + 8, none⟩ = some (.int .u16 e.j.nv) := hcs 8 (by decide)
      have hq9 : wr.cell? ⟨g, o + m * 14 + 9, none⟩ = some (.int .u16 e.j.nx) := hcs 9 (by decide)
      have hq10 : wr.cell? ⟨g, o + m * 14 + 10, none⟩ = some (.int .u16 e.j.nl) := hcs 10 (by decide)
      have hq11 : wr.cell? ⟨g, o + m * 14 + 11, none⟩ = some (.int .i64 e.j.ne) := hcs 11 (by decide)
      have hq12 : wr.cell? ⟨g, o + m * 14 + 12, none⟩ = some (.int .i64 e.j.nk) := hcs 12 (by decide)
      have hq13 : wr.cell? ⟨g, o + m * 14 + 13, none⟩ = some (.bool e.j.two) := hcs 13 (by decide)
      clear hge he hcs
      gi_wp2
      refine hR.mono ?_
      rintro e3 W3 (⟨rfl, hJ3, hk3⟩ | ⟨rfl, hJx3⟩)
      · gi_wp2
        go_roundw
        case rel => exact ⟨m, by omega, by go_num, by rw [HS.out]; exact hJ3, HB.out.trans hk3⟩
        case measure => simp [intOf]
      · gi_wp2
        refine bodyPost_ret (results_none rfl _ _ _) rfl ?_
        exact ⟨⟨_, rfl⟩, .inr ⟨_, ⟨m, by omega, HS.out.symm⟩, hJx3⟩⟩
/-- slices.Backward's value, as a sequence: from the last entry to the first; or down to the m-th. -/
theorem back_stops (F : Fence) (n : Nat) (h47 : F.fn 154) (hro : F.round = none) (hn : 1 ≤ n) (Bs n₀ : Nat) (p : Option Addr) (c : Nat) (L : List Ent) (hl : L.length ≤ 1000000) (w : World) (hBs : Bs < n₀) (hn₀ : n₀ ≤ w.heap.size)
    (hc : w.cell? ⟨Bs, 0, none⟩ = some (.slice p L.length c)) (hI : Sl n₀ w (.slice p L.length c) 14 L.length (entRow L)) :
    SeqStopsK F n Tryz.prog 154 #[.pointer (some ⟨Bs, 0, none⟩)] encB (Below n₀) (fun ys => ys = backL L 0)
      (fun pre => ∃ m, m ≤ L.length ∧ pre = backL L m) L.length w := fun l J Jx W hW _ _ hY h0 => by
  have hc' := (hW.cell (p := ⟨Bs, 0, none⟩) (show Bs < w.heap.size by omega)).trans hc
  exact back1_in F n h47 hro hn l Bs n₀ p c L hl J Jx hY W hBs hc' (hI.keep (hW.mono hn₀)) h0
end Go.Proofs.YtbnndbdnejfehaaGreatDoor
/- entries: Conf: what is in force at the end. -/
namespace Go.Proofs.YtbnndbdnejfehaaGreatDoor
open Go.ChangeShapes Go.WideShapes Go.ChangeAt Go.RowKit Go.Shelf
attribute [local go_sem] Oper.semAt_some

structure KpG (w wk : World) (C : Nat) (t : TypeId) (cs : Array Value) : Prop where
  blk : wk.heap[C]? = some (.cells cs t (0, 0))
  gr : w.grownBy wk (some C)
theorem KpG.step {w wk : World} {C : Nat} {t : TypeId} {cs : Array Value} (h : KpG w wk C t cs) (j : Nat) (v : Value) : KpG w (wk.setCell ⟨C, j, none⟩ v) C t (cs.setIfInBounds j v) := ⟨cells_setL h.blk j v, grown_setL h.gr j v⟩
def putJ (w : World) (C : Nat) (x0 x1 x2 x3 x4 x5 x6 x7 x8 x9 x10 : Value) : World := (((((((((((w.setCell ⟨C, 0, none⟩ x0).setCell ⟨C, 1, none⟩ x1).setCell ⟨C, 2, none⟩ x2).setCell ⟨C, 3, none⟩ x3).setCell ⟨C, 4, none⟩ x4).setCell ⟨C, 5, none⟩ x5).setCell ⟨C, 6, none⟩ x6).setCell ⟨C, 7, none⟩ x7).setCell ⟨C, 8, none⟩ x8).setCell ⟨C, 9, none⟩ x9).setCell ⟨C, 10, none⟩ x10)
theorem putJ_ok {w : World} {C : Nat} {t : TypeId} {a0 a1 a2 a3 a4 a5 a6 a7 a8 a9 a10 : Value} (hA : w.heap[C]? = some (.cells #[a0, a1, a2, a3, a4, a5, a6, a7, a8, a9, a10] t (0, 0))) (x0 x1 x2 x3 x4 x5 x6 x7 x8 x9 x10 : Value) :
    (putJ w C x0 x1 x2 x3 x4 x5 x6 x7 x8 x9 x10).heap[C]? = some (.cells #[x0, x1, x2, x3, x4, x5, x6, x7, x8, x9, x10] t (0, 0)) ∧ w.grownBy (putJ w C x0 x1 x2 x3 x4 x5 x6 x7 x8 x9 x10) (some C) := by
  have k0 : KpG w w C t _ := ⟨hA, grown_reflL w _⟩
  have k := (((((((((((k0.step 0 x0).step 1 x1).step 2 x2).step 3 x3).step 4 x4).step 5 x5).step 6 x6).step 7 x7).step 8 x8).step 9 x9).step 10 x10)
  have h := k.blk
  simp only [zD, zE, zF] at h
  exact ⟨h, k.gr⟩
theorem block_own {β : Type} (B : Nat) (o : β → Obj) (hc : ∀ s, (o s).isCells = true) : Own (fun s W => W.heap[B]? = some (o s)) := fun s X Y row hs hg hrow =>
  (hg.block B (Array.getElem?_eq_some_iff.1 hs).1 (fun e' => by
    obtain ⟨o', ho, hc'⟩ := hrow B e'.symm
    have hs' : X.heap[B]? = some (o s) := hs
    rw [hs'] at ho; cases ho; rw [hc s] at hc'; cases hc')).trans hs
theorem grown_others {W W' : World} {C : Nat} {cs : Array Value} {t : TypeId} (hg : W.grownBy W' (some C)) (h : W.heap[C]? = some (.cells cs t (0, 0))) : KeepsOthers W W' :=
  KeepsOthers.of_grownBy hg (fun j o e ho => by cases e; rw [h] at ho; cases ho; rfl)
theorem below_grown {B : Nat} {w W W' : World} {C : Nat} (h : Below B w W) (hg : W.grownBy W' (some C)) (hB : B ≤ W.heap.size) (hC : B ≤ C) : Below B w W' := h.grown hg hB (fun k e => by cases e; exact hC)
theorem back_all {es : List Ent} (h : ∀ q ∈ backL es 0, q.2.k ≠ 2) : ∀ e ∈ es, e.k ≠ 2 := by
  intro e he
  obtain ⟨j, hj, rfl⟩ := List.getElem_of_mem he
  refine h (j, es[j]) ?_
  unfold backL
  simp only [List.mem_map, List.mem_reverse, List.mem_range'_1]
  exact ⟨j, by omega, by simp [List.getD, List.getElem?_eq_getElem hj]⟩
theorem back_from {es : List Ent} {m : Nat} (h : ∀ q ∈ backL es m, q.2.k ≠ 2) : ∀ e ∈ es.drop m, e.k ≠ 2 := by
  intro e he
  obtain ⟨j, hj, rfl⟩ := List.getElem_of_mem he
  rw [List.length_drop] at hj
  rw [List.getElem_drop]
  refine h (m + j, es[m + j]) ?_
  unfold backL
  simp only [List.mem_map, List.mem_reverse, List.mem_range'_1]
  exact ⟨m + j, by omega, by simp [List.getD, List.getElem?_eq_getElem (show m + j < es.length by omega)]⟩
set_option maxRecDepth 100000 in
set_option maxHeartbeats 8000000 in
theorem conf_in (F : Fence) (n : Nat) (h13 : F.fn 95) (h40 : F.fn 144) (h47 : F.fn 154) (hro : F.round = none) (hn : 3 ≤ n) (l : Lg) (p : Option Addr) (c : Nat) (w : World) (hl : l.es.length ≤ 1000000) (hE : EnSl w (.slice p l.es.length c) l.es) :
    CallsIn F n Tryz.prog 95 #[.agg #[.int .i64 l.b, .int .i64 l.bt, .int .u16 l.j.ov, .int .u16 l.j.ox, .int .u16 l.j.ol, .int .i64 l.j.oe, .int .i64 l.j.ok, .int .u16 l.j.nv, .int .u16 l.j.nx, .int .u16 l.j.nl, .int .i64 l.j.ne, .int .i64 l.j.nk, .bool l.j.two, .slice p l.es.length c]] w fun e W' => e = .returned (.agg #[.int .u16 (confL l).ov, .int .u16 (confL l).ox, .int .u16 (confL l).ol, .int .i64 (confL l).oe, .int .i64 (confL l).ok, .int .u16 (confL l).nv, .int .u16 (confL l).nx, .int .u16 (confL l).nl, .int .i64 (confL l).ne, .int .i64 (confL l).nk, .bool (confL l).two]) ∧ Below w.heap.size w W' := by
  have h1 : 1 ≤ n := by omega
  have HE := Lib.hid hE
  clear hE
  refine callsIn_of_wp_marks Tryz.func95 rfl h13 ?_ hro
  simp only [Tryz.ntmps95, List.size_toArray, List.length_cons, List.length_nil, Nat.reduceAdd, Nat.reduceSub, Array.replicate_succ, Array.replicate_zero, List.push_toArray, List.append_toArray, List.nil_append, List.cons_append]
  gi_wp2_with (gi_at_call 144; refine (back_in F (n - 1) h40 hro _ _ _ _).mono ?_; rintro e w' ⟨rfl, rfl⟩)
  obtain ⟨W0, hW0⟩ : ∃ W0, ((w.alloc (.cells #[.int .i64 l.b, .int .i64 l.bt, .int .u16 l.j.ov, .int .u16 l.j.ox, .int .u16 l.j.ol, .int .i64 l.j.oe, .int .i64 l.j.ok, .int .u16 l.j.nv, .int .u16 l.j.nx, .int .u16 l.j.nl, .int .i64 l.j.ne, .int .i64 l.j.nk, .bool l.j.two, .slice p l.es.length c] 30)).alloc (.cells #[.int .u16 0, .int .u16 0, .int .u16 0, .int .i64 0, .int .i64 0, .int .u16 0, .int .u16 0, .int .u16 0, .int .i64 0, .int .i64 0, .bool false] 27)).alloc (.cells #[.slice p l.es.length c] 28) = W0 := ⟨_, rfl⟩
  have hL0 : W0.heap[w.heap.size]? = some (.cells #[.int .i64 l.b, .int .i64 l.bt, .int .u16 l.j.ov, .int .u16 l.j.ox, .int .u16 l.j.ol, .int .i64 l.j.oe, .int .i64 l.j.ok, .int .u16 l.j.nv, .int .u16 l.j.nx, .int .u16 l.j.nl, .int .i64 l.j.ne, .int .i64 l.j.nk, .bool l.j.two, .slice p l.es.length c] 30 (0, 0)) := by rw [← hW0]; exact heap_prev _ (heap_prev _ (heap_last w _))
  have hR0 : W0.heap[w.heap.size + 1]? = some (.cells #[.int .u16 0, .int .u16 0, .int .u16 0, .int .i64 0, .int .i64 0, .int .u16 0, .int .u16 0, .int .u16 0, .int .i64 0, .int .i64 0, .bool false] 27 (0, 0)) := by rw [← hW0]; exact heap_prev _ (heap_atL (by simp))
  have hS0 : W0.heap[w.heap.size + 2]? = some (.cells #[.slice p l.es.length c] 28 (0, 0)) := by rw [← hW0]; exact heap_atL (by simp)
  have hB0 : Below w.heap.size w W0 := by rw [← hW0]; exact (((Below.refl _ w).alloc (Nat.le_refl _) _).alloc (by simp) _).alloc (by simp; omega) _
  have hsz : W0.heap.size = w.heap.size + 3 := by rw [← hW0]; simp
  rw [hW0]
  clear hW0
  have hcs : W0.cell? ⟨w.heap.size + 2, 0, none⟩ = some (.slice p l.es.length c) := block_cells hS0 0
  have hIs : Sl (w.heap.size + 3) W0 (.slice p l.es.length c) 14 l.es.length (entRow l.es) := (Sl.keep HE.out hB0).mono (by omega)
  refine wpIn_rangeFunc_ownH hro h1 (gf := 154) (lb := #[.pointer (some ⟨w.heap.size + 1 + 1, 0, none⟩)]) rfl h47 (enters_of Tryz.func154 (by kernel_rfl) rfl)
    (back_stops F (n - 1) h47 hro (by omega) (w.heap.size + 2) (w.heap.size + 3) p c l.es hl W0 (by omega) (by omega) hcs hIs) belowK_t (belowK_b (by omega)) (Below.refl _ _) (fun _ => rfl)
    (fun pre W => (∀ q ∈ pre, q.2.k ≠ 2) ∧ Below W0.heap.size W0 W)
    (fun cc pre W => (cc = .ret ∧ ∃ ini last, pre = ini ++ [last] ∧ (∀ q ∈ ini, q.2.k ≠ 2) ∧ last.2.k = 2 ∧ W.heap[w.heap.size + 1]? = some (.cells #[.int .u16 last.2.j.ov, .int .u16 last.2.j.ox, .int .u16 last.2.j.ol, .int .i64 last.2.j.oe, .int .i64 last.2.j.ok, .int .u16 last.2.j.nv, .int .u16 last.2.j.nx, .int .u16 last.2.j.nl, .int .i64 last.2.j.ne, .int .i64 last.2.j.nk, .bool last.2.j.two] 27 (0, 0))) ∧ Below w.heap.size w W)
    (OwnFrom.and (ownFrom_pure _ (fun pre : List (Nat × Ent) => ∀ q ∈ pre, q.2.k ≠ 2)) (ownFrom_below (Nat.le_refl _) (Nat.le_refl _)))
    (fun cc => OwnFrom.and (Own.from (fun s A B row hs hg hr => by
      obtain ⟨hc, ini, last, e1, e2, e3, e4⟩ := hs
      exact ⟨hc, ini, last, e1, e2, e3, block_own (w.heap.size + 1) (fun (_ : Unit) => Obj.cells #[.int .u16 last.2.j.ov, .int .u16 last.2.j.ox, .int .u16 last.2.j.ol, .int .i64 last.2.j.oe, .int .i64 last.2.j.ok, .int .u16 last.2.j.nv, .int .u16 last.2.j.nx, .int .u16 last.2.j.nl, .int .i64 last.2.j.ne, .int .i64 last.2.j.nk, .bool last.2.j.two] 27 (0, 0)) (fun _ => rfl) () A B row e4 hg hr⟩) _) (ownFrom_below (Nat.le_refl _) (by omega)))
    ⟨by simp, Below.refl _ _⟩
    (fun x a' W => ∃ Bx, w.heap.size + 2 < Bx ∧ W.heap[Bx]? = some (.cells #[.int .i64 x.2.t, .int .i64 x.2.k, .string x.2.d, .int .u16 x.2.j.ov, .int .u16 x.2.j.ox, .int .u16 x.2.j.ol, .int .i64 x.2.j.oe, .int .i64 x.2.j.ok, .int .u16 x.2.j.nv, .int .u16 x.2.j.nx, .int .u16 x.2.j.nl, .int .i64 x.2.j.ne, .int .i64 x.2.j.nk, .bool x.2.j.two] 47 (0, 0)) ∧ a' = { tmps := #[.agg #[.int .i64 l.b, .int .i64 l.bt, .int .u16 l.j.ov, .int .u16 l.j.ox, .int .u16 l.j.ol, .int .i64 l.j.oe, .int .i64 l.j.ok, .int .u16 l.j.nv, .int .u16 l.j.nx, .int .u16 l.j.nl, .int .i64 l.j.ne, .int .i64 l.j.nk, .bool l.j.two, .slice p l.es.length c], .pointer (some ⟨w.heap.size, 0, none⟩), .pointer (some ⟨w.heap.size + 1, 0, none⟩), undef, .pointer (some ⟨Bx, 0, none⟩), .pointer (some ⟨w.heap.size, 13, none⟩), .slice p l.es.length c, .func (.func 154) #[] #[.pointer (some ⟨w.heap.size + 1 + 1, 0, none⟩)], .int .i64 (x.1 : Int), .agg #[.int .i64 x.2.t, .int .i64 x.2.k, .string x.2.d, .int .u16 x.2.j.ov, .int .u16 x.2.j.ox, .int .u16 x.2.j.ol, .int .i64 x.2.j.oe, .int .i64 x.2.j.ok, .int .u16 x.2.j.nv, .int .u16 x.2.j.nx, .int .u16 x.2.j.nl, .int .i64 x.2.j.ne, .int .i64 x.2.j.nk, .bool x.2.j.two], undef, undef, undef, undef, undef, undef, undef], defers := [] })
    (fun x a' _ X Y row hs hg hr => by
      obtain ⟨Bx, h1, h2, h3⟩ := hs
      exact ⟨Bx, h1, block_own Bx (fun (_ : Unit) => Obj.cells #[.int .i64 x.2.t, .int .i64 x.2.k, .string x.2.d, .int .u16 x.2.j.ov, .int .u16 x.2.j.ox, .int .u16 x.2.j.ol, .int .i64 x.2.j.oe, .int .i64 x.2.j.ok, .int .u16 x.2.j.nv, .int .u16 x.2.j.nx, .int .u16 x.2.j.nl, .int .i64 x.2.j.ne, .int .i64 x.2.j.nk, .bool x.2.j.two] 47 (0, 0)) (fun _ => rfl) () X Y row h2 hg (fun r e => (hr r e).2), h3⟩)
    ?assign ?body ?done ?stop
  case assign =>
    rintro l2 pre x W K ⟨hp, hB⟩ hK
    have hs := hB.size
    simp only [encB, entC]
    gi_wp2
    exact hK _ _ ((KeepsOthers.alloc _ _).from _) ((Below.refl _ W).alloc (by omega) _) ⟨hp, hB.alloc hs _⟩ ⟨W.heap.size, by omega, heap_last W _, rfl⟩
  case body =>
    rintro l2 pre x a' W hl2 ⟨r, hr⟩ ⟨hp, hB⟩ ⟨Bx, hBx, bX, rfl⟩ hlt
    have hR := below_block hB (by omega) hR0
    have kX := block_cells bX
    have kR := block_cells hR
    have fR := block_free hR
    have hBw := hB0.trans (hB.mono (by omega))
    gi_wp2
    · have hk1 : (x.2.k == 2) = true := by assumption
      have hk2 : x.2.k = 2 := by simpa using hk1
      have F := putJ_ok hR (.int .u16 x.2.j.ov) (.int .u16 x.2.j.ox) (.int .u16 x.2.j.ol) (.int .i64 x.2.j.oe) (.int .i64 x.2.j.ok) (.int .u16 x.2.j.nv) (.int .u16 x.2.j.nx) (.int .u16 x.2.j.nl) (.int .i64 x.2.j.ne) (.int .i64 x.2.j.nk) (.bool x.2.j.two)
      unfold putJ at F
      exact ⟨(grown_others F.2 hR).from _, ⟨rfl, pre, x, rfl, hp, hk2, F.1⟩, below_grown hBw F.2 hBw.size (by omega)⟩
    · have hk1 : (x.2.k == 2) = false := by assumption
      have hk2 : x.2.k ≠ 2 := by simpa using hk1
      exact ⟨KeepsFrom.refl _ _, Below.refl _ _, fun q hq => (List.mem_append.1 hq).elim (hp q) (fun e => by simp at e; subst e; exact hk2), hB⟩
  case done =>
    rintro D ys W hD rfl ⟨hp, hB⟩ hK
    have hL := below_block hB (by omega) hL0
    have hR := below_block hB (by omega) hR0
    have kL := block_cells hL
    have kR := block_cells hR
    have fR := block_free hR
    have hBw := hB0.trans (hB.mono (by omega))
    have HCF : Hid (confL l = l.j) := confF_none (back_all hp)
    gi_wp2
    have F := putJ_ok hR (.int .u16 l.j.ov) (.int .u16 l.j.ox) (.int .u16 l.j.ol) (.int .i64 l.j.oe) (.int .i64 l.j.ok) (.int .u16 l.j.nv) (.int .u16 l.j.nx) (.int .u16 l.j.nl) (.int .i64 l.j.ne) (.int .i64 l.j.nk) (.bool l.j.two)
    unfold putJ at F
    have hK' := (grown_others F.2 hR).same D _ hK rfl
    have hR5 := (World.putObj_heap_other (o := .deferred none) (show w.heap.size + 1 ≠ D by omega)).trans F.1
    have k5 := block_cells hR5
    refine ⟨by simp, .inl ⟨_, _, rfl, run_takeDeferred hK', ?_⟩⟩
    refine ⟨.agg #[.int .u16 l.j.ov, .int .u16 l.j.ox, .int .u16 l.j.ol, .int .i64 l.j.oe, .int .i64 l.j.ok, .int .u16 l.j.nv, .int .u16 l.j.nx, .int .u16 l.j.nl, .int .i64 l.j.ne, .int .i64 l.j.nk, .bool l.j.two], ?_, by rw [HCF.out], (below_grown hBw F.2 hBw.size (by omega)).trans (belowK_b (w := w) (Nat.le_refl _) _ D _ _ (by omega) hK' rfl rfl)⟩
    simp [results, Tryz.results95, go_sem, k5]
  case stop =>
    rintro D cc pre W hD ⟨m, hm, rfl⟩ ⟨⟨rfl, ini, last, e1, e2, e3, hR⟩, hB⟩ hK
    have hml : m < l.es.length := by
      rcases Nat.lt_or_ge m l.es.length with h | h
      · exact h
      · obtain rfl : m = l.es.length := by omega
        rw [backL_all] at e1; simp at e1
    rw [backL_step l.es hml] at e1
    obtain ⟨rfl, e5⟩ := List.append_inj' e1 rfl
    obtain rfl : (m, l.es.getD m ent0) = last := by simpa using e5
    have hge : l.es.getD m ent0 = l.es[m] := by simp [List.getD, List.getElem?_eq_getElem hml]
    rw [hge] at e3
    have HCF : Hid (confL l = l.es[m].j) := confF_at hml e3 (back_from e2)
    rw [hge] at hR
    obtain ⟨j, hj⟩ : ∃ j, l.es[m].j = j := ⟨_, rfl⟩
    rw [hj] at hR HCF
    clear hj hge e3 e2
    gi_wp2
    have hR5 := (World.putObj_heap_other (o := .deferred none) (show w.heap.size + 1 ≠ D by omega)).trans hR
    have k5 := block_cells hR5
    refine ⟨by simp, .inl ⟨_, _, rfl, run_takeDeferred hK, ?_⟩⟩
    refine ⟨.agg #[.int .u16 j.ov, .int .u16 j.ox, .int .u16 j.ol, .int .i64 j.oe, .int .i64 j.ok, .int .u16 j.nv, .int .u16 j.nx, .int .u16 j.nl, .int .i64 j.ne, .int .i64 j.nk, .bool j.two], ?_, by rw [HCF.out], hB.trans (belowK_b (w := w) (Nat.le_refl _) _ D _ _ (by omega) hK rfl rfl)⟩
    simp [results, Tryz.results95, go_sem, k5]
set_option maxHeartbeats 1000000 in
theorem conf_any (l : Lg) (p : Option Addr) (c : Nat) (w : World) (hl : l.es.length ≤ 1000000) (hE : EnSl w (.slice p l.es.length c) l.es) :
    Calls Tryz.prog 95 #[.agg #[.int .i64 l.b, .int .i64 l.bt, .int .u16 l.j.ov, .int .u16 l.j.ox, .int .u16 l.j.ol, .int .i64 l.j.oe, .int .i64 l.j.ok, .int .u16 l.j.nv, .int .u16 l.j.nx, .int .u16 l.j.nl, .int .i64 l.j.ne, .int .i64 l.j.nk, .bool l.j.two, .slice p l.es.length c]] w fun r w' => r = .returned (.agg #[.int .u16 (confL l).ov, .int .u16 (confL l).ox, .int .u16 (confL l).ol, .int .i64 (confL l).oe, .int .i64 (confL l).ok, .int .u16 (confL l).nv, .int .u16 (confL l).nx, .int .u16 (confL l).nl, .int .i64 (confL l).ne, .int .i64 (confL l).nk, .bool (confL l).two]) ∧ Below w.heap.size w w' :=
  callsIn_wide.1 (conf_in Fence.wide 3 trivial trivial trivial rfl (Nat.le_refl _) l p c w hl hE)
end Go.Proofs.YtbnndbdnejfehaaGreatDoor
/- slices.Clone of entries. -/
namespace Go.Proofs.YtbnndbdnejfehaaGreatDoor
open Go.ChangeShapes Go.WideShapes Go.ChangeAt Go.RowKit

set_option maxRecDepth 100000 in
set_option maxHeartbeats 4000000 in
theorem clone_any (v : Value) (L : List Ent) (w : World) (hE : EnSl w v L) (hl : L.length ≤ 1000000) :
    Calls Tryz.prog 138 #[v] w fun r w' => ∃ v', r = .returned v' ∧ w'.ownsRow w.heap.size 47 14 v' L.length (entRow L) ∧ Below w.heap.size w w' := by
  obtain ⟨i0, hi, hz0, hz1, hz2⟩ := info_parts Tryz.infoEn
  have HE : Hid (Sl w.heap.size w v 14 L.length (entRow L)) := hE
  have HL := Lib.hid (entC_one L)
  have hq : ∀ (w : World) (a : Option Addr) (n c n' c' : Nat), (binOp .eql 28 (.slice a n c) (.slice none n' c')).run Tryz.prog w = .ok (.bool a.isNone) w := fun w a n c n' c' => Lib.run_eql_slice_nil w _ _ a n c n' c' Tryz.underlying28
  rcases hE.2 with ⟨rfl, h0⟩ | ⟨ad, cap, rfl, h1, h2, -⟩
  · have hL : L = [] := List.length_eq_zero_iff.1 h0
    subst hL
    clear hE
    go_enter Tryz.func138, Tryz.ntmps138
    go_wp2_with fail
    go_ret
    exact ⟨_, rfl, World.ownsRow_nil _ _ _ _, Below.refl _ _⟩
  · clear hE
    go_enter Tryz.func138, Tryz.ntmps138
    go_wp2_with (at_builtin; refine wpList_append_sl rfl _ _ 28 rfl w.heap.size 47 i0 (.agg #[.int .i64 0, .int .i64 0, .string ⟨#[]⟩, .int .u16 0, .int .u16 0, .int .u16 0, .int .i64 0, .int .i64 0, .int .u16 0, .int .u16 0, .int .u16 0, .int .i64 0, .int .i64 0, .bool false]) 14 88 Tryz.underlying28 hi hz0 hz1 hz2 rfl (by decide) _ 0 [] rfl (World.ownsRow_made w #[] 0 (Nat.le_refl _) (Nat.zero_le _) (by simp)) w.heap.size _ L.length (entRow L) rfl (HE.out.keep (((Below.refl _ _).alloc (Nat.le_refl _) _))) HL.out ?_ ?_ (by simp) ?_)
    · unfold maxLen; omega
    · omega
    intro v3 w3 hown3 hgrow3
    have HO3 : Hid (w3.ownsRow w.heap.size 47 14 v3 L.length (entRow L)) := hown3
    have HB3 : Hid (Below w.heap.size w w3) := ((Below.refl _ _).alloc (Nat.le_refl _) _).grown hgrow3 (by simp) (fun j hj => by simp [Value.ownBlock] at hj; omega)
    clear hown3 hgrow3
    go_wp2_with fail
    go_ret
    exact ⟨_, rfl, HO3.out, HB3.out⟩
end Go.Proofs.YtbnndbdnejfehaaGreatDoor
/- entries: Compact. -/
namespace Go.Proofs.YtbnndbdnejfehaaGreatDoor
open Go.ChangeShapes Go.WideShapes Go.ChangeAt Go.RowKit

theorem EnSl.nil (w : World) : EnSl w (.slice none ([] : List Ent).length 0) [] := ⟨rfl, .inl ⟨rfl, rfl⟩⟩
theorem EnSl.of_own {w : World} {B : Nat} {e : TypeId} {v : Value} {L : List Ent} (h : w.ownsRow B e 14 v L.length (entRow L)) : EnSl w v L := Sl.of_own h
end Go.Proofs.YtbnndbdnejfehaaGreatDoor
/- entries: Merge: what its memory keeps. -/
namespace Go.Proofs.YtbnndbdnejfehaaGreatDoor
open Go.ChangeShapes Go.WideShapes Go.ChangeAt Go.RowKit

/-- A log in a memory of its own, a number, and whether it is well. -/
def LgEnd3 (B : Nat) (w : World) (x : Lg × Int × Bool) (r : Ending) (w' : World) : Prop :=
  ∃ p c, r = .returned (.tuple #[.agg #[.int .i64 x.1.b, .int .i64 x.1.bt, .int .u16 x.1.j.ov, .int .u16 x.1.j.ox, .int .u16 x.1.j.ol, .int .i64 x.1.j.oe, .int .i64 x.1.j.ok, .int .u16 x.1.j.nv, .int .u16 x.1.j.nx, .int .u16 x.1.j.nl, .int .i64 x.1.j.ne, .int .i64 x.1.j.nk, .bool x.1.j.two, .slice p x.1.es.length c], .int .i64 x.2.1, .bool x.2.2]) ∧ w'.ownsRow B 47 14 (.slice p x.1.es.length c) x.1.es.length (entRow x.1.es) ∧ Below w.heap.size w w'
structure MgW (w : World) (l : Lg) (p : Option Addr) (c : Nat) (p3 : Option Addr) (c3 A : Nat) (W : World) : Prop where
  a : W.heap[w.heap.size]? = some (.cells #[.int .i64 l.b, .int .i64 l.bt, .int .u16 l.j.ov, .int .u16 l.j.ox, .int .u16 l.j.ol, .int .i64 l.j.oe, .int .i64 l.j.ok, .int .u16 l.j.nv, .int .u16 l.j.nx, .int .u16 l.j.nl, .int .i64 l.j.ne, .int .i64 l.j.nk, .bool l.j.two, .slice p l.es.length c] 30 (0, 0))
  z : W.heap[w.heap.size + 1]? = some (.cells #[.int .i64 0, .int .i64 0, .int .u16 0, .int .u16 0, .int .u16 0, .int .i64 0, .int .i64 0, .int .u16 0, .int .u16 0, .int .u16 0, .int .i64 0, .int .i64 0, .bool false, .slice none 0 0] 30 (0, 0))
  t : W.heap[A]? = some (.cells #[.int .i64 l.b, .int .i64 l.bt, .int .u16 l.j.ov, .int .u16 l.j.ox, .int .u16 l.j.ol, .int .i64 l.j.oe, .int .i64 l.j.ok, .int .u16 l.j.nv, .int .u16 l.j.nx, .int .u16 l.j.nl, .int .i64 l.j.ne, .int .i64 l.j.nk, .bool l.j.two, .slice p3 l.es.length c3] 30 (0, 0))
  o : W.ownsRow (w.heap.size + 2) 47 14 (.slice p3 l.es.length c3) l.es.length (entRow l.es)
  b : Below w.heap.size w W
  s : w.heap.size + 2 ≤ W.heap.size
theorem MgW.keep {w : World} {l : Lg} {p : Option Addr} {c : Nat} {p3 : Option Addr} {c3 A : Nat} {W W' : World} (h : MgW w l p c p3 c3 A W) (hb : Below W.heap.size W W') : MgW w l p c p3 c3 A W' :=
  ⟨below_block hb (block_lt h.a) h.a, below_block hb (block_lt h.z) h.z, below_block hb (block_lt h.t) h.t, own_belowL h.o hb (Nat.le_refl _), h.b.trans (hb.mono h.b.size), Nat.le_trans h.s hb.size⟩
theorem MgW.alloc {w : World} {l : Lg} {p : Option Addr} {c : Nat} {p3 : Option Addr} {c3 A : Nat} {W : World} (h : MgW w l p c p3 c3 A W) (o : Obj) : MgW w l p c p3 c3 A (W.alloc o) := h.keep ((Below.refl _ _).alloc (Nat.le_refl _) _)
theorem MgW.same {w : World} {l : Lg} {p : Option Addr} {c : Nat} {p3 : Option Addr} {c3 A : Nat} {W : World} (h : MgW w l p c p3 c3 A W) {n : Int} {b : Bool} {x : Lg × Int × Bool} (hx : Hid (x = (l, n, b))) :
    (∀ j, (put14 W (w.heap.size + 1) (.int .i64 l.b) (.int .i64 l.bt) (.int .u16 l.j.ov) (.int .u16 l.j.ox) (.int .u16 l.j.ol) (.int .i64 l.j.oe) (.int .i64 l.j.ok) (.int .u16 l.j.nv) (.int .u16 l.j.nx) (.int .u16 l.j.nl) (.int .i64 l.j.ne) (.int .i64 l.j.nk) (.bool l.j.two) (.slice p3 l.es.length c3)).cell? ⟨w.heap.size + 1, j, none⟩ = #[.int .i64 l.b, .int .i64 l.bt, .int .u16 l.j.ov, .int .u16 l.j.ox, .int .u16 l.j.ol, .int .i64 l.j.oe, .int .i64 l.j.ok, .int .u16 l.j.nv, .int .u16 l.j.nx, .int .u16 l.j.nl, .int .i64 l.j.ne, .int .i64 l.j.nk, .bool l.j.two, .slice p3 l.es.length c3][j]?) ∧ LgEnd3 w.heap.size w x (.returned (.tuple #[.agg #[.int .i64 l.b, .int .i64 l.bt, .int .u16 l.j.ov, .int .u16 l.j.ox, .int .u16 l.j.ol, .int .i64 l.j.oe, .int .i64 l.j.ok, .int .u16 l.j.nv, .int .u16 l.j.nx, .int .u16 l.j.nl, .int .i64 l.j.ne, .int .i64 l.j.nk, .bool l.j.two, .slice p3 l.es.length c3], .int .i64 n, .bool b])) (put14 W (w.heap.size + 1) (.int .i64 l.b) (.int .i64 l.bt) (.int .u16 l.j.ov) (.int .u16 l.j.ox) (.int .u16 l.j.ol) (.int .i64 l.j.oe) (.int .i64 l.j.ok) (.int .u16 l.j.nv) (.int .u16 l.j.nx) (.int .u16 l.j.nl) (.int .i64 l.j.ne) (.int .i64 l.j.nk) (.bool l.j.two) (.slice p3 l.es.length c3)) := by
  have F := put14_ok h.z h.b (Nat.le_succ _) (.int .i64 l.b) (.int .i64 l.bt) (.int .u16 l.j.ov) (.int .u16 l.j.ox) (.int .u16 l.j.ol) (.int .i64 l.j.oe) (.int .i64 l.j.ok) (.int .u16 l.j.nv) (.int .u16 l.j.nx) (.int .u16 l.j.nl) (.int .i64 l.j.ne) (.int .i64 l.j.nk) (.bool l.j.two) (.slice p3 l.es.length c3)
  have G := own_farL h.o (put14_grown W (w.heap.size + 1) (.int .i64 l.b) (.int .i64 l.bt) (.int .u16 l.j.ov) (.int .u16 l.j.ox) (.int .u16 l.j.ol) (.int .i64 l.j.oe) (.int .i64 l.j.ok) (.int .u16 l.j.nv) (.int .u16 l.j.nx) (.int .u16 l.j.nl) (.int .i64 l.j.ne) (.int .i64 l.j.nk) (.bool l.j.two) (.slice p3 l.es.length c3)) (Nat.lt_succ_self _)
  refine ⟨block_cells F.1, ?_⟩
  have hx' := hx.out
  subst hx'
  exact ⟨p3, c3, rfl, G.mono (Nat.le_add_right _ _), F.2⟩
theorem MgW.front {w : World} {l : Lg} {p : Option Addr} {c : Nat} {p3 : Option Addr} {c3 A : Nat} {W w8 : World} (h : MgW w l p c p3 c3 A W) {f : Lg} {p5 : Option Addr} {c5 : Nat} (ho : w8.ownsRow W.heap.size 47 14 (.slice p5 f.es.length c5) f.es.length (entRow f.es)) (hb : Below W.heap.size W w8) {n : Int} {x : Lg × Int × Bool} (hx : Hid (x = (f, n, true))) :
    (∀ j, (put14 w8 (w.heap.size + 1) (.int .i64 f.b) (.int .i64 f.bt) (.int .u16 f.j.ov) (.int .u16 f.j.ox) (.int .u16 f.j.ol) (.int .i64 f.j.oe) (.int .i64 f.j.ok) (.int .u16 f.j.nv) (.int .u16 f.j.nx) (.int .u16 f.j.nl) (.int .i64 f.j.ne) (.int .i64 f.j.nk) (.bool f.j.two) (.slice p5 f.es.length c5)).cell? ⟨w.heap.size + 1, j, none⟩ = #[.int .i64 f.b, .int .i64 f.bt, .int .u16 f.j.ov, .int .u16 f.j.ox, .int .u16 f.j.ol, .int .i64 f.j.oe, .int .i64 f.j.ok, .int .u16 f.j.nv, .int .u16 f.j.nx, .int .u16 f.j.nl, .int .i64 f.j.ne, .int .i64 f.j.nk, .bool f.j.two, .slice p5 f.es.length c5][j]?) ∧ LgEnd3 w.heap.size w x (.returned (.tuple #[.agg #[.int .i64 f.b, .int .i64 f.bt, .int .u16 f.j.ov, .int .u16 f.j.ox, .int .u16 f.j.ol, .int .i64 f.j.oe, .int .i64 f.j.ok, .int .u16 f.j.nv, .int .u16 f.j.nx, .int .u16 f.j.nl, .int .i64 f.j.ne, .int .i64 f.j.nk, .bool f.j.two, .slice p5 f.es.length c5], .int .i64 n, .bool true])) (put14 w8 (w.heap.size + 1) (.int .i64 f.b) (.int .i64 f.bt) (.int .u16 f.j.ov) (.int .u16 f.j.ox) (.int .u16 f.j.ol) (.int .i64 f.j.oe) (.int .i64 f.j.ok) (.int .u16 f.j.nv) (.int .u16 f.j.nx) (.int .u16 f.j.nl) (.int .i64 f.j.ne) (.int .i64 f.j.nk) (.bool f.j.two) (.slice p5 f.es.length c5)) := by
  have h8 := h.keep hb
  have F := put14_ok h8.z h8.b (Nat.le_succ _) (.int .i64 f.b) (.int .i64 f.bt) (.int .u16 f.j.ov) (.int .u16 f.j.ox) (.int .u16 f.j.ol) (.int .i64 f.j.oe) (.int .i64 f.j.ok) (.int .u16 f.j.nv) (.int .u16 f.j.nx) (.int .u16 f.j.nl) (.int .i64 f.j.ne) (.int .i64 f.j.nk) (.bool f.j.two) (.slice p5 f.es.length c5)
  have G := own_farL ho (put14_grown w8 (w.heap.size + 1) (.int .i64 f.b) (.int .i64 f.bt) (.int .u16 f.j.ov) (.int .u16 f.j.ox) (.int .u16 f.j.ol) (.int .i64 f.j.oe) (.int .i64 f.j.ok) (.int .u16 f.j.nv) (.int .u16 f.j.nx) (.int .u16 f.j.nl) (.int .i64 f.j.ne) (.int .i64 f.j.nk) (.bool f.j.two) (.slice p5 f.es.length c5)) (Nat.lt_of_lt_of_le (Nat.lt_succ_self _) h.s)
  refine ⟨block_cells F.1, ?_⟩
  have hx' := hx.out
  subst hx'
  exact ⟨p5, c5, rfl, G.mono (Nat.le_trans (Nat.le_add_right _ _) h.s), F.2⟩
theorem wrap_ok {n : Int} (h0 : -4611686018427387904 ≤ n) (h1 : n < 4611686018427387904) : IntKind.i64.wrap n = n := by
  simp [IntKind.wrap, IntKind.bits, IntKind.signed]; omega
theorem EnSl.cells {w : World} {g o n c : Nat} {E : List Ent} (h : EnSl w (.slice (some ⟨g, o, none⟩) n c) E) (k : Nat) (hk : k < E.length) : g < w.heap.size ∧ ∀ j, j < 14 → w.cell? ⟨g, o + k * 14 + j, none⟩ = (entC E[k])[j]? := by
  obtain ⟨g', o', cap, hv, hg, hc⟩ := h.at k hk
  simp only [Value.slice.injEq, Option.some.injEq, Addr.mk.injEq, and_true] at hv
  obtain ⟨⟨rfl, rfl⟩, -⟩ := hv
  exact ⟨hg, hc⟩
/-- What is taken, from the k-th of the entries on. -/
theorem MgW.taken {w : World} {l : Lg} {p : Option Addr} {c : Nat} {p3 : Option Addr} {c3 A : Nat} {W : World} (h : MgW w l p c p3 c3 A W) (hE : EnSl w (.slice p l.es.length c) l.es) {g o c2 : Nat} {E : List Ent} (h2 : EnSl w (.slice (some ⟨g, o, none⟩) E.length c2) E) {m k : Nat} (hk : k < E.length) (hm : m ≤ l.es.length) (hl : l.es.length + E.length ≤ 1000000) {f : Lg} (hf : Hid (frontL l m (E.drop k) = f)) {N : Nat} (hN : Hid (E.length = N)) :
    Calls Tryz.prog 137 #[.agg #[.int .i64 l.b, .int .i64 l.bt, .int .u16 l.j.ov, .int .u16 l.j.ox, .int .u16 l.j.ol, .int .i64 l.j.oe, .int .i64 l.j.ok, .int .u16 l.j.nv, .int .u16 l.j.nx, .int .u16 l.j.nl, .int .i64 l.j.ne, .int .i64 l.j.nk, .bool l.j.two, .slice p l.es.length c], .int .i64 m, .slice (some ⟨g, o + k * 14, none⟩) (N - k) (c2 - k)] W.drew fun r w' => ∃ p5 c5, r = .returned (.agg #[.int .i64 f.b, .int .i64 f.bt, .int .u16 f.j.ov, .int .u16 f.j.ox, .int .u16 f.j.ol, .int .i64 f.j.oe, .int .i64 f.j.ok, .int .u16 f.j.nv, .int .u16 f.j.nx, .int .u16 f.j.nl, .int .i64 f.j.ne, .int .i64 f.j.nk, .bool f.j.two, .slice p5 f.es.length c5]) ∧ w'.ownsRow W.heap.size 47 14 (.slice p5 f.es.length c5) f.es.length (entRow f.es) ∧ Below W.heap.size W w' := by
  have hb : Below w.heap.size w W.drew := h.b.trans ((Below.refl _ _).drew.mono h.b.size)
  have h3 := (h2.keep hb (Nat.le_refl _)).drop (k := k) (by omega)
  have hm3 : Option.map (fun x => x.add (k * 14)) (some (⟨g, o, none⟩ : Addr)) = some ⟨g, o + k * 14, none⟩ := by simp [add_plain]
  rw [hm3] at h3
  have hld : (E.drop k).length = N - k := by rw [List.length_drop, hN.out]
  have h4 := front_any l p c m (E.drop k) _ (c2 - k) W.drew hm (hE.keep hb (Nat.le_refl _)) h3 (by rw [List.length_drop]; omega)
  rw [hf.out, hld] at h4
  refine h4.mono ?_
  rintro r w' ⟨p5, c5, rfl, ho, hb'⟩
  exact ⟨p5, c5, rfl, ho, ((Below.refl _ _).drew).trans hb'⟩
end Go.Proofs.YtbnndbdnejfehaaGreatDoor
/- entries.May, the reference's May; the law's own small and Light. -/
namespace Go.Proofs.YtbnndbdnejfehaaGreatDoor
open Go.ChangeShapes Go.WideShapes Go.ChangeAt Go.RowKit

theorem ret_boolL {a b : Bool} (h : a = b) : Ending.returned (.bool a) = .returned (.bool b) := by rw [h]
set_option maxRecDepth 100000 in
set_option maxHeartbeats 8000000 in
theorem may_any (l : Lg) (p : Option Addr) (c : Nat) (w : World) (hn : l.es.length ≤ 1000000) (hE : EnSl w (.slice p l.es.length c) l.es) :
    Calls Tryz.prog 61 #[.agg #[.int .i64 l.b, .int .i64 l.bt, .int .u16 l.j.ov, .int .u16 l.j.ox, .int .u16 l.j.ol, .int .i64 l.j.oe, .int .i64 l.j.ok, .int .u16 l.j.nv, .int .u16 l.j.nx, .int .u16 l.j.nl, .int .i64 l.j.ne, .int .i64 l.j.nk, .bool l.j.two, .slice p l.es.length c]] w fun r w' => r = .returned (.bool (mayL l)) ∧ Below w.heap.size w w' := by
  have HE := Lib.hid hE
  clear hE
  by_cases h0 : l.b < 0
  · have HM := Lib.hid (mayL_b0 h0)
    go_enter Tryz.func61, Tryz.ntmps61
    go_wp2_with fail
    go_ret
    exact ⟨ret_boolL HM.out.symm, (Below.refl _ _).alloc (Nat.le_refl _) _⟩
  by_cases h1 : 1099511627776 < l.b
  · have HM := Lib.hid (mayL_b1 h1)
    go_enter Tryz.func61, Tryz.ntmps61
    go_wp2_with fail
    go_ret
    exact ⟨ret_boolL HM.out.symm, (Below.refl _ _).alloc (Nat.le_refl _) _⟩
  by_cases h2 : l.bt < 0
  · have HM := Lib.hid (mayL_t0 h2)
    go_enter Tryz.func61, Tryz.ntmps61
    go_wp2_with fail
    go_ret
    exact ⟨ret_boolL HM.out.symm, (Below.refl _ _).alloc (Nat.le_refl _) _⟩
  by_cases h3 : 1099511627776 < l.bt
  · have HM := Lib.hid (mayL_t1 h3)
    go_enter Tryz.func61, Tryz.ntmps61
    go_wp2_with fail
    go_ret
    exact ⟨ret_boolL HM.out.symm, (Below.refl _ _).alloc (Nat.le_refl _) _⟩
  have hmx : l.bt < 1 ∧ max1 l.bt = 1 ∨ 1 ≤ l.bt ∧ max1 l.bt = l.bt := by unfold max1; split <;> omega
  have hM := mayL_in (l := l) (by omega) (by omega) (by omega) (by omega)
  rcases hmx with ⟨hc1, hmx⟩ | ⟨hc1, hmx⟩
  all_goals
    rw [hmx] at hM
    have HM := Lib.hid hM
    clear hmx hM
    have HA0 := Lib.hid (heap_last w (.cells #[.int .i64 l.b, .int .i64 l.bt, .int .u16 l.j.ov, .int .u16 l.j.ox, .int .u16 l.j.ol, .int .i64 l.j.oe, .int .i64 l.j.ok, .int .u16 l.j.nv, .int .u16 l.j.nx, .int .u16 l.j.nl, .int .i64 l.j.ne, .int .i64 l.j.nk, .bool l.j.two, .slice p l.es.length c] 30))
    have HB0 := Lib.hid ((Below.refl _ w).alloc (Nat.le_refl _) (.cells #[.int .i64 l.b, .int .i64 l.bt, .int .u16 l.j.ov, .int .u16 l.j.ox, .int .u16 l.j.ol, .int .i64 l.j.oe, .int .i64 l.j.ok, .int .u16 l.j.nv, .int .u16 l.j.nx, .int .u16 l.j.nl, .int .i64 l.j.ne, .int .i64 l.j.nk, .bool l.j.two, .slice p l.es.length c] 30))
    go_enter Tryz.func61, Tryz.ntmps61
    go_upto_region 3 with fail
    obtain ⟨W, hW⟩ : ∃ W, w.alloc (.cells #[.int .i64 l.b, .int .i64 l.bt, .int .u16 l.j.ov, .int .u16 l.j.ox, .int .u16 l.j.ol, .int .i64 l.j.oe, .int .i64 l.j.ok, .int .u16 l.j.nv, .int .u16 l.j.nx, .int .u16 l.j.nl, .int .i64 l.j.ne, .int .i64 l.j.nk, .bool l.j.two, .slice p l.es.length c] 30) = W := ⟨_, rfl⟩
    rw [hW] at HA0 HB0 ⊢
    clear hW
    have kA := block_cells HA0.out
    go_wp2_with fail
    clear kA
    go_loopw [3, 30] (fun t i wr => ∃ (k : Nat) (T : Int), k ≤ l.es.length ∧ t = .int .i64 T ∧ i = .int .i64 k ∧ Hid (mayL l = mayE (l.es.drop k) T) ∧ Hid (Below W.heap.size W wr)) (fun _ i _ => l.es.length - (intOf i).toNat)
    case atStart => exact ⟨0, _, Nat.zero_le _, rfl, rfl, by show _ = _; rw [HM.out, List.drop_zero], Below.refl _ _⟩
    case round =>
      obtain ⟨k, T, hk, rfl, rfl, HT, HB⟩ := hrel
      obtain ⟨wk, rfl⟩ : ∃ wk : World, wk = wr := ⟨_, rfl⟩
      have kA := block_cells (below_block HB.out (block_lt HA0.out) HA0.out)
      have HBW := Lib.hid (HB0.out.trans (HB.out.mono HB0.out.size))
      by_cases hlt : k < l.es.length
      · obtain ⟨g, o, cap, hv, hgl, hc⟩ := (HE.out.keep HBW.out (Nat.le_refl _)).at k hlt
        simp only [Value.slice.injEq] at hv
        obtain ⟨rfl, -⟩ := hv
        have hS := mayE_step hlt T
        rw [← HT.out] at hS
        obtain ⟨e, he⟩ : ∃ e, l.es[k] = e := ⟨_, rfl⟩
        rw [he] at hc hS
        have HS := Lib.hid hS
        have hq0 : wk.cell? ⟨g, o + k * 14, none⟩ = some (.int .i64 e.t) := hc 0 (by decide)
        have hq1 : wk.cell? ⟨g, o + k * 14 + 1, none⟩ = some (.int .i64 e.k) := hc 1 (by decide)
        have hq2 : wk.cell? ⟨g, o + k * 14 + 2, none⟩ = some (.string e.d) := hc 2 (by decide)
        have hq3 : wk.cell? ⟨g, o + k * 14 + 3, none⟩ = some (.int .u16 e.j.ov) := hc 3 (by decide)
        have hq4 : wk.cell? ⟨g, o + k * 14 + 4, none⟩ = some (.int .u16 e.j.ox) := hc 4 (by decide)
        have hq5 : wk.cell? ⟨g, o + k * 14 + 5, none⟩ = some (.int .u16 e.j.ol) := hc 5 (by decide)
        have hq6 : wk.cell? ⟨g, o + k * 14 + 6, none⟩ = some (.int .i64 e.j.oe) := hc 6 (by decide)
        have hq7 : wk.cell? ⟨g, o + k * 14 + 7, none⟩ = some (.int .i64 e.j.ok) := hc 7 (by decide)
        have hq8 : wk.cell? ⟨g, o + k * 14 + 8, none⟩ = some (.int .u16 e.j.nv) := hc 8 (by decide)
        have hq9 : wk.cell? ⟨g, o + k * 14 + 9, none⟩ = some (.int .u16 e.j.nx) := hc 9 (by decide)
        have hq10 : wk.cell? ⟨g, o + k * 14 + 10, none⟩ = some (.int .u16 e.j.nl) := hc 10 (by decide)
        have hq11 : wk.cell? ⟨g, o + k * 14 + 11, none⟩ = some (.int .i64 e.j.ne) := hc 11 (by decide)
        have hq12 : wk.cell? ⟨g, o + k * 14 + 12, none⟩ = some (.int .i64 e.j.nk) := hc 12 (by decide)
        have hq13 : wk.cell? ⟨g, o + k * 14 + 13, none⟩ = some (.bool e.j.two) := hc 13 (by decide)
        have hd1 : decide ((k : Int) < (l.es.length : Int)) = true := by simp; omega
        clear hc he hS
        by_cases hx : e.t < T
        · have HN : Hid (mayL l = false) := by show _ = _; rw [HS.out, decide_eq_false (by omega)]; rfl
          go_wp2_with fail
          go_ret
          exact ⟨ret_boolL HN.out.symm, HBW.out.alloc HBW.out.size _⟩
        · by_cases hy : 1099511627776 < e.t
          · have HN : Hid (mayL l = false) := by show _ = _; rw [HS.out, decide_eq_false (show ¬ e.t ≤ 1099511627776 by omega)]; simp
            go_wp2_with fail
            go_ret
            exact ⟨ret_boolL HN.out.symm, HBW.out.alloc HBW.out.size _⟩
          · have HN : Hid (mayL l = mayE (l.es.drop (k + 1)) e.t) := by show _ = _; rw [HS.out, decide_eq_true (by omega), decide_eq_true (by omega)]; rfl
            go_wp2_with fail
            go_roundw
            case rel => exact ⟨k + 1, e.t, by omega, rfl, by go_num, HN, HB.out.alloc HB.out.size _⟩
            case measure => simp [intOf]; omega
      · obtain rfl : k = l.es.length := by omega
        have HN : Hid (mayL l = true) := by show _ = _; rw [HT.out, mayE_end]
        go_wp2_with fail
        go_ret
        exact ⟨ret_boolL HN.out.symm, HBW.out⟩
set_option maxRecDepth 100000 in
set_option maxHeartbeats 8000000 in
theorem rmay_any (l : Lg) (p : Option Addr) (c : Nat) (w : World) (hn : l.es.length ≤ 1000000) (hE : EnSl w (.slice p l.es.length c) l.es) :
    Calls Tryz.prog 85 #[.agg #[.int .i64 l.b, .int .i64 l.bt, .int .u16 l.j.ov, .int .u16 l.j.ox, .int .u16 l.j.ol, .int .i64 l.j.oe, .int .i64 l.j.ok, .int .u16 l.j.nv, .int .u16 l.j.nx, .int .u16 l.j.nl, .int .i64 l.j.ne, .int .i64 l.j.nk, .bool l.j.two, .slice p l.es.length c]] w fun r w' => r = .returned (.bool (mayL l)) ∧ Below w.heap.size w w' := by
  have HE := Lib.hid hE
  clear hE
  by_cases h0 : l.b < 0
  · have HM := Lib.hid (mayL_b0 h0)
    go_enter Tryz.func85, Tryz.ntmps85
    go_wp2_with fail
    go_ret
    exact ⟨ret_boolL HM.out.symm, (Below.refl _ _).alloc (Nat.le_refl _) _⟩
  by_cases h1 : 1099511627776 < l.b
  · have HM := Lib.hid (mayL_b1 h1)
    go_enter Tryz.func85, Tryz.ntmps85
    go_wp2_with fail
    go_ret
    exact ⟨ret_boolL HM.out.symm, (Below.refl _ _).alloc (Nat.le_refl _) _⟩
  by_cases h2 : l.bt < 0
  · have HM := Lib.hid (mayL_t0 h2)
    go_enter Tryz.func85, Tryz.ntmps85
    go_wp2_with fail
    go_ret
    exact ⟨ret_boolL HM.out.symm, (Below.refl _ _).alloc (Nat.le_refl _) _⟩
  by_cases h3 : 1099511627776 < l.bt
  · have HM := Lib.hid (mayL_t1 h3)
    go_enter Tryz.func85, Tryz.ntmps85
    go_wp2_with fail
    go_ret
    exact ⟨ret_boolL HM.out.symm, (Below.refl _ _).alloc (Nat.le_refl _) _⟩
  have hmx : l.bt < 1 ∧ max1 l.bt = 1 ∨ 1 ≤ l.bt ∧ max1 l.bt = l.bt := by unfold max1; split <;> omega
  have hM := mayL_in (l := l) (by omega) (by omega) (by omega) (by omega)
  rcases hmx with ⟨hc1, hmx⟩ | ⟨hc1, hmx⟩
  all_goals
    rw [hmx] at hM
    have HM := Lib.hid hM
    clear hmx hM
    have HA0 := Lib.hid (heap_last w (.cells #[.int .i64 l.b, .int .i64 l.bt, .int .u16 l.j.ov, .int .u16 l.j.ox, .int .u16 l.j.ol, .int .i64 l.j.oe, .int .i64 l.j.ok, .int .u16 l.j.nv, .int .u16 l.j.nx, .int .u16 l.j.nl, .int .i64 l.j.ne, .int .i64 l.j.nk, .bool l.j.two, .slice p l.es.length c] 30))
    have HB0 := Lib.hid ((Below.refl _ w).alloc (Nat.le_refl _) (.cells #[.int .i64 l.b, .int .i64 l.bt, .int .u16 l.j.ov, .int .u16 l.j.ox, .int .u16 l.j.ol, .int .i64 l.j.oe, .int .i64 l.j.ok, .int .u16 l.j.nv, .int .u16 l.j.nx, .int .u16 l.j.nl, .int .i64 l.j.ne, .int .i64 l.j.nk, .bool l.j.two, .slice p l.es.length c] 30))
    go_enter Tryz.func85, Tryz.ntmps85
    go_upto_region 3 with fail
    obtain ⟨W, hW⟩ : ∃ W, w.alloc (.cells #[.int .i64 l.b, .int .i64 l.bt, .int .u16 l.j.ov, .int .u16 l.j.ox, .int .u16 l.j.ol, .int .i64 l.j.oe, .int .i64 l.j.ok, .int .u16 l.j.nv, .int .u16 l.j.nx, .int .u16 l.j.nl, .int .i64 l.j.ne, .int .i64 l.j.nk, .bool l.j.two, .slice p l.es.length c] 30) = W := ⟨_, rfl⟩
    rw [hW] at HA0 HB0 ⊢
    clear hW
    have kA := block_cells HA0.out
    go_wp2_with fail
    clear kA
    go_loopw [3, 4] (fun t i wr => ∃ (k : Nat) (T : Int), k ≤ l.es.length ∧ t = .int .i64 T ∧ i = .int .i64 k ∧ Hid (mayL l = mayE (l.es.drop k) T) ∧ Hid (Below W.heap.size W wr)) (fun _ i _ => l.es.length - (intOf i).toNat)
    case atStart => exact ⟨0, _, Nat.zero_le _, rfl, rfl, by show _ = _; rw [HM.out, List.drop_zero], Below.refl _ _⟩
    case round =>
      obtain ⟨k, T, hk, rfl, rfl, HT, HB⟩ := hrel
      obtain ⟨wk, rfl⟩ : ∃ wk : World, wk = wr := ⟨_, rfl⟩
      have kA := block_cells (below_block HB.out (block_lt HA0.out) HA0.out)
      have HBW := Lib.hid (HB0.out.trans (HB.out.mono HB0.out.size))
      by_cases hlt : k < l.es.length
      · obtain ⟨g, o, cap, hv, hgl, hc⟩ := (HE.out.keep HBW.out (Nat.le_refl _)).at k hlt
        simp only [Value.slice.injEq] at hv
        obtain ⟨rfl, -⟩ := hv
        have hS := mayE_step hlt T
        rw [← HT.out] at hS
        obtain ⟨e, he⟩ : ∃ e, l.es[k] = e := ⟨_, rfl⟩
        rw [he] at hc hS
        have HS := Lib.hid hS
        have hq0 : wk.cell? ⟨g, o + k * 14, none⟩ = some (.int .i64 e.t) := hc 0 (by decide)
        have hq1 : wk.cell? ⟨g, o + k * 14 + 1, none⟩ = some (.int .i64 e.k) := hc 1 (by decide)
        have hq2 : wk.cell? ⟨g, o + k * 14 + 2, none⟩ = some (.string e.d) := hc 2 (by decide)
        have hq3 : wk.cell? ⟨g, o + k * 14 + 3, none⟩ = some (.int .u16 e.j.ov) := hc 3 (by decide)
        have hq4 : wk.cell? ⟨g, o + k * 14 + 4, none⟩ = some (.int .u16 e.j.ox) := hc 4 (by decide)
        have hq5 : wk.cell? ⟨g, o + k * 14 + 5, none⟩ = some (.int .u16 e.j.ol) := hc 5 (by decide)
        have hq6 : wk.cell? ⟨g, o + k * 14 + 6, none⟩ = some (.int .i64 e.j.oe) := hc 6 (by decide)
        have hq7 : wk.cell? ⟨g, o + k * 14 + 7, none⟩ = some (.int .i64 e.j.ok) := hc 7 (by decide)
        have hq8 : wk.cell? ⟨g, o + k * 14 + 8, none⟩ = some (.int .u16 e.j.nv) := hc 8 (by decide)
        have hq9 : wk.cell? ⟨g, o + k * 14 + 9, none⟩ = some (.int .u16 e.j.nx) := hc 9 (by decide)
        have hq10 : wk.cell? ⟨g, o + k * 14 + 10, none⟩ = some (.int .u16 e.j.nl) := hc 10 (by decide)
        have hq11 : wk.cell? ⟨g, o + k * 14 + 11, none⟩ = some (.int .i64 e.j.ne) := hc 11 (by decide)
        have hq12 : wk.cell? ⟨g, o + k * 14 + 12, none⟩ = some (.int .i64 e.j.nk) := hc 12 (by decide)
        have hq13 : wk.cell? ⟨g, o + k * 14 + 13, none⟩ = some (.bool e.j.two) := hc 13 (by decide)
        have hd1 : decide ((k : Int) < (l.es.length : Int)) = true := by simp; omega
        clear hc he hS
        by_cases hx : e.t < T
        · have HN : Hid (mayL l = false) := by show _ = _; rw [HS.out, decide_eq_false (by omega)]; rfl
          go_wp2_with fail
          go_ret
          exact ⟨ret_boolL HN.out.symm, HBW.out⟩
        · by_cases hy : 1099511627776 < e.t
          · have HN : Hid (mayL l = false) := by show _ = _; rw [HS.out, decide_eq_false (show ¬ e.t ≤ 1099511627776 by omega)]; simp
            go_wp2_with fail
            go_ret
            exact ⟨ret_boolL HN.out.symm, HBW.out⟩
          · have HN : Hid (mayL l = mayE (l.es.drop (k + 1)) e.t) := by show _ = _; rw [HS.out, decide_eq_true (by omega), decide_eq_true (by omega)]; rfl
            go_wp2_with fail
            go_roundw
            case rel => exact ⟨k + 1, e.t, by omega, rfl, by go_num, HN, HB⟩
            case measure => simp [intOf]; omega
      · obtain rfl : k = l.es.length := by omega
        have HN : Hid (mayL l = true) := by show _ = _; rw [HT.out, mayE_end]
        go_wp2_with fail
        go_ret
        exact ⟨ret_boolL HN.out.symm, HBW.out⟩
set_option maxRecDepth 100000 in
set_option maxHeartbeats 4000000 in
theorem small_any (L : List Ent) (p : Option Addr) (c : Nat) (w : World) (hn : L.length ≤ 1000000) (hE : EnSl w (.slice p L.length c) L) :
    Calls Tryz.prog 84 #[.slice p L.length c] w fun r w' => r = .returned (.bool (smallB L)) ∧ w = w' := by
  have HE := Lib.hid hE
  clear hE
  go_enter Tryz.func84, Tryz.ntmps84
  go_wp2_with fail
  go_loop [3] (fun i => ∃ k : Nat, k ≤ L.length ∧ i = .int .i64 k ∧ Hid (∀ j, (hj : j < L.length) → j < k → L[j].d.size ≤ 200)) (fun i => L.length - (intOf i).toNat)
  case atStart => exact ⟨0, Nat.zero_le _, rfl, fun j _ h => absurd h (by omega)⟩
  case round =>
    obtain ⟨k, hk, rfl, HQ⟩ := hrel
    by_cases hlt : k < L.length
    · obtain ⟨g, o, cap, hv, hgl, hc⟩ := HE.out.at k hlt
      simp only [Value.slice.injEq] at hv
      obtain ⟨rfl, -⟩ := hv
      obtain ⟨e, he⟩ : ∃ e, L[k] = e := ⟨_, rfl⟩
      rw [he] at hc
      have HEE := Lib.hid he
      have hq0 : w.cell? ⟨g, o + k * 14, none⟩ = some (.int .i64 e.t) := hc 0 (by decide)
      have hq1 : w.cell? ⟨g, o + k * 14 + 1, none⟩ = some (.int .i64 e.k) := hc 1 (by decide)
      have hq2 : w.cell? ⟨g, o + k * 14 + 2, none⟩ = some (.string e.d) := hc 2 (by decide)
      have hq3 : w.cell? ⟨g, o + k * 14 + 3, none⟩ = some (.int .u16 e.j.ov) := hc 3 (by decide)
      have hq4 : w.cell? ⟨g, o + k * 14 + 4, none⟩ = some (.int .u16 e.j.ox) := hc 4 (by decide)
      have hq5 : w.cell? ⟨g, o + k * 14 + 5, none⟩ = some (.int .u16 e.j.ol) := hc 5 (by decide)
      have hq6 : w.cell? ⟨g, o + k * 14 + 6, none⟩ = some (.int .i64 e.j.oe) := hc 6 (by decide)
      have hq7 : w.cell? ⟨g, o + k * 14 + 7, none⟩ = some (.int .i64 e.j.ok) := hc 7 (by decide)
      have hq8 : w.cell? ⟨g, o + k * 14 + 8, none⟩ = some (.int .u16 e.j.nv) := hc 8 (by decide)
      have hq9 : w.cell? ⟨g, o + k * 14 + 9, none⟩ = some (.int .u16 e.j.nx) := hc 9 (by decide)
      have hq10 : w.cell? ⟨g, o + k * 14 + 10, none⟩ = some (.int .u16 e.j.nl) := hc 10 (by decide)
      have hq11 : w.cell? ⟨g, o + k * 14 + 11, none⟩ = some (.int .i64 e.j.ne) := hc 11 (by decide)
      have hq12 : w.cell? ⟨g, o + k * 14 + 12, none⟩ = some (.int .i64 e.j.nk) := hc 12 (by decide)
      have hq13 : w.cell? ⟨g, o + k * 14 + 13, none⟩ = some (.bool e.j.two) := hc 13 (by decide)
      clear hc he
      by_cases hx : 200 < e.d.size
      · have HN : Hid (smallB L = false) := smallB_no hlt (by rw [HEE.out]; exact hx)
        go_wp2_with fail
        go_ret
        exact ⟨ret_boolL HN.out.symm, rfl⟩
      · have HQ' : Hid (∀ j, (hj : j < L.length) → j < k + 1 → L[j].d.size ≤ 200) := fun j hj hj1 => by
          by_cases e : j = k
          · subst e; rw [HEE.out]; omega
          · exact HQ.out j hj (by omega)
        clear HQ
        go_wp2_with fail
        go_round
        case rel => exact ⟨k + 1, by omega, by go_num, HQ'⟩
        case measure => simp [intOf]; omega
    · obtain rfl : k = L.length := by omega
      have HN : Hid (smallB L = true) := smallB_yes fun j hj => HQ.out j hj hj
      go_wp2_with fail
      go_ret
      exact ⟨ret_boolL HN.out.symm, rfl⟩
set_option maxRecDepth 100000 in
set_option maxHeartbeats 4000000 in
theorem light_any (l : Lg) (p : Option Addr) (c : Nat) (es : List Ent) (p2 : Option Addr) (c2 : Nat) (w : World) (hE : EnSl w (.slice p l.es.length c) l.es) (h2 : EnSl w (.slice p2 es.length c2) es) :
    Calls Tryz.prog 31 #[.agg #[.int .i64 l.b, .int .i64 l.bt, .int .u16 l.j.ov, .int .u16 l.j.ox, .int .u16 l.j.ol, .int .i64 l.j.oe, .int .i64 l.j.ok, .int .u16 l.j.nv, .int .u16 l.j.nx, .int .u16 l.j.nl, .int .i64 l.j.ne, .int .i64 l.j.nk, .bool l.j.two, .slice p l.es.length c], .slice p2 es.length c2] w fun r w' => r = .returned (.bool (lightB l es)) ∧ Below w.heap.size w w' := by
  have hb : Below w.heap.size w (w.alloc (.cells #[.int .i64 l.b, .int .i64 l.bt, .int .u16 l.j.ov, .int .u16 l.j.ox, .int .u16 l.j.ol, .int .i64 l.j.oe, .int .i64 l.j.ok, .int .u16 l.j.nv, .int .u16 l.j.nx, .int .u16 l.j.nl, .int .i64 l.j.ne, .int .i64 l.j.nk, .bool l.j.two, .slice p l.es.length c] 30)) := (Below.refl _ _).alloc (Nat.le_refl _) _
  have HE := Lib.hid (hE.keep hb (Nat.le_refl _)); have H2 := Lib.hid (h2.keep hb (Nat.le_refl _))
  clear hE h2 hb
  by_cases hx : 60 < l.es.length
  · have HN : Hid (lightB l es = false) := by show _ = _; unfold lightB; rw [decide_eq_false (by omega)]; rfl
    go_enter Tryz.func31, Tryz.ntmps31
    go_wp2_with fail
    go_ret
    exact ⟨ret_boolL HN.out.symm, (Below.refl _ _).alloc (Nat.le_refl _) _⟩
  by_cases hy : 60 < es.length
  · have HN : Hid (lightB l es = false) := by show _ = _; unfold lightB; rw [decide_eq_false (show ¬ es.length ≤ 60 by omega)]; simp
    go_enter Tryz.func31, Tryz.ntmps31
    go_wp2_with fail
    go_ret
    exact ⟨ret_boolL HN.out.symm, (Below.refl _ _).alloc (Nat.le_refl _) _⟩
  have hN : lightB l es = (smallB l.es && smallB es) := by unfold lightB; rw [decide_eq_true (by omega), decide_eq_true (by omega)]; rfl
  have S1 := Lib.hid (small_any l.es p c _ (by omega) HE.out)
  have S2 := Lib.hid (small_any es p2 c2 _ (by omega) H2.out)
  obtain ⟨a, ha⟩ : ∃ a, smallB l.es = a := ⟨_, rfl⟩
  obtain ⟨b, hb⟩ : ∃ b, smallB es = b := ⟨_, rfl⟩
  rw [ha] at S1 hN
  rw [hb] at S2 hN
  have HN := Lib.hid hN
  clear ha hb hN
  cases a
  · go_enter Tryz.func31, Tryz.ntmps31
    go_wp2_with fail
    refine S1.out.mono ?_; rintro r w' ⟨rfl, rfl⟩
    go_wp2_with fail
    go_ret
    exact ⟨ret_boolL HN.out.symm, (Below.refl _ _).alloc (Nat.le_refl _) _⟩
  · go_enter Tryz.func31, Tryz.ntmps31
    go_wp2_with fail
    refine S1.out.mono ?_; rintro r w' ⟨rfl, rfl⟩
    go_wp2_with fail
    refine S2.out.mono ?_; rintro r w' ⟨rfl, rfl⟩
    go_wp2_with fail
    go_ret
    exact ⟨ret_boolL (by rw [HN.out]; rfl), (Below.refl _ _).alloc (Nat.le_refl _) _⟩
end Go.Proofs.YtbnndbdnejfehaaGreatDoor
