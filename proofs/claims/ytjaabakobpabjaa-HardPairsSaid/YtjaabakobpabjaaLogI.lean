/- slices.Backward over entries. -/
import Derived.RangeFuncNested
import Derived.RangeFuncBound
import Derived.RangeFuncCalls
import Derived.RangeFuncLeaves
import Derived.RangeFuncBox
import Derived.Shelf.Abstract
import Derived.Shelf.RegionOpen
import Derived.WalkKit
import Derived.OwnWalkIn
import Derived.TacticsInMore
import Derived.LoopNIn
import Derived.LoopIn
import Derived.Test.YtjaabakobpabjaaLogF
namespace Go.Proofs.Ytjaabakobpabjaa
open Go.ChangeShapes Go.WideShapes Go.ChangeAt Go.RowKit Go.Shelf
attribute [local go_sem] Oper.semAt_some

/-- What has come when m are left. -/
def backL (L : List Ent) (m : Nat) : List (Nat × Ent) := (List.range' m (L.length - m)).reverse.map (fun j => (j, L.getD j ent0))
theorem backL_all (L : List Ent) : backL L L.length = [] := by simp [backL]
theorem backL_step (L : List Ent) {m : Nat} (hm : m < L.length) : backL L m = backL L (m + 1) ++ [(m, L.getD m ent0)] := by
  unfold backL
  rw [show L.length - m = (L.length - (m + 1)) + 1 by omega, List.range'_succ, List.reverse_cons, List.map_append]
  rfl
theorem backL_len (L : List Ent) {m : Nat} : (backL L m).length = L.length - m := by simp [backL]
theorem sl_atL {B : Nat} {w : World} {v : Value} {L : List Ent} (h : Sl B w v 14 L.length (entRow L)) (k : Nat) (hk : k < L.length) : ∃ g o cap, v = .slice (some ⟨g, o, none⟩) L.length cap ∧ g < B ∧ ∀ j, j < 14 → w.cell? ⟨g, o + k * 14 + j, none⟩ = (entC L[k])[j]? := by
  rcases h.2 with ⟨h2, h3⟩ | ⟨ad, cap, h2, h3, h4, h5⟩
  · omega
  · obtain ⟨g, o, rfl, h6, h7⟩ := h5 (by omega)
    exact ⟨g, o, cap, h2, h6, fun j hj => by rw [Nat.add_assoc, h7 _ (by omega), entRow_get hk hj]⟩
def encB (x : Nat × Ent) : Array Value := #[.int .i64 (x.1 : Int), .agg (entC x.2).toArray]
set_option maxRecDepth 100000 in
set_option maxHeartbeats 4000000 in
theorem back_in (F : Fence) (n : Nat) (h40 : F.fn 95) (hro : F.round = none) (a : Option Addr) (len cap : Nat) (w : World) :
    CallsIn F n Try.prog 95 #[.slice a len cap] w fun e w' => e = .returned (.func (.func 110) #[] #[.pointer (some ⟨w.heap.size, 0, none⟩)]) ∧ w' = w.alloc (.cells #[.slice a len cap] 43) := by
  refine callsIn_of_wp Try.func95 rfl h40 ?_ hro
  simp only [Try.ntmps95, List.size_toArray, List.length_cons, List.length_nil, Nat.reduceAdd, Nat.reduceSub, Array.replicate_succ, Array.replicate_zero, List.push_toArray, List.append_toArray, List.nil_append, List.cons_append]
  gi_wp2
  go_ret
  exact ⟨rfl, rfl⟩
set_option maxRecDepth 100000 in
set_option maxHeartbeats 8000000 in
theorem back1_in (F : Fence) (n : Nat) (h47 : F.fn 110) (hro : F.round = none) (hn : 1 ≤ n) (l Bs n₀ : Nat) (p : Option Addr) (c : Nat) (L : List Ent) (hl : L.length ≤ 1000000) (J Jx : List (Nat × Ent) → World → Prop)
    (hY : ∀ pre x W, J pre W → pre.length < L.length → YieldAt F (n - 1) Try.prog l (encB x) W fun e W' =>
      (e = .returned (.bool true) ∧ J (pre ++ [x]) W' ∧ Below n₀ W W') ∨ (e = .returned (.bool false) ∧ Jx (pre ++ [x]) W'))
    (W : World) (hBn : Bs < n₀) (hBs : W.cell? ⟨Bs, 0, none⟩ = some (.slice p L.length c)) (hc : Sl n₀ W (.slice p L.length c) 14 L.length (entRow L)) (h0 : J [] W) :
    CallsIn F n Try.prog 110 #[.func (.yield l) #[] #[], .pointer (some ⟨Bs, 0, none⟩)] W fun e W' => (∃ v, e = .returned v) ∧
      ((∃ ys, ys = backL L 0 ∧ J ys W') ∨ (∃ pre, (∃ m, m ≤ L.length ∧ pre = backL L m) ∧ Jx pre W')) := by
  have HC := Lib.hid hc
  clear hc
  refine callsIn_of_wp Try.func110 rfl h47 ?_ hro
  simp only [Try.ntmps110, List.size_toArray, List.length_cons, List.length_nil, Nat.reduceAdd, Nat.reduceSub, Array.replicate_succ, Array.replicate_zero, List.push_toArray, List.append_toArray, List.nil_append, List.cons_append]
  gi_wp2
  gi_loopw [3] (fun i wr => ∃ m : Nat, m ≤ L.length ∧ i = .int .i64 ((m : Int) - 1) ∧ J (backL L m) wr ∧ Hid (Below n₀ W wr)) (fun i _ => (intOf i + 1).toNat)
  case atStart => exact ⟨L.length, Nat.le_refl _, by go_num, by rw [backL_all]; exact h0, Below.refl _ _⟩
  case round =>
    obtain ⟨m, hm, rfl, hJs, HB⟩ := hrel
    have hbs : wr.cell? ⟨Bs, 0, none⟩ = some (.slice p L.length c) := (HB.out.cell (p := ⟨Bs, 0, none⟩) hBn).trans hBs
    cases m with
    | zero =>
      rw [show ((0 : Nat) : Int) - 1 = -1 from rfl]
      gi_wp2
      go_end0
      exact ⟨⟨_, rfl⟩, .inl ⟨_, rfl, hJs⟩⟩
    | succ m =>
      rw [show ((m + 1 : Nat) : Int) - 1 = (m : Int) by omega]
      obtain ⟨g, o, cap, hv, hg, hcs⟩ := sl_atL (HC.out.keep HB.out) m (by omega)
      simp only [Value.slice.injEq, true_and] at hv
      obtain ⟨rfl, rfl⟩ := hv
      obtain ⟨fn, tmps, assign, body, hy, hR⟩ := hY _ (m, L.getD m ent0) wr hJs (by rw [backL_len L]; omega)
      have hge : L[m] = L.getD m ent0 := by simp [List.getD, List.getElem?_eq_getElem (show m < L.length by omega)]
      rw [hge] at hcs
      have HS := Lib.hid (backL_step L (show m < L.length by omega))
      obtain ⟨e, he⟩ : ∃ e, L.getD m ent0 = e := ⟨_, rfl⟩
      rw [he] at hy hR hcs HS
      dsimp only [encB, entC] at hy
      have hq0 : wr.cell? ⟨g, o + m * 14, none⟩ = some (.int .i64 e.t) := hcs 0 (by decide)
      have hq1 : wr.cell? ⟨g, o + m * 14 + 1, none⟩ = some (.int .i64 e.k) := hcs 1 (by decide)
      have hq2 : wr.cell? ⟨g, o + m * 14 + 2, none⟩ = some (.string e.d) := hcs 2 (by decide)
      have hq3 : wr.cell? ⟨g, o + m * 14 + 3, none⟩ = some (.int .u16 e.j.ov) := hcs 3 (by decide)
      have hq4 : wr.cell? ⟨g, o + m * 14 + 4, none⟩ = some (.int .u16 e.j.ox) := hcs 4 (by decide)
      have hq5 : wr.cell? ⟨g, o + m * 14 + 5, none⟩ = some (.int .u16 e.j.ol) := hcs 5 (by decide)
      have hq6 : wr.cell? ⟨g, o + m * 14 + 6, none⟩ = some (.int .i64 e.j.oe) := hcs 6 (by decide)
      have hq7 : wr.cell? ⟨g, o + m * 14 + 7, none⟩ = some (.int .i64 e.j.ok) := hcs 7 (by decide)
      have hq8 : wr.cell? ⟨g, o + m * 14 + 8, none⟩ = some (.int .u16 e.j.nv) := hcs 8 (by decide)
      have hq9 : wr.cell? ⟨g, o + m * 14 + 9, none⟩ = some (.int .u16 e.j.nx) := hcs 9 (by decide)
      have hq10 : wr.cell? ⟨g, o + m * 14 + 10, none⟩ = some (.int .u16 e.j.nl) := hcs 10 (by decide)
      have hq11 : wr.cell? ⟨g, o + m * 14 + 11, none⟩ = some (.int .i64 e.j.ne) := hcs 11 (by decide)
      have hq12 : wr.cell? ⟨g, o + m * 14 + 12, none⟩ = some (.int .i64 e.j.nk) := hcs 12 (by decide)
      have hq13 : wr.cell? ⟨g, o + m * 14 + 13, none⟩ = some (.bool e.j.two) := hcs 13 (by decide)
      clear hge he hcs
      gi_wp2
      refine hR.mono ?_
      rintro e3 W3 (⟨rfl, hJ3, hk3⟩ | ⟨rfl, hJx3⟩)
      · gi_wp2
        go_roundw
        case rel => exact ⟨m, by omega, by go_num, by rw [HS.out]; exact hJ3, HB.out.trans hk3⟩
        case measure => simp [intOf]
      · gi_wp2
        refine bodyPost_ret (results_none rfl _ _ _) rfl ?_
        exact ⟨⟨_, rfl⟩, .inr ⟨_, ⟨m, by omega, HS.out.symm⟩, hJx3⟩⟩
/-- slices.Backward's value, as a sequence: from the last entry to the first; or down to the m-th. -/
theorem back_stops (F : Fence) (n : Nat) (h47 : F.fn 110) (hro : F.round = none) (hn : 1 ≤ n) (Bs n₀ : Nat) (p : Option Addr) (c : Nat) (L : List Ent) (hl : L.length ≤ 1000000) (w : World) (hBs : Bs < n₀) (hn₀ : n₀ ≤ w.heap.size)
    (hc : w.cell? ⟨Bs, 0, none⟩ = some (.slice p L.length c)) (hI : Sl n₀ w (.slice p L.length c) 14 L.length (entRow L)) :
    SeqStopsK F n Try.prog 110 #[.pointer (some ⟨Bs, 0, none⟩)] encB (Below n₀) (fun ys => ys = backL L 0)
      (fun pre => ∃ m, m ≤ L.length ∧ pre = backL L m) L.length w := fun l J Jx W hW _ _ hY h0 => by
  have hc' := (hW.cell (p := ⟨Bs, 0, none⟩) (show Bs < w.heap.size by omega)).trans hc
  exact back1_in F n h47 hro hn l Bs n₀ p c L hl J Jx hY W hBs hc' (hI.keep (hW.mono hn₀)) h0
end Go.Proofs.Ytjaabakobpabjaa
