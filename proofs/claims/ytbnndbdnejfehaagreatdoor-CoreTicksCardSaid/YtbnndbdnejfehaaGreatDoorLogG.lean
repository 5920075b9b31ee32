/- entries: Push. -/
import Derived.Test.YtbnndbdnejfehaaGreatDoorLogJ
namespace Go.Proofs.YtbnndbdnejfehaaGreatDoor
open Go.ChangeShapes Go.WideShapes Go.ChangeAt Go.RowKit

theorem EnSl.one {w : World} {g : Nat} {e : Ent} {t : TypeId} (h : w.heap[g]? = some (.cells #[.int .i64 e.t, .int .i64 e.k, .string e.d, .int .u16 e.j.ov, .int .u16 e.j.ox, .int .u16 e.j.ol, .int .i64 e.j.oe, .int .i64 e.j.ok, .int .u16 e.j.nv, .int .u16 e.j.nx, .int .u16 e.j.nl, .int .i64 e.j.ne, .int .i64 e.j.nk, .bool e.j.two] t (0, 0))) : EnSl w (.slice (some ⟨g, 0, none⟩) [e].length 1) [e] := by
  have hr : entRow [e] = entC e := by simp [entRow]
  unfold EnSl
  rw [hr]
  refine ⟨rfl, .inr ⟨⟨g, 0, none⟩, 1, rfl, Nat.le_refl _, by unfold maxLen; omega, fun _ => ⟨g, 0, rfl, block_lt h, fun j hj => ?_⟩⟩⟩
  rw [Nat.zero_add, block_cells h j]
  simp [entC]
def pushL (l : Lg) (e : Ent) : Lg := ⟨l.b, l.bt, l.j, l.es ++ [e]⟩
set_option maxRecDepth 100000 in
set_option maxHeartbeats 4000000 in
theorem push_any (l : Lg) (p : Option Addr) (c : Nat) (e : Ent) (w : World) (hE : EnSl w (.slice p l.es.length c) l.es) (hl : l.es.length < 1000000) :
    Calls Tryz.prog 128 #[.agg #[.int .i64 l.b, .int .i64 l.bt, .int .u16 l.j.ov, .int .u16 l.j.ox, .int .u16 l.j.ol, .int .i64 l.j.oe, .int .i64 l.j.ok, .int .u16 l.j.nv, .int .u16 l.j.nx, .int .u16 l.j.nl, .int .i64 l.j.ne, .int .i64 l.j.nk, .bool l.j.two, .slice p l.es.length c], .agg #[.int .i64 e.t, .int .i64 e.k, .string e.d, .int .u16 e.j.ov, .int .u16 e.j.ox, .int .u16 e.j.ol, .int .i64 e.j.oe, .int .i64 e.j.ok, .int .u16 e.j.nv, .int .u16 e.j.nx, .int .u16 e.j.nl, .int .i64 e.j.ne, .int .i64 e.j.nk, .bool e.j.two]] w (LgEnd w.heap.size w (pushL l e)) := by
  have HE := Lib.hid hE
  clear hE
  go_enter Tryz.func128, Tryz.ntmps128
  go_wp2_with fail
  refine (front_any l p c l.es.length [e] (some ⟨w.heap.size + 1 + 1 + 1, 0, none⟩) 1 _ (Nat.le_refl _) ?_ ?_ ?_).mono ?_
  · exact HE.out.keep (B := w.heap.size) (((((Below.refl _ _).alloc (Nat.le_refl _) _).alloc (by simp) _).alloc (by simp; omega) _).alloc (by simp; omega) _) (Nat.le_refl _)
  · exact EnSl.one (heap_atL (by simp))
  · show l.es.length + 1 ≤ 1000000; omega
  rintro r w2 ⟨p3, c3, rfl, ho, hb⟩
  have hlen : (frontL l l.es.length [e]).es.length = l.es.length + 1 := by show (l.es.take l.es.length ++ [e]).length = _; rw [List.take_length, List.length_append]; rfl
  have hes : (frontL l l.es.length [e]).es = l.es ++ [e] := by show l.es.take l.es.length ++ [e] = _; rw [List.take_length]
  rw [hlen, hes] at ho
  rw [hlen]
  dsimp only [frontL]
  have hZ2 := below_block (n := w.heap.size + 1 + 1) hb (by simp) (heap_prev _ (heap_atL (by simp)))
  have hbw : Below w.heap.size w w2 := Below.trans (((((Below.refl _ _).alloc (Nat.le_refl _) _).alloc (by simp) _).alloc (by simp; omega) _).alloc (by simp; omega) _) (hb.mono (by simp; omega))
  have HO := Lib.hid (ho.mono (base' := w.heap.size + 3) (by simp))
  have HBW := Lib.hid hbw
  have HZ2 := Lib.hid hZ2
  have kZ := block_cells hZ2
  have fZ := block_free hZ2
  clear ho hb hbw hZ2 hlen hes
  go_wp2_with fail
  have F := put14_ok HZ2.out HBW.out (by omega) (.int .i64 l.b) (.int .i64 l.bt) (.int .u16 l.j.ov) (.int .u16 l.j.ox) (.int .u16 l.j.ol) (.int .i64 l.j.oe) (.int .i64 l.j.ok) (.int .u16 l.j.nv) (.int .u16 l.j.nx) (.int .u16 l.j.nl) (.int .i64 l.j.ne) (.int .i64 l.j.nk) (.bool l.j.two) (.slice p3 (l.es.length + 1) c3)
  have kF := block_cells F.1
  have G := own_farL HO.out (put14_grown w2 (w.heap.size + 1 + 1) (.int .i64 l.b) (.int .i64 l.bt) (.int .u16 l.j.ov) (.int .u16 l.j.ox) (.int .u16 l.j.ol) (.int .i64 l.j.oe) (.int .i64 l.j.ok) (.int .u16 l.j.nv) (.int .u16 l.j.nx) (.int .u16 l.j.nl) (.int .i64 l.j.ne) (.int .i64 l.j.nk) (.bool l.j.two) (.slice p3 (l.es.length + 1) c3)) (by omega)
  unfold put14 at F kF G
  have hlen : (pushL l e).es.length = l.es.length + 1 := by show (l.es ++ [e]).length = _; rw [List.length_append]; rfl
  refine bodyPost_ret (v := .agg #[.int .i64 l.b, .int .i64 l.bt, .int .u16 l.j.ov, .int .u16 l.j.ox, .int .u16 l.j.ol, .int .i64 l.j.oe, .int .i64 l.j.ok, .int .u16 l.j.nv, .int .u16 l.j.nx, .int .u16 l.j.nl, .int .i64 l.j.ne, .int .i64 l.j.nk, .bool l.j.two, .slice p3 (l.es.length + 1) c3]) ?_ rfl ?_
  · simp [results, Tryz.results128, go_sem, kF]
  · refine ⟨p3, c3, by rw [hlen]; rfl, ?_, F.2⟩
    rw [hlen]
    exact G.mono (by omega)
end Go.Proofs.YtbnndbdnejfehaaGreatDoor
