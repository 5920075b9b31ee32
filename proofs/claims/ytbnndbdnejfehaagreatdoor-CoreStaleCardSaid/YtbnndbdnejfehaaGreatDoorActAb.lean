/- Core: methods of an act: a vote is asked for (the program's asked). -/
import Derived.Test.YtbnndbdnejfehaaGreatDoorActAa
namespace Go.Proofs.YtbnndbdnejfehaaGreatDoor
open Go.ChangeShapes Go.WideShapes Go.ChangeAt Go.RowKit

/-- Who votes. -/
def voteC (c : Co) (m : Ms) : Co := if yesC c m = true then { c with vt := m.fr, wt := 0 } else c
theorem voteC_l (c : Co) (m : Ms) : (voteC c m).l = c.l := by unfold voteC; split <;> rfl
theorem asked_new {a : Ac} {m : Ms} (h : newerL a.c.l m.ix m.lt = true) : askedA a m = ⟨voteC a.c m, a.out ++ [putM (voteC a.c m) m.fr { ms0 with k := 2, yes := yesC a.c m }]⟩ := by
  unfold askedA; dsimp only; rw [if_pos h]; rfl
theorem asked_old {a : Ac} {m : Ms} (h : newerL a.c.l m.ix m.lt = false) : askedA a m = ⟨voteC a.c m, (a.out ++ [putM (voteC a.c m) m.fr { ms0 with k := 2, yes := yesC a.c m }]) ++ [putM (voteC a.c m) m.fr (lendM (voteC a.c m) m)]⟩ := by
  unfold askedA; dsimp only; rw [if_neg (by rw [h]; exact Bool.false_ne_true)]; rfl
theorem lendAt_l {c d : Co} {m : Ms} (h : d.l = c.l) : lendAt d m = lendAt c m := by unfold lendAt; rw [h]

set_option maxRecDepth 100000 in
set_option maxHeartbeats 16000000 in
theorem asked_act (B R : Nat) (c : Co) (p : Option Addr) (k : Nat) (v : Value) (l : List MsX) (m : Ms) (q : Option Addr) (d : Nat) (w : World) (h : AcW 69 B w R ⟨c, p, k⟩ v l) (hF : LgFit c.l) (hm : MgFit m) (hll : l.length ≤ 80000) :
    Calls Tryz.prog 39 #[.pointer (some ⟨R, 0, none⟩), .agg #[.int .i64 m.k, .int .i64 m.fr, .int .i64 m.dst, .int .i64 m.tm, .int .i64 m.ix, .int .i64 m.lt, .int .i64 m.cm, .int .i64 m.sf, .bool m.yes, .slice q m.es.length d, .string m.sn, .int .u16 m.cf.ov, .int .u16 m.cf.ox, .int .u16 m.cf.ol, .int .i64 m.cf.oe, .int .i64 m.cf.ok, .int .u16 m.cf.nv, .int .u16 m.cf.nx, .int .u16 m.cf.nl, .int .i64 m.cf.ne, .int .i64 m.cf.nk, .bool m.cf.two]] w (AcDo 69 B w R v (askedA ⟨c, l.map MsX.m⟩ m)) := by
  obtain ⟨W, hW⟩ : ∃ z : World, w.alloc (.cells #[.int .i64 m.k, .int .i64 m.fr, .int .i64 m.dst, .int .i64 m.tm, .int .i64 m.ix, .int .i64 m.lt, .int .i64 m.cm, .int .i64 m.sf, .bool m.yes, .slice q m.es.length d, .string m.sn, .int .u16 m.cf.ov, .int .u16 m.cf.ox, .int .u16 m.cf.ol, .int .i64 m.cf.oe, .int .i64 m.cf.ok, .int .u16 m.cf.nv, .int .u16 m.cf.nx, .int .u16 m.cf.nl, .int .i64 m.cf.ne, .int .i64 m.cf.nk, .bool m.cf.two] 39) = z := ⟨_, rfl⟩
  have hb : Below w.heap.size w W := by rw [← hW]; exact (Below.refl _ _).alloc (Nat.le_refl _) _
  have hX : W.heap[w.heap.size]? = some (.cells #[.int .i64 m.k, .int .i64 m.fr, .int .i64 m.dst, .int .i64 m.tm, .int .i64 m.ix, .int .i64 m.lt, .int .i64 m.cm, .int .i64 m.sf, .bool m.yes, .slice q m.es.length d, .string m.sn, .int .u16 m.cf.ov, .int .u16 m.cf.ox, .int .u16 m.cf.ol, .int .i64 m.cf.oe, .int .i64 m.cf.ok, .int .u16 m.cf.nv, .int .u16 m.cf.nx, .int .u16 m.cf.nl, .int .i64 m.cf.ne, .int .i64 m.cf.nk, .bool m.cf.two] 39 (0, 0)) := by rw [← hW]; exact heap_last w _
  obtain ⟨X, eX⟩ : ∃ X, w.heap.size = X := ⟨_, rfl⟩
  rw [eX] at hX
  have HA := Lib.hid (h.keep hb); have HB := Lib.hid (AcR.below (R := R) (v := v) hb)
  have HW := Lib.hid hW; have HEX := Lib.hid eX; have HX := Lib.hid hX
  have HF : Hid (LgFit c.l) := hF
  obtain ⟨A, hA⟩ : ∃ A, askedA ⟨c, l.map MsX.m⟩ m = A := ⟨_, rfl⟩
  have HAA := Lib.hid hA
  rw [hA]
  have HLL := Lib.hid hll
  have hix0 := hm.ix0; have hix1 := hm.ix1
  have hXR : X ≠ R := by have := h.lt; omega
  have hXv : v.ownBlock ≠ some X := fun e => by have := (h.vge _ e).2; omega
  obtain ⟨nw, hnw⟩ : ∃ nw, newerL c.l m.ix m.lt = nw := ⟨_, rfl⟩
  have HNW := Lib.hid hnw
  have hlb0 := hF.b0; have hlb1 := hF.b1; have hln := hF.n
  clear h hF hm hW hb hX eX hA hll hnw
  go_enter Tryz.func39, Tryz.ntmps39
  go_upto_region 1 with fail
  rw [HW.out]
  (try rw [HEX.out])
  clear HW
  go_upto_region 1 with fail
  have h0 : Below W.heap.size W W.drew := (Below.refl _ _).drew
  refine wp_region_held_drew (S := fun w' => Below W.heap.size W w') (by kernel_rfl) h0 (fun hHeld => ?_)
  obtain ⟨wd, ewd⟩ : ∃ x, W.drew = x := ⟨_, rfl⟩
  rewrite [ewd] at h0 hHeld ⊢
  have kx4 : ∀ w', Below W.heap.size W w' → w'.cell? ⟨X, 4, none⟩ = some (.int .i64 m.ix) := fun w' h => block_cells (below_block h (block_lt HX.out) HX.out) 4
  have kx5 : ∀ w', Below W.heap.size W w' → w'.cell? ⟨X, 5, none⟩ = some (.int .i64 m.lt) := fun w' h => block_cells (below_block h (block_lt HX.out) HX.out) 5
  clear ewd
  have HKL := Lib.hid (show ∀ w', Below W.heap.size W w' → w'.rangeAt R 8 [.int .i64 c.l.b, .int .i64 c.l.bt, .int .u16 c.l.j.ov, .int .u16 c.l.j.ox, .int .u16 c.l.j.ol, .int .i64 c.l.j.oe, .int .i64 c.l.j.ok, .int .u16 c.l.j.nv, .int .u16 c.l.j.nx, .int .u16 c.l.j.nl, .int .i64 c.l.j.ne, .int .i64 c.l.j.nk, .bool c.l.j.two, .slice p c.l.es.length k] from fun w' h => AskS.log (g := X) (n := 4) (u := .int .i64 m.ix) (AskS.of (HA.out.keep h) (block_cells (below_block h (block_lt HX.out) HX.out) 4)))
  refine tkH (i := 0) (v := ?_) rfl (Or.inl ⟨by rfl, ?_⟩) hHeld ?_
  rotate_left
  · (intro wz hSw; (try dsimp only at hSw); (try simp only [zA, zC]); go_simp; try with_reducible rfl)
  try simp only [zA, zC, Act.put, zD, zE, zF]
  refine tkH (i := 1) (v := ?_) rfl (Or.inl ⟨by rfl, ?_⟩) hHeld ?_
  rotate_left
  · (intro wz hSw; (try dsimp only at hSw); (try simp only [zA, zB, zC]); go_simp; try with_reducible rfl)
  try simp only [zA, zB, zC, Act.put, zD, zE, zF]
  refine tkH (i := 2) (v := ?_) rfl (Or.inl ⟨by rfl, ?_⟩) hHeld ?_
  rotate_left
  · (intro wz hSw; (try dsimp only at hSw); (try simp only [zA, zB, zC]); go_simp; try with_reducible rfl)
  try simp only [zA, zB, zC, Act.put, zD, zE, zF]
  refine tkH (i := 3) (v := ?_) rfl (Or.inl ⟨by rfl, ?_⟩) hHeld ?_
  rotate_left
  · (intro wz hSw; (try dsimp only at hSw); (try simp only [zA, zB, zC]); go_simp; try with_reducible rfl)
  try simp only [zA, zB, zC, Act.put, zD, zE, zF]
  refine tkH (i := 4) (v := .agg #[.int .i64 c.l.b, .int .i64 c.l.bt, .int .u16 c.l.j.ov, .int .u16 c.l.j.ox, .int .u16 c.l.j.ol, .int .i64 c.l.j.oe, .int .i64 c.l.j.ok, .int .u16 c.l.j.nv, .int .u16 c.l.j.nx, .int .u16 c.l.j.nl, .int .i64 c.l.j.ne, .int .i64 c.l.j.nk, .bool c.l.j.two, .slice p c.l.es.length k]) rfl (yieldsIf_load_mid (by rfl) _ _ rfl R 8 rfl [.int .i64 c.l.b, .int .i64 c.l.bt, .int .u16 c.l.j.ov, .int .u16 c.l.j.ox, .int .u16 c.l.j.ol, .int .i64 c.l.j.oe, .int .i64 c.l.j.ok, .int .u16 c.l.j.nv, .int .u16 c.l.j.nx, .int .u16 c.l.j.nl, .int .i64 c.l.j.ne, .int .i64 c.l.j.nk, .bool c.l.j.two, .slice p c.l.es.length k] _ HKL.out Tryz.underlying30 rfl (by kernel_rfl)) hHeld ?_
  try simp only [zA, zB, zC, Act.put, zD, zE, zF]
  refine tkH (i := 5) (v := ?_) rfl (Or.inl ⟨by rfl, ?_⟩) hHeld ?_
  rotate_left
  · (intro wz hSw; (try dsimp only at hSw); (try simp only [zA, zB, zC]); go_simp; try with_reducible rfl)
  try simp only [zA, zB, zC, Act.put, zD, zE, zF]
  refine tkH (i := 6) (v := ?_) rfl (Or.inl ⟨by rfl, ?_⟩) hHeld ?_
  rotate_left
  · (intro wz hSw; (try dsimp only at hSw); (try simp only [zA, zB, zC]); go_simp; try with_reducible rfl)
  try simp only [zA, zB, zC, Act.put, zD, zE, zF]
  refine tkH (i := 7) (v := ?_) rfl (Or.inl ⟨by rfl, ?_⟩) hHeld ?_
  rotate_left
  · (intro wz hSw; (try dsimp only at hSw); (try simp only [zA, zB, zC]); go_simp; try with_reducible rfl)
  try simp only [zA, zB, zC, Act.put, zD, zE, zF]
  refine tkH (i := 8) (v := ?_) rfl (Or.inl ⟨by rfl, ?_⟩) hHeld ?_
  rotate_left
  · (intro wz hSw; (try dsimp only at hSw); (try simp only [zA, zB, zC]); go_simp; try with_reducible rfl)
  try simp only [zA, zB, zC, Act.put, zD, zE, zF]
  refine wpAnyH_ready (rs := [9]) (by kernel_rfl) (by simp) ?_; refine AllReadyH.cons rfl (fun K hK => ?_) AllReadyH.nil; (try simp only [zA, zB, zC]); go_simp
  refine (show Calls Tryz.prog 90 #[.agg #[.int .i64 c.l.b, .int .i64 c.l.bt, .int .u16 c.l.j.ov, .int .u16 c.l.j.ox, .int .u16 c.l.j.ol, .int .i64 c.l.j.oe, .int .i64 c.l.j.ok, .int .u16 c.l.j.nv, .int .u16 c.l.j.nx, .int .u16 c.l.j.nl, .int .i64 c.l.j.ne, .int .i64 c.l.j.nk, .bool c.l.j.two, .slice p c.l.es.length k], .int .i64 m.ix, .int .i64 m.lt] wd fun r w2 => r = .returned (.bool nw) ∧ Below wd.heap.size wd w2 from by have := newer_any c.l p k m.ix m.lt wd HF.out ((EnSl.of_own HA.out.en).keep h0 (Nat.le_refl _)); rw [HNW.out] at this; exact this).mono ?_; rintro r0 w1 ⟨rfl, bs1⟩
  have s1 := h0.trans (bs1.mono h0.size)
  refine hK.out _ _ s1 (fun _ => ?_)
  clear hK K hHeld bs1 
  try simp only [zA, zB, zC, Act.put, zD, zE, zF]
  have hHeld := s1
  refine tkH (i := 10) (v := ?_) rfl (Or.inl ⟨by rfl, ?_⟩) hHeld ?_
  rotate_left
  · (intro wz hSw; (try dsimp only at hSw); (try simp only [zA, zB, zC]); go_simp; try with_reducible rfl)
  try simp only [zA, zB, zC, Act.put, zD, zE, zF]
  refine wpAnyH_done (by kernel_rfl) ?_ _
  have HA1 := Lib.hid (HA.out.keep s1); have HR1 := Lib.hid (HB.out.trans (AcR.below s1)); have HX1 := Lib.hid (below_block s1 (block_lt HX.out) HX.out)
  clear hHeld s1 h0 kx4 kx5 HA HB HX HKL
  go_upto_region 2 with fail
  go_cut [5] from 21 to 47 (fun b wx => ∃ z : Bool, b = .bool z ∧ Hid (yesC c m = z ∧ Below w1.heap.size w1 wx))
  case first =>
    go_upto_region 2 with fail
    have h0 : Below w1.heap.size w1 w1.drew := (Below.refl _ _).drew
    refine wp_region_held_drew (S := fun w' => Below w1.heap.size w1 w') (by kernel_rfl) h0 (fun hHeld => ?_)
    obtain ⟨we, ewd⟩ : ∃ x, w1.drew = x := ⟨_, rfl⟩
    rewrite [ewd] at h0 hHeld ⊢
    have kr : ∀ w', Below w1.heap.size w1 w' → w'.cell? ⟨R, 1, none⟩ = some (.int .i64 c.role) := fun w' h => block_cells (below_block h HA1.out.lt HA1.out.blk) 1
    have kv : ∀ w', Below w1.heap.size w1 w' → w'.cell? ⟨R, 3, none⟩ = some (.int .i64 c.vt) := fun w' h => block_cells (below_block h HA1.out.lt HA1.out.blk) 3
    have kf : ∀ w', Below w1.heap.size w1 w' → w'.cell? ⟨X, 1, none⟩ = some (.int .i64 m.fr) := fun w' h => block_cells (below_block h (block_lt HX1.out) HX1.out) 1
    clear ewd
    have HO := Lib.hid h0
    cases nw with
    | false =>
      have HY : Hid (yesC c m = false) := by show _ = _; unfold yesC; rw [HNW.out]; rfl
      refine tkH (i := 0) (v := ?_) rfl (Or.inl ⟨by rfl, ?_⟩) hHeld ?_
      rotate_left
      · (intro wz hSw; (try dsimp only at hSw); (try simp only [zA, zC]); go_simp; try with_reducible rfl)
      try simp only [zA, zC, Act.put, zD, zE, zF]
      refine tkH (i := 1) (v := ?_) rfl (Or.inl ⟨by rfl, ?_⟩) hHeld ?_
      rotate_left
      · (intro wz hSw; (try dsimp only at hSw); (try simp only [zA, zB, zC]); go_simp; try with_reducible rfl)
      try simp only [zA, zB, zC, Act.put, zD, zE, zF]
      refine tkH (i := 2) (v := undef) rfl (Or.inr ⟨by rfl, rfl⟩) hHeld ?_
      try simp only [zA, zB, zC, Act.put, zD, zE, zF]
      refine tkH (i := 3) (v := undef) rfl (Or.inr ⟨by rfl, rfl⟩) hHeld ?_
      try simp only [zA, zB, zC, Act.put, zD, zE, zF]
      refine tkH (i := 4) (v := undef) rfl (Or.inr ⟨by rfl, rfl⟩) hHeld ?_
      try simp only [zA, zB, zC, Act.put, zD, zE, zF]
      refine tkH (i := 5) (v := undef) rfl (Or.inr ⟨by rfl, rfl⟩) hHeld ?_
      try simp only [zA, zB, zC, Act.put, zD, zE, zF]
      refine tkH (i := 6) (v := undef) rfl (Or.inr ⟨by rfl, rfl⟩) hHeld ?_
      try simp only [zA, zB, zC, Act.put, zD, zE, zF]
      refine tkH (i := 7) (v := undef) rfl (Or.inr ⟨by rfl, rfl⟩) hHeld ?_
      try simp only [zA, zB, zC, Act.put, zD, zE, zF]
      refine tkH (i := 8) (v := ?_) rfl (Or.inl ⟨by rfl, ?_⟩) hHeld ?_
      rotate_left
      · (intro wz hSw; (try dsimp only at hSw); (try simp only [zA, zB, zC]); go_simp; try with_reducible rfl)
      try simp only [zA, zB, zC, Act.put, zD, zE, zF]
      refine tkH (i := 9) (v := ?_) rfl (Or.inl ⟨by rfl, ?_⟩) hHeld ?_
      rotate_left
      · (intro wz hSw; (try dsimp only at hSw); (try simp only [zA, zB, zC]); go_simp; try with_reducible rfl)
      try simp only [zA, zB, zC, Act.put, zD, zE, zF]
      refine tkH (i := 10) (v := undef) rfl (Or.inr ⟨by rfl, rfl⟩) hHeld ?_
      try simp only [zA, zB, zC, Act.put, zD, zE, zF]
      refine tkH (i := 11) (v := undef) rfl (Or.inr ⟨by rfl, rfl⟩) hHeld ?_
      try simp only [zA, zB, zC, Act.put, zD, zE, zF]
      refine tkH (i := 12) (v := undef) rfl (Or.inr ⟨by rfl, rfl⟩) hHeld ?_
      try simp only [zA, zB, zC, Act.put, zD, zE, zF]
      refine tkH (i := 13) (v := undef) rfl (Or.inr ⟨by rfl, rfl⟩) hHeld ?_
      try simp only [zA, zB, zC, Act.put, zD, zE, zF]
      refine tkH (i := 14) (v := undef) rfl (Or.inr ⟨by rfl, rfl⟩) hHeld ?_
      try simp only [zA, zB, zC, Act.put, zD, zE, zF]
      refine tkH (i := 15) (v := undef) rfl (Or.inr ⟨by rfl, rfl⟩) hHeld ?_
      try simp only [zA, zB, zC, Act.put, zD, zE, zF]
      refine tkH (i := 16) (v := undef) rfl (Or.inr ⟨by rfl, rfl⟩) hHeld ?_
      try simp only [zA, zB, zC, Act.put, zD, zE, zF]
      refine tkH (i := 17) (v := undef) rfl (Or.inr ⟨by rfl, rfl⟩) hHeld ?_
      try simp only [zA, zB, zC, Act.put, zD, zE, zF]
      refine tkH (i := 18) (v := undef) rfl (Or.inr ⟨by rfl, rfl⟩) hHeld ?_
      try simp only [zA, zB, zC, Act.put, zD, zE, zF]
      refine tkH (i := 19) (v := undef) rfl (Or.inr ⟨by rfl, rfl⟩) hHeld ?_
      try simp only [zA, zB, zC, Act.put, zD, zE, zF]
      refine tkH (i := 20) (v := undef) rfl (Or.inr ⟨by rfl, rfl⟩) hHeld ?_
      try simp only [zA, zB, zC, Act.put, zD, zE, zF]
      refine tkH (i := 21) (v := undef) rfl (Or.inr ⟨by rfl, rfl⟩) hHeld ?_
      try simp only [zA, zB, zC, Act.put, zD, zE, zF]
      refine tkH (i := 22) (v := undef) rfl (Or.inr ⟨by rfl, rfl⟩) hHeld ?_
      try simp only [zA, zB, zC, Act.put, zD, zE, zF]
      refine tkH (i := 23) (v := undef) rfl (Or.inr ⟨by rfl, rfl⟩) hHeld ?_
      try simp only [zA, zB, zC, Act.put, zD, zE, zF]
      refine tkH (i := 24) (v := undef) rfl (Or.inr ⟨by rfl, rfl⟩) hHeld ?_
      try simp only [zA, zB, zC, Act.put, zD, zE, zF]
      refine tkH (i := 25) (v := undef) rfl (Or.inr ⟨by rfl, rfl⟩) hHeld ?_
      try simp only [zA, zB, zC, Act.put, zD, zE, zF]
      refine tkH (i := 26) (v := ?_) rfl (Or.inl ⟨by rfl, ?_⟩) hHeld ?_
      rotate_left
      · (intro wz hSw; (try dsimp only at hSw); (try simp only [zA, zB, zC]); go_simp; try with_reducible rfl)
      try simp only [zA, zB, zC, Act.put, zD, zE, zF]
      refine tkH (i := 27) (v := ?_) rfl (Or.inl ⟨by rfl, ?_⟩) hHeld ?_
      rotate_left
      · (intro wz hSw; (try dsimp only at hSw); (try simp only [zA, zB, zC]); go_simp; try with_reducible rfl)
      try simp only [zA, zB, zC, Act.put, zD, zE, zF]
      refine wpAnyH_done (by kernel_rfl) ?_ _
      clear hHeld h0 kr kv kf
      go_wp2_with fail
      go_meet
      case rel => exact ⟨false, rfl, HY.out, HO.out⟩
    | true =>
      by_cases hr : c.role = 0
      · have hrb : (c.role == 0) = true := by simp [hr]
        have HRO := Lib.hid hr
        clear hr
        by_cases hv : c.vt = 0
        · have hvb : (c.vt == 0) = true := by simp [hv]
          have HY : Hid (yesC c m = true) := by show _ = _; unfold yesC; rw [HNW.out, HRO.out, hv]; rfl
          clear hv
          refine tkH (i := 0) (v := ?_) rfl (Or.inl ⟨by rfl, ?_⟩) hHeld ?_
          rotate_left
          · (intro wz hSw; (try dsimp only at hSw); (try simp only [zA, zC]); go_simp; try with_reducible rfl)
          try simp only [zA, zC, Act.put, zD, zE, zF]
          refine tkH (i := 1) (v := ?_) rfl (Or.inl ⟨by rfl, ?_⟩) hHeld ?_
          rotate_left
          · (intro wz hSw; (try dsimp only at hSw); (try simp only [zA, zB, zC]); go_simp; try with_reducible rfl)
          try simp only [zA, zB, zC, Act.put, zD, zE, zF]
          refine tkH (i := 2) (v := ?_) rfl (Or.inl ⟨by rfl, ?_⟩) hHeld ?_
          rotate_left
          · (intro wz hSw; (try dsimp only at hSw); (try simp only [zA, zB, zC]); go_simp; try with_reducible rfl)
          try simp only [zA, zB, zC, Act.put, zD, zE, zF]
          refine tkH (i := 3) (v := ?_) rfl (Or.inl ⟨by rfl, ?_⟩) hHeld ?_
          rotate_left
          · (intro wz hSw; (try dsimp only at hSw); (try simp only [zA, zB, zC]); go_simp; try with_reducible rfl)
          try simp only [zA, zB, zC, Act.put, zD, zE, zF]
          refine tkH (i := 4) (v := ?_) rfl (Or.inl ⟨by rfl, ?_⟩) hHeld ?_
          rotate_left
          · (intro wz hSw; (try dsimp only at hSw); (try simp only [zA, zB, zC]); go_simp; try with_reducible rfl)
          try simp only [zA, zB, zC, Act.put, zD, zE, zF]
          refine tkH (i := 5) (v := ?_) rfl (Or.inl ⟨by rfl, ?_⟩) hHeld ?_
          rotate_left
          · (intro wz hSw; (try dsimp only at hSw); (try simp only [zA, zB, zC]); go_simp; try with_reducible rfl)
          try simp only [zA, zB, zC, Act.put, zD, zE, zF]
          refine tkH (i := 6) (v := ?_) rfl (Or.inl ⟨by rfl, ?_⟩) hHeld ?_
          rotate_left
          · (intro wz hSw; (try dsimp only at hSw); (try simp only [zA, zB, zC]); go_simp; try with_reducible rfl)
          try simp only [zA, zB, zC, Act.put, zD, zE, zF]
          refine tkH (i := 7) (v := ?_) rfl (Or.inl ⟨by rfl, ?_⟩) hHeld ?_
          rotate_left
          · (intro wz hSw; (try dsimp only at hSw); (try simp only [zA, zB, zC]); go_simp; try with_reducible rfl)
          try simp only [zA, zB, zC, Act.put, zD, zE, zF]
          refine tkH (i := 8) (v := ?_) rfl (Or.inl ⟨by rfl, ?_⟩) hHeld ?_
          rotate_left
          · (intro wz hSw; (try dsimp only at hSw); (try simp only [zA, zB, zC]); go_simp; try with_reducible rfl)
          try simp only [zA, zB, zC, Act.put, zD, zE, zF]
          refine tkH (i := 9) (v := ?_) rfl (Or.inl ⟨by rfl, ?_⟩) hHeld ?_
          rotate_left
          · (intro wz hSw; (try dsimp only at hSw); (try simp only [zA, zB, zC]); go_simp; try with_reducible rfl)
          try simp only [zA, zB, zC, Act.put, zD, zE, zF]
          refine tkH (i := 10) (v := ?_) rfl (Or.inl ⟨by rfl, ?_⟩) hHeld ?_
          rotate_left
          · (intro wz hSw; (try dsimp only at hSw); (try simp only [zA, zB, zC]); go_simp; try with_reducible rfl)
          try simp only [zA, zB, zC, Act.put, zD, zE, zF]
          refine tkH (i := 11) (v := ?_) rfl (Or.inl ⟨by rfl, ?_⟩) hHeld ?_
          rotate_left
          · (intro wz hSw; (try dsimp only at hSw); (try simp only [zA, zB, zC]); go_simp; try with_reducible rfl)
          try simp only [zA, zB, zC, Act.put, zD, zE, zF]
          refine tkH (i := 12) (v := ?_) rfl (Or.inl ⟨by rfl, ?_⟩) hHeld ?_
          rotate_left
          · (intro wz hSw; (try dsimp only at hSw); (try simp only [zA, zB, zC]); go_simp; try with_reducible rfl)
          try simp only [zA, zB, zC, Act.put, zD, zE, zF]
          refine tkH (i := 13) (v := ?_) rfl (Or.inl ⟨by rfl, ?_⟩) hHeld ?_
          rotate_left
          · (intro wz hSw; (try dsimp only at hSw); (try simp only [zA, zB, zC]); go_simp; try with_reducible rfl)
          try simp only [zA, zB, zC, Act.put, zD, zE, zF]
          refine tkH (i := 14) (v := ?_) rfl (Or.inl ⟨by rfl, ?_⟩) hHeld ?_
          rotate_left
          · (intro wz hSw; (try dsimp only at hSw); (try simp only [zA, zB, zC]); go_simp; try with_reducible rfl)
          try simp only [zA, zB, zC, Act.put, zD, zE, zF]
          refine tkH (i := 15) (v := ?_) rfl (Or.inl ⟨by rfl, ?_⟩) hHeld ?_
          rotate_left
          · (intro wz hSw; (try dsimp only at hSw); (try simp only [zA, zB, zC]); go_simp; try with_reducible rfl)
          try simp only [zA, zB, zC, Act.put, zD, zE, zF]
          refine tkH (i := 16) (v := ?_) rfl (Or.inl ⟨by rfl, ?_⟩) hHeld ?_
          rotate_left
          · (intro wz hSw; (try dsimp only at hSw); (try simp only [zA, zB, zC]); go_simp; try with_reducible rfl)
          try simp only [zA, zB, zC, Act.put, zD, zE, zF]
          refine tkH (i := 17) (v := undef) rfl (Or.inr ⟨by rfl, rfl⟩) hHeld ?_
          try simp only [zA, zB, zC, Act.put, zD, zE, zF]
          refine tkH (i := 18) (v := undef) rfl (Or.inr ⟨by rfl, rfl⟩) hHeld ?_
          try simp only [zA, zB, zC, Act.put, zD, zE, zF]
          refine tkH (i := 19) (v := undef) rfl (Or.inr ⟨by rfl, rfl⟩) hHeld ?_
          try simp only [zA, zB, zC, Act.put, zD, zE, zF]
          refine tkH (i := 20) (v := undef) rfl (Or.inr ⟨by rfl, rfl⟩) hHeld ?_
          try simp only [zA, zB, zC, Act.put, zD, zE, zF]
          refine tkH (i := 21) (v := undef) rfl (Or.inr ⟨by rfl, rfl⟩) hHeld ?_
          try simp only [zA, zB, zC, Act.put, zD, zE, zF]
          refine tkH (i := 22) (v := undef) rfl (Or.inr ⟨by rfl, rfl⟩) hHeld ?_
          try simp only [zA, zB, zC, Act.put, zD, zE, zF]
          refine tkH (i := 23) (v := undef) rfl (Or.inr ⟨by rfl, rfl⟩) hHeld ?_
          try simp only [zA, zB, zC, Act.put, zD, zE, zF]
          refine tkH (i := 24) (v := undef) rfl (Or.inr ⟨by rfl, rfl⟩) hHeld ?_
          try simp only [zA, zB, zC, Act.put, zD, zE, zF]
          refine tkH (i := 25) (v := ?_) rfl (Or.inl ⟨by rfl, ?_⟩) hHeld ?_
          rotate_left
          · (intro wz hSw; (try dsimp only at hSw); (try simp only [zA, zB, zC]); go_simp; try with_reducible rfl)
          try simp only [zA, zB, zC, Act.put, zD, zE, zF]
          refine tkH (i := 26) (v := ?_) rfl (Or.inl ⟨by rfl, ?_⟩) hHeld ?_
          rotate_left
          · (intro wz hSw; (try dsimp only at hSw); (try simp only [zA, zB, zC]); go_simp; try with_reducible rfl)
          try simp only [zA, zB, zC, Act.put, zD, zE, zF]
          refine tkH (i := 27) (v := ?_) rfl (Or.inl ⟨by rfl, ?_⟩) hHeld ?_
          rotate_left
          · (intro wz hSw; (try dsimp only at hSw); (try simp only [zA, zB, zC]); go_simp; try with_reducible rfl)
          try simp only [zA, zB, zC, Act.put, zD, zE, zF]
          refine wpAnyH_done (by kernel_rfl) ?_ _
          clear hHeld h0 kr kv kf
          go_wp2_with fail
          go_meet
          case rel => exact ⟨true, rfl, HY.out, HO.out⟩
        · have hvb : (c.vt == 0) = false := by simp [hv]
          have HV := Lib.hid hv
          clear hv
          by_cases hf : c.vt = m.fr
          · have hfb : (c.vt == m.fr) = true := by simp [hf]
            have HY : Hid (yesC c m = true) := by show _ = _; unfold yesC; rw [HNW.out, HRO.out, decide_eq_true hf]; simp
            clear hf
            refine tkH (i := 0) (v := ?_) rfl (Or.inl ⟨by rfl, ?_⟩) hHeld ?_
            rotate_left
            · (intro wz hSw; (try dsimp only at hSw); (try simp only [zA, zC]); go_simp; try with_reducible rfl)
            try simp only [zA, zC, Act.put, zD, zE, zF]
            refine tkH (i := 1) (v := ?_) rfl (Or.inl ⟨by rfl, ?_⟩) hHeld ?_
            rotate_left
            · (intro wz hSw; (try dsimp only at hSw); (try simp only [zA, zB, zC]); go_simp; try with_reducible rfl)
            try simp only [zA, zB, zC, Act.put, zD, zE, zF]
            refine tkH (i := 2) (v := ?_) rfl (Or.inl ⟨by rfl, ?_⟩) hHeld ?_
            rotate_left
            · (intro wz hSw; (try dsimp only at hSw); (try simp only [zA, zB, zC]); go_simp; try with_reducible rfl)
            try simp only [zA, zB, zC, Act.put, zD, zE, zF]
            refine tkH (i := 3) (v := ?_) rfl (Or.inl ⟨by rfl, ?_⟩) hHeld ?_
            rotate_left
            · (intro wz hSw; (try dsimp only at hSw); (try simp only [zA, zB, zC]); go_simp; try with_reducible rfl)
            try simp only [zA, zB, zC, Act.put, zD, zE, zF]
            refine tkH (i := 4) (v := ?_) rfl (Or.inl ⟨by rfl, ?_⟩) hHeld ?_
            rotate_left
            · (intro wz hSw; (try dsimp only at hSw); (try simp only [zA, zB, zC]); go_simp; try with_reducible rfl)
            try simp only [zA, zB, zC, Act.put, zD, zE, zF]
            refine tkH (i := 5) (v := ?_) rfl (Or.inl ⟨by rfl, ?_⟩) hHeld ?_
            rotate_left
            · (intro wz hSw; (try dsimp only at hSw); (try simp only [zA, zB, zC]); go_simp; try with_reducible rfl)
            try simp only [zA, zB, zC, Act.put, zD, zE, zF]
            refine tkH (i := 6) (v := ?_) rfl (Or.inl ⟨by rfl, ?_⟩) hHeld ?_
            rotate_left
            · (intro wz hSw; (try dsimp only at hSw); (try simp only [zA, zB, zC]); go_simp; try with_reducible rfl)
            try simp only [zA, zB, zC, Act.put, zD, zE, zF]
            refine tkH (i := 7) (v := ?_) rfl (Or.inl ⟨by rfl, ?_⟩) hHeld ?_
            rotate_left
            · (intro wz hSw; (try dsimp only at hSw); (try simp only [zA, zB, zC]); go_simp; try with_reducible rfl)
            try simp only [zA, zB, zC, Act.put, zD, zE, zF]
            refine tkH (i := 8) (v := ?_) rfl (Or.inl ⟨by rfl, ?_⟩) hHeld ?_
            rotate_left
            · (intro wz hSw; (try dsimp only at hSw); (try simp only [zA, zB, zC]); go_simp; try with_reducible rfl)
            try simp only [zA, zB, zC, Act.put, zD, zE, zF]
            refine tkH (i := 9) (v := ?_) rfl (Or.inl ⟨by rfl, ?_⟩) hHeld ?_
            rotate_left
            · (intro wz hSw; (try dsimp only at hSw); (try simp only [zA, zB, zC]); go_simp; try with_reducible rfl)
            try simp only [zA, zB, zC, Act.put, zD, zE, zF]
            refine tkH (i := 10) (v := ?_) rfl (Or.inl ⟨by rfl, ?_⟩) hHeld ?_
            rotate_left
            · (intro wz hSw; (try dsimp only at hSw); (try simp only [zA, zB, zC]); go_simp; try with_reducible rfl)
            try simp only [zA, zB, zC, Act.put, zD, zE, zF]
            refine tkH (i := 11) (v := ?_) rfl (Or.inl ⟨by rfl, ?_⟩) hHeld ?_
            rotate_left
            · (intro wz hSw; (try dsimp only at hSw); (try simp only [zA, zB, zC]); go_simp; try with_reducible rfl)
            try simp only [zA, zB, zC, Act.put, zD, zE, zF]
            refine tkH (i := 12) (v := ?_) rfl (Or.inl ⟨by rfl, ?_⟩) hHeld ?_
            rotate_left
            · (intro wz hSw; (try dsimp only at hSw); (try simp only [zA, zB, zC]); go_simp; try with_reducible rfl)
            try simp only [zA, zB, zC, Act.put, zD, zE, zF]
            refine tkH (i := 13) (v := ?_) rfl (Or.inl ⟨by rfl, ?_⟩) hHeld ?_
            rotate_left
            · (intro wz hSw; (try dsimp only at hSw); (try simp only [zA, zB, zC]); go_simp; try with_reducible rfl)
            try simp only [zA, zB, zC, Act.put, zD, zE, zF]
            refine tkH (i := 14) (v := ?_) rfl (Or.inl ⟨by rfl, ?_⟩) hHeld ?_
            rotate_left
            · (intro wz hSw; (try dsimp only at hSw); (try simp only [zA, zB, zC]); go_simp; try with_reducible rfl)
            try simp only [zA, zB, zC, Act.put, zD, zE, zF]
            refine tkH (i := 15) (v := ?_) rfl (Or.inl ⟨by rfl, ?_⟩) hHeld ?_
            rotate_left
            · (intro wz hSw; (try dsimp only at hSw); (try simp only [zA, zB, zC]); go_simp; try with_reducible rfl)
            try simp only [zA, zB, zC, Act.put, zD, zE, zF]
            refine tkH (i := 16) (v := ?_) rfl (Or.inl ⟨by rfl, ?_⟩) hHeld ?_
            rotate_left
            · (intro wz hSw; (try dsimp only at hSw); (try simp only [zA, zB, zC]); go_simp; try with_reducible rfl)
            try simp only [zA, zB, zC, Act.put, zD, zE, zF]
            refine tkH (i := 17) (v := ?_) rfl (Or.inl ⟨by rfl, ?_⟩) hHeld ?_
            rotate_left
            · (intro wz hSw; (try dsimp only at hSw); (try simp only [zA, zB, zC]); go_simp; try with_reducible rfl)
            try simp only [zA, zB, zC, Act.put, zD, zE, zF]
            refine tkH (i := 18) (v := ?_) rfl (Or.inl ⟨by rfl, ?_⟩) hHeld ?_
            rotate_left
            · (intro wz hSw; (try dsimp only at hSw); (try simp only [zA, zB, zC]); go_simp; try with_reducible rfl)
            try simp only [zA, zB, zC, Act.put, zD, zE, zF]
            refine tkH (i := 19) (v := ?_) rfl (Or.inl ⟨by rfl, ?_⟩) hHeld ?_
            rotate_left
            · (intro wz hSw; (try dsimp only at hSw); (try simp only [zA, zB, zC]); go_simp; try with_reducible rfl)
            try simp only [zA, zB, zC, Act.put, zD, zE, zF]
            refine tkH (i := 20) (v := ?_) rfl (Or.inl ⟨by rfl, ?_⟩) hHeld ?_
            rotate_left
            · (intro wz hSw; (try dsimp only at hSw); (try simp only [zA, zB, zC]); go_simp; try with_reducible rfl)
            try simp only [zA, zB, zC, Act.put, zD, zE, zF]
            refine tkH (i := 21) (v := ?_) rfl (Or.inl ⟨by rfl, ?_⟩) hHeld ?_
            rotate_left
            · (intro wz hSw; (try dsimp only at hSw); (try simp only [zA, zB, zC]); go_simp; try with_reducible rfl)
            try simp only [zA, zB, zC, Act.put, zD, zE, zF]
            refine tkH (i := 22) (v := ?_) rfl (Or.inl ⟨by rfl, ?_⟩) hHeld ?_
            rotate_left
            · (intro wz hSw; (try dsimp only at hSw); (try simp only [zA, zB, zC]); go_simp; try with_reducible rfl)
            try simp only [zA, zB, zC, Act.put, zD, zE, zF]
            refine tkH (i := 23) (v := ?_) rfl (Or.inl ⟨by rfl, ?_⟩) hHeld ?_
            rotate_left
            · (intro wz hSw; (try dsimp only at hSw); (try simp only [zA, zB, zC]); go_simp; try with_reducible rfl)
            try simp only [zA, zB, zC, Act.put, zD, zE, zF]
            refine tkH (i := 24) (v := ?_) rfl (Or.inl ⟨by rfl, ?_⟩) hHeld ?_
            rotate_left
            · (intro wz hSw; (try dsimp only at hSw); (try simp only [zA, zB, zC]); go_simp; try with_reducible rfl)
            try simp only [zA, zB, zC, Act.put, zD, zE, zF]
            refine tkH (i := 25) (v := ?_) rfl (Or.inl ⟨by rfl, ?_⟩) hHeld ?_
            rotate_left
            · (intro wz hSw; (try dsimp only at hSw); (try simp only [zA, zB, zC]); go_simp; try with_reducible rfl)
            try simp only [zA, zB, zC, Act.put, zD, zE, zF]
            refine tkH (i := 26) (v := ?_) rfl (Or.inl ⟨by rfl, ?_⟩) hHeld ?_
            rotate_left
            · (intro wz hSw; (try dsimp only at hSw); (try simp only [zA, zB, zC]); go_simp; try with_reducible rfl)
            try simp only [zA, zB, zC, Act.put, zD, zE, zF]
            refine tkH (i := 27) (v := ?_) rfl (Or.inl ⟨by rfl, ?_⟩) hHeld ?_
            rotate_left
            · (intro wz hSw; (try dsimp only at hSw); (try simp only [zA, zB, zC]); go_simp; try with_reducible rfl)
            try simp only [zA, zB, zC, Act.put, zD, zE, zF]
            refine wpAnyH_done (by kernel_rfl) ?_ _
            clear hHeld h0 kr kv kf
            go_wp2_with fail
            go_meet
            case rel => exact ⟨true, rfl, HY.out, HO.out⟩
          · have hfb : (c.vt == m.fr) = false := by simp [hf]
            have HY : Hid (yesC c m = false) := by show _ = _; unfold yesC; rw [HNW.out, HRO.out, decide_eq_false hf, decide_eq_false HV.out]; simp
            clear hf
            refine tkH (i := 0) (v := ?_) rfl (Or.inl ⟨by rfl, ?_⟩) hHeld ?_
            rotate_left
            · (intro wz hSw; (try dsimp only at hSw); (try simp only [zA, zC]); go_simp; try with_reducible rfl)
            try simp only [zA, zC, Act.put, zD, zE, zF]
            refine tkH (i := 1) (v := ?_) rfl (Or.inl ⟨by rfl, ?_⟩) hHeld ?_
            rotate_left
            · (intro wz hSw; (try dsimp only at hSw); (try simp only [zA, zB, zC]); go_simp; try with_reducible rfl)
            try simp only [zA, zB, zC, Act.put, zD, zE, zF]
            refine tkH (i := 2) (v := ?_) rfl (Or.inl ⟨by rfl, ?_⟩) hHeld ?_
            rotate_left
            · (intro wz hSw; (try dsimp only at hSw); (try simp only [zA, zB, zC]); go_simp; try with_reducible rfl)
            try simp only [zA, zB, zC, Act.put, zD, zE, zF]
            refine tkH (i := 3) (v := ?_) rfl (Or.inl ⟨by rfl, ?_⟩) hHeld ?_
            rotate_left
            · (intro wz hSw; (try dsimp only at hSw); (try simp only [zA, zB, zC]); go_simp; try with_reducible rfl)
            try simp only [zA, zB, zC, Act.put, zD, zE, zF]
            refine tkH (i := 4) (v := ?_) rfl (Or.inl ⟨by rfl, ?_⟩) hHeld ?_
            rotate_left
            · (intro wz hSw; (try dsimp only at hSw); (try simp only [zA, zB, zC]); go_simp; try with_reducible rfl)
            try simp only [zA, zB, zC, Act.put, zD, zE, zF]
            refine tkH (i := 5) (v := ?_) rfl (Or.inl ⟨by rfl, ?_⟩) hHeld ?_
            rotate_left
            · (intro wz hSw; (try dsimp only at hSw); (try simp only [zA, zB, zC]); go_simp; try with_reducible rfl)
            try simp only [zA, zB, zC, Act.put, zD, zE, zF]
            refine tkH (i := 6) (v := ?_) rfl (Or.inl ⟨by rfl, ?_⟩) hHeld ?_
            rotate_left
            · (intro wz hSw; (try dsimp only at hSw); (try simp only [zA, zB, zC]); go_simp; try with_reducible rfl)
            try simp only [zA, zB, zC, Act.put, zD, zE, zF]
            refine tkH (i := 7) (v := ?_) rfl (Or.inl ⟨by rfl, ?_⟩) hHeld ?_
            rotate_left
            · (intro wz hSw; (try dsimp only at hSw); (try simp only [zA, zB, zC]); go_simp; try with_reducible rfl)
            try simp only [zA, zB, zC, Act.put, zD, zE, zF]
            refine tkH (i := 8) (v := ?_) rfl (Or.inl ⟨by rfl, ?_⟩) hHeld ?_
            rotate_left
            · (intro wz hSw; (try dsimp only at hSw); (try simp only [zA, zB, zC]); go_simp; try with_reducible rfl)
            try simp only [zA, zB, zC, Act.put, zD, zE, zF]
            refine tkH (i := 9) (v := ?_) rfl (Or.inl ⟨by rfl, ?_⟩) hHeld ?_
            rotate_left
            · (intro wz hSw; (try dsimp only at hSw); (try simp only [zA, zB, zC]); go_simp; try with_reducible rfl)
            try simp only [zA, zB, zC, Act.put, zD, zE, zF]
            refine tkH (i := 10) (v := ?_) rfl (Or.inl ⟨by rfl, ?_⟩) hHeld ?_
            rotate_left
            · (intro wz hSw; (try dsimp only at hSw); (try simp only [zA, zB, zC]); go_simp; try with_reducible rfl)
            try simp only [zA, zB, zC, Act.put, zD, zE, zF]
            refine tkH (i := 11) (v := ?_) rfl (Or.inl ⟨by rfl, ?_⟩) hHeld ?_
            rotate_left
            · (intro wz hSw; (try dsimp only at hSw); (try simp only [zA, zB, zC]); go_simp; try with_reducible rfl)
            try simp only [zA, zB, zC, Act.put, zD, zE, zF]
            refine tkH (i := 12) (v := ?_) rfl (Or.inl ⟨by rfl, ?_⟩) hHeld ?_
            rotate_left
            · (intro wz hSw; (try dsimp only at hSw); (try simp only [zA, zB, zC]); go_simp; try with_reducible rfl)
            try simp only [zA, zB, zC, Act.put, zD, zE, zF]
            refine tkH (i := 13) (v := ?_) rfl (Or.inl ⟨by rfl, ?_⟩) hHeld ?_
            rotate_left
            · (intro wz hSw; (try dsimp only at hSw); (try simp only [zA, zB, zC]); go_simp; try with_reducible rfl)
            try simp only [zA, zB, zC, Act.put, zD, zE, zF]
            refine tkH (i := 14) (v := ?_) rfl (Or.inl ⟨by rfl, ?_⟩) hHeld ?_
            rotate_left
            · (intro wz hSw; (try dsimp only at hSw); (try simp only [zA, zB, zC]); go_simp; try with_reducible rfl)
            try simp only [zA, zB, zC, Act.put, zD, zE, zF]
            refine tkH (i := 15) (v := ?_) rfl (Or.inl ⟨by rfl, ?_⟩) hHeld ?_
            rotate_left
            · (intro wz hSw; (try dsimp only at hSw); (try simp only [zA, zB, zC]); go_simp; try with_reducible rfl)
            try simp only [zA, zB, zC, Act.put, zD, zE, zF]
            refine tkH (i := 16) (v := ?_) rfl (Or.inl ⟨by rfl, ?_⟩) hHeld ?_
            rotate_left
            · (intro wz hSw; (try dsimp only at hSw); (try simp only [zA, zB, zC]); go_simp; try with_reducible rfl)
            try simp only [zA, zB, zC, Act.put, zD, zE, zF]
            refine tkH (i := 17) (v := ?_) rfl (Or.inl ⟨by rfl, ?_⟩) hHeld ?_
            rotate_left
            · (intro wz hSw; (try dsimp only at hSw); (try simp only [zA, zB, zC]); go_simp; try with_reducible rfl)
            try simp only [zA, zB, zC, Act.put, zD, zE, zF]
            refine tkH (i := 18) (v := ?_) rfl (Or.inl ⟨by rfl, ?_⟩) hHeld ?_
            rotate_left
            · (intro wz hSw; (try dsimp only at hSw); (try simp only [zA, zB, zC]); go_simp; try with_reducible rfl)
            try simp only [zA, zB, zC, Act.put, zD, zE, zF]
            refine tkH (i := 19) (v := ?_) rfl (Or.inl ⟨by rfl, ?_⟩) hHeld ?_
            rotate_left
            · (intro wz hSw; (try dsimp only at hSw); (try simp only [zA, zB, zC]); go_simp; try with_reducible rfl)
            try simp only [zA, zB, zC, Act.put, zD, zE, zF]
            refine tkH (i := 20) (v := ?_) rfl (Or.inl ⟨by rfl, ?_⟩) hHeld ?_
            rotate_left
            · (intro wz hSw; (try dsimp only at hSw); (try simp only [zA, zB, zC]); go_simp; try with_reducible rfl)
            try simp only [zA, zB, zC, Act.put, zD, zE, zF]
            refine tkH (i := 21) (v := ?_) rfl (Or.inl ⟨by rfl, ?_⟩) hHeld ?_
            rotate_left
            · (intro wz hSw; (try dsimp only at hSw); (try simp only [zA, zB, zC]); go_simp; try with_reducible rfl)
            try simp only [zA, zB, zC, Act.put, zD, zE, zF]
            refine tkH (i := 22) (v := ?_) rfl (Or.inl ⟨by rfl, ?_⟩) hHeld ?_
            rotate_left
            · (intro wz hSw; (try dsimp only at hSw); (try simp only [zA, zB, zC]); go_simp; try with_reducible rfl)
            try simp only [zA, zB, zC, Act.put, zD, zE, zF]
            refine tkH (i := 23) (v := ?_) rfl (Or.inl ⟨by rfl, ?_⟩) hHeld ?_
            rotate_left
            · (intro wz hSw; (try dsimp only at hSw); (try simp only [zA, zB, zC]); go_simp; try with_reducible rfl)
            try simp only [zA, zB, zC, Act.put, zD, zE, zF]
            refine tkH (i := 24) (v := ?_) rfl (Or.inl ⟨by rfl, ?_⟩) hHeld ?_
            rotate_left
            · (intro wz hSw; (try dsimp only at hSw); (try simp only [zA, zB, zC]); go_simp; try with_reducible rfl)
            try simp only [zA, zB, zC, Act.put, zD, zE, zF]
            refine tkH (i := 25) (v := ?_) rfl (Or.inl ⟨by rfl, ?_⟩) hHeld ?_
            rotate_left
            · (intro wz hSw; (try dsimp only at hSw); (try simp only [zA, zB, zC]); go_simp; try with_reducible rfl)
            try simp only [zA, zB, zC, Act.put, zD, zE, zF]
            refine tkH (i := 26) (v := ?_) rfl (Or.inl ⟨by rfl, ?_⟩) hHeld ?_
            rotate_left
            · (intro wz hSw; (try dsimp only at hSw); (try simp only [zA, zB, zC]); go_simp; try with_reducible rfl)
            try simp only [zA, zB, zC, Act.put, zD, zE, zF]
            refine tkH (i := 27) (v := ?_) rfl (Or.inl ⟨by rfl, ?_⟩) hHeld ?_
            rotate_left
            · (intro wz hSw; (try dsimp only at hSw); (try simp only [zA, zB, zC]); go_simp; try with_reducible rfl)
            try simp only [zA, zB, zC, Act.put, zD, zE, zF]
            refine wpAnyH_done (by kernel_rfl) ?_ _
            clear hHeld h0 kr kv kf
            go_wp2_with fail
            go_meet
            case rel => exact ⟨false, rfl, HY.out, HO.out⟩
      · have hrb : (c.role == 0) = false := by simp [hr]
        have HY : Hid (yesC c m = false) := by show _ = _; unfold yesC; rw [decide_eq_false hr]; simp
        clear hr
        refine tkH (i := 0) (v := ?_) rfl (Or.inl ⟨by rfl, ?_⟩) hHeld ?_
        rotate_left
        · (intro wz hSw; (try dsimp only at hSw); (try simp only [zA, zC]); go_simp; try with_reducible rfl)
        try simp only [zA, zC, Act.put, zD, zE, zF]
        refine tkH (i := 1) (v := ?_) rfl (Or.inl ⟨by rfl, ?_⟩) hHeld ?_
        rotate_left
        · (intro wz hSw; (try dsimp only at hSw); (try simp only [zA, zB, zC]); go_simp; try with_reducible rfl)
        try simp only [zA, zB, zC, Act.put, zD, zE, zF]
        refine tkH (i := 2) (v := ?_) rfl (Or.inl ⟨by rfl, ?_⟩) hHeld ?_
        rotate_left
        · (intro wz hSw; (try dsimp only at hSw); (try simp only [zA, zB, zC]); go_simp; try with_reducible rfl)
        try simp only [zA, zB, zC, Act.put, zD, zE, zF]
        refine tkH (i := 3) (v := ?_) rfl (Or.inl ⟨by rfl, ?_⟩) hHeld ?_
        rotate_left
        · (intro wz hSw; (try dsimp only at hSw); (try simp only [zA, zB, zC]); go_simp; try with_reducible rfl)
        try simp only [zA, zB, zC, Act.put, zD, zE, zF]
        refine tkH (i := 4) (v := ?_) rfl (Or.inl ⟨by rfl, ?_⟩) hHeld ?_
        rotate_left
        · (intro wz hSw; (try dsimp only at hSw); (try simp only [zA, zB, zC]); go_simp; try with_reducible rfl)
        try simp only [zA, zB, zC, Act.put, zD, zE, zF]
        refine tkH (i := 5) (v := ?_) rfl (Or.inl ⟨by rfl, ?_⟩) hHeld ?_
        rotate_left
        · (intro wz hSw; (try dsimp only at hSw); (try simp only [zA, zB, zC]); go_simp; try with_reducible rfl)
        try simp only [zA, zB, zC, Act.put, zD, zE, zF]
        refine tkH (i := 6) (v := ?_) rfl (Or.inl ⟨by rfl, ?_⟩) hHeld ?_
        rotate_left
        · (intro wz hSw; (try dsimp only at hSw); (try simp only [zA, zB, zC]); go_simp; try with_reducible rfl)
        try simp only [zA, zB, zC, Act.put, zD, zE, zF]
        refine tkH (i := 7) (v := ?_) rfl (Or.inl ⟨by rfl, ?_⟩) hHeld ?_
        rotate_left
        · (intro wz hSw; (try dsimp only at hSw); (try simp only [zA, zB, zC]); go_simp; try with_reducible rfl)
        try simp only [zA, zB, zC, Act.put, zD, zE, zF]
        refine tkH (i := 8) (v := ?_) rfl (Or.inl ⟨by rfl, ?_⟩) hHeld ?_
        rotate_left
        · (intro wz hSw; (try dsimp only at hSw); (try simp only [zA, zB, zC]); go_simp; try with_reducible rfl)
        try simp only [zA, zB, zC, Act.put, zD, zE, zF]
        refine tkH (i := 9) (v := ?_) rfl (Or.inl ⟨by rfl, ?_⟩) hHeld ?_
        rotate_left
        · (intro wz hSw; (try dsimp only at hSw); (try simp only [zA, zB, zC]); go_simp; try with_reducible rfl)
        try simp only [zA, zB, zC, Act.put, zD, zE, zF]
        refine tkH (i := 10) (v := undef) rfl (Or.inr ⟨by rfl, rfl⟩) hHeld ?_
        try simp only [zA, zB, zC, Act.put, zD, zE, zF]
        refine tkH (i := 11) (v := undef) rfl (Or.inr ⟨by rfl, rfl⟩) hHeld ?_
        try simp only [zA, zB, zC, Act.put, zD, zE, zF]
        refine tkH (i := 12) (v := undef) rfl (Or.inr ⟨by rfl, rfl⟩) hHeld ?_
        try simp only [zA, zB, zC, Act.put, zD, zE, zF]
        refine tkH (i := 13) (v := undef) rfl (Or.inr ⟨by rfl, rfl⟩) hHeld ?_
        try simp only [zA, zB, zC, Act.put, zD, zE, zF]
        refine tkH (i := 14) (v := undef) rfl (Or.inr ⟨by rfl, rfl⟩) hHeld ?_
        try simp only [zA, zB, zC, Act.put, zD, zE, zF]
        refine tkH (i := 15) (v := undef) rfl (Or.inr ⟨by rfl, rfl⟩) hHeld ?_
        try simp only [zA, zB, zC, Act.put, zD, zE, zF]
        refine tkH (i := 16) (v := undef) rfl (Or.inr ⟨by rfl, rfl⟩) hHeld ?_
        try simp only [zA, zB, zC, Act.put, zD, zE, zF]
        refine tkH (i := 17) (v := undef) rfl (Or.inr ⟨by rfl, rfl⟩) hHeld ?_
        try simp only [zA, zB, zC, Act.put, zD, zE, zF]
        refine tkH (i := 18) (v := undef) rfl (Or.inr ⟨by rfl, rfl⟩) hHeld ?_
        try simp only [zA, zB, zC, Act.put, zD, zE, zF]
        refine tkH (i := 19) (v := undef) rfl (Or.inr ⟨by rfl, rfl⟩) hHeld ?_
        try simp only [zA, zB, zC, Act.put, zD, zE, zF]
        refine tkH (i := 20) (v := undef) rfl (Or.inr ⟨by rfl, rfl⟩) hHeld ?_
        try simp only [zA, zB, zC, Act.put, zD, zE, zF]
        refine tkH (i := 21) (v := undef) rfl (Or.inr ⟨by rfl, rfl⟩) hHeld ?_
        try simp only [zA, zB, zC, Act.put, zD, zE, zF]
        refine tkH (i := 22) (v := undef) rfl (Or.inr ⟨by rfl, rfl⟩) hHeld ?_
        try simp only [zA, zB, zC, Act.put, zD, zE, zF]
        refine tkH (i := 23) (v := undef) rfl (Or.inr ⟨by rfl, rfl⟩) hHeld ?_
        try simp only [zA, zB, zC, Act.put, zD, zE, zF]
        refine tkH (i := 24) (v := undef) rfl (Or.inr ⟨by rfl, rfl⟩) hHeld ?_
        try simp only [zA, zB, zC, Act.put, zD, zE, zF]
        refine tkH (i := 25) (v := undef) rfl (Or.inr ⟨by rfl, rfl⟩) hHeld ?_
        try simp only [zA, zB, zC, Act.put, zD, zE, zF]
        refine tkH (i := 26) (v := ?_) rfl (Or.inl ⟨by rfl, ?_⟩) hHeld ?_
        rotate_left
        · (intro wz hSw; (try dsimp only at hSw); (try simp only [zA, zB, zC]); go_simp; try with_reducible rfl)
        try simp only [zA, zB, zC, Act.put, zD, zE, zF]
        refine tkH (i := 27) (v := ?_) rfl (Or.inl ⟨by rfl, ?_⟩) hHeld ?_
        rotate_left
        · (intro wz hSw; (try dsimp only at hSw); (try simp only [zA, zB, zC]); go_simp; try with_reducible rfl)
        try simp only [zA, zB, zC, Act.put, zD, zE, zF]
        refine wpAnyH_done (by kernel_rfl) ?_ _
        clear hHeld h0 kr kv kf
        go_wp2_with fail
        go_meet
        case rel => exact ⟨false, rfl, HY.out, HO.out⟩
  obtain ⟨W2, hW2⟩ : ∃ z : World, z = wc := ⟨_, rfl⟩
  rw [← hW2] at hcut ⊢
  obtain ⟨yes, rfl, hcut⟩ := hcut
  obtain ⟨hyes, hb2⟩ := hcut.out
  have HA2 := Lib.hid (HA1.out.keep hb2); have HR2 := Lib.hid (HR1.out.trans (AcR.below hb2)); have HX2 := Lib.hid (below_block hb2 (block_lt HX1.out) HX1.out)
  obtain ⟨cy, hcy⟩ : ∃ cy, voteC c m = cy := ⟨_, rfl⟩
  have HCY := Lib.hid hcy; have HYES := Lib.hid hyes
  have HCYL := Lib.hid (show cy.l = c.l from by rw [← hcy]; exact voteC_l c m)
  clear hW2 hcut hb2 hcy hyes HA1 HR1 HX1
  go_upto_if 48 with fail
  go_cut [] from 48 to 58 (fun wx => Hid (AcW 69 B wx R ⟨cy, p, k⟩ v l ∧ AcR w wx R v v ∧ wx.heap[X]? = some (.cells #[.int .i64 m.k, .int .i64 m.fr, .int .i64 m.dst, .int .i64 m.tm, .int .i64 m.ix, .int .i64 m.lt, .int .i64 m.cm, .int .i64 m.sf, .bool m.yes, .slice q m.es.length d, .string m.sn, .int .u16 m.cf.ov, .int .u16 m.cf.ox, .int .u16 m.cf.ol, .int .i64 m.cf.oe, .int .i64 m.cf.ok, .int .u16 m.cf.nv, .int .u16 m.cf.nx, .int .u16 m.cf.nl, .int .i64 m.cf.ne, .int .i64 m.cf.nk, .bool m.cf.two] 39 (0, 0))))
  case first =>
    cases yes with
    | true =>
      have hcc : cy = { c with vt := m.fr, wt := 0 } := by rw [← HCY.out]; unfold voteC; rw [if_pos HYES.out]
      have hq1 := HA2.out.put 3 (.int .i64 m.fr) (by decide) ⟨{ c with vt := m.fr }, p, k⟩ rfl rfl rfl rfl
      have hq2 := hq1.1.put 5 (.int .i64 0) (by decide) ⟨{ c with vt := m.fr, wt := 0 }, p, k⟩ rfl rfl rfl rfl
      rw [← hcc] at hq2
      have y1 := (hq1.2.blk HX2.out hXR hXv).1
      have y2 := (hq2.2.blk y1 hXR hXv).1
      have HO := Lib.hid (And.intro hq2.1 (And.intro ((HR2.out.trans hq1.2).trans hq2.2) y2))
      have kf : W2.cell? ⟨X, 1, none⟩ = some (.int .i64 m.fr) := block_cells HX2.out 1
      have k3 : W2.cell? ⟨R, 3, none⟩ = some (.int .i64 c.vt) := block_cells HA2.out.blk 3
      have f3 : W2.frozen? ⟨R, 3, none⟩ = false := block_free HA2.out.blk 3
      have k5 : (W2.setCell ⟨R, 3, none⟩ (.int .i64 m.fr)).cell? ⟨R, 5, none⟩ = some (.int .i64 c.wt) := block_cells hq1.1.blk 5
      have f5 : (W2.setCell ⟨R, 3, none⟩ (.int .i64 m.fr)).frozen? ⟨R, 5, none⟩ = false := block_free hq1.1.blk 5
      clear hcc hq1 hq2 y1 y2
      go_wp2_with fail
      go_meet
      case rel => exact HO
    | false =>
      have hcc : cy = c := by rw [← HCY.out]; unfold voteC; rw [if_neg (by rw [HYES.out]; exact Bool.false_ne_true)]
      have HO : Hid (AcW 69 B W2 R ⟨cy, p, k⟩ v l ∧ AcR w W2 R v v ∧ W2.heap[X]? = some (.cells #[.int .i64 m.k, .int .i64 m.fr, .int .i64 m.dst, .int .i64 m.tm, .int .i64 m.ix, .int .i64 m.lt, .int .i64 m.cm, .int .i64 m.sf, .bool m.yes, .slice q m.es.length d, .string m.sn, .int .u16 m.cf.ov, .int .u16 m.cf.ox, .int .u16 m.cf.ol, .int .i64 m.cf.oe, .int .i64 m.cf.ok, .int .u16 m.cf.nv, .int .u16 m.cf.nx, .int .u16 m.cf.nl, .int .i64 m.cf.ne, .int .i64 m.cf.nk, .bool m.cf.two] 39 (0, 0))) := ⟨by rw [hcc]; exact HA2.out, HR2.out, HX2.out⟩
      clear hcc
      go_wp2_with fail
      go_meet
      case rel => exact HO
  obtain ⟨W3, hW3⟩ : ∃ z : World, z = wc := ⟨_, rfl⟩
  rw [← hW3] at hcut ⊢
  have HA3 := Lib.hid hcut.out.1; have HR3 := Lib.hid hcut.out.2.1; have HX3 := Lib.hid hcut.out.2.2
  clear hW3 hcut HA2 HR2 HX2
  have kf : W3.cell? ⟨X, 1, none⟩ = some (.int .i64 m.fr) := block_cells HX3.out 1
  have HSE := Lib.hid (show Calls Tryz.prog 89 #[.pointer (some ⟨R, 0, none⟩), .int .i64 m.fr, .agg #[.int .i64 2, .int .i64 0, .int .i64 0, .int .i64 0, .int .i64 0, .int .i64 0, .int .i64 0, .int .i64 0, .bool yes, .slice none 0 0, .string ⟨#[]⟩, .int .u16 0, .int .u16 0, .int .u16 0, .int .i64 0, .int .i64 0, .int .u16 0, .int .u16 0, .int .u16 0, .int .i64 0, .int .i64 0, .bool false]] W3 fun e w' => e = .returned (.tuple #[]) ∧ ∃ v2, AcW 69 B w' R ⟨cy, p, k⟩ v2 (l ++ [⟨putM cy m.fr { ms0 with k := 2, yes := yes }, none, 0⟩]) ∧ AcR W3 w' R v v2 from send_act B R cy p k v l m.fr { ms0 with k := 2, yes := yes } none 0 W3 HA3.out (MsOwn.none rfl) (fun b hb => by cases hb) (by have := HLL.out; omega))
  go_wp2_with fail
  refine HSE.out.mono ?_; rintro r w4 ⟨rfl, v4, hA4, hr4⟩
  have HA4 := Lib.hid hA4; have HR4 := Lib.hid (HR3.out.trans hr4)
  have hx4 := hr4.blk HX3.out hXR hXv
  have HX4 := Lib.hid hx4.1; have HXV4 := Lib.hid hx4.2
  clear hA4 hr4 hx4 HSE HA3 HR3 HX3 kf
  cases nw with
  | true =>
    have HZ : Hid (A = ⟨cy, l.map MsX.m ++ [putM cy m.fr { ms0 with k := 2, yes := yes }]⟩) := by show _ = _; rw [← HAA.out, ← HCY.out, ← HYES.out]; exact asked_new HNW.out
    have HO : Hid (AcDo 69 B w R v A (.returned (.tuple #[])) w4) := AcDo.sent HZ.out HA4.out HR4.out
    go_wp2_with fail
    first | go_end0 | refine bodyPost_ret (results_none rfl _ _ _) rfl ?_
    exact HO.out
  | false =>
    obtain ⟨l2, hl2⟩ : ∃ l2, l ++ [(⟨putM cy m.fr { ms0 with k := 2, yes := yes }, none, 0⟩ : MsX)] = l2 := ⟨_, rfl⟩
    rw [hl2] at HA4
    have hl2m : l2.map MsX.m = l.map MsX.m ++ [putM cy m.fr { ms0 with k := 2, yes := yes }] := by rw [← hl2, List.map_append]; rfl
    have HL2N := Lib.hid (show l2.length = l.length + 1 from by rw [← hl2]; simp)
    have HZ : Hid (A = ⟨cy, l2.map MsX.m ++ [putM cy m.fr (lendM cy m)]⟩) := by show _ = _; rw [← HAA.out, hl2m, ← HCY.out, ← HYES.out]; exact asked_old HNW.out
    obtain ⟨at', hat⟩ : ∃ x, lendAt c m = x := ⟨_, rfl⟩
    have HAT := Lib.hid hat
    have hatb : -9223372036854775808 ≤ at' ∧ at' + 1 ≤ 9223372036854775807 := by rw [← hat]; unfold lendAt; split <;> omega
    clear hl2 hl2m hat
    have hRb : w4.heap[R]? = some (.cells #[.int .i64 cy.id, .int .i64 cy.role, .int .i64 cy.tm, .int .i64 cy.vt, .int .i64 cy.ld, .int .i64 cy.wt, .int .i64 cy.cm, .int .i64 cy.sf, .int .i64 cy.l.b, .int .i64 cy.l.bt, .int .u16 cy.l.j.ov, .int .u16 cy.l.j.ox, .int .u16 cy.l.j.ol, .int .i64 cy.l.j.oe, .int .i64 cy.l.j.ok, .int .u16 cy.l.j.nv, .int .u16 cy.l.j.nx, .int .u16 cy.l.j.nl, .int .i64 cy.l.j.ne, .int .i64 cy.l.j.nk, .bool cy.l.j.two, .slice p cy.l.es.length k, .string cy.sn, .int .u16 cy.vs, .int .u16 cy.hd, .int .i64 (cy.nx 0), .int .i64 (cy.nx 1), .int .i64 (cy.nx 2), .int .i64 (cy.nx 3), .int .i64 (cy.nx 4), .int .i64 (cy.nx 5), .int .i64 (cy.nx 6), .int .i64 (cy.nx 7), .int .i64 (cy.nx 8), .int .i64 (cy.nx 9), .int .i64 (cy.mt 0), .int .i64 (cy.mt 1), .int .i64 (cy.mt 2), .int .i64 (cy.mt 3), .int .i64 (cy.mt 4), .int .i64 (cy.mt 5), .int .i64 (cy.mt 6), .int .i64 (cy.mt 7), .int .i64 (cy.mt 8), .int .i64 (cy.mt 9), v4] 69 (0, 0)) := HA4.out.blk
    have k8 : w4.cell? ⟨R, 8, none⟩ = some (.int .i64 c.l.b) := by rw [← HCYL.out]; exact block_cells hRb 8
    clear hRb
    go_upto_region 8 with fail
    clear k8
    obtain ⟨⟨T, is⟩, hT⟩ : ∃ x, termL c.l m.ix = x := ⟨_, rfl⟩
    have HTT := Lib.hid hT
    clear hT
    go_upto_region 8 with fail
    have h0 : Below w4.heap.size w4 w4.drew := (Below.refl _ _).drew
    refine wp_region_held_drew (S := fun w' => Below w4.heap.size w4 w') (by kernel_rfl) h0 (fun hHeld => ?_)
    obtain ⟨we, ewd⟩ : ∃ x, w4.drew = x := ⟨_, rfl⟩
    rewrite [ewd] at h0 hHeld ⊢
    have kx4 : ∀ w', Below w4.heap.size w4 w' → w'.cell? ⟨X, 4, none⟩ = some (.int .i64 m.ix) := fun w' h => block_cells (below_block h (block_lt HX4.out) HX4.out) 4
    clear ewd
    have HKL := Lib.hid (show ∀ w', Below w4.heap.size w4 w' → w'.rangeAt R 8 [.int .i64 c.l.b, .int .i64 c.l.bt, .int .u16 c.l.j.ov, .int .u16 c.l.j.ox, .int .u16 c.l.j.ol, .int .i64 c.l.j.oe, .int .i64 c.l.j.ok, .int .u16 c.l.j.nv, .int .u16 c.l.j.nx, .int .u16 c.l.j.nl, .int .i64 c.l.j.ne, .int .i64 c.l.j.nk, .bool c.l.j.two, .slice p c.l.es.length k] from fun w' h => by rw [← HCYL.out]; exact AskS.log (g := X) (n := 4) (u := .int .i64 m.ix) (AskS.of (HA4.out.keep h) (block_cells (below_block h (block_lt HX4.out) HX4.out) 4)))
    have HEY := Lib.hid (show ∀ w', Below w4.heap.size w4 w' → EnSl w' (.slice p c.l.es.length k) c.l.es from fun w' h => by have h9 := EnSl.of_own HA4.out.en; rw [show (⟨cy, p, k⟩ : CoX).c.l = c.l from HCYL.out] at h9; exact h9.keep h (Nat.le_refl _))
    refine tkH (i := 0) (v := ?_) rfl (Or.inl ⟨by rfl, ?_⟩) hHeld ?_
    rotate_left
    · (intro wz hSw; (try dsimp only at hSw); (try simp only [zA, zC]); go_simp; try with_reducible rfl)
    try simp only [zA, zC, Act.put, zD, zE, zF]
    refine tkH (i := 1) (v := ?_) rfl (Or.inl ⟨by rfl, ?_⟩) hHeld ?_
    rotate_left
    · (intro wz hSw; (try dsimp only at hSw); (try simp only [zA, zB, zC]); go_simp; try with_reducible rfl)
    try simp only [zA, zB, zC, Act.put, zD, zE, zF]
    refine tkH (i := 2) (v := ?_) rfl (Or.inl ⟨by rfl, ?_⟩) hHeld ?_
    rotate_left
    · (intro wz hSw; (try dsimp only at hSw); (try simp only [zA, zB, zC]); go_simp; try with_reducible rfl)
    try simp only [zA, zB, zC, Act.put, zD, zE, zF]
    refine tkH (i := 3) (v := ?_) rfl (Or.inl ⟨by rfl, ?_⟩) hHeld ?_
    rotate_left
    · (intro wz hSw; (try dsimp only at hSw); (try simp only [zA, zB, zC]); go_simp; try with_reducible rfl)
    try simp only [zA, zB, zC, Act.put, zD, zE, zF]
    refine tkH (i := 4) (v := .agg #[.int .i64 c.l.b, .int .i64 c.l.bt, .int .u16 c.l.j.ov, .int .u16 c.l.j.ox, .int .u16 c.l.j.ol, .int .i64 c.l.j.oe, .int .i64 c.l.j.ok, .int .u16 c.l.j.nv, .int .u16 c.l.j.nx, .int .u16 c.l.j.nl, .int .i64 c.l.j.ne, .int .i64 c.l.j.nk, .bool c.l.j.two, .slice p c.l.es.length k]) rfl (yieldsIf_load_mid (by rfl) _ _ rfl R 8 rfl [.int .i64 c.l.b, .int .i64 c.l.bt, .int .u16 c.l.j.ov, .int .u16 c.l.j.ox, .int .u16 c.l.j.ol, .int .i64 c.l.j.oe, .int .i64 c.l.j.ok, .int .u16 c.l.j.nv, .int .u16 c.l.j.nx, .int .u16 c.l.j.nl, .int .i64 c.l.j.ne, .int .i64 c.l.j.nk, .bool c.l.j.two, .slice p c.l.es.length k] _ HKL.out Tryz.underlying30 rfl (by kernel_rfl)) hHeld ?_
    try simp only [zA, zB, zC, Act.put, zD, zE, zF]
    refine tkH (i := 5) (v := ?_) rfl (Or.inl ⟨by rfl, ?_⟩) hHeld ?_
    rotate_left
    · (intro wz hSw; (try dsimp only at hSw); (try simp only [zA, zB, zC]); go_simp; try with_reducible rfl)
    try simp only [zA, zB, zC, Act.put, zD, zE, zF]
    refine tkH (i := 6) (v := ?_) rfl (Or.inl ⟨by rfl, ?_⟩) hHeld ?_
    rotate_left
    · (intro wz hSw; (try dsimp only at hSw); (try simp only [zA, zB, zC]); go_simp; try with_reducible rfl)
    try simp only [zA, zB, zC, Act.put, zD, zE, zF]
    refine wpAnyH_ready (rs := [7]) (by kernel_rfl) (by simp) ?_; refine AllReadyH.cons rfl (fun K hK => ?_) AllReadyH.nil; (try simp only [zA, zB, zC]); go_simp
    refine (show Calls Tryz.prog 65 #[.agg #[.int .i64 c.l.b, .int .i64 c.l.bt, .int .u16 c.l.j.ov, .int .u16 c.l.j.ox, .int .u16 c.l.j.ol, .int .i64 c.l.j.oe, .int .i64 c.l.j.ok, .int .u16 c.l.j.nv, .int .u16 c.l.j.nx, .int .u16 c.l.j.nl, .int .i64 c.l.j.ne, .int .i64 c.l.j.nk, .bool c.l.j.two, .slice p c.l.es.length k], .int .i64 m.ix] we fun r w2 => r = .returned (.tuple #[.int .i64 T, .bool is]) ∧ Below we.heap.size we w2 from by have := term_is c.l p k we HF.out (i := m.ix) ⟨by omega, by omega⟩ (HEY.out we h0); rw [HTT.out] at this; exact this).mono ?_; rintro r0 w5 ⟨rfl, bs1⟩
    have s1 := h0.trans (bs1.mono h0.size)
    refine hK.out _ _ s1 (fun _ => ?_)
    clear hK K hHeld bs1 
    try simp only [zA, zB, zC, Act.put, zD, zE, zF]
    have hHeld := s1
    refine tkH (i := 8) (v := ?_) rfl (Or.inl ⟨by rfl, ?_⟩) hHeld ?_
    rotate_left
    · (intro wz hSw; (try dsimp only at hSw); (try simp only [zA, zB, zC]); go_simp; try with_reducible rfl)
    try simp only [zA, zB, zC, Act.put, zD, zE, zF]
    refine tkH (i := 9) (v := ?_) rfl (Or.inl ⟨by rfl, ?_⟩) hHeld ?_
    rotate_left
    · (intro wz hSw; (try dsimp only at hSw); (try simp only [zA, zB, zC]); go_simp; try with_reducible rfl)
    try simp only [zA, zB, zC, Act.put, zD, zE, zF]
    refine tkH (i := 10) (v := ?_) rfl (Or.inl ⟨by rfl, ?_⟩) hHeld ?_
    rotate_left
    · (intro wz hSw; (try dsimp only at hSw); (try simp only [zA, zB, zC]); go_simp; try with_reducible rfl)
    try simp only [zA, zB, zC, Act.put, zD, zE, zF]
    refine tkH (i := 11) (v := ?_) rfl (Or.inl ⟨by rfl, ?_⟩) hHeld ?_
    rotate_left
    · (intro wz hSw; (try dsimp only at hSw); (try simp only [zA, zB, zC]); go_simp; try with_reducible rfl)
    try simp only [zA, zB, zC, Act.put, zD, zE, zF]
    refine tkH (i := 12) (v := ?_) rfl (Or.inl ⟨by rfl, ?_⟩) hHeld ?_
    rotate_left
    · (intro wz hSw; (try dsimp only at hSw); (try simp only [zA, zB, zC]); go_simp; try with_reducible rfl)
    try simp only [zA, zB, zC, Act.put, zD, zE, zF]
    refine wpAnyH_done (by kernel_rfl) ?_ _
    have HB5 := Lib.hid s1
    clear hHeld s1 h0 kx4
    have hX5 := below_block HB5.out (block_lt HX4.out) HX4.out
    go_upto_region 9 with fail
    go_cut [89] from 83 to 89 (fun b wx => ∃ z : Bool, b = .bool z ∧ Hid (z = true ↔ termL c.l m.ix = (m.lt, true)) ∧ w5 = wx)
    case first =>
      have kx : w5.cell? ⟨X, 5, none⟩ = some (.int .i64 m.lt) := block_cells hX5 5
      cases is with
      | false =>
        have HN : Hid (¬ termL c.l m.ix = (m.lt, true)) := fun h => by rw [HTT.out] at h; simp at h
        go_wp2_with fail
        go_meet
        case rel => exact ⟨false, rfl, ⟨fun h => absurd h Bool.false_ne_true, fun h => absurd h HN.out⟩, rfl⟩
      | true =>
        by_cases ht : T = m.lt
        · have htb : (T == m.lt) = true := by simp [ht]
          have HN : Hid (termL c.l m.ix = (m.lt, true)) := by show _ = _; rw [HTT.out, ht]
          clear ht
          go_wp2_with fail
          go_meet
          case rel => exact ⟨true, rfl, ⟨fun _ => HN.out, fun _ => rfl⟩, rfl⟩
        · have htb : (T == m.lt) = false := by simp [ht]
          have HN : Hid (¬ termL c.l m.ix = (m.lt, true)) := fun h => by rw [HTT.out] at h; simp at h; exact absurd h ht
          clear ht
          go_wp2_with fail
          go_meet
          case rel => exact ⟨false, rfl, ⟨fun h => absurd h Bool.false_ne_true, fun h => absurd h HN.out⟩, rfl⟩
    obtain ⟨zz, rfl, HZZ, rfl⟩ := hcut
    go_upto_if 89 with fail
    go_cut [6] from 89 to 91 (fun a wx => a = .int .i64 at' ∧ w5 = wx)
    case first =>
      cases zz with
      | true =>
        have HN : Hid (m.ix = at') := by show _ = _; rw [← HAT.out]; unfold lendAt; rw [if_pos (HZZ.out.1 rfl)]
        have kx : w5.cell? ⟨X, 4, none⟩ = some (.int .i64 m.ix) := block_cells hX5 4
        go_wp2_with fail
        go_meet
        case rel => exact ⟨by rw [HN.out], rfl⟩
      | false =>
        have HN : Hid (c.l.b = at') := by show _ = _; rw [← HAT.out]; unfold lendAt; rw [if_neg (fun h => by have := HZZ.out.2 h; cases this)]
        go_wp2_with fail
        go_meet
        case rel => exact ⟨by rw [HN.out], rfl⟩
    obtain ⟨rfl, rfl⟩ := hcut
    have HX5 := Lib.hid hX5
    have HA5 := Lib.hid (HA4.out.keep HB5.out); have HR5 := Lib.hid (HR4.out.trans (AcR.below HB5.out))
    obtain ⟨⟨T2, is2⟩, hT2⟩ : ∃ x, termL c.l at' = x := ⟨_, rfl⟩
    have HCT := Lib.hid (show Calls Tryz.prog 65 #[.agg #[.int .i64 c.l.b, .int .i64 c.l.bt, .int .u16 c.l.j.ov, .int .u16 c.l.j.ox, .int .u16 c.l.j.ol, .int .i64 c.l.j.oe, .int .i64 c.l.j.ok, .int .u16 c.l.j.nv, .int .u16 c.l.j.nx, .int .u16 c.l.j.nl, .int .i64 c.l.j.ne, .int .i64 c.l.j.nk, .bool c.l.j.two, .slice p c.l.es.length k], .int .i64 at'] w5 fun r w2 => r = .returned (.tuple #[.int .i64 T2, .bool is2]) ∧ Below w5.heap.size w5 w2 from by have := term_is c.l p k w5 HF.out (i := at') ⟨hatb.1, by omega⟩ (HEY.out w5 HB5.out); rw [hT2] at this; exact this)
    have HT2 := Lib.hid hT2
    have HRL := Lib.hid (HKL.out w5 HB5.out)
    clear hX5 hT2 HKL
    go_wp2_with (with_reducible refine wpList_load_mid (op := ⟨some 97, _, _, _, _, _⟩) rfl _ _ rfl R 8 rfl [.int .i64 c.l.b, .int .i64 c.l.bt, .int .u16 c.l.j.ov, .int .u16 c.l.j.ox, .int .u16 c.l.j.ol, .int .i64 c.l.j.oe, .int .i64 c.l.j.ok, .int .u16 c.l.j.nv, .int .u16 c.l.j.nx, .int .u16 c.l.j.nl, .int .i64 c.l.j.ne, .int .i64 c.l.j.nk, .bool c.l.j.two, .slice p c.l.es.length k] _ HRL.out Tryz.underlying30 rfl (by kernel_rfl) ?_)
    refine HCT.out.mono ?_; rintro r w6 ⟨rfl, b6⟩
    have HB6 := Lib.hid (HB5.out.trans (b6.mono HB5.out.size))
    have HA6 := Lib.hid (HA5.out.keep b6); have HR6 := Lib.hid (HR5.out.trans (AcR.below b6)); have HX6 := Lib.hid (below_block b6 (block_lt HX5.out) HX5.out)
    clear b6 HCT HRL HA5 HR5 HX5
    go_upto_region 12 with fail
    have hd7 : Below w6.heap.size w6 w6.drew := (Below.refl _ _).drew
    have hA7 := HA6.out.keep hd7
    have HX7 := Lib.hid (below_block hd7 (block_lt HX6.out) HX6.out)
    have HB7 := Lib.hid (HB6.out.trans (hd7.mono HB6.out.size))
    have HR7 := Lib.hid (HR6.out.trans (AcR.below hd7))
    have h0 : AskS R X 1 (coL cy p k) (.int .i64 m.fr) w6.drew := AskS.of hA7 (block_cells HX7.out 1)
    refine wp_region_held_drew (S := AskS R X 1 (coL cy p k) (.int .i64 m.fr)) (by kernel_rfl) h0 (fun hHeld => ?_)
    obtain ⟨wf, ewf⟩ : ∃ x, w6.drew = x := ⟨_, rfl⟩
    rewrite [ewf] at hA7 HX7 HB7 HR7 h0 hHeld ⊢
    have HA7 := Lib.hid hA7
    have kx1 : ∀ w', AskS R X 1 (coL cy p k) (.int .i64 m.fr) w' → w'.cell? ⟨X, 1, none⟩ = some (.int .i64 m.fr) := fun w' h => h.c
    have k21 : ∀ w', AskS R X 1 (coL cy p k) (.int .i64 m.fr) w' → w'.cell? ⟨R, 21, none⟩ = some (.slice p c.l.es.length k) := fun w' h => by rw [← HCYL.out]; exact h.r 21 (by decide)
    have HKL2 := Lib.hid (show ∀ w', AskS R X 1 (coL cy p k) (.int .i64 m.fr) w' → w'.rangeAt R 8 [.int .i64 c.l.b, .int .i64 c.l.bt, .int .u16 c.l.j.ov, .int .u16 c.l.j.ox, .int .u16 c.l.j.ol, .int .i64 c.l.j.oe, .int .i64 c.l.j.ok, .int .u16 c.l.j.nv, .int .u16 c.l.j.nx, .int .u16 c.l.j.nl, .int .i64 c.l.j.ne, .int .i64 c.l.j.nk, .bool c.l.j.two, .slice p c.l.es.length k] from fun w' h => by rw [← HCYL.out]; exact AskS.log h)
    have hwr : IntKind.i64.wrap (at' + 1) = at' + 1 := by rw [IntKind.wrap_i64]; omega
    clear ewf hA7 hd7
    refine tkH (i := 0) (v := ?_) rfl (Or.inl ⟨by rfl, ?_⟩) hHeld ?_
    rotate_left
    · (intro wz hSw; (try dsimp only at hSw); (try simp only [zA, zC]); go_simp; try with_reducible rfl)
    try simp only [zA, zC, Act.put, zD, zE, zF]
    refine tkH (i := 1) (v := ?_) rfl (Or.inl ⟨by rfl, ?_⟩) hHeld ?_
    rotate_left
    · (intro wz hSw; (try dsimp only at hSw); (try simp only [zA, zB, zC]); go_simp; try with_reducible rfl)
    try simp only [zA, zB, zC, Act.put, zD, zE, zF]
    refine tkH (i := 2) (v := ?_) rfl (Or.inl ⟨by rfl, ?_⟩) hHeld ?_
    rotate_left
    · (intro wz hSw; (try dsimp only at hSw); (try simp only [zA, zB, zC]); go_simp; try with_reducible rfl)
    try simp only [zA, zB, zC, Act.put, zD, zE, zF]
    refine tkH (i := 3) (v := ?_) rfl (Or.inl ⟨by rfl, ?_⟩) hHeld ?_
    rotate_left
    · (intro wz hSw; (try dsimp only at hSw); (try simp only [zA, zB, zC]); go_simp; try with_reducible rfl)
    try simp only [zA, zB, zC, Act.put, zD, zE, zF]
    refine tkH (i := 4) (v := ?_) rfl (Or.inl ⟨by rfl, ?_⟩) hHeld ?_
    rotate_left
    · (intro wz hSw; (try dsimp only at hSw); (try simp only [zA, zB, zC]); go_simp; try with_reducible rfl)
    try simp only [zA, zB, zC, Act.put, zD, zE, zF]
    refine tkH (i := 5) (v := ?_) rfl (Or.inl ⟨by rfl, ?_⟩) hHeld ?_
    rotate_left
    · (intro wz hSw; (try dsimp only at hSw); (try simp only [zA, zB, zC]); go_simp; try with_reducible rfl)
    try simp only [zA, zB, zC, Act.put, zD, zE, zF]
    refine tkH (i := 6) (v := ?_) rfl (Or.inl ⟨by rfl, ?_⟩) hHeld ?_
    rotate_left
    · (intro wz hSw; (try dsimp only at hSw); (try simp only [zA, zB, zC]); go_simp; try with_reducible rfl)
    try simp only [zA, zB, zC, Act.put, zD, zE, zF]
    refine tkH (i := 7) (v := ?_) rfl (Or.inl ⟨by rfl, ?_⟩) hHeld ?_
    rotate_left
    · (intro wz hSw; (try dsimp only at hSw); (try simp only [zA, zB, zC]); go_simp; try with_reducible rfl)
    try simp only [zA, zB, zC, Act.put, zD, zE, zF]
    refine tkH (i := 8) (v := ?_) rfl (Or.inl ⟨by rfl, ?_⟩) hHeld ?_
    rotate_left
    · (intro wz hSw; (try dsimp only at hSw); (try simp only [zA, zB, zC]); go_simp; try with_reducible rfl)
    try simp only [zA, zB, zC, Act.put, zD, zE, zF]
    refine tkH (i := 9) (v := .agg #[.int .i64 c.l.b, .int .i64 c.l.bt, .int .u16 c.l.j.ov, .int .u16 c.l.j.ox, .int .u16 c.l.j.ol, .int .i64 c.l.j.oe, .int .i64 c.l.j.ok, .int .u16 c.l.j.nv, .int .u16 c.l.j.nx, .int .u16 c.l.j.nl, .int .i64 c.l.j.ne, .int .i64 c.l.j.nk, .bool c.l.j.two, .slice p c.l.es.length k]) rfl (yieldsIf_load_mid (by rfl) _ _ rfl R 8 rfl [.int .i64 c.l.b, .int .i64 c.l.bt, .int .u16 c.l.j.ov, .int .u16 c.l.j.ox, .int .u16 c.l.j.ol, .int .i64 c.l.j.oe, .int .i64 c.l.j.ok, .int .u16 c.l.j.nv, .int .u16 c.l.j.nx, .int .u16 c.l.j.nl, .int .i64 c.l.j.ne, .int .i64 c.l.j.nk, .bool c.l.j.two, .slice p c.l.es.length k] _ HKL2.out Tryz.underlying30 rfl (by kernel_rfl)) hHeld ?_
    try simp only [zA, zB, zC, Act.put, zD, zE, zF]
    refine tkH (i := 10) (v := ?_) rfl (Or.inl ⟨by rfl, ?_⟩) hHeld ?_
    rotate_left
    · (intro wz hSw; (try dsimp only at hSw); (try simp only [zA, zB, zC]); go_simp; try with_reducible rfl)
    try simp only [zA, zB, zC, Act.put, zD, zE, zF]
    refine tkH (i := 11) (v := ?_) rfl (Or.inl ⟨by rfl, ?_⟩) hHeld ?_
    rotate_left
    · (intro wz hSw; (try dsimp only at hSw); (try simp only [zA, zB, zC]); go_simp; try with_reducible rfl)
    try simp only [zA, zB, zC, Act.put, zD, zE, zF]
    refine tkH (i := 12) (v := ?_) rfl (Or.inl ⟨by rfl, ?_⟩) hHeld ?_
    rotate_left
    · (intro wz hSw; (try dsimp only at hSw); (try simp only [zA, zB, zC]); go_simp; try with_reducible rfl)
    try simp only [zA, zB, zC, Act.put, zD, zE, zF]
    refine tkH (i := 13) (v := ?_) rfl (Or.inl ⟨by rfl, ?_⟩) hHeld ?_
    rotate_left
    · (intro wz hSw; (try dsimp only at hSw); (try simp only [zA, zB, zC]); go_simp; try with_reducible rfl)
    try simp only [zA, zB, zC, Act.put, zD, zE, zF]
    refine tkH (i := 14) (v := ?_) rfl (Or.inl ⟨by rfl, ?_⟩) hHeld ?_
    rotate_left
    · (intro wz hSw; (try dsimp only at hSw); (try simp only [zA, zB, zC]); go_simp; try with_reducible rfl)
    try simp only [zA, zB, zC, Act.put, zD, zE, zF]
    refine tkH (i := 15) (v := ?_) rfl (Or.inl ⟨by rfl, ?_⟩) hHeld ?_
    rotate_left
    · (intro wz hSw; (try dsimp only at hSw); (try simp only [zA, zB, zC]); go_simp; try with_reducible rfl)
    try simp only [zA, zB, zC, Act.put, zD, zE, zF]
    refine tkH (i := 16) (v := ?_) rfl (Or.inl ⟨by rfl, ?_⟩) hHeld ?_
    rotate_left
    · (intro wz hSw; (try dsimp only at hSw); (try simp only [zA, zB, zC]); go_simp; try with_reducible rfl)
    try simp only [zA, zB, zC, Act.put, zD, zE, zF]
    refine tkH (i := 17) (v := ?_) rfl (Or.inl ⟨by rfl, ?_⟩) hHeld ?_
    rotate_left
    · (intro wz hSw; (try dsimp only at hSw); (try simp only [zA, zB, zC]); go_simp; try with_reducible rfl)
    try simp only [zA, zB, zC, Act.put, zD, zE, zF]
    refine tkH (i := 18) (v := ?_) rfl (Or.inl ⟨by rfl, ?_⟩) hHeld ?_
    rotate_left
    · (intro wz hSw; (try dsimp only at hSw); (try simp only [zA, zB, zC]); go_simp; try with_reducible rfl)
    try simp only [zA, zB, zC, Act.put, zD, zE, zF]
    clear hwr kx1 k21
    refine wpAnyH_ready (rs := [19]) (by kernel_rfl) (by simp) ?_; refine AllReadyH.cons rfl (fun K hK => ?_) AllReadyH.nil; (try simp only [zA, zB, zC]); go_simp
    refine (slice_any c.l p k (at' + 1) (c.l.es.length : Int) wf HF.out.b0 HF.out.b1 HF.out.n (by omega) (by omega) (HEY.out wf HB7.out)).mono ?_; rintro r0 w8 ⟨v8, rfl, ho, b8⟩
    obtain ⟨q8, d8, rfl⟩ := own_formH ho
    obtain ⟨es, hes⟩ : ∃ es, sliceL c.l (at' + 1) (c.l.es.length : Int) = es := ⟨_, rfl⟩
    rw [hes] at ho ⊢
    obtain ⟨m1, hm1⟩ : ∃ m1 : Ms, { ms0 with k := 6, ix := at', lt := T2, es := es } = m1 := ⟨_, rfl⟩
    have hlend : lendM cy m = m1 := by rw [← hm1, ← hes]; unfold lendM; rw [lendAt_l HCYL.out, HAT.out, HCYL.out, HT2.out]
    have hA8 := HA7.out.keep b8
    have hX8 := below_block b8 (block_lt HX7.out) HX7.out
    have s8 : AskS R X 1 (coL cy p k) (.int .i64 m.fr) w8 := AskS.of hA8 (block_cells hX8 1)
    have hmo : MsOwn wf.heap.size w8 ⟨m1, q8, d8⟩ := by rw [← hm1]; exact ho
    have HMO := Lib.hid hmo
    have HSP := Lib.hid (show ∀ b, MsX.bk ⟨m1, q8, d8⟩ = some b → CoX.bk ⟨cy, p, k⟩ ≠ some b from fun b hb e => by
      have h1 := (HMO.out.lt b hb).1
      have h2 := (HA7.out.en.lt b e).2
      omega)
    have HA8 := Lib.hid hA8; have HX8 := Lib.hid hX8; have HR8 := Lib.hid (HR7.out.trans (AcR.below b8)); have HLE := Lib.hid hlend
    have HBM := Lib.hid (show B ≤ wf.heap.size from by have := HA7.out.le; have := HA7.out.lt; omega)
    refine hK.out _ _ s8 (fun _ => ?_)
    clear hK K hHeld h0 ho b8 hA8 hX8 hmo hes hlend
    try simp only [zA, zB, zC, Act.put, zD, zE, zF]
    have hHeld := s8
    refine tkH (i := 20) (v := .agg (msC m1 q8 d8).toArray) rfl (Or.inl ⟨by rfl, fun w' _ => by subst hm1; kernel_rfl⟩) hHeld ?_
    try simp only [zA, zB, zC, Act.put, zD, zE, zF]
    refine wpAnyH_ready (rs := [21]) (by kernel_rfl) (by simp) ?_; refine AllReadyH.cons rfl (fun K hK => ?_) AllReadyH.nil; (try simp only [zA, zB, zC]); go_simp
    refine (show Calls Tryz.prog 89 #[.pointer (some ⟨R, 0, none⟩), .int .i64 m.fr, .agg (msC m1 q8 d8).toArray] w8 _ from send_act B R cy p k v4 l2 m.fr m1 q8 d8 w8 HA8.out (HMO.out.mono HBM.out) HSP.out (by have := HLL.out; have := HL2N.out; omega)).mono ?_; rintro r0 w9 ⟨rfl, v9, hA9, hr9⟩
    have h9 : AskS R X 1 (coL cy p k) (.int .i64 m.fr) w9 := AskS.of hA9 (block_cells (hr9.blk HX8.out hXR HXV4.out).1 1)
    have HO : Hid (AcDo 69 B w R v A (.returned (.tuple #[])) w9) := AcDo.sent (by rw [HZ.out, HLE.out]) hA9 (HR8.out.trans hr9)
    refine hK.out _ _ h9 (fun _ => ?_)
    clear hK K hHeld s8 h9 hA9 hr9
    try simp only [zA, zB, zC, Act.put, zD, zE, zF]
    refine wpAnyH_done (by kernel_rfl) ?_ _
    go_wp2_with fail
    first | go_end0 | refine bodyPost_ret (results_none rfl _ _ _) rfl ?_
    exact HO.out
end Go.Proofs.YtbnndbdnejfehaaGreatDoor
