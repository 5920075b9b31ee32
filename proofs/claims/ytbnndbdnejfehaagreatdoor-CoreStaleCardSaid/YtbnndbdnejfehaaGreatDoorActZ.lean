/- Core: methods of an act: a leader's snapshot (the program's snap). -/
import Derived.Test.YtbnndbdnejfehaaGreatDoorActY
import Derived.Test.YtbnndbdnejfehaaGreatDoorLogP
namespace Go.Proofs.YtbnndbdnejfehaaGreatDoor
open Go.ChangeShapes Go.WideShapes Go.ChangeAt Go.RowKit

theorem snap_no {a : Ac} {m : Ms} (h : ¬ (jnM m.cf = true ∧ m.lt ≤ a.c.tm ∧ 0 ≤ m.lt)) : snapA a m = a := if_neg h
theorem snap_old {a : Ac} {m : Ms} (h : jnM m.cf = true ∧ m.lt ≤ a.c.tm ∧ 0 ≤ m.lt) (h2 : m.ix ≤ a.c.cm) : snapA a m = ⟨{ followC a.c m with sf := max a.c.sf m.sf }, a.out ++ [putM { followC a.c m with sf := max a.c.sf m.sf } m.fr { ms0 with k := 4, yes := true, ix := a.c.cm }]⟩ := (if_pos h).trans (if_pos h2)
theorem snap_new {a : Ac} {m : Ms} (h : jnM m.cf = true ∧ m.lt ≤ a.c.tm ∧ 0 ≤ m.lt) (h2 : ¬ m.ix ≤ a.c.cm) : snapA a m = ⟨{ followC a.c m with sf := max a.c.sf m.sf, l := snapLg a.c m, sn := m.sn, cm := m.ix }, a.out ++ [putM { followC a.c m with sf := max a.c.sf m.sf, l := snapLg a.c m, sn := m.sn, cm := m.ix } m.fr { ms0 with k := 4, yes := true, ix := m.ix }]⟩ := (if_pos h).trans (if_neg h2)

set_option maxRecDepth 100000 in
set_option maxHeartbeats 16000000 in
theorem snap_act (B R : Nat) (c : Co) (p : Option Addr) (k : Nat) (v : Value) (l : List MsX) (m : Ms) (q : Option Addr) (d : Nat) (w : World) (h : AcW 69 B w R ⟨c, p, k⟩ v l) (hF : LgFit c.l) (hm : MgFit m) (hll : l.length ≤ 90000) :
    Calls Tryz.prog 46 #[.pointer (some ⟨R, 0, none⟩), .agg #[.int .i64 m.k, .int .i64 m.fr, .int .i64 m.dst, .int .i64 m.tm, .int .i64 m.ix, .int .i64 m.lt, .int .i64 m.cm, .int .i64 m.sf, .bool m.yes, .slice q m.es.length d, .string m.sn, .int .u16 m.cf.ov, .int .u16 m.cf.ox, .int .u16 m.cf.ol, .int .i64 m.cf.oe, .int .i64 m.cf.ok, .int .u16 m.cf.nv, .int .u16 m.cf.nx, .int .u16 m.cf.nl, .int .i64 m.cf.ne, .int .i64 m.cf.nk, .bool m.cf.two]] w (AcDo 69 B w R v (snapA ⟨c, l.map MsX.m⟩ m)) := by
  obtain ⟨W, hW⟩ : ∃ z : World, w.alloc (.cells #[.int .i64 m.k, .int .i64 m.fr, .int .i64 m.dst, .int .i64 m.tm, .int .i64 m.ix, .int .i64 m.lt, .int .i64 m.cm, .int .i64 m.sf, .bool m.yes, .slice q m.es.length d, .string m.sn, .int .u16 m.cf.ov, .int .u16 m.cf.ox, .int .u16 m.cf.ol, .int .i64 m.cf.oe, .int .i64 m.cf.ok, .int .u16 m.cf.nv, .int .u16 m.cf.nx, .int .u16 m.cf.nl, .int .i64 m.cf.ne, .int .i64 m.cf.nk, .bool m.cf.two] 39) = z := ⟨_, rfl⟩
  have hb : Below w.heap.size w W := by rw [← hW]; exact (Below.refl _ _).alloc (Nat.le_refl _) _
  have hX : W.heap[w.heap.size]? = some (.cells #[.int .i64 m.k, .int .i64 m.fr, .int .i64 m.dst, .int .i64 m.tm, .int .i64 m.ix, .int .i64 m.lt, .int .i64 m.cm, .int .i64 m.sf, .bool m.yes, .slice q m.es.length d, .string m.sn, .int .u16 m.cf.ov, .int .u16 m.cf.ox, .int .u16 m.cf.ol, .int .i64 m.cf.oe, .int .i64 m.cf.ok, .int .u16 m.cf.nv, .int .u16 m.cf.nx, .int .u16 m.cf.nl, .int .i64 m.cf.ne, .int .i64 m.cf.nk, .bool m.cf.two] 39 (0, 0)) := by rw [← hW]; exact heap_last w _
  obtain ⟨X, eX⟩ : ∃ X, w.heap.size = X := ⟨_, rfl⟩
  rw [eX] at hX
  have HBl := Lib.hid (show B ≤ w.heap.size from by have := h.le; have := h.lt; omega)
  have HA := Lib.hid (h.keep hb); have HB := Lib.hid (AcR.below (R := R) (v := v) hb)
  have HW := Lib.hid hW; have HEX := Lib.hid eX; have HX := Lib.hid hX
  have HF : Hid (LgFit c.l) := hF
  obtain ⟨A, hA⟩ : ∃ A, snapA ⟨c, l.map MsX.m⟩ m = A := ⟨_, rfl⟩
  have HAA := Lib.hid hA
  rw [hA]
  have HLL := Lib.hid hll; have HOV := Lib.hid h.out
  have hix0 := hm.ix0; have hix1 := hm.ix1
  have hXR : X ≠ R := by have := h.lt; omega
  have hXv : v.ownBlock ≠ some X := fun e => by have := (h.vge _ e).2; omega
  obtain ⟨J, hJ⟩ : ∃ J, m.cf = J := ⟨_, rfl⟩
  obtain ⟨G, hG⟩ : ∃ G, jnM J = G := ⟨_, rfl⟩
  have HJ := Lib.hid hJ; have HG := Lib.hid hG
  have hwtc : B ≤ X := by have := h.le; have := h.lt; omega
  clear h hF hm hW hb hX eX hA hll hJ hG
  go_enter Tryz.func46, Tryz.ntmps46
  go_upto_region 1 with fail
  rw [HW.out]
  (try rw [HEX.out])
  clear HW
  go_cut [25] from 7 to 25 (fun b wx => ∃ z : Bool, b = .bool z ∧ Hid ((z = false ↔ jnM J = true ∧ m.lt ≤ c.tm ∧ 0 ≤ m.lt) ∧ Below W.heap.size W wx))
  case first =>
    go_upto_region 1 with fail
    have h0 : Below W.heap.size W W.drew := (Below.refl _ _).drew
    refine wp_region_held_drew (S := fun w' => Below W.heap.size W w') (by kernel_rfl) h0 (fun hHeld => ?_)
    obtain ⟨wd, ewd⟩ : ∃ x, W.drew = x := ⟨_, rfl⟩
    rewrite [ewd] at h0 hHeld ⊢
    have kx : ∀ w', Below W.heap.size W w' → ∀ j, j < 11 → w'.cell? ⟨X, 11 + j, none⟩ = (#[.int .u16 J.ov, .int .u16 J.ox, .int .u16 J.ol, .int .i64 J.oe, .int .i64 J.ok, .int .u16 J.nv, .int .u16 J.nx, .int .u16 J.nl, .int .i64 J.ne, .int .i64 J.nk, .bool J.two] : Array Value)[j]? := fun w' h j hj => by
      have hc := block_cells (below_block h (block_lt HX.out) HX.out) (11 + j)
      rw [hc, ← HJ.out]
      rcases (show j = 0 ∨ j = 1 ∨ j = 2 ∨ j = 3 ∨ j = 4 ∨ j = 5 ∨ j = 6 ∨ j = 7 ∨ j = 8 ∨ j = 9 ∨ j = 10 by omega) with rfl | rfl | rfl | rfl | rfl | rfl | rfl | rfl | rfl | rfl | rfl <;> rfl
    clear ewd
    have HKX := Lib.hid (show ∀ w', Below W.heap.size W w' → w'.rangeAt X 11 [.int .u16 J.ov, .int .u16 J.ox, .int .u16 J.ol, .int .i64 J.oe, .int .i64 J.ok, .int .u16 J.nv, .int .u16 J.nx, .int .u16 J.nl, .int .i64 J.ne, .int .i64 J.nk, .bool J.two] from fun w' h => range_of (n := 11) rfl (fun j hj => by rw [kx w' h j hj, List.getElem?_toArray]))
    clear kx
    have k5 : ∀ w', Below W.heap.size W w' → w'.cell? ⟨X, 5, none⟩ = some (.int .i64 m.lt) := fun w' h => block_cells (below_block h (block_lt HX.out) HX.out) 5
    have k2 : ∀ w', Below W.heap.size W w' → w'.cell? ⟨R, 2, none⟩ = some (.int .i64 c.tm) := fun w' h => block_cells (below_block h HA.out.lt HA.out.blk) 2
    refine tkH (i := 0) (v := ?_) rfl (Or.inl ⟨by rfl, ?_⟩) hHeld ?_
    rotate_left
    · (intro wz hSw; (try dsimp only at hSw); (try simp only [zA, zC]); go_simp; try with_reducible rfl)
    try simp only [zA, zC, Act.put, zD, zE, zF]
    refine tkH (i := 1) (v := .agg #[.int .u16 J.ov, .int .u16 J.ox, .int .u16 J.ol, .int .i64 J.oe, .int .i64 J.ok, .int .u16 J.nv, .int .u16 J.nx, .int .u16 J.nl, .int .i64 J.ne, .int .i64 J.nk, .bool J.two]) rfl (yieldsIf_load_mid (by rfl) _ _ rfl X 11 rfl [.int .u16 J.ov, .int .u16 J.ox, .int .u16 J.ol, .int .i64 J.oe, .int .i64 J.ok, .int .u16 J.nv, .int .u16 J.nx, .int .u16 J.nl, .int .i64 J.ne, .int .i64 J.nk, .bool J.two] _ HKX.out Tryz.underlying27 rfl (by kernel_rfl)) hHeld ?_
    try simp only [zA, zB, zC, Act.put, zD, zE, zF]
    refine wpAnyH_ready (rs := [2]) (by kernel_rfl) (by simp) ?_; refine AllReadyH.cons rfl (fun K hK => ?_) AllReadyH.nil; (try simp only [zA, zB, zC]); go_simp
    refine (show Calls Tryz.prog 62 #[.agg #[.int .u16 J.ov, .int .u16 J.ox, .int .u16 J.ol, .int .i64 J.oe, .int .i64 J.ok, .int .u16 J.nv, .int .u16 J.nx, .int .u16 J.nl, .int .i64 J.ne, .int .i64 J.nk, .bool J.two]] wd fun r w' => r = .returned (.bool G) ∧ Below wd.heap.size wd w' from by have := jMay J wd; rw [HG.out] at this; exact this).mono ?_; rintro r0 w1 ⟨rfl, bs1⟩
    have s1 := h0.trans (bs1.mono h0.size)
    refine hK.out _ _ s1 (fun _ => ?_)
    clear hK K hHeld bs1 
    try simp only [zA, zB, zC, Act.put, zD, zE, zF]
    have hHeld := s1
    cases G with
    | false =>
      refine tkH (i := 3) (v := ?_) rfl (Or.inl ⟨by rfl, ?_⟩) hHeld ?_
      rotate_left
      · (intro wz hSw; (try dsimp only at hSw); (try simp only [zA, zB, zC]); go_simp; try with_reducible rfl)
      try simp only [zA, zB, zC, Act.put, zD, zE, zF]
      refine tkH (i := 4) (v := ?_) rfl (Or.inl ⟨by rfl, ?_⟩) hHeld ?_
      rotate_left
      · (intro wz hSw; (try dsimp only at hSw); (try simp only [zA, zB, zC]); go_simp; try with_reducible rfl)
      try simp only [zA, zB, zC, Act.put, zD, zE, zF]
      refine tkH (i := 5) (v := undef) rfl (Or.inr ⟨by rfl, rfl⟩) hHeld ?_
      try simp only [zA, zB, zC, Act.put, zD, zE, zF]
      refine tkH (i := 6) (v := undef) rfl (Or.inr ⟨by rfl, rfl⟩) hHeld ?_
      try simp only [zA, zB, zC, Act.put, zD, zE, zF]
      refine tkH (i := 7) (v := undef) rfl (Or.inr ⟨by rfl, rfl⟩) hHeld ?_
      try simp only [zA, zB, zC, Act.put, zD, zE, zF]
      refine tkH (i := 8) (v := undef) rfl (Or.inr ⟨by rfl, rfl⟩) hHeld ?_
      try simp only [zA, zB, zC, Act.put, zD, zE, zF]
      refine tkH (i := 9) (v := undef) rfl (Or.inr ⟨by rfl, rfl⟩) hHeld ?_
      try simp only [zA, zB, zC, Act.put, zD, zE, zF]
      refine tkH (i := 10) (v := undef) rfl (Or.inr ⟨by rfl, rfl⟩) hHeld ?_
      try simp only [zA, zB, zC, Act.put, zD, zE, zF]
      refine tkH (i := 11) (v := undef) rfl (Or.inr ⟨by rfl, rfl⟩) hHeld ?_
      try simp only [zA, zB, zC, Act.put, zD, zE, zF]
      refine tkH (i := 12) (v := undef) rfl (Or.inr ⟨by rfl, rfl⟩) hHeld ?_
      try simp only [zA, zB, zC, Act.put, zD, zE, zF]
      refine tkH (i := 13) (v := ?_) rfl (Or.inl ⟨by rfl, ?_⟩) hHeld ?_
      rotate_left
      · (intro wz hSw; (try dsimp only at hSw); (try simp only [zA, zB, zC]); go_simp; try with_reducible rfl)
      try simp only [zA, zB, zC, Act.put, zD, zE, zF]
      refine tkH (i := 14) (v := ?_) rfl (Or.inl ⟨by rfl, ?_⟩) hHeld ?_
      rotate_left
      · (intro wz hSw; (try dsimp only at hSw); (try simp only [zA, zB, zC]); go_simp; try with_reducible rfl)
      try simp only [zA, zB, zC, Act.put, zD, zE, zF]
      refine tkH (i := 15) (v := undef) rfl (Or.inr ⟨by rfl, rfl⟩) hHeld ?_
      try simp only [zA, zB, zC, Act.put, zD, zE, zF]
      refine tkH (i := 16) (v := undef) rfl (Or.inr ⟨by rfl, rfl⟩) hHeld ?_
      try simp only [zA, zB, zC, Act.put, zD, zE, zF]
      refine tkH (i := 17) (v := undef) rfl (Or.inr ⟨by rfl, rfl⟩) hHeld ?_
      try simp only [zA, zB, zC, Act.put, zD, zE, zF]
      refine tkH (i := 18) (v := ?_) rfl (Or.inl ⟨by rfl, ?_⟩) hHeld ?_
      rotate_left
      · (intro wz hSw; (try dsimp only at hSw); (try simp only [zA, zB, zC]); go_simp; try with_reducible rfl)
      try simp only [zA, zB, zC, Act.put, zD, zE, zF]
      refine wpAnyH_done (by kernel_rfl) ?_ _
      have HO := Lib.hid s1
      clear hHeld k5 k2 s1 h0
      go_wp2_with fail
      go_meet
      case rel => exact ⟨true, rfl, ⟨fun h => (by cases h), fun h => by rw [HG.out] at h; exact absurd h.1 Bool.false_ne_true⟩, HO.out⟩
    | true =>
      by_cases h1 : c.tm < m.lt
      · have hd1 : decide (c.tm < m.lt) = true := by simp [h1]
        refine tkH (i := 3) (v := ?_) rfl (Or.inl ⟨by rfl, ?_⟩) hHeld ?_
        rotate_left
        · (intro wz hSw; (try dsimp only at hSw); (try simp only [zA, zB, zC]); go_simp; try with_reducible rfl)
        try simp only [zA, zB, zC, Act.put, zD, zE, zF]
        refine tkH (i := 4) (v := ?_) rfl (Or.inl ⟨by rfl, ?_⟩) hHeld ?_
        rotate_left
        · (intro wz hSw; (try dsimp only at hSw); (try simp only [zA, zB, zC]); go_simp; try with_reducible rfl)
        try simp only [zA, zB, zC, Act.put, zD, zE, zF]
        refine tkH (i := 5) (v := ?_) rfl (Or.inl ⟨by rfl, ?_⟩) hHeld ?_
        rotate_left
        · (intro wz hSw; (try dsimp only at hSw); (try simp only [zA, zB, zC]); go_simp; try with_reducible rfl)
        try simp only [zA, zB, zC, Act.put, zD, zE, zF]
        refine tkH (i := 6) (v := ?_) rfl (Or.inl ⟨by rfl, ?_⟩) hHeld ?_
        rotate_left
        · (intro wz hSw; (try dsimp only at hSw); (try simp only [zA, zB, zC]); go_simp; try with_reducible rfl)
        try simp only [zA, zB, zC, Act.put, zD, zE, zF]
        refine tkH (i := 7) (v := ?_) rfl (Or.inl ⟨by rfl, ?_⟩) hHeld ?_
        rotate_left
        · (intro wz hSw; (try dsimp only at hSw); (try simp only [zA, zB, zC]); go_simp; try with_reducible rfl)
        try simp only [zA, zB, zC, Act.put, zD, zE, zF]
        refine tkH (i := 8) (v := ?_) rfl (Or.inl ⟨by rfl, ?_⟩) hHeld ?_
        rotate_left
        · (intro wz hSw; (try dsimp only at hSw); (try simp only [zA, zB, zC]); go_simp; try with_reducible rfl)
        try simp only [zA, zB, zC, Act.put, zD, zE, zF]
        refine tkH (i := 9) (v := ?_) rfl (Or.inl ⟨by rfl, ?_⟩) hHeld ?_
        rotate_left
        · (intro wz hSw; (try dsimp only at hSw); (try simp only [zA, zB, zC]); go_simp; try with_reducible rfl)
        try simp only [zA, zB, zC, Act.put, zD, zE, zF]
        refine tkH (i := 10) (v := ?_) rfl (Or.inl ⟨by rfl, ?_⟩) hHeld ?_
        rotate_left
        · (intro wz hSw; (try dsimp only at hSw); (try simp only [zA, zB, zC]); go_simp; try with_reducible rfl)
        try simp only [zA, zB, zC, Act.put, zD, zE, zF]
        refine tkH (i := 11) (v := ?_) rfl (Or.inl ⟨by rfl, ?_⟩) hHeld ?_
        rotate_left
        · (intro wz hSw; (try dsimp only at hSw); (try simp only [zA, zB, zC]); go_simp; try with_reducible rfl)
        try simp only [zA, zB, zC, Act.put, zD, zE, zF]
        refine tkH (i := 12) (v := ?_) rfl (Or.inl ⟨by rfl, ?_⟩) hHeld ?_
        rotate_left
        · (intro wz hSw; (try dsimp only at hSw); (try simp only [zA, zB, zC]); go_simp; try with_reducible rfl)
        try simp only [zA, zB, zC, Act.put, zD, zE, zF]
        refine tkH (i := 13) (v := ?_) rfl (Or.inl ⟨by rfl, ?_⟩) hHeld ?_
        rotate_left
        · (intro wz hSw; (try dsimp only at hSw); (try simp only [zA, zB, zC]); go_simp; try with_reducible rfl)
        try simp only [zA, zB, zC, Act.put, zD, zE, zF]
        refine tkH (i := 14) (v := ?_) rfl (Or.inl ⟨by rfl, ?_⟩) hHeld ?_
        rotate_left
        · (intro wz hSw; (try dsimp only at hSw); (try simp only [zA, zB, zC]); go_simp; try with_reducible rfl)
        try simp only [zA, zB, zC, Act.put, zD, zE, zF]
        refine tkH (i := 15) (v := undef) rfl (Or.inr ⟨by rfl, rfl⟩) hHeld ?_
        try simp only [zA, zB, zC, Act.put, zD, zE, zF]
        refine tkH (i := 16) (v := undef) rfl (Or.inr ⟨by rfl, rfl⟩) hHeld ?_
        try simp only [zA, zB, zC, Act.put, zD, zE, zF]
        refine tkH (i := 17) (v := undef) rfl (Or.inr ⟨by rfl, rfl⟩) hHeld ?_
        try simp only [zA, zB, zC, Act.put, zD, zE, zF]
        refine tkH (i := 18) (v := ?_) rfl (Or.inl ⟨by rfl, ?_⟩) hHeld ?_
        rotate_left
        · (intro wz hSw; (try dsimp only at hSw); (try simp only [zA, zB, zC]); go_simp; try with_reducible rfl)
        try simp only [zA, zB, zC, Act.put, zD, zE, zF]
        refine wpAnyH_done (by kernel_rfl) ?_ _
        have HO := Lib.hid s1
        clear hHeld k5 k2 s1 h0
        go_wp2_with fail
        go_meet
        case rel => exact ⟨true, rfl, ⟨fun h => (by cases h), fun h => by have := h.2.1; omega⟩, HO.out⟩
      · have hd1 : decide (c.tm < m.lt) = false := by simp; omega
        by_cases h2 : m.lt < 0
        · have hd2 : decide (m.lt < 0) = true := by simp [h2]
          refine tkH (i := 3) (v := ?_) rfl (Or.inl ⟨by rfl, ?_⟩) hHeld ?_
          rotate_left
          · (intro wz hSw; (try dsimp only at hSw); (try simp only [zA, zB, zC]); go_simp; try with_reducible rfl)
          try simp only [zA, zB, zC, Act.put, zD, zE, zF]
          refine tkH (i := 4) (v := ?_) rfl (Or.inl ⟨by rfl, ?_⟩) hHeld ?_
          rotate_left
          · (intro wz hSw; (try dsimp only at hSw); (try simp only [zA, zB, zC]); go_simp; try with_reducible rfl)
          try simp only [zA, zB, zC, Act.put, zD, zE, zF]
          refine tkH (i := 5) (v := ?_) rfl (Or.inl ⟨by rfl, ?_⟩) hHeld ?_
          rotate_left
          · (intro wz hSw; (try dsimp only at hSw); (try simp only [zA, zB, zC]); go_simp; try with_reducible rfl)
          try simp only [zA, zB, zC, Act.put, zD, zE, zF]
          refine tkH (i := 6) (v := ?_) rfl (Or.inl ⟨by rfl, ?_⟩) hHeld ?_
          rotate_left
          · (intro wz hSw; (try dsimp only at hSw); (try simp only [zA, zB, zC]); go_simp; try with_reducible rfl)
          try simp only [zA, zB, zC, Act.put, zD, zE, zF]
          refine tkH (i := 7) (v := ?_) rfl (Or.inl ⟨by rfl, ?_⟩) hHeld ?_
          rotate_left
          · (intro wz hSw; (try dsimp only at hSw); (try simp only [zA, zB, zC]); go_simp; try with_reducible rfl)
          try simp only [zA, zB, zC, Act.put, zD, zE, zF]
          refine tkH (i := 8) (v := ?_) rfl (Or.inl ⟨by rfl, ?_⟩) hHeld ?_
          rotate_left
          · (intro wz hSw; (try dsimp only at hSw); (try simp only [zA, zB, zC]); go_simp; try with_reducible rfl)
          try simp only [zA, zB, zC, Act.put, zD, zE, zF]
          refine tkH (i := 9) (v := ?_) rfl (Or.inl ⟨by rfl, ?_⟩) hHeld ?_
          rotate_left
          · (intro wz hSw; (try dsimp only at hSw); (try simp only [zA, zB, zC]); go_simp; try with_reducible rfl)
          try simp only [zA, zB, zC, Act.put, zD, zE, zF]
          refine tkH (i := 10) (v := ?_) rfl (Or.inl ⟨by rfl, ?_⟩) hHeld ?_
          rotate_left
          · (intro wz hSw; (try dsimp only at hSw); (try simp only [zA, zB, zC]); go_simp; try with_reducible rfl)
          try simp only [zA, zB, zC, Act.put, zD, zE, zF]
          refine tkH (i := 11) (v := ?_) rfl (Or.inl ⟨by rfl, ?_⟩) hHeld ?_
          rotate_left
          · (intro wz hSw; (try dsimp only at hSw); (try simp only [zA, zB, zC]); go_simp; try with_reducible rfl)
          try simp only [zA, zB, zC, Act.put, zD, zE, zF]
          refine tkH (i := 12) (v := ?_) rfl (Or.inl ⟨by rfl, ?_⟩) hHeld ?_
          rotate_left
          · (intro wz hSw; (try dsimp only at hSw); (try simp only [zA, zB, zC]); go_simp; try with_reducible rfl)
          try simp only [zA, zB, zC, Act.put, zD, zE, zF]
          refine tkH (i := 13) (v := ?_) rfl (Or.inl ⟨by rfl, ?_⟩) hHeld ?_
          rotate_left
          · (intro wz hSw; (try dsimp only at hSw); (try simp only [zA, zB, zC]); go_simp; try with_reducible rfl)
          try simp only [zA, zB, zC, Act.put, zD, zE, zF]
          refine tkH (i := 14) (v := ?_) rfl (Or.inl ⟨by rfl, ?_⟩) hHeld ?_
          rotate_left
          · (intro wz hSw; (try dsimp only at hSw); (try simp only [zA, zB, zC]); go_simp; try with_reducible rfl)
          try simp only [zA, zB, zC, Act.put, zD, zE, zF]
          refine tkH (i := 15) (v := ?_) rfl (Or.inl ⟨by rfl, ?_⟩) hHeld ?_
          rotate_left
          · (intro wz hSw; (try dsimp only at hSw); (try simp only [zA, zB, zC]); go_simp; try with_reducible rfl)
          try simp only [zA, zB, zC, Act.put, zD, zE, zF]
          refine tkH (i := 16) (v := ?_) rfl (Or.inl ⟨by rfl, ?_⟩) hHeld ?_
          rotate_left
          · (intro wz hSw; (try dsimp only at hSw); (try simp only [zA, zB, zC]); go_simp; try with_reducible rfl)
          try simp only [zA, zB, zC, Act.put, zD, zE, zF]
          refine tkH (i := 17) (v := ?_) rfl (Or.inl ⟨by rfl, ?_⟩) hHeld ?_
          rotate_left
          · (intro wz hSw; (try dsimp only at hSw); (try simp only [zA, zB, zC]); go_simp; try with_reducible rfl)
          try simp only [zA, zB, zC, Act.put, zD, zE, zF]
          refine tkH (i := 18) (v := ?_) rfl (Or.inl ⟨by rfl, ?_⟩) hHeld ?_
          rotate_left
          · (intro wz hSw; (try dsimp only at hSw); (try simp only [zA, zB, zC]); go_simp; try with_reducible rfl)
          try simp only [zA, zB, zC, Act.put, zD, zE, zF]
          refine wpAnyH_done (by kernel_rfl) ?_ _
          have HO := Lib.hid s1
          clear hHeld k5 k2 s1 h0
          go_wp2_with fail
          go_meet
          case rel => exact ⟨true, rfl, ⟨fun h => (by cases h), fun h => by have := h.2.2; omega⟩, HO.out⟩
        · have hd2 : decide (m.lt < 0) = false := by simp; omega
          refine tkH (i := 3) (v := ?_) rfl (Or.inl ⟨by rfl, ?_⟩) hHeld ?_
          rotate_left
          · (intro wz hSw; (try dsimp only at hSw); (try simp only [zA, zB, zC]); go_simp; try with_reducible rfl)
          try simp only [zA, zB, zC, Act.put, zD, zE, zF]
          refine tkH (i := 4) (v := ?_) rfl (Or.inl ⟨by rfl, ?_⟩) hHeld ?_
          rotate_left
          · (intro wz hSw; (try dsimp only at hSw); (try simp only [zA, zB, zC]); go_simp; try with_reducible rfl)
          try simp only [zA, zB, zC, Act.put, zD, zE, zF]
          refine tkH (i := 5) (v := ?_) rfl (Or.inl ⟨by rfl, ?_⟩) hHeld ?_
          rotate_left
          · (intro wz hSw; (try dsimp only at hSw); (try simp only [zA, zB, zC]); go_simp; try with_reducible rfl)
          try simp only [zA, zB, zC, Act.put, zD, zE, zF]
          refine tkH (i := 6) (v := ?_) rfl (Or.inl ⟨by rfl, ?_⟩) hHeld ?_
          rotate_left
          · (intro wz hSw; (try dsimp only at hSw); (try simp only [zA, zB, zC]); go_simp; try with_reducible rfl)
          try simp only [zA, zB, zC, Act.put, zD, zE, zF]
          refine tkH (i := 7) (v := ?_) rfl (Or.inl ⟨by rfl, ?_⟩) hHeld ?_
          rotate_left
          · (intro wz hSw; (try dsimp only at hSw); (try simp only [zA, zB, zC]); go_simp; try with_reducible rfl)
          try simp only [zA, zB, zC, Act.put, zD, zE, zF]
          refine tkH (i := 8) (v := ?_) rfl (Or.inl ⟨by rfl, ?_⟩) hHeld ?_
          rotate_left
          · (intro wz hSw; (try dsimp only at hSw); (try simp only [zA, zB, zC]); go_simp; try with_reducible rfl)
          try simp only [zA, zB, zC, Act.put, zD, zE, zF]
          refine tkH (i := 9) (v := ?_) rfl (Or.inl ⟨by rfl, ?_⟩) hHeld ?_
          rotate_left
          · (intro wz hSw; (try dsimp only at hSw); (try simp only [zA, zB, zC]); go_simp; try with_reducible rfl)
          try simp only [zA, zB, zC, Act.put, zD, zE, zF]
          refine tkH (i := 10) (v := ?_) rfl (Or.inl ⟨by rfl, ?_⟩) hHeld ?_
          rotate_left
          · (intro wz hSw; (try dsimp only at hSw); (try simp only [zA, zB, zC]); go_simp; try with_reducible rfl)
          try simp only [zA, zB, zC, Act.put, zD, zE, zF]
          refine tkH (i := 11) (v := ?_) rfl (Or.inl ⟨by rfl, ?_⟩) hHeld ?_
          rotate_left
          · (intro wz hSw; (try dsimp only at hSw); (try simp only [zA, zB, zC]); go_simp; try with_reducible rfl)
          try simp only [zA, zB, zC, Act.put, zD, zE, zF]
          refine tkH (i := 12) (v := ?_) rfl (Or.inl ⟨by rfl, ?_⟩) hHeld ?_
          rotate_left
          · (intro wz hSw; (try dsimp only at hSw); (try simp only [zA, zB, zC]); go_simp; try with_reducible rfl)
          try simp only [zA, zB, zC, Act.put, zD, zE, zF]
          refine tkH (i := 13) (v := ?_) rfl (Or.inl ⟨by rfl, ?_⟩) hHeld ?_
          rotate_left
          · (intro wz hSw; (try dsimp only at hSw); (try simp only [zA, zB, zC]); go_simp; try with_reducible rfl)
          try simp only [zA, zB, zC, Act.put, zD, zE, zF]
          refine tkH (i := 14) (v := ?_) rfl (Or.inl ⟨by rfl, ?_⟩) hHeld ?_
          rotate_left
          · (intro wz hSw; (try dsimp only at hSw); (try simp only [zA, zB, zC]); go_simp; try with_reducible rfl)
          try simp only [zA, zB, zC, Act.put, zD, zE, zF]
          refine tkH (i := 15) (v := ?_) rfl (Or.inl ⟨by rfl, ?_⟩) hHeld ?_
          rotate_left
          · (intro wz hSw; (try dsimp only at hSw); (try simp only [zA, zB, zC]); go_simp; try with_reducible rfl)
          try simp only [zA, zB, zC, Act.put, zD, zE, zF]
          refine tkH (i := 16) (v := ?_) rfl (Or.inl ⟨by rfl, ?_⟩) hHeld ?_
          rotate_left
          · (intro wz hSw; (try dsimp only at hSw); (try simp only [zA, zB, zC]); go_simp; try with_reducible rfl)
          try simp only [zA, zB, zC, Act.put, zD, zE, zF]
          refine tkH (i := 17) (v := ?_) rfl (Or.inl ⟨by rfl, ?_⟩) hHeld ?_
          rotate_left
          · (intro wz hSw; (try dsimp only at hSw); (try simp only [zA, zB, zC]); go_simp; try with_reducible rfl)
          try simp only [zA, zB, zC, Act.put, zD, zE, zF]
          refine tkH (i := 18) (v := ?_) rfl (Or.inl ⟨by rfl, ?_⟩) hHeld ?_
          rotate_left
          · (intro wz hSw; (try dsimp only at hSw); (try simp only [zA, zB, zC]); go_simp; try with_reducible rfl)
          try simp only [zA, zB, zC, Act.put, zD, zE, zF]
          refine wpAnyH_done (by kernel_rfl) ?_ _
          have HO := Lib.hid s1
          clear hHeld k5 k2 s1 h0
          go_wp2_with fail
          go_meet
          case rel => exact ⟨false, rfl, ⟨fun _ => ⟨HG.out, by omega, by omega⟩, fun _ => rfl⟩, HO.out⟩
  case rest =>
    obtain ⟨W1, hW1⟩ : ∃ z : World, z = wc := ⟨_, rfl⟩
    rw [← hW1] at hcut ⊢
    obtain ⟨z, rfl, hcut⟩ := hcut
    obtain ⟨hz, hb1⟩ := hcut.out
    have HA1 := Lib.hid (HA.out.keep hb1); have HR1 := Lib.hid (HB.out.trans (AcR.below hb1)); have HX1 := Lib.hid (below_block hb1 (block_lt HX.out) HX.out)
    have HZB := Lib.hid hz
    clear hW1 hcut hb1 hz
    cases z with
    | true =>
      have HZ : Hid (A = ⟨c, l.map MsX.m⟩) := by show _ = _; rw [← HAA.out]; exact snap_no (by rw [HJ.out]; exact fun h => by have := HZB.out.2 h; cases this)
      have HO : Hid (AcDo 69 B w R v A (.returned (.tuple #[])) W1) := ⟨rfl, v, p, k, l, by rw [HZ.out], by rw [HZ.out]; exact HA1.out, HR1.out⟩
      go_wp2_with fail
      first | go_end0 | refine bodyPost_ret (results_none rfl _ _ _) rfl ?_
      exact HO.out
    | false =>
      have hyes := HZB.out.1 rfl
      rw [← HJ.out] at hyes
      have HYES := Lib.hid hyes
      obtain ⟨cf, hcf⟩ : ∃ cf, followC c m = cf := ⟨_, rfl⟩
      have hcfl : cf.l = c.l := by rw [← hcf]; rfl
      have hcfc : cf.cm = c.cm := by rw [← hcf]; rfl
      have hcfs : cf.sf = c.sf := by rw [← hcf]; rfl
      have HFO := Lib.hid (show Calls Tryz.prog 99 #[.pointer (some ⟨R, 0, none⟩), .agg (msC m q d).toArray] W1 fun e w' => e = .returned (.tuple #[]) ∧ AcW 69 B w' R ⟨cf, p, k⟩ v l ∧ AcR W1 w' R v v from by have := follows_act B R c p k v l m q d W1 HA1.out; rw [hcf] at this; exact this)
      have HCF := Lib.hid hcf; have HCFL := Lib.hid hcfl; have HCFC := Lib.hid hcfc; have HCFS := Lib.hid hcfs
      have HRG := Lib.hid (msg_range HX1.out)
      clear hyes hcf hcfl hcfc hcfs
      go_wp2_with (with_reducible refine wpList_load_mid (op := ⟨some 27, _, _, _, _, _⟩) rfl _ _ rfl X 0 rfl (msC m q d) _ HRG.out Tryz.underlying39 rfl (by kernel_rfl) ?_)
      refine HFO.out.mono ?_; rintro r w3 ⟨rfl, hA3, hr3⟩
      have HA3 := Lib.hid hA3; have HR3 := Lib.hid (HR1.out.trans hr3)
      have HX3 := Lib.hid (hr3.blk HX1.out hXR hXv).1
      have HFF : Hid (LgFit cf.l) := by show LgFit cf.l; rw [HCFL.out]; exact HF.out
      obtain ⟨c3, hc3⟩ : ∃ c3 : Co, { cf with sf := max cf.sf m.sf } = c3 := ⟨_, rfl⟩
      have HC3 := Lib.hid hc3
      have HC3L := Lib.hid (show c3.l = c.l from by rw [← hc3]; exact HCFL.out)
      have HC3C := Lib.hid (show c3.cm = c.cm from by rw [← hc3]; exact HCFC.out)
      clear hA3 hr3 HFO HRG HA1 HR1 HX1 hc3
      go_upto_region 3 with fail
      have hAd := HA3.out.keep (Below.refl _ _).drew
      have HXd : Hid (w3.drew.heap[X]? = some (.cells #[.int .i64 m.k, .int .i64 m.fr, .int .i64 m.dst, .int .i64 m.tm, .int .i64 m.ix, .int .i64 m.lt, .int .i64 m.cm, .int .i64 m.sf, .bool m.yes, .slice q m.es.length d, .string m.sn, .int .u16 m.cf.ov, .int .u16 m.cf.ox, .int .u16 m.cf.ol, .int .i64 m.cf.oe, .int .i64 m.cf.ok, .int .u16 m.cf.nv, .int .u16 m.cf.nx, .int .u16 m.cf.nl, .int .i64 m.cf.ne, .int .i64 m.cf.nk, .bool m.cf.two] 39 (0, 0))) := HX3.out
      have h0 : One X 7 (.int .i64 m.sf) w3.drew := ⟨block_cells HXd.out 7⟩
      have HBd := Lib.hid HR3.out.drew
      refine wp_region_held_drew (S := One X 7 (.int .i64 m.sf)) (by kernel_rfl) h0 (fun hHeld => ?_)
      obtain ⟨wd, ewd⟩ : ∃ x, w3.drew = x := ⟨_, rfl⟩
      rewrite [ewd] at hAd h0 hHeld HXd HBd ⊢
      clear ewd HA3 HR3 HX3
      have kx : ∀ w', One X 7 (.int .i64 m.sf) w' → w'.cell? ⟨X, 7, none⟩ = some (.int .i64 m.sf) := fun w' h => h.r
      have hq := hAd.put 7 (.int .i64 (max cf.sf m.sf)) (by decide) ⟨{ cf with sf := (max cf.sf m.sf) }, p, k⟩ rfl rfl rfl rfl
      rw [HC3.out] at hq
      have yX := (hq.2.blk HXd.out hXR hXv).1
      have s1 : One X 7 (.int .i64 m.sf) (wd.setCell ⟨R, 7, none⟩ (.int .i64 (max cf.sf m.sf))) := ⟨block_cells yX 7⟩
      have kc : wd.cell? ⟨R, 7, none⟩ = some (.int .i64 cf.sf) := block_cells hAd.blk 7
      have fc : wd.frozen? ⟨R, 7, none⟩ = false := block_free hAd.blk 7
      have HA6 := Lib.hid hq.1; have HR6 := Lib.hid (HBd.out.trans hq.2); have HX6 := Lib.hid yX
      clear hAd hq yX
      refine tkH (i := 0) (v := ?_) rfl (Or.inl ⟨by rfl, ?_⟩) hHeld ?_
      rotate_left
      · (intro wz hSw; (try dsimp only at hSw); (try simp only [zA, zC]); go_simp; try with_reducible rfl)
      try simp only [zA, zC, Act.put, zD, zE, zF]
      refine tkH (i := 1) (v := ?_) rfl (Or.inl ⟨by rfl, ?_⟩) hHeld ?_
      rotate_left
      · (intro wz hSw; (try dsimp only at hSw); (try simp only [zA, zB, zC]); go_simp; try with_reducible rfl)
      try simp only [zA, zB, zC, Act.put, zD, zE, zF]
      refine tkH (i := 2) (v := ?_) rfl (Or.inl ⟨by rfl, ?_⟩) hHeld ?_
      rotate_left
      · (intro wz hSw; (try dsimp only at hSw); (try simp only [zA, zB, zC]); go_simp; try with_reducible rfl)
      try simp only [zA, zB, zC, Act.put, zD, zE, zF]
      refine tkH (i := 3) (v := ?_) rfl (Or.inl ⟨by rfl, ?_⟩) hHeld ?_
      rotate_left
      · (intro wz hSw; (try dsimp only at hSw); (try simp only [zA, zB, zC]); go_simp; try with_reducible rfl)
      try simp only [zA, zB, zC, Act.put, zD, zE, zF]
      refine tkH (i := 4) (v := ?_) rfl (Or.inl ⟨by rfl, ?_⟩) hHeld ?_
      rotate_left
      · (intro wz hSw; (try dsimp only at hSw); (try simp only [zA, zB, zC]); go_simp; try with_reducible rfl)
      try simp only [zA, zB, zC, Act.put, zD, zE, zF]
      refine tkH (i := 6) (v := ?_) rfl (Or.inl ⟨by rfl, ?_⟩) hHeld ?_
      rotate_left
      · (intro wz hSw; (try dsimp only at hSw); (try simp only [zA, zB, zC]); go_simp; try with_reducible rfl)
      try simp only [zA, zB, zC, Act.put, zD, zE, zF]
      refine tkH (i := 7) (v := ?_) rfl (Or.inl ⟨by rfl, ?_⟩) hHeld ?_
      rotate_left
      · (intro wz hSw; (try dsimp only at hSw); (try simp only [zA, zB, zC]); go_simp; try with_reducible rfl)
      try simp only [zA, zB, zC, Act.put, zD, zE, zF]
      clear kx
      refine wpAnyH_ready (rs := [5]) (by kernel_rfl) (by simp) ?_; refine AllReadyH.cons rfl (fun K hK => ?_) AllReadyH.nil
      try simp only [zA, zB, zC]
      go_simp
      refine hK.out _ _ hHeld (fun _ => ?_)
      clear hK K
      try simp only [zA, zB, zC, Act.put, zD, zE, zF]
      refine tkH (i := 8) (v := ?_) rfl (Or.inl ⟨by rfl, ?_⟩) hHeld ?_
      rotate_left
      · (intro wz hSw; (try dsimp only at hSw); (try simp only [zA, zB, zC]); go_simp; try with_reducible rfl)
      try simp only [zA, zB, zC, Act.put, zD, zE, zF]
      refine tkH (i := 9) (v := ?_) rfl (Or.inl ⟨by rfl, ?_⟩) hHeld ?_
      rotate_left
      · (intro wz hSw; (try dsimp only at hSw); (try simp only [zA, zB, zC]); go_simp; try with_reducible rfl)
      try simp only [zA, zB, zC, Act.put, zD, zE, zF]
      refine tkH (i := 10) (v := ?_) rfl (Or.inl ⟨by rfl, ?_⟩) hHeld ?_
      rotate_left
      · (intro wz hSw; (try dsimp only at hSw); (try simp only [zA, zB, zC]); go_simp; try with_reducible rfl)
      try simp only [zA, zB, zC, Act.put, zD, zE, zF]
      refine tkH (i := 11) (v := ?_) rfl (Or.inl ⟨by rfl, ?_⟩) hHeld ?_
      rotate_left
      · (intro wz hSw; (try dsimp only at hSw); (try simp only [zA, zB, zC]); go_simp; try with_reducible rfl)
      try simp only [zA, zB, zC, Act.put, zD, zE, zF]
      refine wpAnyH_ready (rs := [12]) (by kernel_rfl) (by simp) ?_; refine AllReadyH.cons rfl (fun K hK => ?_) AllReadyH.nil
      try simp only [zA, zB, zC]
      go_simp
      refine hK.out _ _ s1 (fun _ => ?_)
      clear hK K hHeld kc fc
      try simp only [zA, zB, zC, Act.put, zD, zE, zF]
      refine wpAnyH_done (by kernel_rfl) ?_ _
      obtain ⟨W6, hWn⟩ : ∃ z : World, wd.setCell ⟨R, 7, none⟩ (.int .i64 (max cf.sf m.sf)) = z := ⟨_, rfl⟩
      rw [hWn] at HA6 HR6 HX6 ⊢
      clear hWn h0 s1 HXd HBd
      go_upto_region 4 with fail
      have h0 : Below W6.heap.size W6 W6.drew := (Below.refl _ _).drew
      refine wp_region_held_drew (S := fun w' => Below W6.heap.size W6 w') (by kernel_rfl) h0 (fun hHeld => ?_)
      obtain ⟨wd, ewd⟩ : ∃ x, W6.drew = x := ⟨_, rfl⟩
      rewrite [ewd] at h0 hHeld ⊢
      have kx : ∀ w', Below W6.heap.size W6 w' → w'.cell? ⟨X, 4, none⟩ = some (.int .i64 m.ix) := fun w' h => block_cells (below_block h (block_lt HX6.out) HX6.out) 4
      have kc : ∀ w', Below W6.heap.size W6 w' → w'.cell? ⟨R, 6, none⟩ = some (.int .i64 c.cm) := fun w' h => by rw [← HC3C.out]; exact block_cells (below_block h HA6.out.lt HA6.out.blk) 6
      clear ewd
      refine tkH (i := 0) (v := ?_) rfl (Or.inl ⟨by rfl, ?_⟩) hHeld ?_
      rotate_left
      · (intro wz hSw; (try dsimp only at hSw); (try simp only [zA, zC]); go_simp; try with_reducible rfl)
      try simp only [zA, zC, Act.put, zD, zE, zF]
      refine tkH (i := 1) (v := ?_) rfl (Or.inl ⟨by rfl, ?_⟩) hHeld ?_
      rotate_left
      · (intro wz hSw; (try dsimp only at hSw); (try simp only [zA, zB, zC]); go_simp; try with_reducible rfl)
      try simp only [zA, zB, zC, Act.put, zD, zE, zF]
      refine tkH (i := 2) (v := ?_) rfl (Or.inl ⟨by rfl, ?_⟩) hHeld ?_
      rotate_left
      · (intro wz hSw; (try dsimp only at hSw); (try simp only [zA, zB, zC]); go_simp; try with_reducible rfl)
      try simp only [zA, zB, zC, Act.put, zD, zE, zF]
      refine tkH (i := 3) (v := ?_) rfl (Or.inl ⟨by rfl, ?_⟩) hHeld ?_
      rotate_left
      · (intro wz hSw; (try dsimp only at hSw); (try simp only [zA, zB, zC]); go_simp; try with_reducible rfl)
      try simp only [zA, zB, zC, Act.put, zD, zE, zF]
      refine tkH (i := 4) (v := ?_) rfl (Or.inl ⟨by rfl, ?_⟩) hHeld ?_
      rotate_left
      · (intro wz hSw; (try dsimp only at hSw); (try simp only [zA, zB, zC]); go_simp; try with_reducible rfl)
      try simp only [zA, zB, zC, Act.put, zD, zE, zF]
      refine tkH (i := 5) (v := ?_) rfl (Or.inl ⟨by rfl, ?_⟩) hHeld ?_
      rotate_left
      · (intro wz hSw; (try dsimp only at hSw); (try simp only [zA, zB, zC]); go_simp; try with_reducible rfl)
      try simp only [zA, zB, zC, Act.put, zD, zE, zF]
      refine tkH (i := 6) (v := ?_) rfl (Or.inl ⟨by rfl, ?_⟩) hHeld ?_
      rotate_left
      · (intro wz hSw; (try dsimp only at hSw); (try simp only [zA, zB, zC]); go_simp; try with_reducible rfl)
      try simp only [zA, zB, zC, Act.put, zD, zE, zF]
      refine tkH (i := 7) (v := ?_) rfl (Or.inl ⟨by rfl, ?_⟩) hHeld ?_
      rotate_left
      · (intro wz hSw; (try dsimp only at hSw); (try simp only [zA, zB, zC]); go_simp; try with_reducible rfl)
      try simp only [zA, zB, zC, Act.put, zD, zE, zF]
      refine wpAnyH_done (by kernel_rfl) ?_ _
      have HA7 := Lib.hid (HA6.out.keep h0); have HR7 := Lib.hid (HR6.out.trans (AcR.below h0)); have HX7 := Lib.hid (below_block h0 (block_lt HX6.out) HX6.out)
      clear hHeld kx kc h0 HA6 HR6 HX6
      by_cases hold : m.ix ≤ c.cm
      · have hd : decide (m.ix ≤ c.cm) = true := by simp [hold]
        have HZ : Hid (A = ⟨c3, l.map MsX.m ++ [putM c3 m.fr { ms0 with k := 4, yes := true, ix := c.cm }]⟩) := by
          show _ = _
          rw [← HAA.out, ← HC3.out, ← HCF.out]; exact snap_old HYES.out hold
        go_upto_region 5 with fail
        have hb8 : Below wd.heap.size wd wd.drew := (Below.refl _ _).drew
        have h0 : AskS R X 1 (coL c3 p k) (.int .i64 m.fr) wd.drew := AskS.of (HA7.out.keep hb8) (block_cells (below_block hb8 (block_lt HX7.out) HX7.out) 1)
        refine wp_region_held_drew (S := AskS R X 1 (coL c3 p k) (.int .i64 m.fr)) (by kernel_rfl) h0 (fun hHeld => ?_)
        obtain ⟨we, ewe⟩ : ∃ x, wd.drew = x := ⟨_, rfl⟩
        rewrite [ewe] at hb8 h0 hHeld ⊢
        have HA8 := Lib.hid (HA7.out.keep hb8); have HR8 := Lib.hid (HR7.out.trans (AcR.below hb8)); have HX8 := Lib.hid (below_block hb8 (block_lt HX7.out) HX7.out)
        have kx : ∀ w', AskS R X 1 (coL c3 p k) (.int .i64 m.fr) w' → w'.cell? ⟨X, 1, none⟩ = some (.int .i64 m.fr) := fun w' h => h.c
        have kc : ∀ w', AskS R X 1 (coL c3 p k) (.int .i64 m.fr) w' → w'.cell? ⟨R, 6, none⟩ = some (.int .i64 c.cm) := fun w' h => by rw [← HC3C.out]; exact h.r 6 (by decide)
        clear ewe hb8
        refine tkH (i := 0) (v := ?_) rfl (Or.inl ⟨by rfl, ?_⟩) hHeld ?_
        rotate_left
        · (intro wz hSw; (try dsimp only at hSw); (try simp only [zA, zC]); go_simp; try with_reducible rfl)
        try simp only [zA, zC, Act.put, zD, zE, zF]
        refine tkH (i := 1) (v := ?_) rfl (Or.inl ⟨by rfl, ?_⟩) hHeld ?_
        rotate_left
        · (intro wz hSw; (try dsimp only at hSw); (try simp only [zA, zB, zC]); go_simp; try with_reducible rfl)
        try simp only [zA, zB, zC, Act.put, zD, zE, zF]
        refine tkH (i := 2) (v := ?_) rfl (Or.inl ⟨by rfl, ?_⟩) hHeld ?_
        rotate_left
        · (intro wz hSw; (try dsimp only at hSw); (try simp only [zA, zB, zC]); go_simp; try with_reducible rfl)
        try simp only [zA, zB, zC, Act.put, zD, zE, zF]
        refine tkH (i := 3) (v := ?_) rfl (Or.inl ⟨by rfl, ?_⟩) hHeld ?_
        rotate_left
        · (intro wz hSw; (try dsimp only at hSw); (try simp only [zA, zB, zC]); go_simp; try with_reducible rfl)
        try simp only [zA, zB, zC, Act.put, zD, zE, zF]
        refine tkH (i := 4) (v := ?_) rfl (Or.inl ⟨by rfl, ?_⟩) hHeld ?_
        rotate_left
        · (intro wz hSw; (try dsimp only at hSw); (try simp only [zA, zB, zC]); go_simp; try with_reducible rfl)
        try simp only [zA, zB, zC, Act.put, zD, zE, zF]
        refine tkH (i := 5) (v := ?_) rfl (Or.inl ⟨by rfl, ?_⟩) hHeld ?_
        rotate_left
        · (intro wz hSw; (try dsimp only at hSw); (try simp only [zA, zB, zC]); go_simp; try with_reducible rfl)
        try simp only [zA, zB, zC, Act.put, zD, zE, zF]
        refine tkH (i := 6) (v := ?_) rfl (Or.inl ⟨by rfl, ?_⟩) hHeld ?_
        rotate_left
        · (intro wz hSw; (try dsimp only at hSw); (try simp only [zA, zB, zC]); go_simp; try with_reducible rfl)
        try simp only [zA, zB, zC, Act.put, zD, zE, zF]
        refine tkH (i := 7) (v := ?_) rfl (Or.inl ⟨by rfl, ?_⟩) hHeld ?_
        rotate_left
        · (intro wz hSw; (try dsimp only at hSw); (try simp only [zA, zB, zC]); go_simp; try with_reducible rfl)
        try simp only [zA, zB, zC, Act.put, zD, zE, zF]
        refine tkH (i := 8) (v := .agg #[.int .i64 4, .int .i64 0, .int .i64 0, .int .i64 0, .int .i64 c.cm, .int .i64 0, .int .i64 0, .int .i64 0, .bool true, .slice none 0 0, .string ⟨#[]⟩, .int .u16 0, .int .u16 0, .int .u16 0, .int .i64 0, .int .i64 0, .int .u16 0, .int .u16 0, .int .u16 0, .int .i64 0, .int .i64 0, .bool false]) rfl (Or.inl ⟨by rfl, fun w' _ => by kernel_rfl⟩) hHeld ?_
        try simp only [zA, zB, zC, Act.put, zD, zE, zF]
        refine wpAnyH_ready (rs := [9]) (by kernel_rfl) (by simp) ?_; refine AllReadyH.cons rfl (fun K hK => ?_) AllReadyH.nil; (try simp only [zA, zB, zC]); go_simp
        refine (show Calls Tryz.prog 89 #[.pointer (some ⟨R, 0, none⟩), .int .i64 m.fr, .agg #[.int .i64 4, .int .i64 0, .int .i64 0, .int .i64 0, .int .i64 c.cm, .int .i64 0, .int .i64 0, .int .i64 0, .bool true, .slice none 0 0, .string ⟨#[]⟩, .int .u16 0, .int .u16 0, .int .u16 0, .int .i64 0, .int .i64 0, .int .u16 0, .int .u16 0, .int .u16 0, .int .i64 0, .int .i64 0, .bool false]] we fun e w' => e = .returned (.tuple #[]) ∧ ∃ v2, AcW 69 B w' R ⟨c3, p, k⟩ v2 (l ++ [⟨putM c3 m.fr { ms0 with k := 4, yes := true, ix := c.cm }, none, 0⟩]) ∧ AcR we w' R v v2 from send_act B R c3 p k v l m.fr { ms0 with k := 4, yes := true, ix := c.cm } none 0 we HA8.out (MsOwn.none rfl) (fun b hb => by cases hb) (by have := HLL.out; omega)).mono ?_; rintro r0 w9 ⟨rfl, v2, hA9, hr9⟩
        have h9 : AskS R X 1 (coL c3 p k) (.int .i64 m.fr) w9 := AskS.of hA9 (block_cells (hr9.blk HX8.out hXR hXv).1 1)
        have HO : Hid (AcDo 69 B w R v A (.returned (.tuple #[])) w9) := AcDo.sent HZ.out hA9 (HR8.out.trans hr9)
        refine hK.out _ _ h9 (fun _ => ?_)
        clear hK K hHeld h0 h9 hA9 hr9 kx kc
        try simp only [zA, zB, zC, Act.put, zD, zE, zF]
        refine wpAnyH_done (by kernel_rfl) ?_ _
        go_wp2_with fail
        first | go_end0 | refine bodyPost_ret (results_none rfl _ _ _) rfl ?_
        exact HO.out
      · have hd : decide (m.ix ≤ c.cm) = false := by simp; omega
        have hdp : c.cm < m.ix := by omega
        obtain ⟨S, hS⟩ : ∃ S, snapLg c m = S := ⟨_, rfl⟩
        obtain ⟨c4, hc4⟩ : ∃ c4 : Co, { c3 with l := S } = c4 := ⟨_, rfl⟩
        obtain ⟨c5, hc5⟩ : ∃ c5 : Co, { c4 with sn := m.sn } = c5 := ⟨_, rfl⟩
        obtain ⟨c6, hc6⟩ : ∃ c6 : Co, { c5 with cm := m.ix } = c6 := ⟨_, rfl⟩
        have HZ : Hid (A = ⟨c6, l.map MsX.m ++ [putM c6 m.fr { ms0 with k := 4, yes := true, ix := m.ix }]⟩) := by
          show _ = _
          rw [← HAA.out, ← hc6, ← hc5, ← hc4, ← hS, ← HC3.out, ← HCF.out]; exact snap_new HYES.out hold
        have HS := Lib.hid hS; have HC4 := Lib.hid hc4; have HC5 := Lib.hid hc5; have HC6 := Lib.hid hc6
        clear hold hS hc4 hc5 hc6
        obtain ⟨S0, hS0⟩ : ∃ S0 : Lg, S0 = ⟨m.ix, m.lt, jn0, []⟩ := ⟨_, rfl⟩
        have kx4 : wd.cell? ⟨X, 4, none⟩ = some (.int .i64 m.ix) := block_cells HX7.out 4
        have kx5 : wd.cell? ⟨X, 5, none⟩ = some (.int .i64 m.lt) := block_cells HX7.out 5
        go_upto_region 7 with fail
        clear kx4 kx5
        obtain ⟨W8, hW8⟩ : ∃ z : World, wd.alloc (.cells #[.int .i64 m.ix, .int .i64 m.lt, .int .u16 0, .int .u16 0, .int .u16 0, .int .i64 0, .int .i64 0, .int .u16 0, .int .u16 0, .int .u16 0, .int .i64 0, .int .i64 0, .bool false, .slice none 0 0] 30) = z := ⟨_, rfl⟩
        have hb8 : Below wd.heap.size wd W8 := by rw [← hW8]; exact (Below.refl _ _).alloc (Nat.le_refl _) _
        have hY : W8.heap[wd.heap.size]? = some (.cells #[.int .i64 S0.b, .int .i64 S0.bt, .int .u16 S0.j.ov, .int .u16 S0.j.ox, .int .u16 S0.j.ol, .int .i64 S0.j.oe, .int .i64 S0.j.ok, .int .u16 S0.j.nv, .int .u16 S0.j.nx, .int .u16 S0.j.nl, .int .i64 S0.j.ne, .int .i64 S0.j.nk, .bool S0.j.two, .slice none S0.es.length 0] 30 (0, 0)) := by rw [← hW8, hS0]; exact heap_last wd _
        obtain ⟨Y, eY⟩ : ∃ Y, wd.heap.size = Y := ⟨_, rfl⟩
        rw [eY] at hY
        have hYR : Y ≠ R := by have := HA7.out.lt; omega
        have hYX : Y ≠ X := by have := block_lt HX7.out; omega
        have hYv : v.ownBlock ≠ some Y := fun e => by have := (HA7.out.vge _ e).2; omega
        have HA8 := Lib.hid (HA7.out.keep hb8); have HR8 := Lib.hid (HR7.out.trans (AcR.below hb8)); have HX8 := Lib.hid (below_block hb8 (block_lt HX7.out) HX7.out); have HY8 := Lib.hid hY; have HS0 := Lib.hid hS0
        rw [hW8]
        (try rw [eY])
        have HYW := Lib.hid (show w.heap.size ≤ Y from by have := HR7.out.size; omega)
        clear hW8 hb8 hY eY hS0 HA7 HR7 HX7
        obtain ⟨⟨T, is⟩, hT⟩ : ∃ x, termL c.l m.ix = x := ⟨_, rfl⟩
        have HTT := Lib.hid hT
        clear hT
        go_upto_region 7 with fail
        have h0 : Below W8.heap.size W8 W8.drew := (Below.refl _ _).drew
        refine wp_region_held_drew (S := fun w' => Below W8.heap.size W8 w') (by kernel_rfl) h0 (fun hHeld => ?_)
        obtain ⟨we, ewd⟩ : ∃ x, W8.drew = x := ⟨_, rfl⟩
        rewrite [ewd] at h0 hHeld ⊢
        have kx : ∀ w', Below W8.heap.size W8 w' → w'.cell? ⟨X, 4, none⟩ = some (.int .i64 m.ix) := fun w' h => block_cells (below_block h (block_lt HX8.out) HX8.out) 4
        clear ewd
        have HKL := Lib.hid (show ∀ w', Below W8.heap.size W8 w' → w'.rangeAt R 8 [.int .i64 c.l.b, .int .i64 c.l.bt, .int .u16 c.l.j.ov, .int .u16 c.l.j.ox, .int .u16 c.l.j.ol, .int .i64 c.l.j.oe, .int .i64 c.l.j.ok, .int .u16 c.l.j.nv, .int .u16 c.l.j.nx, .int .u16 c.l.j.nl, .int .i64 c.l.j.ne, .int .i64 c.l.j.nk, .bool c.l.j.two, .slice p c.l.es.length k] from fun w' h => by rw [← HC3L.out]; exact AskS.log (g := X) (n := 4) (u := .int .i64 m.ix) (AskS.of (HA8.out.keep h) (block_cells (below_block h (block_lt HX8.out) HX8.out) 4)))
        refine tkH (i := 0) (v := ?_) rfl (Or.inl ⟨by rfl, ?_⟩) hHeld ?_
        rotate_left
        · (intro wz hSw; (try dsimp only at hSw); (try simp only [zA, zC]); go_simp; try with_reducible rfl)
        try simp only [zA, zC, Act.put, zD, zE, zF]
        refine tkH (i := 1) (v := ?_) rfl (Or.inl ⟨by rfl, ?_⟩) hHeld ?_
        rotate_left
        · (intro wz hSw; (try dsimp only at hSw); (try simp only [zA, zB, zC]); go_simp; try with_reducible rfl)
        try simp only [zA, zB, zC, Act.put, zD, zE, zF]
        refine tkH (i := 2) (v := ?_) rfl (Or.inl ⟨by rfl, ?_⟩) hHeld ?_
        rotate_left
        · (intro wz hSw; (try dsimp only at hSw); (try simp only [zA, zB, zC]); go_simp; try with_reducible rfl)
        try simp only [zA, zB, zC, Act.put, zD, zE, zF]
        refine tkH (i := 3) (v := ?_) rfl (Or.inl ⟨by rfl, ?_⟩) hHeld ?_
        rotate_left
        · (intro wz hSw; (try dsimp only at hSw); (try simp only [zA, zB, zC]); go_simp; try with_reducible rfl)
        try simp only [zA, zB, zC, Act.put, zD, zE, zF]
        refine tkH (i := 4) (v := .agg #[.int .i64 c.l.b, .int .i64 c.l.bt, .int .u16 c.l.j.ov, .int .u16 c.l.j.ox, .int .u16 c.l.j.ol, .int .i64 c.l.j.oe, .int .i64 c.l.j.ok, .int .u16 c.l.j.nv, .int .u16 c.l.j.nx, .int .u16 c.l.j.nl, .int .i64 c.l.j.ne, .int .i64 c.l.j.nk, .bool c.l.j.two, .slice p c.l.es.length k]) rfl (yieldsIf_load_mid (by rfl) _ _ rfl R 8 rfl [.int .i64 c.l.b, .int .i64 c.l.bt, .int .u16 c.l.j.ov, .int .u16 c.l.j.ox, .int .u16 c.l.j.ol, .int .i64 c.l.j.oe, .int .i64 c.l.j.ok, .int .u16 c.l.j.nv, .int .u16 c.l.j.nx, .int .u16 c.l.j.nl, .int .i64 c.l.j.ne, .int .i64 c.l.j.nk, .bool c.l.j.two, .slice p c.l.es.length k] _ HKL.out Tryz.underlying30 rfl (by kernel_rfl)) hHeld ?_
        try simp only [zA, zB, zC, Act.put, zD, zE, zF]
        refine tkH (i := 5) (v := ?_) rfl (Or.inl ⟨by rfl, ?_⟩) hHeld ?_
        rotate_left
        · (intro wz hSw; (try dsimp only at hSw); (try simp only [zA, zB, zC]); go_simp; try with_reducible rfl)
        try simp only [zA, zB, zC, Act.put, zD, zE, zF]
        refine tkH (i := 6) (v := ?_) rfl (Or.inl ⟨by rfl, ?_⟩) hHeld ?_
        rotate_left
        · (intro wz hSw; (try dsimp only at hSw); (try simp only [zA, zB, zC]); go_simp; try with_reducible rfl)
        try simp only [zA, zB, zC, Act.put, zD, zE, zF]
        refine wpAnyH_ready (rs := [7]) (by kernel_rfl) (by simp) ?_; refine AllReadyH.cons rfl (fun K hK => ?_) AllReadyH.nil; (try simp only [zA, zB, zC]); go_simp
        refine (show Calls Tryz.prog 65 #[.agg #[.int .i64 c.l.b, .int .i64 c.l.bt, .int .u16 c.l.j.ov, .int .u16 c.l.j.ox, .int .u16 c.l.j.ol, .int .i64 c.l.j.oe, .int .i64 c.l.j.ok, .int .u16 c.l.j.nv, .int .u16 c.l.j.nx, .int .u16 c.l.j.nl, .int .i64 c.l.j.ne, .int .i64 c.l.j.nk, .bool c.l.j.two, .slice p c.l.es.length k], .int .i64 m.ix] we fun r w2 => r = .returned (.tuple #[.int .i64 T, .bool is]) ∧ Below we.heap.size we w2 from by have := term_is c.l p k we HF.out (i := m.ix) ⟨by omega, by omega⟩ (by have h9 := EnSl.of_own HA8.out.en; rw [show (⟨c3, p, k⟩ : CoX).c.l = c.l from HC3L.out] at h9; exact h9.keep h0 (Nat.le_refl _)); rw [HTT.out] at this; exact this).mono ?_; rintro r0 w4 ⟨rfl, bs1⟩
        have s1 := h0.trans (bs1.mono h0.size)
        refine hK.out _ _ s1 (fun _ => ?_)
        clear hK K hHeld bs1 
        try simp only [zA, zB, zC, Act.put, zD, zE, zF]
        have hHeld := s1
        refine tkH (i := 8) (v := ?_) rfl (Or.inl ⟨by rfl, ?_⟩) hHeld ?_
        rotate_left
        · (intro wz hSw; (try dsimp only at hSw); (try simp only [zA, zB, zC]); go_simp; try with_reducible rfl)
        try simp only [zA, zB, zC, Act.put, zD, zE, zF]
        refine tkH (i := 9) (v := ?_) rfl (Or.inl ⟨by rfl, ?_⟩) hHeld ?_
        rotate_left
        · (intro wz hSw; (try dsimp only at hSw); (try simp only [zA, zB, zC]); go_simp; try with_reducible rfl)
        try simp only [zA, zB, zC, Act.put, zD, zE, zF]
        refine tkH (i := 10) (v := ?_) rfl (Or.inl ⟨by rfl, ?_⟩) hHeld ?_
        rotate_left
        · (intro wz hSw; (try dsimp only at hSw); (try simp only [zA, zB, zC]); go_simp; try with_reducible rfl)
        try simp only [zA, zB, zC, Act.put, zD, zE, zF]
        refine tkH (i := 11) (v := ?_) rfl (Or.inl ⟨by rfl, ?_⟩) hHeld ?_
        rotate_left
        · (intro wz hSw; (try dsimp only at hSw); (try simp only [zA, zB, zC]); go_simp; try with_reducible rfl)
        try simp only [zA, zB, zC, Act.put, zD, zE, zF]
        refine tkH (i := 12) (v := ?_) rfl (Or.inl ⟨by rfl, ?_⟩) hHeld ?_
        rotate_left
        · (intro wz hSw; (try dsimp only at hSw); (try simp only [zA, zB, zC]); go_simp; try with_reducible rfl)
        try simp only [zA, zB, zC, Act.put, zD, zE, zF]
        refine wpAnyH_done (by kernel_rfl) ?_ _
        have HA9 := Lib.hid (HA8.out.keep s1); have HR9 := Lib.hid (HR8.out.trans (AcR.below s1)); have HX9 := Lib.hid (below_block s1 (block_lt HX8.out) HX8.out); have HY9 := Lib.hid (below_block s1 (block_lt HY8.out) HY8.out)
        clear hHeld s1 h0 kx HA8 HR8 HX8 HY8
        go_upto_region 8 with fail
        go_cut [81] from 75 to 81 (fun b wx => ∃ z : Bool, b = .bool z ∧ Hid (z = true ↔ termL c.l m.ix = (m.lt, true)) ∧ w4 = wx)
        case first =>
          have kx : w4.cell? ⟨X, 5, none⟩ = some (.int .i64 m.lt) := block_cells HX9.out 5
          cases is with
          | false =>
            have HN : Hid (¬ termL c.l m.ix = (m.lt, true)) := fun h => by rw [HTT.out] at h; simp at h
            go_wp2_with fail
            go_meet
            case rel => exact ⟨false, rfl, ⟨fun h => absurd h Bool.false_ne_true, fun h => absurd h HN.out⟩, rfl⟩
          | true =>
            by_cases ht : T = m.lt
            · have htb : (T == m.lt) = true := by simp [ht]
              have HN : Hid (termL c.l m.ix = (m.lt, true)) := by show _ = _; rw [HTT.out, ht]
              clear ht
              go_wp2_with fail
              go_meet
              case rel => exact ⟨true, rfl, ⟨fun _ => HN.out, fun _ => rfl⟩, rfl⟩
            · have htb : (T == m.lt) = false := by simp [ht]
              have HN : Hid (¬ termL c.l m.ix = (m.lt, true)) := fun h => by rw [HTT.out] at h; simp at h; exact absurd h ht
              clear ht
              go_wp2_with fail
              go_meet
              case rel => exact ⟨false, rfl, ⟨fun h => absurd h Bool.false_ne_true, fun h => absurd h HN.out⟩, rfl⟩
        obtain ⟨zz, rfl, HZZ, rfl⟩ := hcut
        go_upto_if 81 with fail
        go_cut [] from 81 to 92 (fun wx => Hid (∃ (lgn : Lg) (qn : Option Addr) (dn : Nat), { lgn with j := m.cf } = S ∧ wx.heap[Y]? = some (.cells #[.int .i64 lgn.b, .int .i64 lgn.bt, .int .u16 lgn.j.ov, .int .u16 lgn.j.ox, .int .u16 lgn.j.ol, .int .i64 lgn.j.oe, .int .i64 lgn.j.ok, .int .u16 lgn.j.nv, .int .u16 lgn.j.nx, .int .u16 lgn.j.nl, .int .i64 lgn.j.ne, .int .i64 lgn.j.nk, .bool lgn.j.two, .slice qn lgn.es.length dn] 30 (0, 0)) ∧ wx.ownsRow w.heap.size 47 14 (.slice qn lgn.es.length dn) lgn.es.length (entRow lgn.es) ∧ AcW 69 B wx R ⟨c3, p, k⟩ v l ∧ AcR w wx R v v ∧ wx.heap[X]? = some (.cells #[.int .i64 m.k, .int .i64 m.fr, .int .i64 m.dst, .int .i64 m.tm, .int .i64 m.ix, .int .i64 m.lt, .int .i64 m.cm, .int .i64 m.sf, .bool m.yes, .slice q m.es.length d, .string m.sn, .int .u16 m.cf.ov, .int .u16 m.cf.ox, .int .u16 m.cf.ol, .int .i64 m.cf.oe, .int .i64 m.cf.ok, .int .u16 m.cf.nv, .int .u16 m.cf.nx, .int .u16 m.cf.nl, .int .i64 m.cf.ne, .int .i64 m.cf.nk, .bool m.cf.two] 39 (0, 0))))
        case first =>
          have HNO : Hid (termL c.l m.ix ≠ (m.lt, true) → ∃ (lgn : Lg) (qn : Option Addr) (dn : Nat), { lgn with j := m.cf } = S ∧ w4.heap[Y]? = some (.cells #[.int .i64 lgn.b, .int .i64 lgn.bt, .int .u16 lgn.j.ov, .int .u16 lgn.j.ox, .int .u16 lgn.j.ol, .int .i64 lgn.j.oe, .int .i64 lgn.j.ok, .int .u16 lgn.j.nv, .int .u16 lgn.j.nx, .int .u16 lgn.j.nl, .int .i64 lgn.j.ne, .int .i64 lgn.j.nk, .bool lgn.j.two, .slice qn lgn.es.length dn] 30 (0, 0)) ∧ w4.ownsRow w.heap.size 47 14 (.slice qn lgn.es.length dn) lgn.es.length (entRow lgn.es) ∧ AcW 69 B w4 R ⟨c3, p, k⟩ v l ∧ AcR w w4 R v v ∧ w4.heap[X]? = some (.cells #[.int .i64 m.k, .int .i64 m.fr, .int .i64 m.dst, .int .i64 m.tm, .int .i64 m.ix, .int .i64 m.lt, .int .i64 m.cm, .int .i64 m.sf, .bool m.yes, .slice q m.es.length d, .string m.sn, .int .u16 m.cf.ov, .int .u16 m.cf.ox, .int .u16 m.cf.ol, .int .i64 m.cf.oe, .int .i64 m.cf.ok, .int .u16 m.cf.nv, .int .u16 m.cf.nx, .int .u16 m.cf.nl, .int .i64 m.cf.ne, .int .i64 m.cf.nk, .bool m.cf.two] 39 (0, 0))) := fun hn => ⟨S0, none, 0, by rw [← HS.out, HS0.out]; unfold snapLg; rw [if_neg hn], HY9.out, by rw [HS0.out]; exact World.ownsRow_nil _ _ _ _, HA9.out, HR9.out, HX9.out⟩
          cases zz with
          | true =>
              have hyt := HZZ.out.1 rfl
              have HYT := Lib.hid hyt
              obtain ⟨⟨lgn, kk⟩, hcl⟩ : ∃ x, compactL c.l m.ix = x := ⟨_, rfl⟩
              have HCL := Lib.hid hcl
              clear hyt hcl
              go_upto_region 9 with fail
              have hd9 : Below w4.heap.size w4 w4.drew := (Below.refl _ _).drew
              have hAd := HA9.out.keep hd9
              have HXd := Lib.hid (below_block hd9 (block_lt HX9.out) HX9.out)
              have HYd := Lib.hid (below_block hd9 (block_lt HY9.out) HY9.out)
              have h0 : AskS R X 4 (coL c3 p k) (.int .i64 m.ix) w4.drew := AskS.of hAd (block_cells HXd.out 4)
              have HRd := Lib.hid (HR9.out.trans (AcR.below hd9))
              refine wp_region_held_drew (S := AskS R X 4 (coL c3 p k) (.int .i64 m.ix)) (by kernel_rfl) h0 (fun hHeld => ?_)
              obtain ⟨wf, ewf⟩ : ∃ x, w4.drew = x := ⟨_, rfl⟩
              rewrite [ewf] at hAd HXd HYd h0 HRd hHeld ⊢
              have HAd := Lib.hid hAd
              have HKL2 := Lib.hid (show ∀ w', AskS R X 4 (coL c3 p k) (.int .i64 m.ix) w' → w'.rangeAt R 8 [.int .i64 c.l.b, .int .i64 c.l.bt, .int .u16 c.l.j.ov, .int .u16 c.l.j.ox, .int .u16 c.l.j.ol, .int .i64 c.l.j.oe, .int .i64 c.l.j.ok, .int .u16 c.l.j.nv, .int .u16 c.l.j.nx, .int .u16 c.l.j.nl, .int .i64 c.l.j.ne, .int .i64 c.l.j.nk, .bool c.l.j.two, .slice p c.l.es.length k] from fun w' h => by rw [← HC3L.out]; exact AskS.log h)
              have kx4 : ∀ w', AskS R X 4 (coL c3 p k) (.int .i64 m.ix) w' → w'.cell? ⟨X, 4, none⟩ = some (.int .i64 m.ix) := fun w' h => h.c
              clear ewf hAd hd9
              refine tkH (i := 0) (v := ?_) rfl (Or.inl ⟨by rfl, ?_⟩) hHeld ?_
              rotate_left
              · (intro wz hSw; (try dsimp only at hSw); (try simp only [zA, zC]); go_simp; try with_reducible rfl)
              try simp only [zA, zC, Act.put, zD, zE, zF]
              refine tkH (i := 1) (v := ?_) rfl (Or.inl ⟨by rfl, ?_⟩) hHeld ?_
              rotate_left
              · (intro wz hSw; (try dsimp only at hSw); (try simp only [zA, zB, zC]); go_simp; try with_reducible rfl)
              try simp only [zA, zB, zC, Act.put, zD, zE, zF]
              refine tkH (i := 2) (v := ?_) rfl (Or.inl ⟨by rfl, ?_⟩) hHeld ?_
              rotate_left
              · (intro wz hSw; (try dsimp only at hSw); (try simp only [zA, zB, zC]); go_simp; try with_reducible rfl)
              try simp only [zA, zB, zC, Act.put, zD, zE, zF]
              refine tkH (i := 3) (v := ?_) rfl (Or.inl ⟨by rfl, ?_⟩) hHeld ?_
              rotate_left
              · (intro wz hSw; (try dsimp only at hSw); (try simp only [zA, zB, zC]); go_simp; try with_reducible rfl)
              try simp only [zA, zB, zC, Act.put, zD, zE, zF]
              refine tkH (i := 4) (v := .agg #[.int .i64 c.l.b, .int .i64 c.l.bt, .int .u16 c.l.j.ov, .int .u16 c.l.j.ox, .int .u16 c.l.j.ol, .int .i64 c.l.j.oe, .int .i64 c.l.j.ok, .int .u16 c.l.j.nv, .int .u16 c.l.j.nx, .int .u16 c.l.j.nl, .int .i64 c.l.j.ne, .int .i64 c.l.j.nk, .bool c.l.j.two, .slice p c.l.es.length k]) rfl (yieldsIf_load_mid (by rfl) _ _ rfl R 8 rfl [.int .i64 c.l.b, .int .i64 c.l.bt, .int .u16 c.l.j.ov, .int .u16 c.l.j.ox, .int .u16 c.l.j.ol, .int .i64 c.l.j.oe, .int .i64 c.l.j.ok, .int .u16 c.l.j.nv, .int .u16 c.l.j.nx, .int .u16 c.l.j.nl, .int .i64 c.l.j.ne, .int .i64 c.l.j.nk, .bool c.l.j.two, .slice p c.l.es.length k] _ HKL2.out Tryz.underlying30 rfl (by kernel_rfl)) hHeld ?_
              try simp only [zA, zB, zC, Act.put, zD, zE, zF]
              refine tkH (i := 5) (v := ?_) rfl (Or.inl ⟨by rfl, ?_⟩) hHeld ?_
              rotate_left
              · (intro wz hSw; (try dsimp only at hSw); (try simp only [zA, zB, zC]); go_simp; try with_reducible rfl)
              try simp only [zA, zB, zC, Act.put, zD, zE, zF]
              refine tkH (i := 6) (v := ?_) rfl (Or.inl ⟨by rfl, ?_⟩) hHeld ?_
              rotate_left
              · (intro wz hSw; (try dsimp only at hSw); (try simp only [zA, zB, zC]); go_simp; try with_reducible rfl)
              try simp only [zA, zB, zC, Act.put, zD, zE, zF]
              refine wpAnyH_ready (rs := [7]) (by kernel_rfl) (by simp) ?_; refine AllReadyH.cons rfl (fun K hK => ?_) AllReadyH.nil; (try simp only [zA, zB, zC]); go_simp
              refine (show Calls Tryz.prog 82 #[.agg #[.int .i64 c.l.b, .int .i64 c.l.bt, .int .u16 c.l.j.ov, .int .u16 c.l.j.ox, .int .u16 c.l.j.ol, .int .i64 c.l.j.oe, .int .i64 c.l.j.ok, .int .u16 c.l.j.nv, .int .u16 c.l.j.nx, .int .u16 c.l.j.nl, .int .i64 c.l.j.ne, .int .i64 c.l.j.nk, .bool c.l.j.two, .slice p c.l.es.length k], .int .i64 m.ix] wf (LgEnd2 wf.heap.size wf lgn kk) from by have := compact_any c.l p k m.ix wf HF.out ⟨by omega, by omega⟩ (by have h9 := EnSl.of_own HAd.out.en; rw [show (⟨c3, p, k⟩ : CoX).c.l = c.l from HC3L.out] at h9; exact h9); rw [HCL.out] at this; exact this).mono ?_; rintro r0 w6 ⟨q6, d6, rfl, ho6, b6⟩
              have hA6 := HAd.out.keep b6
              have hX6 := below_block b6 (block_lt HXd.out) HXd.out
              have hY6 := below_block b6 (block_lt HYd.out) HYd.out
              have s6 : AskS R X 4 (coL c3 p k) (.int .i64 m.ix) w6 := AskS.of hA6 (block_cells hX6 4)
              have hg7 := (block_setCells [.int .i64 lgn.b, .int .i64 lgn.bt, .int .u16 lgn.j.ov, .int .u16 lgn.j.ox, .int .u16 lgn.j.ol, .int .i64 lgn.j.oe, .int .i64 lgn.j.ok, .int .u16 lgn.j.nv, .int .u16 lgn.j.nx, .int .u16 lgn.j.nl, .int .i64 lgn.j.ne, .int .i64 lgn.j.nk, .bool lgn.j.two, .slice q6 lgn.es.length d6] 0 hY6).2
              have hA7 := hA6.other hY6 (by decide) hYR hYv hg7
              have hX7 := (hg7.block X (block_lt hX6) (fun e => hYX (by simpa using e.symm))).trans hX6
              have s7 : AskS R X 4 (coL c3 p k) (.int .i64 m.ix) (w6.setCells Y 0 [.int .i64 lgn.b, .int .i64 lgn.bt, .int .u16 lgn.j.ov, .int .u16 lgn.j.ox, .int .u16 lgn.j.ol, .int .i64 lgn.j.oe, .int .i64 lgn.j.ok, .int .u16 lgn.j.nv, .int .u16 lgn.j.nx, .int .u16 lgn.j.nl, .int .i64 lgn.j.ne, .int .i64 lgn.j.nk, .bool lgn.j.two, .slice q6 lgn.es.length d6]) := AskS.of hA7 (block_cells hX7 4)
              have hY7 : (w6.setCells Y 0 [.int .i64 lgn.b, .int .i64 lgn.bt, .int .u16 lgn.j.ov, .int .u16 lgn.j.ox, .int .u16 lgn.j.ol, .int .i64 lgn.j.oe, .int .i64 lgn.j.ok, .int .u16 lgn.j.nv, .int .u16 lgn.j.nx, .int .u16 lgn.j.nl, .int .i64 lgn.j.ne, .int .i64 lgn.j.nk, .bool lgn.j.two, .slice q6 lgn.es.length d6]).heap[Y]? = some (.cells #[.int .i64 lgn.b, .int .i64 lgn.bt, .int .u16 lgn.j.ov, .int .u16 lgn.j.ox, .int .u16 lgn.j.ol, .int .i64 lgn.j.oe, .int .i64 lgn.j.ok, .int .u16 lgn.j.nv, .int .u16 lgn.j.nx, .int .u16 lgn.j.nl, .int .i64 lgn.j.ne, .int .i64 lgn.j.nk, .bool lgn.j.two, .slice q6 lgn.es.length d6] 30 (0, 0)) := fin4 (l := lgn) (q := q6) (d := d6) hY6 rfl
              have HTH := Lib.hid (there_of_block (o := 0) (n := 14) hY6 (Nat.le_refl 14))
              have HO : Hid (∃ (ln : Lg) (qn : Option Addr) (dn : Nat), { ln with j := m.cf } = S ∧ (w6.setCells Y 0 [.int .i64 lgn.b, .int .i64 lgn.bt, .int .u16 lgn.j.ov, .int .u16 lgn.j.ox, .int .u16 lgn.j.ol, .int .i64 lgn.j.oe, .int .i64 lgn.j.ok, .int .u16 lgn.j.nv, .int .u16 lgn.j.nx, .int .u16 lgn.j.nl, .int .i64 lgn.j.ne, .int .i64 lgn.j.nk, .bool lgn.j.two, .slice q6 lgn.es.length d6]).heap[Y]? = some (.cells #[.int .i64 ln.b, .int .i64 ln.bt, .int .u16 ln.j.ov, .int .u16 ln.j.ox, .int .u16 ln.j.ol, .int .i64 ln.j.oe, .int .i64 ln.j.ok, .int .u16 ln.j.nv, .int .u16 ln.j.nx, .int .u16 ln.j.nl, .int .i64 ln.j.ne, .int .i64 ln.j.nk, .bool ln.j.two, .slice qn ln.es.length dn] 30 (0, 0)) ∧ (w6.setCells Y 0 [.int .i64 lgn.b, .int .i64 lgn.bt, .int .u16 lgn.j.ov, .int .u16 lgn.j.ox, .int .u16 lgn.j.ol, .int .i64 lgn.j.oe, .int .i64 lgn.j.ok, .int .u16 lgn.j.nv, .int .u16 lgn.j.nx, .int .u16 lgn.j.nl, .int .i64 lgn.j.ne, .int .i64 lgn.j.nk, .bool lgn.j.two, .slice q6 lgn.es.length d6]).ownsRow w.heap.size 47 14 (.slice qn ln.es.length dn) ln.es.length (entRow ln.es) ∧ AcW 69 B (w6.setCells Y 0 [.int .i64 lgn.b, .int .i64 lgn.bt, .int .u16 lgn.j.ov, .int .u16 lgn.j.ox, .int .u16 lgn.j.ol, .int .i64 lgn.j.oe, .int .i64 lgn.j.ok, .int .u16 lgn.j.nv, .int .u16 lgn.j.nx, .int .u16 lgn.j.nl, .int .i64 lgn.j.ne, .int .i64 lgn.j.nk, .bool lgn.j.two, .slice q6 lgn.es.length d6]) R ⟨c3, p, k⟩ v l ∧ AcR w (w6.setCells Y 0 [.int .i64 lgn.b, .int .i64 lgn.bt, .int .u16 lgn.j.ov, .int .u16 lgn.j.ox, .int .u16 lgn.j.ol, .int .i64 lgn.j.oe, .int .i64 lgn.j.ok, .int .u16 lgn.j.nv, .int .u16 lgn.j.nx, .int .u16 lgn.j.nl, .int .i64 lgn.j.ne, .int .i64 lgn.j.nk, .bool lgn.j.two, .slice q6 lgn.es.length d6]) R v v ∧ (w6.setCells Y 0 [.int .i64 lgn.b, .int .i64 lgn.bt, .int .u16 lgn.j.ov, .int .u16 lgn.j.ox, .int .u16 lgn.j.ol, .int .i64 lgn.j.oe, .int .i64 lgn.j.ok, .int .u16 lgn.j.nv, .int .u16 lgn.j.nx, .int .u16 lgn.j.nl, .int .i64 lgn.j.ne, .int .i64 lgn.j.nk, .bool lgn.j.two, .slice q6 lgn.es.length d6]).heap[X]? = some (.cells #[.int .i64 m.k, .int .i64 m.fr, .int .i64 m.dst, .int .i64 m.tm, .int .i64 m.ix, .int .i64 m.lt, .int .i64 m.cm, .int .i64 m.sf, .bool m.yes, .slice q m.es.length d, .string m.sn, .int .u16 m.cf.ov, .int .u16 m.cf.ox, .int .u16 m.cf.ol, .int .i64 m.cf.oe, .int .i64 m.cf.ok, .int .u16 m.cf.nv, .int .u16 m.cf.nx, .int .u16 m.cf.nl, .int .i64 m.cf.ne, .int .i64 m.cf.nk, .bool m.cf.two] 39 (0, 0))) :=
                ⟨lgn, q6, d6, by rw [← HS.out]; unfold snapLg; rw [if_pos HYT.out, HCL.out], hY7, (ho6.mono (by have := HRd.out.size; omega)).kept hg7 (own_other ho6 hY6 (by decide)), hA7, ⟨hg7.os.trans (HRd.out.trans (AcR.below b6)).os, hg7.tape.trans (HRd.out.trans (AcR.below b6)).tape, hg7.output.trans (HRd.out.trans (AcR.below b6)).output, Nat.le_trans (HRd.out.trans (AcR.below (v := v) b6)).size hg7.size, fun b hb hbR hbv => ⟨(hg7.block b (Nat.lt_of_lt_of_le hb (HRd.out.trans (AcR.below (v := v) b6)).size) (fun e => by simp only [Option.some.injEq] at e; have := HYW.out; omega)).trans ((HRd.out.trans (AcR.below b6)).oth b hb hbR hbv).1, hbv⟩⟩, hX7⟩
              refine hK.out _ _ s6 (fun _ => ?_)
              clear hK K hHeld b6 ho6 hA6 hX6 hY6 hg7 hA7 hX7 hY7 h0
              try simp only [zA, zB, zC, Act.put, zD, zE, zF]
              have hHeld := s6
              refine tkH (i := 8) (v := ?_) rfl (Or.inl ⟨by rfl, ?_⟩) hHeld ?_
              rotate_left
              · (intro wz hSw; (try dsimp only at hSw); (try simp only [zA, zB, zC]); go_simp; try with_reducible rfl)
              try simp only [zA, zB, zC, Act.put, zD, zE, zF]
              refine tkH (i := 9) (v := ?_) rfl (Or.inl ⟨by rfl, ?_⟩) hHeld ?_
              rotate_left
              · (intro wz hSw; (try dsimp only at hSw); (try simp only [zA, zB, zC]); go_simp; try with_reducible rfl)
              try simp only [zA, zB, zC, Act.put, zD, zE, zF]
              refine tkH (i := 10) (v := ?_) rfl (Or.inl ⟨by rfl, ?_⟩) hHeld ?_
              rotate_left
              · (intro wz hSw; (try dsimp only at hSw); (try simp only [zA, zB, zC]); go_simp; try with_reducible rfl)
              try simp only [zA, zB, zC, Act.put, zD, zE, zF]
              refine wpAnyH_ready (rs := [11]) (by kernel_rfl) (by simp) ?_; refine AllReadyH.cons rfl (fun K hK => ?_) AllReadyH.nil
              rw [if_pos (by rfl)]
              refine wp_store_mid _ _ _ (by rfl) Y 0 #[.int .i64 lgn.b, .int .i64 lgn.bt, .int .u16 lgn.j.ov, .int .u16 lgn.j.ox, .int .u16 lgn.j.ol, .int .i64 lgn.j.oe, .int .i64 lgn.j.ok, .int .u16 lgn.j.nv, .int .u16 lgn.j.nx, .int .u16 lgn.j.nl, .int .i64 lgn.j.ne, .int .i64 lgn.j.nk, .bool lgn.j.two, .slice q6 lgn.es.length d6] (by rfl) (by rfl) HTH.out (by kernel_rfl) (one_all rfl) ?_
              refine hK.out _ _ s7 (fun _ => ?_)
              clear hK K hHeld s6 s7 kx4
              try simp only [zA, zB, zC, Act.put]
              refine wpAnyH_done (by kernel_rfl) ?_ _
              obtain ⟨W7, hW7⟩ : ∃ z : World, w6.setCells Y 0 [.int .i64 lgn.b, .int .i64 lgn.bt, .int .u16 lgn.j.ov, .int .u16 lgn.j.ox, .int .u16 lgn.j.ol, .int .i64 lgn.j.oe, .int .i64 lgn.j.ok, .int .u16 lgn.j.nv, .int .u16 lgn.j.nx, .int .u16 lgn.j.nl, .int .i64 lgn.j.ne, .int .i64 lgn.j.nk, .bool lgn.j.two, .slice q6 lgn.es.length d6] = z := ⟨_, rfl⟩
              rw [hW7] at HO
              (try rw [hW7])
              (try rw [show w6.setCells Y 0 (#[.int .i64 lgn.b, .int .i64 lgn.bt, .int .u16 lgn.j.ov, .int .u16 lgn.j.ox, .int .u16 lgn.j.ol, .int .i64 lgn.j.oe, .int .i64 lgn.j.ok, .int .u16 lgn.j.nv, .int .u16 lgn.j.nx, .int .u16 lgn.j.nl, .int .i64 lgn.j.ne, .int .i64 lgn.j.nk, .bool lgn.j.two, .slice q6 lgn.es.length d6] : Array Value).toList = W7 from hW7])
              clear hW7 HTH
              go_wp2_with fail
              go_meet
              case rel => exact HO
          | false =>
              have HO := Lib.hid (HNO.out (fun h => by have := HZZ.out.2 h; cases this))
              go_wp2_with fail
              go_meet
              case rel => exact HO
        case rest =>
          obtain ⟨W5, hW5⟩ : ∃ z : World, z = wc := ⟨_, rfl⟩
          rw [← hW5] at hcut ⊢
          obtain ⟨lgn, qn, dn, hlS, hY5, ho5, hA5, hR5, hX5⟩ := hcut.out
          have HA5 := Lib.hid hA5; have HR5 := Lib.hid hR5; have HX5 := Lib.hid hX5; have HY5 := Lib.hid hY5; have HO5 := Lib.hid ho5; have HLS := Lib.hid hlS
          clear hW5 hcut hlS hY5 ho5 hA5 hR5 hX5
          have hXj : W5.rangeAt X 11 [.int .u16 m.cf.ov, .int .u16 m.cf.ox, .int .u16 m.cf.ol, .int .i64 m.cf.oe, .int .i64 m.cf.ok, .int .u16 m.cf.nv, .int .u16 m.cf.nx, .int .u16 m.cf.nl, .int .i64 m.cf.ne, .int .i64 m.cf.nk, .bool m.cf.two] := range_of (n := 11) rfl (fun j hj => by
            rw [block_cells HX5.out (11 + j)]
            rcases (show j = 0 ∨ j = 1 ∨ j = 2 ∨ j = 3 ∨ j = 4 ∨ j = 5 ∨ j = 6 ∨ j = 7 ∨ j = 8 ∨ j = 9 ∨ j = 10 by omega) with rfl | rfl | rfl | rfl | rfl | rfl | rfl | rfl | rfl | rfl | rfl <;> rfl)
          have HXJ := Lib.hid hXj
          have HTH := Lib.hid (there_of_block (o := 2) (n := 11) HY5.out (by show 2 + 11 ≤ 14; decide))
          have hg6 := (block_setCells [.int .u16 m.cf.ov, .int .u16 m.cf.ox, .int .u16 m.cf.ol, .int .i64 m.cf.oe, .int .i64 m.cf.ok, .int .u16 m.cf.nv, .int .u16 m.cf.nx, .int .u16 m.cf.nl, .int .i64 m.cf.ne, .int .i64 m.cf.nk, .bool m.cf.two] 2 HY5.out).2
          have hY6 : (W5.setCells Y 2 [.int .u16 m.cf.ov, .int .u16 m.cf.ox, .int .u16 m.cf.ol, .int .i64 m.cf.oe, .int .i64 m.cf.ok, .int .u16 m.cf.nv, .int .u16 m.cf.nx, .int .u16 m.cf.nl, .int .i64 m.cf.ne, .int .i64 m.cf.nk, .bool m.cf.two]).heap[Y]? = some (.cells #[.int .i64 S.b, .int .i64 S.bt, .int .u16 S.j.ov, .int .u16 S.j.ox, .int .u16 S.j.ol, .int .i64 S.j.oe, .int .i64 S.j.ok, .int .u16 S.j.nv, .int .u16 S.j.nx, .int .u16 S.j.nl, .int .i64 S.j.ne, .int .i64 S.j.nk, .bool S.j.two, .slice qn S.es.length dn] 30 (0, 0)) := by
            have h1 := (block_setCells [.int .u16 m.cf.ov, .int .u16 m.cf.ox, .int .u16 m.cf.ol, .int .i64 m.cf.oe, .int .i64 m.cf.ok, .int .u16 m.cf.nv, .int .u16 m.cf.nx, .int .u16 m.cf.nl, .int .i64 m.cf.ne, .int .i64 m.cf.nk, .bool m.cf.two] 2 HY5.out).1
            rw [← HLS.out]; exact h1
          have hA6 := HA5.out.other HY5.out (by decide) hYR hYv hg6
          have hX6 := (hg6.block X (block_lt HX5.out) (fun e => hYX (by simpa using e.symm))).trans HX5.out
          have hR6 : AcR w (W5.setCells Y 2 [.int .u16 m.cf.ov, .int .u16 m.cf.ox, .int .u16 m.cf.ol, .int .i64 m.cf.oe, .int .i64 m.cf.ok, .int .u16 m.cf.nv, .int .u16 m.cf.nx, .int .u16 m.cf.nl, .int .i64 m.cf.ne, .int .i64 m.cf.nk, .bool m.cf.two]) R v v := ⟨hg6.os.trans HR5.out.os, hg6.tape.trans HR5.out.tape, hg6.output.trans HR5.out.output, Nat.le_trans HR5.out.size hg6.size, fun b hb hbR hbv => ⟨(hg6.block b (Nat.lt_of_lt_of_le hb HR5.out.size) (fun e => by simp only [Option.some.injEq] at e; have := HYW.out; omega)).trans (HR5.out.oth b hb hbR hbv).1, hbv⟩⟩
          have ho6 : (W5.setCells Y 2 [.int .u16 m.cf.ov, .int .u16 m.cf.ox, .int .u16 m.cf.ol, .int .i64 m.cf.oe, .int .i64 m.cf.ok, .int .u16 m.cf.nv, .int .u16 m.cf.nx, .int .u16 m.cf.nl, .int .i64 m.cf.ne, .int .i64 m.cf.nk, .bool m.cf.two]).ownsRow w.heap.size 47 14 (.slice qn S.es.length dn) S.es.length (entRow S.es) := by rw [← HLS.out]; exact HO5.out.kept hg6 (own_other HO5.out HY5.out (by decide))
          have HA6 := Lib.hid hA6; have HX6 := Lib.hid hX6; have HR6 := Lib.hid hR6; have HY6 := Lib.hid hY6; have HO6 := Lib.hid ho6
          clear hXj hg6 hY6 hA6 hX6 hR6 ho6
          go_upto_region 11 with (first | (with_reducible refine wpList_load_mid (op := ⟨some 94, _, _, _, _, _⟩) rfl _ _ rfl X 11 rfl [.int .u16 m.cf.ov, .int .u16 m.cf.ox, .int .u16 m.cf.ol, .int .i64 m.cf.oe, .int .i64 m.cf.ok, .int .u16 m.cf.nv, .int .u16 m.cf.nx, .int .u16 m.cf.nl, .int .i64 m.cf.ne, .int .i64 m.cf.nk, .bool m.cf.two] _ HXJ.out Tryz.underlying27 rfl (by kernel_rfl) ?_) | (with_reducible refine wpList_store_at (op := ⟨none, .store 27 _ _, _, _, _, _⟩) rfl _ _ _ rfl Y 2 11 #[.int .u16 m.cf.ov, .int .u16 m.cf.ox, .int .u16 m.cf.ol, .int .i64 m.cf.oe, .int .i64 m.cf.ok, .int .u16 m.cf.nv, .int .u16 m.cf.nx, .int .u16 m.cf.nl, .int .i64 m.cf.ne, .int .i64 m.cf.nk, .bool m.cf.two] (by kernel_rfl) rfl rfl HTH.out (by kernel_rfl) (one_all rfl) ?_))
          obtain ⟨W6, hW6⟩ : ∃ z : World, W5.setCells Y 2 [.int .u16 m.cf.ov, .int .u16 m.cf.ox, .int .u16 m.cf.ol, .int .i64 m.cf.oe, .int .i64 m.cf.ok, .int .u16 m.cf.nv, .int .u16 m.cf.nx, .int .u16 m.cf.nl, .int .i64 m.cf.ne, .int .i64 m.cf.nk, .bool m.cf.two] = z := ⟨_, rfl⟩
          rw [hW6] at HA6 HX6 HR6 HY6 HO6
          (try rw [hW6])
          (try rw [show W5.setCells Y 2 (#[.int .u16 m.cf.ov, .int .u16 m.cf.ox, .int .u16 m.cf.ol, .int .i64 m.cf.oe, .int .i64 m.cf.ok, .int .u16 m.cf.nv, .int .u16 m.cf.nx, .int .u16 m.cf.nl, .int .i64 m.cf.ne, .int .i64 m.cf.nk, .bool m.cf.two] : Array Value).toList = W6 from hW6])
          clear hW6 HTH HXJ HO5 HA5 HR5 HX5 HY5
          go_upto_region 11 with fail
          have hd9 : Below W6.heap.size W6 W6.drew := (Below.refl _ _).drew
          have hAd := HA6.out.keep hd9
          have HXd := Lib.hid (below_block hd9 (block_lt HX6.out) HX6.out)
          have HYd := Lib.hid (below_block hd9 (block_lt HY6.out) HY6.out)
          have HRd := Lib.hid (HR6.out.trans (AcR.below hd9))
          have hod := own_keptC HO6.out hd9
          have h0 : SndS Y X #[.int .i64 S.b, .int .i64 S.bt, .int .u16 S.j.ov, .int .u16 S.j.ox, .int .u16 S.j.ol, .int .i64 S.j.oe, .int .i64 S.j.ok, .int .u16 S.j.nv, .int .u16 S.j.nx, .int .u16 S.j.nl, .int .i64 S.j.ne, .int .i64 S.j.nk, .bool S.j.two, .slice qn S.es.length dn] #[.int .i64 m.k, .int .i64 m.fr, .int .i64 m.dst, .int .i64 m.tm, .int .i64 m.ix, .int .i64 m.lt, .int .i64 m.cm, .int .i64 m.sf, .bool m.yes, .slice q m.es.length d, .string m.sn, .int .u16 m.cf.ov, .int .u16 m.cf.ox, .int .u16 m.cf.ol, .int .i64 m.cf.oe, .int .i64 m.cf.ok, .int .u16 m.cf.nv, .int .u16 m.cf.nx, .int .u16 m.cf.nl, .int .i64 m.cf.ne, .int .i64 m.cf.nk, .bool m.cf.two] W6.drew := SndS.of HYd.out HXd.out
          refine wp_region_held_drew (S := SndS Y X #[.int .i64 S.b, .int .i64 S.bt, .int .u16 S.j.ov, .int .u16 S.j.ox, .int .u16 S.j.ol, .int .i64 S.j.oe, .int .i64 S.j.ok, .int .u16 S.j.nv, .int .u16 S.j.nx, .int .u16 S.j.nl, .int .i64 S.j.ne, .int .i64 S.j.nk, .bool S.j.two, .slice qn S.es.length dn] #[.int .i64 m.k, .int .i64 m.fr, .int .i64 m.dst, .int .i64 m.tm, .int .i64 m.ix, .int .i64 m.lt, .int .i64 m.cm, .int .i64 m.sf, .bool m.yes, .slice q m.es.length d, .string m.sn, .int .u16 m.cf.ov, .int .u16 m.cf.ox, .int .u16 m.cf.ol, .int .i64 m.cf.oe, .int .i64 m.cf.ok, .int .u16 m.cf.nv, .int .u16 m.cf.nx, .int .u16 m.cf.nl, .int .i64 m.cf.ne, .int .i64 m.cf.nk, .bool m.cf.two]) (by kernel_rfl) h0 (fun hHeld => ?_)
          obtain ⟨wf, ewf⟩ : ∃ x, W6.drew = x := ⟨_, rfl⟩
          rewrite [ewf] at hAd HXd HYd h0 HRd hod hHeld ⊢
          have HKY := Lib.hid (show ∀ w', SndS Y X #[.int .i64 S.b, .int .i64 S.bt, .int .u16 S.j.ov, .int .u16 S.j.ox, .int .u16 S.j.ol, .int .i64 S.j.oe, .int .i64 S.j.ok, .int .u16 S.j.nv, .int .u16 S.j.nx, .int .u16 S.j.nl, .int .i64 S.j.ne, .int .i64 S.j.nk, .bool S.j.two, .slice qn S.es.length dn] #[.int .i64 m.k, .int .i64 m.fr, .int .i64 m.dst, .int .i64 m.tm, .int .i64 m.ix, .int .i64 m.lt, .int .i64 m.cm, .int .i64 m.sf, .bool m.yes, .slice q m.es.length d, .string m.sn, .int .u16 m.cf.ov, .int .u16 m.cf.ox, .int .u16 m.cf.ol, .int .i64 m.cf.oe, .int .i64 m.cf.ok, .int .u16 m.cf.nv, .int .u16 m.cf.nx, .int .u16 m.cf.nl, .int .i64 m.cf.ne, .int .i64 m.cf.nk, .bool m.cf.two] w' → w'.rangeAt Y 0 [.int .i64 S.b, .int .i64 S.bt, .int .u16 S.j.ov, .int .u16 S.j.ox, .int .u16 S.j.ol, .int .i64 S.j.oe, .int .i64 S.j.ok, .int .u16 S.j.nv, .int .u16 S.j.nx, .int .u16 S.j.nl, .int .i64 S.j.ne, .int .i64 S.j.nk, .bool S.j.two, .slice qn S.es.length dn] from fun w' h => range_of (n := 14) rfl (fun j hj => by rw [Nat.zero_add, h.r j (by omega), List.getElem?_toArray]))
          have kx10 : ∀ w', SndS Y X #[.int .i64 S.b, .int .i64 S.bt, .int .u16 S.j.ov, .int .u16 S.j.ox, .int .u16 S.j.ol, .int .i64 S.j.oe, .int .i64 S.j.ok, .int .u16 S.j.nv, .int .u16 S.j.nx, .int .u16 S.j.nl, .int .i64 S.j.ne, .int .i64 S.j.nk, .bool S.j.two, .slice qn S.es.length dn] #[.int .i64 m.k, .int .i64 m.fr, .int .i64 m.dst, .int .i64 m.tm, .int .i64 m.ix, .int .i64 m.lt, .int .i64 m.cm, .int .i64 m.sf, .bool m.yes, .slice q m.es.length d, .string m.sn, .int .u16 m.cf.ov, .int .u16 m.cf.ox, .int .u16 m.cf.ol, .int .i64 m.cf.oe, .int .i64 m.cf.ok, .int .u16 m.cf.nv, .int .u16 m.cf.nx, .int .u16 m.cf.nl, .int .i64 m.cf.ne, .int .i64 m.cf.nk, .bool m.cf.two] w' → w'.cell? ⟨X, 10, none⟩ = some (.string m.sn) := fun w' h => h.x 10
          have kx4 : ∀ w', SndS Y X #[.int .i64 S.b, .int .i64 S.bt, .int .u16 S.j.ov, .int .u16 S.j.ox, .int .u16 S.j.ol, .int .i64 S.j.oe, .int .i64 S.j.ok, .int .u16 S.j.nv, .int .u16 S.j.nx, .int .u16 S.j.nl, .int .i64 S.j.ne, .int .i64 S.j.nk, .bool S.j.two, .slice qn S.es.length dn] #[.int .i64 m.k, .int .i64 m.fr, .int .i64 m.dst, .int .i64 m.tm, .int .i64 m.ix, .int .i64 m.lt, .int .i64 m.cm, .int .i64 m.sf, .bool m.yes, .slice q m.es.length d, .string m.sn, .int .u16 m.cf.ov, .int .u16 m.cf.ox, .int .u16 m.cf.ol, .int .i64 m.cf.oe, .int .i64 m.cf.ok, .int .u16 m.cf.nv, .int .u16 m.cf.nx, .int .u16 m.cf.nl, .int .i64 m.cf.ne, .int .i64 m.cf.nk, .bool m.cf.two] w' → w'.cell? ⟨X, 4, none⟩ = some (.int .i64 m.ix) := fun w' h => h.x 4
          have hp1 := hAd.log S qn dn hod HBl.out (fun z hz b hzb e => by
            have h1 := ((HOV.out.en z hz).lt b hzb).2
            have h2 := (hod.lt b e).1
            omega)
          rw [HC4.out] at hp1
          have hTH := there_of_block (o := 8) (n := 14) hAd.blk (by show 8 + 14 ≤ 46; decide)
          have hp2 := hp1.1.put 22 (.string m.sn) (by decide) ⟨{ c4 with sn := m.sn }, qn, dn⟩ rfl rfl rfl rfl
          rw [HC5.out] at hp2
          have k22 := block_cells hp1.1.blk 22
          have k22' : (wf.setCells R 8 [.int .i64 S.b, .int .i64 S.bt, .int .u16 S.j.ov, .int .u16 S.j.ox, .int .u16 S.j.ol, .int .i64 S.j.oe, .int .i64 S.j.ok, .int .u16 S.j.nv, .int .u16 S.j.nx, .int .u16 S.j.nl, .int .i64 S.j.ne, .int .i64 S.j.nk, .bool S.j.two, .slice qn S.es.length dn]).cell? ⟨R, 22, none⟩ = some (.string c4.sn) := k22
          have f22 : (wf.setCells R 8 [.int .i64 S.b, .int .i64 S.bt, .int .u16 S.j.ov, .int .u16 S.j.ox, .int .u16 S.j.ol, .int .i64 S.j.oe, .int .i64 S.j.ok, .int .u16 S.j.nv, .int .u16 S.j.nx, .int .u16 S.j.nl, .int .i64 S.j.ne, .int .i64 S.j.nk, .bool S.j.two, .slice qn S.es.length dn]).frozen? ⟨R, 22, none⟩ = false := block_free hp1.1.blk 22
          have hp3 := hp2.1.put 6 (.int .i64 m.ix) (by decide) ⟨{ c5 with cm := m.ix }, qn, dn⟩ rfl rfl rfl rfl
          rw [HC6.out] at hp3
          have k6 : ((wf.setCells R 8 [.int .i64 S.b, .int .i64 S.bt, .int .u16 S.j.ov, .int .u16 S.j.ox, .int .u16 S.j.ol, .int .i64 S.j.oe, .int .i64 S.j.ok, .int .u16 S.j.nv, .int .u16 S.j.nx, .int .u16 S.j.nl, .int .i64 S.j.ne, .int .i64 S.j.nk, .bool S.j.two, .slice qn S.es.length dn]).setCell ⟨R, 22, none⟩ (.string m.sn)).cell? ⟨R, 6, none⟩ = some (.int .i64 c5.cm) := block_cells hp2.1.blk 6
          have f6 : ((wf.setCells R 8 [.int .i64 S.b, .int .i64 S.bt, .int .u16 S.j.ov, .int .u16 S.j.ox, .int .u16 S.j.ol, .int .i64 S.j.oe, .int .i64 S.j.ok, .int .u16 S.j.nv, .int .u16 S.j.nx, .int .u16 S.j.nl, .int .i64 S.j.ne, .int .i64 S.j.nk, .bool S.j.two, .slice qn S.es.length dn]).setCell ⟨R, 22, none⟩ (.string m.sn)).frozen? ⟨R, 6, none⟩ = false := block_free hp2.1.blk 6
          have x1 := (hp1.2.blk HXd.out hXR hXv).1
          have y1 := (hp1.2.blk HYd.out hYR hYv).1
          have x2 := (hp2.2.blk x1 hXR hXv).1
          have y2 := (hp2.2.blk y1 hYR hYv).1
          have x3 := (hp3.2.blk x2 hXR hXv).1
          have y3 := (hp3.2.blk y2 hYR hYv).1
          have s1 : SndS Y X #[.int .i64 S.b, .int .i64 S.bt, .int .u16 S.j.ov, .int .u16 S.j.ox, .int .u16 S.j.ol, .int .i64 S.j.oe, .int .i64 S.j.ok, .int .u16 S.j.nv, .int .u16 S.j.nx, .int .u16 S.j.nl, .int .i64 S.j.ne, .int .i64 S.j.nk, .bool S.j.two, .slice qn S.es.length dn] #[.int .i64 m.k, .int .i64 m.fr, .int .i64 m.dst, .int .i64 m.tm, .int .i64 m.ix, .int .i64 m.lt, .int .i64 m.cm, .int .i64 m.sf, .bool m.yes, .slice q m.es.length d, .string m.sn, .int .u16 m.cf.ov, .int .u16 m.cf.ox, .int .u16 m.cf.ol, .int .i64 m.cf.oe, .int .i64 m.cf.ok, .int .u16 m.cf.nv, .int .u16 m.cf.nx, .int .u16 m.cf.nl, .int .i64 m.cf.ne, .int .i64 m.cf.nk, .bool m.cf.two] (wf.setCells R 8 [.int .i64 S.b, .int .i64 S.bt, .int .u16 S.j.ov, .int .u16 S.j.ox, .int .u16 S.j.ol, .int .i64 S.j.oe, .int .i64 S.j.ok, .int .u16 S.j.nv, .int .u16 S.j.nx, .int .u16 S.j.nl, .int .i64 S.j.ne, .int .i64 S.j.nk, .bool S.j.two, .slice qn S.es.length dn]) := SndS.of y1 x1
          have s2 : SndS Y X #[.int .i64 S.b, .int .i64 S.bt, .int .u16 S.j.ov, .int .u16 S.j.ox, .int .u16 S.j.ol, .int .i64 S.j.oe, .int .i64 S.j.ok, .int .u16 S.j.nv, .int .u16 S.j.nx, .int .u16 S.j.nl, .int .i64 S.j.ne, .int .i64 S.j.nk, .bool S.j.two, .slice qn S.es.length dn] #[.int .i64 m.k, .int .i64 m.fr, .int .i64 m.dst, .int .i64 m.tm, .int .i64 m.ix, .int .i64 m.lt, .int .i64 m.cm, .int .i64 m.sf, .bool m.yes, .slice q m.es.length d, .string m.sn, .int .u16 m.cf.ov, .int .u16 m.cf.ox, .int .u16 m.cf.ol, .int .i64 m.cf.oe, .int .i64 m.cf.ok, .int .u16 m.cf.nv, .int .u16 m.cf.nx, .int .u16 m.cf.nl, .int .i64 m.cf.ne, .int .i64 m.cf.nk, .bool m.cf.two] ((wf.setCells R 8 [.int .i64 S.b, .int .i64 S.bt, .int .u16 S.j.ov, .int .u16 S.j.ox, .int .u16 S.j.ol, .int .i64 S.j.oe, .int .i64 S.j.ok, .int .u16 S.j.nv, .int .u16 S.j.nx, .int .u16 S.j.nl, .int .i64 S.j.ne, .int .i64 S.j.nk, .bool S.j.two, .slice qn S.es.length dn]).setCell ⟨R, 22, none⟩ (.string m.sn)) := SndS.of y2 x2
          have s3 : SndS Y X #[.int .i64 S.b, .int .i64 S.bt, .int .u16 S.j.ov, .int .u16 S.j.ox, .int .u16 S.j.ol, .int .i64 S.j.oe, .int .i64 S.j.ok, .int .u16 S.j.nv, .int .u16 S.j.nx, .int .u16 S.j.nl, .int .i64 S.j.ne, .int .i64 S.j.nk, .bool S.j.two, .slice qn S.es.length dn] #[.int .i64 m.k, .int .i64 m.fr, .int .i64 m.dst, .int .i64 m.tm, .int .i64 m.ix, .int .i64 m.lt, .int .i64 m.cm, .int .i64 m.sf, .bool m.yes, .slice q m.es.length d, .string m.sn, .int .u16 m.cf.ov, .int .u16 m.cf.ox, .int .u16 m.cf.ol, .int .i64 m.cf.oe, .int .i64 m.cf.ok, .int .u16 m.cf.nv, .int .u16 m.cf.nx, .int .u16 m.cf.nl, .int .i64 m.cf.ne, .int .i64 m.cf.nk, .bool m.cf.two] (((wf.setCells R 8 [.int .i64 S.b, .int .i64 S.bt, .int .u16 S.j.ov, .int .u16 S.j.ox, .int .u16 S.j.ol, .int .i64 S.j.oe, .int .i64 S.j.ok, .int .u16 S.j.nv, .int .u16 S.j.nx, .int .u16 S.j.nl, .int .i64 S.j.ne, .int .i64 S.j.nk, .bool S.j.two, .slice qn S.es.length dn]).setCell ⟨R, 22, none⟩ (.string m.sn)).setCell ⟨R, 6, none⟩ (.int .i64 m.ix)) := SndS.of y3 x3
          have HA7 := Lib.hid hp3.1; have HR7 := Lib.hid (((HRd.out.trans hp1.2).trans hp2.2).trans hp3.2); have HX7 := Lib.hid x3
          have HTH := Lib.hid hTH
          clear ewf hAd hd9 hod hp1 hp2 hp3 x1 x2 x3 y1 y2 y3 hTH k22
          refine tkH (i := 0) (v := ?_) rfl (Or.inl ⟨by rfl, ?_⟩) hHeld ?_
          rotate_left
          · (intro wz hSw; (try dsimp only at hSw); (try simp only [zA, zC]); go_simp; try with_reducible rfl)
          try simp only [zA, zC, Act.put, zD, zE, zF]
          refine tkH (i := 1) (v := ?_) rfl (Or.inl ⟨by rfl, ?_⟩) hHeld ?_
          rotate_left
          · (intro wz hSw; (try dsimp only at hSw); (try simp only [zA, zB, zC]); go_simp; try with_reducible rfl)
          try simp only [zA, zB, zC, Act.put, zD, zE, zF]
          refine tkH (i := 2) (v := ?_) rfl (Or.inl ⟨by rfl, ?_⟩) hHeld ?_
          rotate_left
          · (intro wz hSw; (try dsimp only at hSw); (try simp only [zA, zB, zC]); go_simp; try with_reducible rfl)
          try simp only [zA, zB, zC, Act.put, zD, zE, zF]
          refine tkH (i := 3) (v := .agg #[.int .i64 S.b, .int .i64 S.bt, .int .u16 S.j.ov, .int .u16 S.j.ox, .int .u16 S.j.ol, .int .i64 S.j.oe, .int .i64 S.j.ok, .int .u16 S.j.nv, .int .u16 S.j.nx, .int .u16 S.j.nl, .int .i64 S.j.ne, .int .i64 S.j.nk, .bool S.j.two, .slice qn S.es.length dn]) rfl (yieldsIf_load_mid (by rfl) _ _ rfl Y 0 rfl [.int .i64 S.b, .int .i64 S.bt, .int .u16 S.j.ov, .int .u16 S.j.ox, .int .u16 S.j.ol, .int .i64 S.j.oe, .int .i64 S.j.ok, .int .u16 S.j.nv, .int .u16 S.j.nx, .int .u16 S.j.nl, .int .i64 S.j.ne, .int .i64 S.j.nk, .bool S.j.two, .slice qn S.es.length dn] _ HKY.out Tryz.underlying30 rfl (by kernel_rfl)) hHeld ?_
          try simp only [zA, zB, zC, Act.put, zD, zE, zF]
          refine tkH (i := 4) (v := ?_) rfl (Or.inl ⟨by rfl, ?_⟩) hHeld ?_
          rotate_left
          · (intro wz hSw; (try dsimp only at hSw); (try simp only [zA, zB, zC]); go_simp; try with_reducible rfl)
          try simp only [zA, zB, zC, Act.put, zD, zE, zF]
          refine tkH (i := 5) (v := ?_) rfl (Or.inl ⟨by rfl, ?_⟩) hHeld ?_
          rotate_left
          · (intro wz hSw; (try dsimp only at hSw); (try simp only [zA, zB, zC]); go_simp; try with_reducible rfl)
          try simp only [zA, zB, zC, Act.put, zD, zE, zF]
          refine tkH (i := 6) (v := ?_) rfl (Or.inl ⟨by rfl, ?_⟩) hHeld ?_
          rotate_left
          · (intro wz hSw; (try dsimp only at hSw); (try simp only [zA, zB, zC]); go_simp; try with_reducible rfl)
          try simp only [zA, zB, zC, Act.put, zD, zE, zF]
          refine tkH (i := 7) (v := ?_) rfl (Or.inl ⟨by rfl, ?_⟩) hHeld ?_
          rotate_left
          · (intro wz hSw; (try dsimp only at hSw); (try simp only [zA, zB, zC]); go_simp; try with_reducible rfl)
          try simp only [zA, zB, zC, Act.put, zD, zE, zF]
          refine tkH (i := 8) (v := ?_) rfl (Or.inl ⟨by rfl, ?_⟩) hHeld ?_
          rotate_left
          · (intro wz hSw; (try dsimp only at hSw); (try simp only [zA, zB, zC]); go_simp; try with_reducible rfl)
          try simp only [zA, zB, zC, Act.put, zD, zE, zF]
          refine tkH (i := 9) (v := ?_) rfl (Or.inl ⟨by rfl, ?_⟩) hHeld ?_
          rotate_left
          · (intro wz hSw; (try dsimp only at hSw); (try simp only [zA, zB, zC]); go_simp; try with_reducible rfl)
          try simp only [zA, zB, zC, Act.put, zD, zE, zF]
          refine tkH (i := 10) (v := ?_) rfl (Or.inl ⟨by rfl, ?_⟩) hHeld ?_
          rotate_left
          · (intro wz hSw; (try dsimp only at hSw); (try simp only [zA, zB, zC]); go_simp; try with_reducible rfl)
          try simp only [zA, zB, zC, Act.put, zD, zE, zF]
          refine wpAnyH_ready (rs := [11]) (by kernel_rfl) (by simp) ?_; refine AllReadyH.cons rfl (fun K hK => ?_) AllReadyH.nil
          rw [if_pos (by rfl)]
          refine wp_store_mid _ _ _ (by rfl) R 8 #[.int .i64 S.b, .int .i64 S.bt, .int .u16 S.j.ov, .int .u16 S.j.ox, .int .u16 S.j.ol, .int .i64 S.j.oe, .int .i64 S.j.ok, .int .u16 S.j.nv, .int .u16 S.j.nx, .int .u16 S.j.nl, .int .i64 S.j.ne, .int .i64 S.j.nk, .bool S.j.two, .slice qn S.es.length dn] (by rfl) (by rfl) HTH.out (by kernel_rfl) (one_all rfl) ?_
          refine hK.out _ _ s1 (fun _ => ?_)
          clear hK K hHeld h0 kx10 kx4
          obtain ⟨W7, hW7⟩ : ∃ z : World, wf.setCells R 8 [.int .i64 S.b, .int .i64 S.bt, .int .u16 S.j.ov, .int .u16 S.j.ox, .int .u16 S.j.ol, .int .i64 S.j.oe, .int .i64 S.j.ok, .int .u16 S.j.nv, .int .u16 S.j.nx, .int .u16 S.j.nl, .int .i64 S.j.ne, .int .i64 S.j.nk, .bool S.j.two, .slice qn S.es.length dn] = z := ⟨_, rfl⟩
          rw [hW7] at HA7 HR7 HX7 k22' f22 k6 f6 s1 s2 s3
          (try rw [hW7])
          (try rw [show wf.setCells R 8 (#[.int .i64 S.b, .int .i64 S.bt, .int .u16 S.j.ov, .int .u16 S.j.ox, .int .u16 S.j.ol, .int .i64 S.j.oe, .int .i64 S.j.ok, .int .u16 S.j.nv, .int .u16 S.j.nx, .int .u16 S.j.nl, .int .i64 S.j.ne, .int .i64 S.j.nk, .bool S.j.two, .slice qn S.es.length dn] : Array Value).toList = W7 from hW7])
          clear hW7 HTH
          try simp only [zA, zB, zC, Act.put]
          have hHeld := s1
          refine tkH (i := 12) (v := ?_) rfl (Or.inl ⟨by rfl, ?_⟩) hHeld ?_
          rotate_left
          · (intro wz hSw; (try dsimp only at hSw); (try simp only [zA, zB, zC]); go_simp; try with_reducible rfl)
          try simp only [zA, zB, zC, Act.put, zD, zE, zF]
          refine tkH (i := 13) (v := ?_) rfl (Or.inl ⟨by rfl, ?_⟩) hHeld ?_
          rotate_left
          · (intro wz hSw; (try dsimp only at hSw); (try simp only [zA, zB, zC]); go_simp; try with_reducible rfl)
          try simp only [zA, zB, zC, Act.put, zD, zE, zF]
          refine tkH (i := 14) (v := ?_) rfl (Or.inl ⟨by rfl, ?_⟩) hHeld ?_
          rotate_left
          · (intro wz hSw; (try dsimp only at hSw); (try simp only [zA, zB, zC]); go_simp; try with_reducible rfl)
          try simp only [zA, zB, zC, Act.put, zD, zE, zF]
          refine wpAnyH_ready (rs := [15]) (by kernel_rfl) (by simp) ?_; refine AllReadyH.cons rfl (fun K hK => ?_) AllReadyH.nil
          try simp only [zA, zB, zC]
          go_simp
          refine hK.out _ _ s2 (fun _ => ?_)
          clear hK K hHeld k22' f22
          try simp only [zA, zB, zC, Act.put, zD, zE, zF]
          have hHeld := s2
          refine tkH (i := 16) (v := ?_) rfl (Or.inl ⟨by rfl, ?_⟩) hHeld ?_
          rotate_left
          · (intro wz hSw; (try dsimp only at hSw); (try simp only [zA, zB, zC]); go_simp; try with_reducible rfl)
          try simp only [zA, zB, zC, Act.put, zD, zE, zF]
          refine tkH (i := 17) (v := ?_) rfl (Or.inl ⟨by rfl, ?_⟩) hHeld ?_
          rotate_left
          · (intro wz hSw; (try dsimp only at hSw); (try simp only [zA, zB, zC]); go_simp; try with_reducible rfl)
          try simp only [zA, zB, zC, Act.put, zD, zE, zF]
          refine tkH (i := 18) (v := ?_) rfl (Or.inl ⟨by rfl, ?_⟩) hHeld ?_
          rotate_left
          · (intro wz hSw; (try dsimp only at hSw); (try simp only [zA, zB, zC]); go_simp; try with_reducible rfl)
          try simp only [zA, zB, zC, Act.put, zD, zE, zF]
          refine wpAnyH_ready (rs := [19]) (by kernel_rfl) (by simp) ?_; refine AllReadyH.cons rfl (fun K hK => ?_) AllReadyH.nil
          try simp only [zA, zB, zC]
          go_simp
          refine hK.out _ _ s3 (fun _ => ?_)
          clear hK K hHeld k6 f6
          try simp only [zA, zB, zC, Act.put, zD, zE, zF]
          refine wpAnyH_done (by kernel_rfl) ?_ _
          clear s1 s2 s3
          obtain ⟨W8, hW8⟩ : ∃ z : World, (W7.setCell ⟨R, 22, none⟩ (.string m.sn)).setCell ⟨R, 6, none⟩ (.int .i64 m.ix) = z := ⟨_, rfl⟩
          rw [hW8] at HA7 HR7 HX7 ⊢
          clear hW8
          have kx1 : W8.cell? ⟨X, 1, none⟩ = some (.int .i64 m.fr) := block_cells HX7.out 1
          have kx4 : W8.cell? ⟨X, 4, none⟩ = some (.int .i64 m.ix) := block_cells HX7.out 4
          have HSE := Lib.hid (show Calls Tryz.prog 89 #[.pointer (some ⟨R, 0, none⟩), .int .i64 m.fr, .agg #[.int .i64 4, .int .i64 0, .int .i64 0, .int .i64 0, .int .i64 m.ix, .int .i64 0, .int .i64 0, .int .i64 0, .bool true, .slice none 0 0, .string ⟨#[]⟩, .int .u16 0, .int .u16 0, .int .u16 0, .int .i64 0, .int .i64 0, .int .u16 0, .int .u16 0, .int .u16 0, .int .i64 0, .int .i64 0, .bool false]] W8 fun e w' => e = .returned (.tuple #[]) ∧ ∃ v2, AcW 69 B w' R ⟨c6, qn, dn⟩ v2 (l ++ [⟨putM c6 m.fr { ms0 with k := 4, yes := true, ix := m.ix }, none, 0⟩]) ∧ AcR W8 w' R v v2 from send_act B R c6 qn dn v l m.fr { ms0 with k := 4, yes := true, ix := m.ix } none 0 W8 HA7.out (MsOwn.none rfl) (fun b hb => by cases hb) (by have := HLL.out; omega))
          go_wp2_with fail
          refine HSE.out.mono ?_; rintro r w9 ⟨rfl, v2, hA9, hr9⟩
          have HO : Hid (AcDo 69 B w R v A (.returned (.tuple #[])) w9) := AcDo.sent HZ.out hA9 (HR7.out.trans hr9)
          clear hA9 hr9 HSE
          go_wp2_with fail
          first | go_end0 | refine bodyPost_ret (results_none rfl _ _ _) rfl ?_
          exact HO.out
end Go.Proofs.YtbnndbdnejfehaaGreatDoor
