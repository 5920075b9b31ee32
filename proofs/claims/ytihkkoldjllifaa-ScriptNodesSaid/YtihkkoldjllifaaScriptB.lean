/- script: an event out of bytes. -/
import Derived.Test.YtihkkoldjllifaaScriptA
import Derived.Test.YtihkkoldjllifaaNums
import Derived.Deep.DeepCutAuto
namespace Go.Proofs.Ytihkkoldjllifaa
open Go.ChangeShapes Go.WideShapes Go.ChangeAt Go.RowKit

/-- An event's cells. -/
def evC (e : Ev) (p : Option Addr) (c : Nat) : List Value :=
  [.int .i64 e.k, .int .i64 e.n, .int .i64 e.i, .int .i64 e.w, .string e.t, .slice p e.ks.length c, .int .u16 e.cv, .int .u16 e.cx, .int .u16 e.cl, .int .i64 e.ce, .int .i64 e.ck]
/-- Where an event's numbers lie: nowhere, or in a block of numbers. -/
def KeepAt (w : World) (p : Option Addr) (c : Nat) (ks : List Int) : Prop :=
  (ks = [] ∧ p = none ∧ c = 0) ∨ ∃ g, p = some ⟨g, 0, none⟩ ∧ c = ks.length ∧ w.heap[g]? = some (.cells (ks.map (Value.int .i64)).toArray 3 (0, 0))
theorem KeepAt.nums {w : World} {p : Option Addr} {c : Nat} {ks : List Int} (h : KeepAt w p c ks) : NumsAt w p ks := by
  rcases h with ⟨rfl, rfl, rfl⟩ | ⟨g, rfl, rfl, h⟩
  · exact NumsAt.nil _ _
  · exact NumsAt.of_cells h fun j hj => by simp [hj]
theorem KeepAt.grown {w w' : World} {p : Option Addr} {c : Nat} {ks : List Int} {row : Option Nat} (h : KeepAt w p c ks) (hg : w.grownBy w' row) (hn : ∀ g cs, row = some g → w.heap[g]? ≠ some (.cells cs 3 (0, 0))) : KeepAt w' p c ks := by
  rcases h with h | ⟨g, rfl, rfl, h⟩
  · exact .inl h
  · refine .inr ⟨g, rfl, rfl, (hg.block g (block_lt h) fun e => ?_).trans h⟩
    exact hn g _ e.symm h
theorem KeepAt.below {w w' : World} {B : Nat} {p : Option Addr} {c : Nat} {ks : List Int} (h : KeepAt w p c ks) (hb : Below B w w') (hB : w.heap.size ≤ B) : KeepAt w' p c ks := by
  rcases h with h | ⟨g, rfl, rfl, h⟩
  · exact .inl h
  · exact .inr ⟨g, rfl, rfl, below_block hb (Nat.lt_of_lt_of_le (block_lt h) hB) h⟩
theorem RdAt.lt {B R : Nat} {w : World} {s : List Int × Bool} {n : Int} (h : RdAt B w R s n) : R < w.heap.size := by
  obtain ⟨hBR, p, cap, hR, hS⟩ := h; exact block_lt hR
theorem RdAt.below {B R : Nat} {w w' : World} {s : List Int × Bool} {n : Int} {B' : Nat} (h : RdAt B w R s n) (hb : Below B' w w') (hB : w.heap.size ≤ B') : RdAt B w' R s n := by
  obtain ⟨hBR, p, cap, hR, hS⟩ := h
  have := block_lt hR
  exact ⟨hBR, p, cap, below_block hb (by omega) hR, hS.keep (hb.mono (by omega))⟩
/-- What an event's answer is. -/
def EvEnd (B R : Nat) (w : World) (nodes : Int) (r : (Ev × Bool) × List Int × Bool) (e : Ending) (w' : World) : Prop :=
  ∃ p c, e = .returned (.tuple #[.agg (evC r.1.1 p c).toArray, .bool r.1.2]) ∧ KeepAt w' p c r.1.1.ks ∧ RdAt B w' R r.2 nodes ∧ w.grownBy w' (some R)
theorem grown_block {w w' : World} {R n : Nat} {o : Obj} (h : w.grownBy w' (some R)) (hn : w.heap[n]? = some o) (hne : n ≠ R) : w'.heap[n]? = some o := (h.block n (block_lt hn) (by simpa using hne)).trans hn

theorem grown_alloc {w w' : World} {row : Option Nat} (h : w.grownBy w' row) (o : Obj) : w.grownBy (w'.alloc o) row :=
  ⟨h.os, h.tape, h.output, Nat.le_trans h.size (by simp), fun k hk hne => (heap_alloc_old w' o (Nat.lt_of_lt_of_le hk h.size)).trans (h.block k hk hne)⟩
theorem grown_setnew {w w' : World} {row : Option Nat} {C : Nat} (h : w.grownBy w' row) (hC : w.heap.size ≤ C) (j : Nat) (v : Value) : w.grownBy (w'.setCell ⟨C, j, none⟩ v) row :=
  ⟨h.os, h.tape, h.output, by have := h.size; simp [World.setCell]; omega, fun k hk hne => by rw [Below.heap_setCell w' ⟨C, j, none⟩ v k (by show k ≠ C; omega)]; exact h.block k hk hne⟩
theorem RdAt.set {B R C j : Nat} {w : World} {s : List Int × Bool} {n : Int} (h : RdAt B w R s n) (hC : R < C) (v : Value) : RdAt B (w.setCell ⟨C, j, none⟩ v) R s n := by
  obtain ⟨hBR, p, cap, hR, hS⟩ := h
  exact ⟨hBR, p, cap, (Below.heap_setCell w ⟨C, j, none⟩ v R (by show R ≠ C; omega)).trans hR, sl_set hS (by omega) v⟩
theorem KeepAt.set {C j : Nat} {w : World} {p : Option Addr} {c : Nat} {ks : List Int} (h : KeepAt w p c ks) {cs : Array Value} {m : Nat × Nat} (hC : w.heap[C]? = some (.cells cs 41 m)) (v : Value) : KeepAt (w.setCell ⟨C, j, none⟩ v) p c ks := by
  rcases h with h | ⟨g, rfl, rfl, h⟩
  · exact .inl h
  · refine .inr ⟨g, rfl, rfl, (Below.heap_setCell w ⟨C, j, none⟩ v g ?_).trans h⟩
    rintro rfl
    rw [hC] at h; simp at h
def put11 (w : World) (C : Nat) (x0 x1 x2 x3 x4 x5 x6 x7 x8 x9 x10 : Value) : World :=
  ((((((((((w.setCell ⟨C, 0, none⟩ x0).setCell ⟨C, 1, none⟩ x1).setCell ⟨C, 2, none⟩ x2).setCell ⟨C, 3, none⟩ x3).setCell ⟨C, 4, none⟩ x4).setCell ⟨C, 5, none⟩ x5).setCell ⟨C, 6, none⟩ x6).setCell ⟨C, 7, none⟩ x7).setCell ⟨C, 8, none⟩ x8).setCell ⟨C, 9, none⟩ x9).setCell ⟨C, 10, none⟩ x10
/-- What one store of an event keeps. -/
structure Kp (B R : Nat) (w wk : World) (C : Nat) (cs : Array Value) (s : List Int × Bool) (nodes : Int) (p : Option Addr) (c : Nat) (ks : List Int) : Prop where
  blk : wk.heap[C]? = some (.cells cs 41 (0, 0))
  keep : KeepAt wk p c ks
  rd : RdAt B wk R s nodes
  grown : w.grownBy wk (some R)
theorem Kp.step {B R : Nat} {w wk : World} {C : Nat} {cs : Array Value} {s : List Int × Bool} {nodes : Int} {p : Option Addr} {c : Nat} {ks : List Int} (h : Kp B R w wk C cs s nodes p c ks) (hR : R < C) (hC : w.heap.size ≤ C) (j : Nat) (v : Value) :
    Kp B R w (wk.setCell ⟨C, j, none⟩ v) C (cs.setIfInBounds j v) s nodes p c ks :=
  ⟨cells_set h.blk j v, h.keep.set h.blk v, h.rd.set hR v, grown_setnew h.grown hC j v⟩
theorem put11_ok {B R : Nat} {w wk : World} {a0 a1 a2 a3 a4 a5 a6 a7 a8 a9 a10 : Value} {s : List Int × Bool} {nodes : Int} {p : Option Addr} {c : Nat} {ks : List Int} (hA : wk.heap[w.heap.size]? = some (.cells #[a0, a1, a2, a3, a4, a5, a6, a7, a8, a9, a10] 41 (0, 0))) (h : RdAt B wk R s nodes) (g : w.grownBy wk (some R)) (hR : R < w.heap.size) (hk : KeepAt wk p c ks)
    (x0 x1 x2 x3 x4 x5 x6 x7 x8 x9 x10 : Value) : (put11 wk w.heap.size x0 x1 x2 x3 x4 x5 x6 x7 x8 x9 x10).heap[w.heap.size]? = some (.cells #[x0, x1, x2, x3, x4, x5, x6, x7, x8, x9, x10] 41 (0, 0)) ∧
      KeepAt (put11 wk w.heap.size x0 x1 x2 x3 x4 x5 x6 x7 x8 x9 x10) p c ks ∧ RdAt B (put11 wk w.heap.size x0 x1 x2 x3 x4 x5 x6 x7 x8 x9 x10) R s nodes ∧ w.grownBy (put11 wk w.heap.size x0 x1 x2 x3 x4 x5 x6 x7 x8 x9 x10) (some R) := by
  have k0 : Kp B R w wk w.heap.size _ s nodes p c ks := ⟨hA, hk, h, g⟩
  have k := ((((((((((k0.step hR (Nat.le_refl _) 0 x0).step hR (Nat.le_refl _) 1 x1).step hR (Nat.le_refl _) 2 x2).step hR (Nat.le_refl _) 3 x3).step hR (Nat.le_refl _) 4 x4).step hR (Nat.le_refl _) 5 x5).step hR (Nat.le_refl _) 6 x6).step hR (Nat.le_refl _) 7 x7).step hR (Nat.le_refl _) 8 x8).step hR (Nat.le_refl _) 9 x9).step hR (Nat.le_refl _) 10 x10
  refine ⟨?_, k.keep, k.rd, k.grown⟩
  have h := k.blk
  simp only [List.setIfInBounds_toArray, List.set_cons_zero, List.set_cons_succ] at h
  exact h

set_option maxRecDepth 100000 in
set_option maxHeartbeats 16000000 in
theorem event_any (B R : Nat) (s : List Int × Bool) (nodes : Int) (w : World) (hx : Oct s.1) (hn : 1 ≤ nodes ∧ nodes ≤ 9) (h : RdAt B w R s nodes) :
    Calls Try.prog 38 #[.pointer (some ⟨R, 0, none⟩)] w (EvEnd B R w nodes (evP nodes s)) := by
  have hRl := h.lt
  obtain ⟨x0, x1⟩ := rdB_fit hx
  have hx1 := rdB_oct hx
  have HX := Lib.hid hx; have HX1 := Lib.hid hx1; have H0 := Lib.hid h
  obtain ⟨E, hE⟩ : ∃ E, evP nodes s = E := ⟨_, rfl⟩
  have HE := Lib.hid hE
  rw [hE]
  obtain ⟨⟨x, s1⟩, hr⟩ : ∃ r, rdB s = r := ⟨_, rfl⟩
  have HR := Lib.hid hr
  rw [hr] at x0 x1 HX1
  simp only [] at x0 x1 HX1
  have K0 : 0 ≤ x % 16 := by omega
  have K1 : x % 16 ≤ 15 := by omega
  obtain ⟨K, hK⟩ : ∃ K, x % 16 = K := ⟨_, rfl⟩
  have HK := Lib.hid hK
  rw [hK] at K0 K1
  clear hr hE hx hx1 h hK
  go_enter Try.func38, Try.ntmps38
  go_wp2_with fail
  refine (rbyte_any B R s nodes _ HX.out (H0.out.below ((Below.refl _ _).alloc (Nat.le_refl _) _) (Nat.le_refl _))).mono ?_
  rw [HR.out]
  rintro e w1 ⟨rfl, h, g⟩
  have HA := grown_block g (heap_last w _) (by omega)
  have H1 := Lib.hid h; have G1 := Lib.hid (grown_trans (grown_alloc (grown_refl w (some R)) _) g)
  clear h g
  go_upto_region 2 with fail
  rw [HK.out]
  have hK : K = 0 ∨ K = 1 ∨ K = 2 ∨ K = 3 ∨ K = 4 ∨ K = 5 ∨ K = 6 ∨ K = 7 ∨ K = 8 ∨ K = 9 ∨ K = 10 ∨ K = 11 ∨ K = 12 ∨ K = 13 ∨ K = 14 ∨ K = 15 := by omega
  rcases hK with rfl | rfl | rfl | rfl | rfl | rfl | rfl | rfl | rfl | rfl | rfl | rfl | rfl | rfl | rfl | rfl
  · skip
    have HA1 := HA; have HX1 := HX1
    obtain ⟨⟨m0, s2⟩, hm0⟩ : ∃ r, rdN nodes s1 = r := ⟨_, rfl⟩
    have HX2 : Hid (Oct s2.1) := by show Oct _; rw [show s2 = (rdN nodes s1).2 by rw [hm0]]; exact rdB_oct HX1.out
    have HM0 := Lib.hid hm0; clear hm0
    go_wp2_with fail
    refine (rnode_any B R s1 nodes _ HX1.out hn H1.out).mono ?_; rw [HM0.out]; rintro e w2 ⟨rfl, h, g⟩
    have HA2 := grown_block g HA1 (by omega); have H2 := Lib.hid h; have G2 := Lib.hid (grown_trans G1.out g)
    clear h g
    have HEk : Hid (E = ((evO 1 m0 0 0 ⟨#[]⟩ [], true), s2)) := by
      show _ = _; rw [← HE.out]; unfold evP; simp [HR.out, HK.out, HM0.out]
    clear HE HR HK
    have kA := block_cells HA2; have fA := block_free HA2
    go_wp2_with fail
    have F := put11_ok HA2 H2.out G2.out hRl (.inl ⟨rfl, rfl, rfl⟩) (.int .i64 1) (.int .i64 m0) (.int .i64 0) (.int .i64 0) (.string ⟨#[]⟩) (.slice none 0 0) (.int .u16 0) (.int .u16 0) (.int .u16 0) (.int .i64 0) (.int .i64 0)
    have kC := block_cells F.1
    unfold put11 at F kC
    refine bodyPost_ret (v := .tuple #[.agg (evC (evO 1 m0 0 0 ⟨#[]⟩ []) none 0).toArray, .bool true]) ?_ rfl ?_
    · simp [results, Try.results38, go_sem, kC, evC, evO]
    · rw [HEk.out]; exact ⟨none, 0, rfl, F.2.1, F.2.2.1, F.2.2.2⟩
  · skip
    have HA1 := HA; have HX1 := HX1
    obtain ⟨⟨m0, s2⟩, hm0⟩ : ∃ r, rdN nodes s1 = r := ⟨_, rfl⟩
    have HX2 : Hid (Oct s2.1) := by show Oct _; rw [show s2 = (rdN nodes s1).2 by rw [hm0]]; exact rdB_oct HX1.out
    have HM0 := Lib.hid hm0; clear hm0
    go_wp2_with fail
    refine (rnode_any B R s1 nodes _ HX1.out hn H1.out).mono ?_; rw [HM0.out]; rintro e w2 ⟨rfl, h, g⟩
    have HA2 := grown_block g HA1 (by omega); have H2 := Lib.hid h; have G2 := Lib.hid (grown_trans G1.out g)
    clear h g
    have HEk : Hid (E = ((evO 1 m0 0 0 ⟨#[]⟩ [], true), s2)) := by
      show _ = _; rw [← HE.out]; unfold evP; simp [HR.out, HK.out, HM0.out]
    clear HE HR HK
    have kA := block_cells HA2; have fA := block_free HA2
    go_wp2_with fail
    have F := put11_ok HA2 H2.out G2.out hRl (.inl ⟨rfl, rfl, rfl⟩) (.int .i64 1) (.int .i64 m0) (.int .i64 0) (.int .i64 0) (.string ⟨#[]⟩) (.slice none 0 0) (.int .u16 0) (.int .u16 0) (.int .u16 0) (.int .i64 0) (.int .i64 0)
    have kC := block_cells F.1
    unfold put11 at F kC
    refine bodyPost_ret (v := .tuple #[.agg (evC (evO 1 m0 0 0 ⟨#[]⟩ []) none 0).toArray, .bool true]) ?_ rfl ?_
    · simp [results, Try.results38, go_sem, kC, evC, evO]
    · rw [HEk.out]; exact ⟨none, 0, rfl, F.2.1, F.2.2.1, F.2.2.2⟩
  · skip
    have HA1 := HA; have HX1 := HX1
    obtain ⟨⟨m0, s2⟩, hm0⟩ : ∃ r, rdN nodes s1 = r := ⟨_, rfl⟩
    have HX2 : Hid (Oct s2.1) := by show Oct _; rw [show s2 = (rdN nodes s1).2 by rw [hm0]]; exact rdB_oct HX1.out
    have HM0 := Lib.hid hm0; clear hm0
    go_wp2_with fail
    refine (rnode_any B R s1 nodes _ HX1.out hn H1.out).mono ?_; rw [HM0.out]; rintro e w2 ⟨rfl, h, g⟩
    have HA2 := grown_block g HA1 (by omega); have H2 := Lib.hid h; have G2 := Lib.hid (grown_trans G1.out g)
    clear h g
    have HEk : Hid (E = ((evO 1 m0 0 0 ⟨#[]⟩ [], true), s2)) := by
      show _ = _; rw [← HE.out]; unfold evP; simp [HR.out, HK.out, HM0.out]
    clear HE HR HK
    have kA := block_cells HA2; have fA := block_free HA2
    go_wp2_with fail
    have F := put11_ok HA2 H2.out G2.out hRl (.inl ⟨rfl, rfl, rfl⟩) (.int .i64 1) (.int .i64 m0) (.int .i64 0) (.int .i64 0) (.string ⟨#[]⟩) (.slice none 0 0) (.int .u16 0) (.int .u16 0) (.int .u16 0) (.int .i64 0) (.int .i64 0)
    have kC := block_cells F.1
    unfold put11 at F kC
    refine bodyPost_ret (v := .tuple #[.agg (evC (evO 1 m0 0 0 ⟨#[]⟩ []) none 0).toArray, .bool true]) ?_ rfl ?_
    · simp [results, Try.results38, go_sem, kC, evC, evO]
    · rw [HEk.out]; exact ⟨none, 0, rfl, F.2.1, F.2.2.1, F.2.2.2⟩
  · skip
    have HA1 := HA; have HX1 := HX1
    obtain ⟨⟨m0, s2⟩, hm0⟩ : ∃ r, rdN nodes s1 = r := ⟨_, rfl⟩
    have HX2 : Hid (Oct s2.1) := by show Oct _; rw [show s2 = (rdN nodes s1).2 by rw [hm0]]; exact rdB_oct HX1.out
    have HM0 := Lib.hid hm0; clear hm0
    go_wp2_with fail
    refine (rnode_any B R s1 nodes _ HX1.out hn H1.out).mono ?_; rw [HM0.out]; rintro e w2 ⟨rfl, h, g⟩
    have HA2 := grown_block g HA1 (by omega); have H2 := Lib.hid h; have G2 := Lib.hid (grown_trans G1.out g)
    clear h g
    have HEk : Hid (E = ((evO 1 m0 0 0 ⟨#[]⟩ [], true), s2)) := by
      show _ = _; rw [← HE.out]; unfold evP; simp [HR.out, HK.out, HM0.out]
    clear HE HR HK
    have kA := block_cells HA2; have fA := block_free HA2
    go_wp2_with fail
    have F := put11_ok HA2 H2.out G2.out hRl (.inl ⟨rfl, rfl, rfl⟩) (.int .i64 1) (.int .i64 m0) (.int .i64 0) (.int .i64 0) (.string ⟨#[]⟩) (.slice none 0 0) (.int .u16 0) (.int .u16 0) (.int .u16 0) (.int .i64 0) (.int .i64 0)
    have kC := block_cells F.1
    unfold put11 at F kC
    refine bodyPost_ret (v := .tuple #[.agg (evC (evO 1 m0 0 0 ⟨#[]⟩ []) none 0).toArray, .bool true]) ?_ rfl ?_
    · simp [results, Try.results38, go_sem, kC, evC, evO]
    · rw [HEk.out]; exact ⟨none, 0, rfl, F.2.1, F.2.2.1, F.2.2.2⟩
  · skip
    have HA1 := HA; have HX1 := HX1
    obtain ⟨⟨m0, s2⟩, hm0⟩ : ∃ r, rdN nodes s1 = r := ⟨_, rfl⟩
    have HX2 : Hid (Oct s2.1) := by show Oct _; rw [show s2 = (rdN nodes s1).2 by rw [hm0]]; exact rdB_oct HX1.out
    have HM0 := Lib.hid hm0; clear hm0
    go_wp2_with fail
    refine (rnode_any B R s1 nodes _ HX1.out hn H1.out).mono ?_; rw [HM0.out]; rintro e w2 ⟨rfl, h, g⟩
    have HA2 := grown_block g HA1 (by omega); have H2 := Lib.hid h; have G2 := Lib.hid (grown_trans G1.out g)
    clear h g
    obtain ⟨⟨l1, s3⟩, hm1⟩ : ∃ r, rdW s2 = r := ⟨_, rfl⟩
    have HX3 : Hid (Oct s3.1) := by show Oct _; rw [show s3 = (rdW s2).2 by rw [hm1]]; exact rdB_oct (rdB_oct HX2.out)
    have HM1 := Lib.hid hm1; clear hm1
    go_wp2_with fail
    refine (rwall_any B R s2 nodes _ HX2.out H2.out).mono ?_; rw [HM1.out]; rintro e w3 ⟨rfl, h, g⟩
    have HA3 := grown_block g HA2 (by omega); have H3 := Lib.hid h; have G3 := Lib.hid (grown_trans G2.out g)
    clear h g
    have HEk : Hid (E = ((evO 2 m0 0 l1 ⟨#[]⟩ [], true), s3)) := by
      show _ = _; rw [← HE.out]; unfold evP; simp [HR.out, HK.out, HM0.out, HM1.out]
    clear HE HR HK
    have kA := block_cells HA3; have fA := block_free HA3
    go_wp2_with fail
    have F := put11_ok HA3 H3.out G3.out hRl (.inl ⟨rfl, rfl, rfl⟩) (.int .i64 2) (.int .i64 m0) (.int .i64 0) (.int .i64 l1) (.string ⟨#[]⟩) (.slice none 0 0) (.int .u16 0) (.int .u16 0) (.int .u16 0) (.int .i64 0) (.int .i64 0)
    have kC := block_cells F.1
    unfold put11 at F kC
    refine bodyPost_ret (v := .tuple #[.agg (evC (evO 2 m0 0 l1 ⟨#[]⟩ []) none 0).toArray, .bool true]) ?_ rfl ?_
    · simp [results, Try.results38, go_sem, kC, evC, evO]
    · rw [HEk.out]; exact ⟨none, 0, rfl, F.2.1, F.2.2.1, F.2.2.2⟩
  · skip
    have HA1 := HA; have HX1 := HX1
    obtain ⟨⟨b0, s2⟩, hm0⟩ : ∃ r, rdB s1 = r := ⟨_, rfl⟩
    have HX2 : Hid (Oct s2.1) := by show Oct _; rw [show s2 = (rdB s1).2 by rw [hm0]]; exact rdB_oct HX1.out
    have HM0 := Lib.hid hm0; clear hm0
    go_wp2_with fail
    refine (rbyte_any B R s1 nodes _ HX1.out H1.out).mono ?_; rw [HM0.out]; rintro e w2 ⟨rfl, h, g⟩
    have HA2 := grown_block g HA1 (by omega); have H2 := Lib.hid h; have G2 := Lib.hid (grown_trans G1.out g)
    clear h g
    have HEk : Hid (E = ((evO 3 0 b0 0 ⟨#[]⟩ [], true), s2)) := by
      show _ = _; rw [← HE.out]; unfold evP; simp [HR.out, HK.out, HM0.out]
    clear HE HR HK
    have kA := block_cells HA2; have fA := block_free HA2
    go_wp2_with fail
    have F := put11_ok HA2 H2.out G2.out hRl (.inl ⟨rfl, rfl, rfl⟩) (.int .i64 3) (.int .i64 0) (.int .i64 b0) (.int .i64 0) (.string ⟨#[]⟩) (.slice none 0 0) (.int .u16 0) (.int .u16 0) (.int .u16 0) (.int .i64 0) (.int .i64 0)
    have kC := block_cells F.1
    unfold put11 at F kC
    refine bodyPost_ret (v := .tuple #[.agg (evC (evO 3 0 b0 0 ⟨#[]⟩ []) none 0).toArray, .bool true]) ?_ rfl ?_
    · simp [results, Try.results38, go_sem, kC, evC, evO]
    · rw [HEk.out]; exact ⟨none, 0, rfl, F.2.1, F.2.2.1, F.2.2.2⟩
  · skip
    have HA1 := HA; have HX1 := HX1
    obtain ⟨⟨b0, s2⟩, hm0⟩ : ∃ r, rdB s1 = r := ⟨_, rfl⟩
    have HX2 : Hid (Oct s2.1) := by show Oct _; rw [show s2 = (rdB s1).2 by rw [hm0]]; exact rdB_oct HX1.out
    have HM0 := Lib.hid hm0; clear hm0
    go_wp2_with fail
    refine (rbyte_any B R s1 nodes _ HX1.out H1.out).mono ?_; rw [HM0.out]; rintro e w2 ⟨rfl, h, g⟩
    have HA2 := grown_block g HA1 (by omega); have H2 := Lib.hid h; have G2 := Lib.hid (grown_trans G1.out g)
    clear h g
    have HEk : Hid (E = ((evO 3 0 b0 0 ⟨#[]⟩ [], true), s2)) := by
      show _ = _; rw [← HE.out]; unfold evP; simp [HR.out, HK.out, HM0.out]
    clear HE HR HK
    have kA := block_cells HA2; have fA := block_free HA2
    go_wp2_with fail
    have F := put11_ok HA2 H2.out G2.out hRl (.inl ⟨rfl, rfl, rfl⟩) (.int .i64 3) (.int .i64 0) (.int .i64 b0) (.int .i64 0) (.string ⟨#[]⟩) (.slice none 0 0) (.int .u16 0) (.int .u16 0) (.int .u16 0) (.int .i64 0) (.int .i64 0)
    have kC := block_cells F.1
    unfold put11 at F kC
    refine bodyPost_ret (v := .tuple #[.agg (evC (evO 3 0 b0 0 ⟨#[]⟩ []) none 0).toArray, .bool true]) ?_ rfl ?_
    · simp [results, Try.results38, go_sem, kC, evC, evO]
    · rw [HEk.out]; exact ⟨none, 0, rfl, F.2.1, F.2.2.1, F.2.2.2⟩
  · skip
    have HA1 := HA; have HX1 := HX1
    obtain ⟨⟨b0, s2⟩, hm0⟩ : ∃ r, rdB s1 = r := ⟨_, rfl⟩
    have HX2 : Hid (Oct s2.1) := by show Oct _; rw [show s2 = (rdB s1).2 by rw [hm0]]; exact rdB_oct HX1.out
    have HM0 := Lib.hid hm0; clear hm0
    go_wp2_with fail
    refine (rbyte_any B R s1 nodes _ HX1.out H1.out).mono ?_; rw [HM0.out]; rintro e w2 ⟨rfl, h, g⟩
    have HA2 := grown_block g HA1 (by omega); have H2 := Lib.hid h; have G2 := Lib.hid (grown_trans G1.out g)
    clear h g
    have HEk : Hid (E = ((evO 3 0 b0 0 ⟨#[]⟩ [], true), s2)) := by
      show _ = _; rw [← HE.out]; unfold evP; simp [HR.out, HK.out, HM0.out]
    clear HE HR HK
    have kA := block_cells HA2; have fA := block_free HA2
    go_wp2_with fail
    have F := put11_ok HA2 H2.out G2.out hRl (.inl ⟨rfl, rfl, rfl⟩) (.int .i64 3) (.int .i64 0) (.int .i64 b0) (.int .i64 0) (.string ⟨#[]⟩) (.slice none 0 0) (.int .u16 0) (.int .u16 0) (.int .u16 0) (.int .i64 0) (.int .i64 0)
    have kC := block_cells F.1
    unfold put11 at F kC
    refine bodyPost_ret (v := .tuple #[.agg (evC (evO 3 0 b0 0 ⟨#[]⟩ []) none 0).toArray, .bool true]) ?_ rfl ?_
    · simp [results, Try.results38, go_sem, kC, evC, evO]
    · rw [HEk.out]; exact ⟨none, 0, rfl, F.2.1, F.2.2.1, F.2.2.2⟩
  · skip
    have HA1 := HA; have HX1 := HX1
    obtain ⟨⟨b0, s2⟩, hm0⟩ : ∃ r, rdB s1 = r := ⟨_, rfl⟩
    have HX2 : Hid (Oct s2.1) := by show Oct _; rw [show s2 = (rdB s1).2 by rw [hm0]]; exact rdB_oct HX1.out
    have HM0 := Lib.hid hm0; clear hm0
    go_wp2_with fail
    refine (rbyte_any B R s1 nodes _ HX1.out H1.out).mono ?_; rw [HM0.out]; rintro e w2 ⟨rfl, h, g⟩
    have HA2 := grown_block g HA1 (by omega); have H2 := Lib.hid h; have G2 := Lib.hid (grown_trans G1.out g)
    clear h g
    have HEk : Hid (E = ((evO 4 0 b0 0 ⟨#[]⟩ [], true), s2)) := by
      show _ = _; rw [← HE.out]; unfold evP; simp [HR.out, HK.out, HM0.out]
    clear HE HR HK
    have kA := block_cells HA2; have fA := block_free HA2
    go_wp2_with fail
    have F := put11_ok HA2 H2.out G2.out hRl (.inl ⟨rfl, rfl, rfl⟩) (.int .i64 4) (.int .i64 0) (.int .i64 b0) (.int .i64 0) (.string ⟨#[]⟩) (.slice none 0 0) (.int .u16 0) (.int .u16 0) (.int .u16 0) (.int .i64 0) (.int .i64 0)
    have kC := block_cells F.1
    unfold put11 at F kC
    refine bodyPost_ret (v := .tuple #[.agg (evC (evO 4 0 b0 0 ⟨#[]⟩ []) none 0).toArray, .bool true]) ?_ rfl ?_
    · simp [results, Try.results38, go_sem, kC, evC, evO]
    · rw [HEk.out]; exact ⟨none, 0, rfl, F.2.1, F.2.2.1, F.2.2.2⟩
  · skip
    have HA1 := HA; have HX1 := HX1
    obtain ⟨⟨b0, s2⟩, hm0⟩ : ∃ r, rdB s1 = r := ⟨_, rfl⟩
    have HX2 : Hid (Oct s2.1) := by show Oct _; rw [show s2 = (rdB s1).2 by rw [hm0]]; exact rdB_oct HX1.out
    have HM0 := Lib.hid hm0; clear hm0
    go_wp2_with fail
    refine (rbyte_any B R s1 nodes _ HX1.out H1.out).mono ?_; rw [HM0.out]; rintro e w2 ⟨rfl, h, g⟩
    have HA2 := grown_block g HA1 (by omega); have H2 := Lib.hid h; have G2 := Lib.hid (grown_trans G1.out g)
    clear h g
    have HEk : Hid (E = ((evO 5 0 b0 0 ⟨#[]⟩ [], true), s2)) := by
      show _ = _; rw [← HE.out]; unfold evP; simp [HR.out, HK.out, HM0.out]
    clear HE HR HK
    have kA := block_cells HA2; have fA := block_free HA2
    go_wp2_with fail
    have F := put11_ok HA2 H2.out G2.out hRl (.inl ⟨rfl, rfl, rfl⟩) (.int .i64 5) (.int .i64 0) (.int .i64 b0) (.int .i64 0) (.string ⟨#[]⟩) (.slice none 0 0) (.int .u16 0) (.int .u16 0) (.int .u16 0) (.int .i64 0) (.int .i64 0)
    have kC := block_cells F.1
    unfold put11 at F kC
    refine bodyPost_ret (v := .tuple #[.agg (evC (evO 5 0 b0 0 ⟨#[]⟩ []) none 0).toArray, .bool true]) ?_ rfl ?_
    · simp [results, Try.results38, go_sem, kC, evC, evO]
    · rw [HEk.out]; exact ⟨none, 0, rfl, F.2.1, F.2.2.1, F.2.2.2⟩
  · skip
    have HA1 := HA; have HX1 := HX1
    obtain ⟨⟨m0, s2⟩, hm0⟩ : ∃ r, rdN nodes s1 = r := ⟨_, rfl⟩
    have HX2 : Hid (Oct s2.1) := by show Oct _; rw [show s2 = (rdN nodes s1).2 by rw [hm0]]; exact rdB_oct HX1.out
    have HM0 := Lib.hid hm0; clear hm0
    go_wp2_with fail
    refine (rnode_any B R s1 nodes _ HX1.out hn H1.out).mono ?_; rw [HM0.out]; rintro e w2 ⟨rfl, h, g⟩
    have HA2 := grown_block g HA1 (by omega); have H2 := Lib.hid h; have G2 := Lib.hid (grown_trans G1.out g)
    clear h g
    obtain ⟨⟨t1, s3⟩, hm1⟩ : ∃ r, rdT s2 = r := ⟨_, rfl⟩
    have HX3 : Hid (Oct s3.1) := by show Oct _; rw [show s3 = (rdT s2).2 by rw [hm1]]; exact rdT_oct HX2.out
    have HM1 := Lib.hid hm1; clear hm1
    go_wp2_with fail
    refine (rtext_any B R s2 nodes _ HX2.out H2.out).mono ?_; rw [HM1.out]; rintro e w3 ⟨rfl, h, g⟩
    have HA3 := grown_block g HA2 (by omega); have H3 := Lib.hid h; have G3 := Lib.hid (grown_trans G2.out g)
    clear h g
    have HEk : Hid (E = ((evO 6 m0 0 0 t1 [], true), s3)) := by
      show _ = _; rw [← HE.out]; unfold evP; simp [HR.out, HK.out, HM0.out, HM1.out]
    clear HE HR HK
    have kA := block_cells HA3; have fA := block_free HA3
    go_wp2_with fail
    have F := put11_ok HA3 H3.out G3.out hRl (.inl ⟨rfl, rfl, rfl⟩) (.int .i64 6) (.int .i64 m0) (.int .i64 0) (.int .i64 0) (.string t1) (.slice none 0 0) (.int .u16 0) (.int .u16 0) (.int .u16 0) (.int .i64 0) (.int .i64 0)
    have kC := block_cells F.1
    unfold put11 at F kC
    refine bodyPost_ret (v := .tuple #[.agg (evC (evO 6 m0 0 0 t1 []) none 0).toArray, .bool true]) ?_ rfl ?_
    · simp [results, Try.results38, go_sem, kC, evC, evO]
    · rw [HEk.out]; exact ⟨none, 0, rfl, F.2.1, F.2.2.1, F.2.2.2⟩
  · skip
    have HA1 := HA; have HX1 := HX1
    obtain ⟨⟨m0, s2⟩, hm0⟩ : ∃ r, rdN nodes s1 = r := ⟨_, rfl⟩
    have HX2 : Hid (Oct s2.1) := by show Oct _; rw [show s2 = (rdN nodes s1).2 by rw [hm0]]; exact rdB_oct HX1.out
    have HM0 := Lib.hid hm0; clear hm0
    go_wp2_with fail
    refine (rnode_any B R s1 nodes _ HX1.out hn H1.out).mono ?_; rw [HM0.out]; rintro e w2 ⟨rfl, h, g⟩
    have HA2 := grown_block g HA1 (by omega); have H2 := Lib.hid h; have G2 := Lib.hid (grown_trans G1.out g)
    clear h g
    obtain ⟨⟨b1, s3⟩, hm1⟩ : ∃ r, rdB s2 = r := ⟨_, rfl⟩
    have HX3 : Hid (Oct s3.1) := by show Oct _; rw [show s3 = (rdB s2).2 by rw [hm1]]; exact rdB_oct HX2.out
    have HM1 := Lib.hid hm1; clear hm1
    go_wp2_with fail
    refine (rbyte_any B R s2 nodes _ HX2.out H2.out).mono ?_; rw [HM1.out]; rintro e w3 ⟨rfl, h, g⟩
    have HA3 := grown_block g HA2 (by omega); have H3 := Lib.hid h; have G3 := Lib.hid (grown_trans G2.out g)
    clear h g
    obtain ⟨⟨b2, s4⟩, hm2⟩ : ∃ r, rdB s3 = r := ⟨_, rfl⟩
    have HX4 : Hid (Oct s4.1) := by show Oct _; rw [show s4 = (rdB s3).2 by rw [hm2]]; exact rdB_oct HX3.out
    have HM2 := Lib.hid hm2; clear hm2
    go_wp2_with fail
    refine (rbyte_any B R s3 nodes _ HX3.out H3.out).mono ?_; rw [HM2.out]; rintro e w4 ⟨rfl, h, g⟩
    have HA4 := grown_block g HA3 (by omega); have H4 := Lib.hid h; have G4 := Lib.hid (grown_trans G3.out g)
    clear h g
    have HEk : Hid (E = ((evO 7 m0 0 0 ⟨#[]⟩ [b1, b2], true), s4)) := by
      show _ = _; rw [← HE.out]; unfold evP; simp [HR.out, HK.out, HM0.out, HM1.out, HM2.out]
    clear HE HR HK
    have kA := block_cells HA4; have fA := block_free HA4
    have kA' := block_cells (heap_prev (.cells #[.int .i64 b1, .int .i64 b2] 3) HA4); have fA' := block_free (heap_prev (.cells #[.int .i64 b1, .int .i64 b2] 3) HA4)
    clear kA fA
    go_wp2_with fail
    have F := put11_ok (heap_prev (.cells #[.int .i64 b1, .int .i64 b2] 3) HA4) (H4.out.below ((Below.refl _ _).alloc (Nat.le_refl _) (.cells #[.int .i64 b1, .int .i64 b2] 3)) (Nat.le_refl _)) (grown_alloc G4.out (.cells #[.int .i64 b1, .int .i64 b2] 3)) hRl (show KeepAt (w4.alloc (.cells #[.int .i64 b1, .int .i64 b2] 3)) (some ⟨w4.heap.size, 0, none⟩) 2 [b1, b2] from .inr ⟨_, rfl, rfl, heap_last _ _⟩) (.int .i64 7) (.int .i64 m0) (.int .i64 0) (.int .i64 0) (.string ⟨#[]⟩) (.slice (some ⟨w4.heap.size, 0, none⟩) 2 2) (.int .u16 0) (.int .u16 0) (.int .u16 0) (.int .i64 0) (.int .i64 0)
    have kC := block_cells F.1
    unfold put11 at F kC
    refine bodyPost_ret (v := .tuple #[.agg (evC (evO 7 m0 0 0 ⟨#[]⟩ [b1, b2]) (some ⟨w4.heap.size, 0, none⟩) 2).toArray, .bool true]) ?_ rfl ?_
    · simp [results, Try.results38, go_sem, kC, evC, evO]
    · rw [HEk.out]; exact ⟨(some ⟨w4.heap.size, 0, none⟩), 2, rfl, F.2.1, F.2.2.1, F.2.2.2⟩
  · skip
    have HA1 := HA; have HX1 := HX1
    obtain ⟨⟨m0, s2⟩, hm0⟩ : ∃ r, rdN nodes s1 = r := ⟨_, rfl⟩
    have HX2 : Hid (Oct s2.1) := by show Oct _; rw [show s2 = (rdN nodes s1).2 by rw [hm0]]; exact rdB_oct HX1.out
    have HM0 := Lib.hid hm0; clear hm0
    go_wp2_with fail
    refine (rnode_any B R s1 nodes _ HX1.out hn H1.out).mono ?_; rw [HM0.out]; rintro e w2 ⟨rfl, h, g⟩
    have HA2 := grown_block g HA1 (by omega); have H2 := Lib.hid h; have G2 := Lib.hid (grown_trans G1.out g)
    clear h g
    have HEk : Hid (E = ((evO 8 m0 0 0 ⟨#[]⟩ [], true), s2)) := by
      show _ = _; rw [← HE.out]; unfold evP; simp [HR.out, HK.out, HM0.out]
    clear HE HR HK
    have kA := block_cells HA2; have fA := block_free HA2
    go_wp2_with fail
    have F := put11_ok HA2 H2.out G2.out hRl (.inl ⟨rfl, rfl, rfl⟩) (.int .i64 8) (.int .i64 m0) (.int .i64 0) (.int .i64 0) (.string ⟨#[]⟩) (.slice none 0 0) (.int .u16 0) (.int .u16 0) (.int .u16 0) (.int .i64 0) (.int .i64 0)
    have kC := block_cells F.1
    unfold put11 at F kC
    refine bodyPost_ret (v := .tuple #[.agg (evC (evO 8 m0 0 0 ⟨#[]⟩ []) none 0).toArray, .bool true]) ?_ rfl ?_
    · simp [results, Try.results38, go_sem, kC, evC, evO]
    · rw [HEk.out]; exact ⟨none, 0, rfl, F.2.1, F.2.2.1, F.2.2.2⟩
  · skip
    have HA1 := HA; have HX1 := HX1
    obtain ⟨⟨m0, s2⟩, hm0⟩ : ∃ r, rdN nodes s1 = r := ⟨_, rfl⟩
    have HX2 : Hid (Oct s2.1) := by show Oct _; rw [show s2 = (rdN nodes s1).2 by rw [hm0]]; exact rdB_oct HX1.out
    have HM0 := Lib.hid hm0; clear hm0
    go_wp2_with fail
    refine (rnode_any B R s1 nodes _ HX1.out hn H1.out).mono ?_; rw [HM0.out]; rintro e w2 ⟨rfl, h, g⟩
    have HA2 := grown_block g HA1 (by omega); have H2 := Lib.hid h; have G2 := Lib.hid (grown_trans G1.out g)
    clear h g
    obtain ⟨⟨b1, s3⟩, hm1⟩ : ∃ r, rdB s2 = r := ⟨_, rfl⟩
    have HX3 : Hid (Oct s3.1) := by show Oct _; rw [show s3 = (rdB s2).2 by rw [hm1]]; exact rdB_oct HX2.out
    have HM1 := Lib.hid hm1; clear hm1
    go_wp2_with fail
    refine (rbyte_any B R s2 nodes _ HX2.out H2.out).mono ?_; rw [HM1.out]; rintro e w3 ⟨rfl, h, g⟩
    have HA3 := grown_block g HA2 (by omega); have H3 := Lib.hid h; have G3 := Lib.hid (grown_trans G2.out g)
    clear h g
    have HEk : Hid (E = ((evO 9 m0 b1 0 ⟨#[]⟩ [], true), s3)) := by
      show _ = _; rw [← HE.out]; unfold evP; simp [HR.out, HK.out, HM0.out, HM1.out]
    clear HE HR HK
    have kA := block_cells HA3; have fA := block_free HA3
    go_wp2_with fail
    have F := put11_ok HA3 H3.out G3.out hRl (.inl ⟨rfl, rfl, rfl⟩) (.int .i64 9) (.int .i64 m0) (.int .i64 b1) (.int .i64 0) (.string ⟨#[]⟩) (.slice none 0 0) (.int .u16 0) (.int .u16 0) (.int .u16 0) (.int .i64 0) (.int .i64 0)
    have kC := block_cells F.1
    unfold put11 at F kC
    refine bodyPost_ret (v := .tuple #[.agg (evC (evO 9 m0 b1 0 ⟨#[]⟩ []) none 0).toArray, .bool true]) ?_ rfl ?_
    · simp [results, Try.results38, go_sem, kC, evC, evO]
    · rw [HEk.out]; exact ⟨none, 0, rfl, F.2.1, F.2.2.1, F.2.2.2⟩
  · skip
    have HA1 := HA; have HX1 := HX1
    obtain ⟨⟨m0, s2⟩, hm0⟩ : ∃ r, rdN nodes s1 = r := ⟨_, rfl⟩
    have HX2 : Hid (Oct s2.1) := by show Oct _; rw [show s2 = (rdN nodes s1).2 by rw [hm0]]; exact rdB_oct HX1.out
    have HM0 := Lib.hid hm0; clear hm0
    go_wp2_with fail
    refine (rnode_any B R s1 nodes _ HX1.out hn H1.out).mono ?_; rw [HM0.out]; rintro e w2 ⟨rfl, h, g⟩
    have HA2 := grown_block g HA1 (by omega); have H2 := Lib.hid h; have G2 := Lib.hid (grown_trans G1.out g)
    clear h g
    obtain ⟨⟨b1, s3⟩, hm1⟩ : ∃ r, rdB s2 = r := ⟨_, rfl⟩
    have HX3 : Hid (Oct s3.1) := by show Oct _; rw [show s3 = (rdB s2).2 by rw [hm1]]; exact rdB_oct HX2.out
    have HM1 := Lib.hid hm1; clear hm1
    go_wp2_with fail
    refine (rbyte_any B R s2 nodes _ HX2.out H2.out).mono ?_; rw [HM1.out]; rintro e w3 ⟨rfl, h, g⟩
    have HA3 := grown_block g HA2 (by omega); have H3 := Lib.hid h; have G3 := Lib.hid (grown_trans G2.out g)
    clear h g
    obtain ⟨⟨l2, s4⟩, hm2⟩ : ∃ r, rdW s3 = r := ⟨_, rfl⟩
    have HX4 : Hid (Oct s4.1) := by show Oct _; rw [show s4 = (rdW s3).2 by rw [hm2]]; exact rdB_oct (rdB_oct HX3.out)
    have HM2 := Lib.hid hm2; clear hm2
    go_wp2_with fail
    refine (rwall_any B R s3 nodes _ HX3.out H3.out).mono ?_; rw [HM2.out]; rintro e w4 ⟨rfl, h, g⟩
    have HA4 := grown_block g HA3 (by omega); have H4 := Lib.hid h; have G4 := Lib.hid (grown_trans G3.out g)
    clear h g
    have HEk : Hid (E = ((evO 12 m0 b1 l2 ⟨#[]⟩ [], true), s4)) := by
      show _ = _; rw [← HE.out]; unfold evP; simp [HR.out, HK.out, HM0.out, HM1.out, HM2.out]
    clear HE HR HK
    have kA := block_cells HA4; have fA := block_free HA4
    go_wp2_with fail
    have F := put11_ok HA4 H4.out G4.out hRl (.inl ⟨rfl, rfl, rfl⟩) (.int .i64 12) (.int .i64 m0) (.int .i64 b1) (.int .i64 l2) (.string ⟨#[]⟩) (.slice none 0 0) (.int .u16 0) (.int .u16 0) (.int .u16 0) (.int .i64 0) (.int .i64 0)
    have kC := block_cells F.1
    unfold put11 at F kC
    refine bodyPost_ret (v := .tuple #[.agg (evC (evO 12 m0 b1 l2 ⟨#[]⟩ []) none 0).toArray, .bool true]) ?_ rfl ?_
    · simp [results, Try.results38, go_sem, kC, evC, evO]
    · rw [HEk.out]; exact ⟨none, 0, rfl, F.2.1, F.2.2.1, F.2.2.2⟩
  · skip
    have HA1 := HA; have HX1 := HX1
    have HEk : Hid (E = ((evO 0 0 0 0 ⟨#[]⟩ [], false), s1)) := by
      show _ = _; rw [← HE.out]; unfold evP; simp [HR.out, HK.out]
    clear HE HR HK
    have kA := block_cells HA1; have fA := block_free HA1
    go_wp2_with fail
    have F := put11_ok HA1 H1.out G1.out hRl (.inl ⟨rfl, rfl, rfl⟩) (.int .i64 0) (.int .i64 0) (.int .i64 0) (.int .i64 0) (.string ⟨#[]⟩) (.slice none 0 0) (.int .u16 0) (.int .u16 0) (.int .u16 0) (.int .i64 0) (.int .i64 0)
    have kC := block_cells F.1
    unfold put11 at F kC
    refine bodyPost_ret (v := .tuple #[.agg (evC (evO 0 0 0 0 ⟨#[]⟩ []) none 0).toArray, .bool false]) ?_ rfl ?_
    · simp [results, Try.results38, go_sem, kC, evC, evO]
    · rw [HEk.out]; exact ⟨none, 0, rfl, F.2.1, F.2.2.1, F.2.2.2⟩
end Go.Proofs.Ytihkkoldjllifaa
