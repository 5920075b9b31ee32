/- WireBack: for every command, state and joint, every byte and number: what was written is read as the same, and one byte more, or less, is none (of commands and states that are not too great and whose locks are zero where there is none; others are let through); no condition. -/
import Derived.Test.YtmhmlpfkdpjlaaaWireZ
import Derived.Test.YtmhmlpfkdpjlaaaRdF
import Derived.Test.YtmhmlpfkdpjlaaaRdG
import Derived.Test.YtmhmlpfkdpjlaaaRdH
import Derived.Test.YtmhmlpfkdpjlaaaFrame
import Derived.Test.YtmhmlpfkdpjlaaaOpenPart
import Derived.Test.YtmhmlpfkdpjlaaaOpenJoint
import Derived.Test.YtmhmlpfkdpjlaaaRows
namespace Go.Proofs.Ytmhmlpfkdpjlaaa
open Go.ChangeShapes Go.WideShapes Go.ChangeAt Go.RowKit

theorem wf_8 {n : Int} (h : (Lit.int .u8 n).wf = true) : 0 ≤ n ∧ n ≤ 255 := by
  have h1 : IntKind.u8.min = 0 := rfl
  have h2 : IntKind.u8.max = 255 := rfl
  simp only [Lit.wf, Bool.and_eq_true, decide_eq_true_eq] at h
  omega
set_option maxRecDepth 100000 in
set_option maxHeartbeats 64000000 in
theorem wback_walk (c : CmX) (P : PaL) (j : JoX) (mo cut : Int) (ap aq ep eq es : Option Addr) (ac ad ec ed et : Nat) (w : World) (Fc : CmF c) (FP : PaF P) (FJ : JoF j) (hmo : 0 ≤ mo ∧ mo ≤ 255) (hcut : In64 cut)
    (a1 : SpsAt w ap c.sp) (a2 : WrsAt w aq c.wr) (e1 : CesAt w ep P.cs) (e2 : OusAt w eq P.rs) (e3 : OusAt w es P.ds) :
    Calls Try.prog 6 #[.agg #[.int .i64 c.k, .int .i64 c.e, .int .i64 c.n, .int .i64 c.h, .int .i64 c.yn, .int .i64 c.yl, .int .i64 c.ys, .int .i64 c.ya, .int .i64 c.sw, .int .i64 c.st, .int .i64 c.w, .bool c.yes, .slice ap c.sp.length ac, .slice aq c.wr.length ad], .agg #[.int .i64 P.e, .int .i64 P.h, .int .i64 P.fw, .int .i64 P.ft, .int .i64 P.cl, .int .i64 P.lo, .slice ep P.cs.length ec, .slice eq P.rs.length ed, .slice es P.ds.length et], .agg #[.int .u16 j.o.v, .int .u16 j.o.x, .int .u16 j.o.l, .int .i64 j.o.e, .int .i64 j.o.k, .int .u16 j.n.v, .int .u16 j.n.x, .int .u16 j.n.l, .int .i64 j.n.e, .int .i64 j.n.k, .bool j.two], .int .u8 mo, .int .i64 cut] w fun r w' => r = .returned (.bool true) ∧ Below w.heap.size w w' := by
  have HCU := Lib.hid hcut; have HMO := Lib.hid hmo
  clear hcut hmo
  obtain ⟨W0, hW0⟩ : ∃ W : World, w.alloc (.cells #[.int .i64 c.k, .int .i64 c.e, .int .i64 c.n, .int .i64 c.h, .int .i64 c.yn, .int .i64 c.yl, .int .i64 c.ys, .int .i64 c.ya, .int .i64 c.sw, .int .i64 c.st, .int .i64 c.w, .bool c.yes, .slice ap c.sp.length ac, .slice aq c.wr.length ad] 29) = W := ⟨_, rfl⟩
  obtain ⟨W1, hW1⟩ : ∃ W : World, W0.alloc (.cells #[.int .i64 P.e, .int .i64 P.h, .int .i64 P.fw, .int .i64 P.ft, .int .i64 P.cl, .int .i64 P.lo, .slice ep P.cs.length ec, .slice eq P.rs.length ed, .slice es P.ds.length et] 33) = W := ⟨_, rfl⟩
  obtain ⟨W, hW2⟩ : ∃ W : World, W1.alloc (.cells #[.int .u16 j.o.v, .int .u16 j.o.x, .int .u16 j.o.l, .int .i64 j.o.e, .int .i64 j.o.k, .int .u16 j.n.v, .int .u16 j.n.x, .int .u16 j.n.l, .int .i64 j.n.e, .int .i64 j.n.k, .bool j.two] 45) = W := ⟨_, rfl⟩
  obtain ⟨B, eB⟩ : ∃ n, w.heap.size = n := ⟨_, rfl⟩
  have s0 : W0.heap.size = B + 1 := by rw [← hW0]; simp; omega
  have s1 : W1.heap.size = B + 1 + 1 := by rw [← hW1]; simp; omega
  have n0 : Below (B) w W0 := by rw [← hW0]; exact (Below.refl _ _).alloc (by omega) _
  have n1 : Below (B + 1) W0 W1 := by rw [← hW1]; exact (Below.refl _ _).alloc (by omega) _
  have n2 : Below (B + 1 + 1) W1 W := by rw [← hW2]; exact (Below.refl _ _).alloc (by omega) _
  have hb : Below B w W := ((n0.trans (n1.mono (by omega))).trans (n2.mono (by omega)))
  have k0 : W.heap[B]? = some (.cells #[.int .i64 c.k, .int .i64 c.e, .int .i64 c.n, .int .i64 c.h, .int .i64 c.yn, .int .i64 c.yl, .int .i64 c.ys, .int .i64 c.ya, .int .i64 c.sw, .int .i64 c.st, .int .i64 c.w, .bool c.yes, .slice ap c.sp.length ac, .slice aq c.wr.length ad] 29 (0, 0)) := by
    have h0 : W0.heap[B]? = some (.cells #[.int .i64 c.k, .int .i64 c.e, .int .i64 c.n, .int .i64 c.h, .int .i64 c.yn, .int .i64 c.yl, .int .i64 c.ys, .int .i64 c.ya, .int .i64 c.sw, .int .i64 c.st, .int .i64 c.w, .bool c.yes, .slice ap c.sp.length ac, .slice aq c.wr.length ad] 29 (0, 0)) := by rw [← hW0, ← eB]; exact heap_last _ _
    exact below_block n2 (by omega) (below_block n1 (by omega) (h0))
  have k1 : W.heap[B + 1]? = some (.cells #[.int .i64 P.e, .int .i64 P.h, .int .i64 P.fw, .int .i64 P.ft, .int .i64 P.cl, .int .i64 P.lo, .slice ep P.cs.length ec, .slice eq P.rs.length ed, .slice es P.ds.length et] 33 (0, 0)) := by
    have h0 : W1.heap[B + 1]? = some (.cells #[.int .i64 P.e, .int .i64 P.h, .int .i64 P.fw, .int .i64 P.ft, .int .i64 P.cl, .int .i64 P.lo, .slice ep P.cs.length ec, .slice eq P.rs.length ed, .slice es P.ds.length et] 33 (0, 0)) := by rw [← hW1, ← s0]; exact heap_last _ _
    exact below_block n2 (by omega) (h0)
  have k2 : W.heap[B + 1 + 1]? = some (.cells #[.int .u16 j.o.v, .int .u16 j.o.x, .int .u16 j.o.l, .int .i64 j.o.e, .int .i64 j.o.k, .int .u16 j.n.v, .int .u16 j.n.x, .int .u16 j.n.l, .int .i64 j.n.e, .int .i64 j.n.k, .bool j.two] 45 (0, 0)) := by
    have h0 : W.heap[B + 1 + 1]? = some (.cells #[.int .u16 j.o.v, .int .u16 j.o.x, .int .u16 j.o.l, .int .i64 j.o.e, .int .i64 j.o.k, .int .u16 j.n.v, .int .u16 j.n.x, .int .u16 j.n.l, .int .i64 j.n.e, .int .i64 j.n.k, .bool j.two] 45 (0, 0)) := by rw [← hW2, ← s1]; exact heap_last _ _
    exact h0
  have HC : Hid ((((w.alloc (.cells #[.int .i64 c.k, .int .i64 c.e, .int .i64 c.n, .int .i64 c.h, .int .i64 c.yn, .int .i64 c.yl, .int .i64 c.ys, .int .i64 c.ya, .int .i64 c.sw, .int .i64 c.st, .int .i64 c.w, .bool c.yes, .slice ap c.sp.length ac, .slice aq c.wr.length ad] 29)).alloc (.cells #[.int .i64 P.e, .int .i64 P.h, .int .i64 P.fw, .int .i64 P.ft, .int .i64 P.cl, .int .i64 P.lo, .slice ep P.cs.length ec, .slice eq P.rs.length ed, .slice es P.ds.length et] 33)).alloc (.cells #[.int .u16 j.o.v, .int .u16 j.o.x, .int .u16 j.o.l, .int .i64 j.o.e, .int .i64 j.o.k, .int .u16 j.n.v, .int .u16 j.n.x, .int .u16 j.n.l, .int .i64 j.n.e, .int .i64 j.n.k, .bool j.two] 45)) = W) := by show _ = _; rw [hW0, hW1, hW2]
  have HBW : Hid (∀ w', Below W.heap.size W w' → Below B w w') := fun w' h => hb.trans (h.mono (by have := hb.size; omega))
  have HA1 := Lib.hid (a1.keep hb (by omega)); have HA2 := Lib.hid (a2.keep hb (by omega))
  have HE1 := Lib.hid (e1.keep hb (by omega)); have HE2 := Lib.hid (e2.keep hb (by omega)); have HE3 := Lib.hid (e3.keep hb (by omega))
  have HFC := Lib.hid Fc; have HFP := Lib.hid FP; have HFJ := Lib.hid FJ
  obtain ⟨B1, e1'⟩ : ∃ n, B + 1 = n := ⟨_, rfl⟩
  obtain ⟨B2, e2'⟩ : ∃ n, B1 + 1 = n := ⟨_, rfl⟩
  have HEB := Lib.hid eB; have HEB1 := Lib.hid e1'; have HEB2 := Lib.hid e2'
  rw [e1'] at k1
  rw [e1', e2'] at k2
  have HK0 := Lib.hid k0; have HK1 := Lib.hid k1; have HK2 := Lib.hid k2
  clear hW0 hW1 hW2 s0 s1 n0 n1 n2 hb a1 a2 e1 e2 e3 Fc FP FJ eB e1' e2'
  obtain ⟨U, f, hU, hf, hg⟩ := calm_class W
  obtain ⟨u0, hu0⟩ := hg _ (Below.refl _ _)
  have kA := fun u => block_cells (calm_heap hf k0 u)
  have kB := fun u => block_cells (calm_heap hf k1 u)
  have kC := fun u => block_cells (calm_heap hf k2 u)
  have BG : Hid (∀ u, Calls Try.prog 7 #[] (f u) fun r w' => r = .returned (.bool true) ∧ Below (f u).heap.size (f u) w') := fun u => begun_any (f u)
  have LC : Hid (∀ u, Calls Try.prog 8 #[.agg #[.int .i64 c.k, .int .i64 c.e, .int .i64 c.n, .int .i64 c.h, .int .i64 c.yn, .int .i64 c.yl, .int .i64 c.ys, .int .i64 c.ya, .int .i64 c.sw, .int .i64 c.st, .int .i64 c.w, .bool c.yes, .slice ap c.sp.length ac, .slice aq c.wr.length ad]] (f u) (LcEnd c (f u))) := fun u => lightCmd_any c ap aq ac ad (f u) (by have := HFC.out.nsp; omega) (by have := HFC.out.nwr; omega) (HA1.out.keep (hf u) (Nat.le_refl _)) (HA2.out.keep (hf u) (Nat.le_refl _))
  have LP : Hid (∀ u, Calls Try.prog 9 #[.agg #[.int .i64 P.e, .int .i64 P.h, .int .i64 P.fw, .int .i64 P.ft, .int .i64 P.cl, .int .i64 P.lo, .slice ep P.cs.length ec, .slice eq P.rs.length ed, .slice es P.ds.length et]] (f u) (LpEnd P.cs P.rs P.ds (f u))) := fun u => lightPart_any P.e P.h P.fw P.ft P.cl P.lo P.cs P.rs P.ds ep eq es ec ed et (f u) (HE1.out.keep (hf u) (Nat.le_refl _))
  go_enter Try.func6, Try.ntmps6
  obtain ⟨Q', hQ⟩ : ∃ Q', bodyPost Try.prog Try.f6 (fun r w' => r = .returned (.bool true) ∧ Below w.heap.size w w') = Q' := ⟨_, rfl⟩
  have HQ : Hid (∀ (a : Act) (w' : World), a.tmps.getD 10 undef = .bool true → a.defers = [] → Below W.heap.size W w' → Q' .ret a w') := fun a w' h6 hd hb => by
    rw [← hQ]; exact bodyPost_ret (v := .bool true) (by rw [results_tmp rfl, h6]) hd ⟨rfl, by rw [HEB.out]; exact HBW.out _ hb⟩
  rw [hQ]
  clear hQ k0 k1 k2
  go_upto_region 1 with fail
  rw [HC.out]
  (try simp only [World.size_alloc])
  rw [HEB.out, HEB1.out, HEB2.out, hu0]
  clear HC HEB HEB1 HEB2 hu0 HBW
  go_wp2_with (first | (go_at_call 7; refine (BG.out _).mono ?_; rintro r w' ⟨rfl, hb⟩; obtain ⟨u, rfl⟩ := calm_step hf hg hb; clear hb))
  refine (LC.out _).mono ?_; rintro r w' ⟨⟨b, rfl, hbt⟩, hb⟩; obtain ⟨u, rfl⟩ := calm_step hf hg hb; clear hb
  cases b
  · have hu : undef = Value.tuple #[] := rfl
    go_wp2_with fail
    exact HQ.out _ _ rfl rfl (hf _)
  have GC : Hid (CmL c) := ltc_cml HFC.out (hbt rfl)
  have GL := Lib.hid (ltc_le HFC.out (hbt rfl))
  have HCV : Hid (CmV c) := ltc_cmv HFC.out (hbt rfl)
  clear hbt LC
  go_wp2_with fail
  refine (LP.out _).mono ?_; rintro r w' ⟨⟨b, rfl, hbt⟩, hb⟩; obtain ⟨u, rfl⟩ := calm_step hf hg hb; clear hb
  cases b
  · have hu : undef = Value.tuple #[] := rfl
    go_wp2_with fail
    exact HQ.out _ _ rfl rfl (hf _)
  have HL8 := Lib.hid (hbt rfl)
  have GP : Hid ((P.cs.length ≤ 1000000 ∧ ∀ x ∈ P.cs, x.1.vs.length ≤ 1000000) ∧ P.rs.length ≤ 1000000 ∧ P.ds.length ≤ 1000000 ∧ ((encPa P.x).length : Int) ≤ 140737488200000) := ⟨l8_lens (hbt rfl).1, by have := (hbt rfl).2; omega, by have := (hbt rfl).2; omega, by have := encPa_le HFP.out (hbt rfl).1 (hbt rfl).2.1 (hbt rfl).2.2; omega⟩
  have LO : Hid (∀ u, Calls Try.prog 29 #[.agg #[.int .i64 P.e, .int .i64 P.h, .int .i64 P.fw, .int .i64 P.ft, .int .i64 P.cl, .int .i64 P.lo, .slice ep P.cs.length ec, .slice eq P.rs.length ed, .slice es P.ds.length et]] (f u) fun e w' => (∃ b, e = .returned (.bool b) ∧ (b = true → ∀ j, (hj : j < P.cs.length) → LkZ P.cs[j].1)) ∧ Below (f u).heap.size (f u) w') := fun u => lockable_any P.e P.h P.fw P.ft P.cl P.lo P.cs P.rs P.ds ep eq es ec ed et (f u) GP.out.1.1 (HE1.out.keep (hf u) (Nat.le_refl _))
  clear hbt LP
  go_wp2_with fail
  refine (LO.out _).mono ?_; rintro r w' ⟨⟨b, rfl, hbt⟩, hb⟩; obtain ⟨u, rfl⟩ := calm_step hf hg hb; clear hb
  cases b
  · have hu : undef = Value.tuple #[] := rfl
    go_wp2_with fail
    exact HQ.out _ _ rfl rfl (hf _)
  have HPV : Hid (PaV P.x) := l8_pav HFP.out HL8.out.1 HL8.out.2.1 HL8.out.2.2 (hbt rfl)
  clear hbt LO HL8
  have C0 : Hid (∀ w', Below W.heap.size W w' → Calls Try.prog 14 #[.agg #[.int .i64 c.k, .int .i64 c.e, .int .i64 c.n, .int .i64 c.h, .int .i64 c.yn, .int .i64 c.yl, .int .i64 c.ys, .int .i64 c.ya, .int .i64 c.sw, .int .i64 c.st, .int .i64 c.w, .bool c.yes, .slice ap c.sp.length ac, .slice aq c.wr.length ad]] w' (WEnd w'.heap.size w'.heap.size w' (encCm c))) := fun w' h => wcmd_any c ap aq ac ad w' GC.out.f (HA1.out.keep h (Nat.le_refl _)) (HA2.out.keep h (Nat.le_refl _)) GC.out.l GC.out.s GC.out.r
  have C1 : Hid (∀ w', Below W.heap.size W w' → Calls Try.prog 15 #[.agg #[.int .i64 P.e, .int .i64 P.h, .int .i64 P.fw, .int .i64 P.ft, .int .i64 P.cl, .int .i64 P.lo, .slice ep P.cs.length ec, .slice eq P.rs.length ed, .slice es P.ds.length et]] w' (WEnd w'.heap.size w'.heap.size w' (encPa P.x))) := fun w' h => wpartB_any P ep eq es ec ed et w' HFP.out (HE1.out.keep h (Nat.le_refl _)) (HE2.out.keep h (Nat.le_refl _)) (HE3.out.keep h (Nat.le_refl _)) GP.out.2.2.2 GP.out.1.1 GP.out.1.2 GP.out.2.1 GP.out.2.2.1
  have C2 : Hid (∀ w', Below W.heap.size W w' → Calls Try.prog 16 #[.agg #[.int .u16 j.o.v, .int .u16 j.o.x, .int .u16 j.o.l, .int .i64 j.o.e, .int .i64 j.o.k, .int .u16 j.n.v, .int .u16 j.n.x, .int .u16 j.n.l, .int .i64 j.n.e, .int .i64 j.n.k, .bool j.two]] w' (WEnd w'.heap.size w'.heap.size w' (encJo j))) := fun w' h => wjoint_any j w' HFJ.out
  clear kA kB kC BG
  go_upto_region 5 with fail
  obtain ⟨wk, ewk⟩ : ∃ wk, f u = wk := ⟨_, rfl⟩
  have HK := Lib.hid (hf u)
  rw [ewk] at HK ⊢
  clear ewk
  have kA : ∀ w', Below W.heap.size W w' → ∀ i, w'.cell? ⟨B, i, none⟩ = #[.int .i64 c.k, .int .i64 c.e, .int .i64 c.n, .int .i64 c.h, .int .i64 c.yn, .int .i64 c.yl, .int .i64 c.ys, .int .i64 c.ya, .int .i64 c.sw, .int .i64 c.st, .int .i64 c.w, .bool c.yes, .slice ap c.sp.length ac, .slice aq c.wr.length ad][i]? := fun w' h => block_cells (below_block h (block_lt HK0.out) HK0.out)
  have kB : ∀ w', Below W.heap.size W w' → ∀ i, w'.cell? ⟨B1, i, none⟩ = #[.int .i64 P.e, .int .i64 P.h, .int .i64 P.fw, .int .i64 P.ft, .int .i64 P.cl, .int .i64 P.lo, .slice ep P.cs.length ec, .slice eq P.rs.length ed, .slice es P.ds.length et][i]? := fun w' h => block_cells (below_block h (block_lt HK1.out) HK1.out)
  have kC : ∀ w', Below W.heap.size W w' → ∀ i, w'.cell? ⟨B2, i, none⟩ = #[.int .u16 j.o.v, .int .u16 j.o.x, .int .u16 j.o.l, .int .i64 j.o.e, .int .i64 j.o.k, .int .u16 j.n.v, .int .u16 j.n.x, .int .u16 j.n.l, .int .i64 j.n.e, .int .i64 j.n.k, .bool j.two][i]? := fun w' h => block_cells (below_block h (block_lt HK2.out) HK2.out)
  have h0 : Below W.heap.size W wk.drew := HK.out.drew
  refine wp_region_noPanic ?_
  refine wp_region_held_drew (S := fun w' => Below W.heap.size W w') (by kernel_rfl) h0 (fun hHeld => ?_)
  obtain ⟨wd, ewd⟩ : ∃ x, wk.drew = x := ⟨_, rfl⟩
  rw [ewd] at h0 hHeld ⊢
  clear ewd
  refine wpAnyH_take (i := 0) (v := ?_) rfl (by kernel_rfl) (by kernel_rfl) (by kernel_rfl) (fun _ _ _ h => h) (Or.inl ⟨by rfl, ?_⟩) hHeld ?_
  rotate_left
  · (intro wz hSw; (try dsimp only at hSw); (try simp only [List.getElem_toArray, List.getElem_cons_zero]); go_simp; try with_reducible rfl)
  try simp only [List.getElem_toArray, List.getElem_cons_zero, Act.put, List.setIfInBounds_toArray, List.set_cons_zero, List.set_cons_succ]
  refine wpAnyH_take (i := 2) (v := ?_) rfl (by kernel_rfl) (by kernel_rfl) (by kernel_rfl) (fun _ _ _ h => h) (Or.inl ⟨by rfl, ?_⟩) hHeld ?_
  rotate_left
  · (intro wz hSw; (try dsimp only at hSw); (try simp only [List.getElem_toArray, List.getElem_cons_succ, List.getElem_cons_zero]); go_simp; try with_reducible rfl)
  try simp only [List.getElem_toArray, List.getElem_cons_succ, List.getElem_cons_zero, Act.put, List.setIfInBounds_toArray, List.set_cons_zero, List.set_cons_succ]
  refine wpAnyH_take (i := 4) (v := ?_) rfl (by kernel_rfl) (by kernel_rfl) (by kernel_rfl) (fun _ _ _ h => h) (Or.inl ⟨by rfl, ?_⟩) hHeld ?_
  rotate_left
  · (intro wz hSw; (try dsimp only at hSw); (try simp only [List.getElem_toArray, List.getElem_cons_succ, List.getElem_cons_zero]); go_simp; try with_reducible rfl)
  try simp only [List.getElem_toArray, List.getElem_cons_succ, List.getElem_cons_zero, Act.put, List.setIfInBounds_toArray, List.set_cons_zero, List.set_cons_succ]
  refine wpAnyH_ready (rs := [1]) (by kernel_rfl) (by simp) ?_; refine AllReadyH.cons rfl (fun K hK => ?_) AllReadyH.nil; (try simp only [List.getElem_toArray, List.getElem_cons_succ, List.getElem_cons_zero]); go_simp
  refine (C0.out _ h0).mono ?_; rintro r w1 ⟨v0, rfl, ho0, hb0⟩
  have h1 := h0.trans (hb0.mono h0.size)
  refine hK.out _ _ h1 (fun _ => ?_)
  clear hK K hHeld
  try simp only [List.getElem_toArray, List.getElem_cons_succ, List.getElem_cons_zero, Act.put, List.setIfInBounds_toArray, List.set_cons_zero, List.set_cons_succ]
  have hHeld := h1
  refine wpAnyH_ready (rs := [3]) (by kernel_rfl) (by simp) ?_; refine AllReadyH.cons rfl (fun K hK => ?_) AllReadyH.nil; (try simp only [List.getElem_toArray, List.getElem_cons_succ, List.getElem_cons_zero]); go_simp
  refine (C1.out _ h1).mono ?_; rintro r w2 ⟨v1, rfl, ho1, hb1⟩
  have h2 := h1.trans (hb1.mono h1.size)
  refine hK.out _ _ h2 (fun _ => ?_)
  clear hK K hHeld
  try simp only [List.getElem_toArray, List.getElem_cons_succ, List.getElem_cons_zero, Act.put, List.setIfInBounds_toArray, List.set_cons_zero, List.set_cons_succ]
  have hHeld := h2
  refine wpAnyH_ready (rs := [5]) (by kernel_rfl) (by simp) ?_; refine AllReadyH.cons rfl (fun K hK => ?_) AllReadyH.nil; (try simp only [List.getElem_toArray, List.getElem_cons_succ, List.getElem_cons_zero]); go_simp
  refine (C2.out _ h2).mono ?_; rintro r w3 ⟨v2, rfl, ho2, hb2⟩
  have h3 := h2.trans (hb2.mono h2.size)
  refine hK.out _ _ h3 (fun _ => ?_)
  clear hK K hHeld
  try simp only [List.getElem_toArray, List.getElem_cons_succ, List.getElem_cons_zero, Act.put, List.setIfInBounds_toArray, List.set_cons_zero, List.set_cons_succ]
  have hHeld := h3
  refine wpAnyH_take (i := 6) (v := ?_) rfl (by kernel_rfl) (by kernel_rfl) (by kernel_rfl) (fun _ _ _ h => h) (Or.inl ⟨by rfl, ?_⟩) hHeld ?_
  rotate_left
  · (intro wz hSw; (try dsimp only at hSw); (try simp only [List.getElem_toArray, List.getElem_cons_succ, List.getElem_cons_zero]); go_simp; try with_reducible rfl)
  try simp only [List.getElem_toArray, List.getElem_cons_succ, List.getElem_cons_zero, Act.put, List.setIfInBounds_toArray, List.set_cons_zero, List.set_cons_succ]
  refine wpAnyH_take (i := 7) (v := ?_) rfl (by kernel_rfl) (by kernel_rfl) (by kernel_rfl) (fun _ _ _ h => h) (Or.inl ⟨by rfl, ?_⟩) hHeld ?_
  rotate_left
  · (intro wz hSw; (try dsimp only at hSw); (try simp only [List.getElem_toArray, List.getElem_cons_succ, List.getElem_cons_zero]); go_simp; try with_reducible rfl)
  try simp only [List.getElem_toArray, List.getElem_cons_succ, List.getElem_cons_zero, Act.put, List.setIfInBounds_toArray, List.set_cons_zero, List.set_cons_succ]
  refine wpAnyH_take (i := 8) (v := ?_) rfl (by kernel_rfl) (by kernel_rfl) (by kernel_rfl) (fun _ _ _ h => h) (Or.inl ⟨by rfl, ?_⟩) hHeld ?_
  rotate_left
  · (intro wz hSw; (try dsimp only at hSw); (try simp only [List.getElem_toArray, List.getElem_cons_succ, List.getElem_cons_zero]); go_simp; try with_reducible rfl)
  try simp only [List.getElem_toArray, List.getElem_cons_succ, List.getElem_cons_zero, Act.put, List.setIfInBounds_toArray, List.set_cons_zero, List.set_cons_succ]
  refine wpAnyH_done (by kernel_rfl) ?_ _
  refine NoPanic.normal ?_
  have p0 := own_less (own_less ho0 hb1) hb2
  have p1 := own_less ho1 hb2
  obtain ⟨x0, c0, hv0, l0, m0, -, -⟩ := (Sl.of_own p0).form
  obtain ⟨x1, c1, hv1, l1, m1, -, -⟩ := (Sl.of_own p1).form
  obtain ⟨x2, c2, hv2, l2, m2, -, -⟩ := (Sl.of_own ho2).form
  subst hv0 hv1 hv2
  have S0 := Lib.hid (Sl.of_own p0); have S1 := Lib.hid (Sl.of_own p1); have S2 := Lib.hid (Sl.of_own ho2)
  have H3 := Lib.hid h3
  have OC := Lib.hid (encCm_oct c); have OP := Lib.hid (encPa_oct P.x); have OJ := Lib.hid (encJo_oct j)
  have hn0 : 1 ≤ (encCm c).length ∧ ((encCm c).length : Int) ≤ 140737488200000 := ⟨by rw [encCm_body]; simp, GL.out⟩
  have hn1 : 1 ≤ (encPa P.x).length ∧ ((encPa P.x).length : Int) ≤ 140737488200000 := ⟨by rw [encPa_body]; simp, GP.out.2.2.2⟩
  have hn2 := encJo_le HFJ.out
  have HJL := Lib.hid hn2
  obtain ⟨XC, eXC⟩ : ∃ X, encCm c = X := ⟨_, rfl⟩
  obtain ⟨XP, eXP⟩ : ∃ X, encPa P.x = X := ⟨_, rfl⟩
  obtain ⟨XJ, eXJ⟩ : ∃ X, encJo j = X := ⟨_, rfl⟩
  rw [eXC] at S0 OC l0 hn0 ⊢
  rw [eXP] at S1 OP l1 hn1 ⊢
  rw [eXJ] at S2 OJ l2 hn2 ⊢
  have HXC := Lib.hid eXC; have HXP := Lib.hid eXP; have HXJ := Lib.hid eXJ
  obtain ⟨n0a, n0b⟩ := hn0; obtain ⟨n1a, n1b⟩ := hn1; obtain ⟨n2a, n2b⟩ := hn2
  unfold maxLen at m0 m1 m2
  obtain ⟨i0, hi, hz0, hz1, hz2⟩ := info_parts Try.infoU8
  clear p0 p1 ho0 ho1 ho2 h0 h1 h2 h3 hb0 hb1 hb2 hHeld C0 C1 C2 HK kA kB kC eXC eXP eXJ
  have D3 : Hid (Below w3.heap.size w3 w3) := Below.refl _ _
  go_wp2_with fail
  refine Calls.mono (wtakeCmd_any XC _ w3 S0.out OC.out (by omega)) ?_; intro r u6 ht
  rw [← HXC.out] at ht
  obtain ⟨hb6, rp, rq, rc, rd, s1, s2, rfl⟩ := tkCmd_self ht HCV.out
  clear ht
  go_upto_region 7 with fail
  obtain ⟨V6, hV6⟩ : ∃ x : World, u6.alloc (.cells #[.int .i64 c.k, .int .i64 c.e, .int .i64 c.n, .int .i64 c.h, .int .i64 c.yn, .int .i64 c.yl, .int .i64 c.ys, .int .i64 c.ya, .int .i64 c.sw, .int .i64 c.st, .int .i64 c.w, .bool c.yes, .slice rp c.sp.length rc, .slice rq c.wr.length rd] 29) = x := ⟨_, rfl⟩
  have bV : Below u6.heap.size u6 V6 := by rw [← hV6]; exact (Below.refl _ _).alloc (Nat.le_refl _) _
  have bN : Below w3.heap.size w3 V6 := hb6.trans (bV.mono hb6.size)
  have q : V6.heap[u6.heap.size]? = some (.cells #[.int .i64 c.k, .int .i64 c.e, .int .i64 c.n, .int .i64 c.h, .int .i64 c.yn, .int .i64 c.yl, .int .i64 c.ys, .int .i64 c.ya, .int .i64 c.sw, .int .i64 c.st, .int .i64 c.w, .bool c.yes, .slice rp c.sp.length rc, .slice rq c.wr.length rd] 29 (0, 0)) := by rw [← hV6]; exact heap_last u6 _
  rw [hV6]
  obtain ⟨A6, eA6⟩ : ∃ n, u6.heap.size = n := ⟨_, rfl⟩
  rw [eA6] at q ⊢
  have HQ6 := Lib.hid q; have D6 := Lib.hid bN; have HS1 := Lib.hid (s1.keep bV (Nat.le_refl _)); have HS2 := Lib.hid (s2.keep bV (Nat.le_refl _))
  clear hV6 bV bN q eA6 hb6 s1 s2 D3
  go_wp2_with fail
  refine Calls.mono (wtakePart_any XP _ V6 ((S1.out.keep D6.out).mono D6.out.size) OP.out (by omega)) ?_; intro r u7 ht
  rw [← HXP.out] at ht
  obtain ⟨hb7, Q, gp, gq, gs, gc, gd, gt, hQP, t1, t2, t3, rfl⟩ := tkPart_self ht HPV.out
  clear ht
  go_upto_region 8 with fail
  obtain ⟨V7, hV7⟩ : ∃ x : World, u7.alloc (.cells #[.int .i64 Q.e, .int .i64 Q.h, .int .i64 Q.fw, .int .i64 Q.ft, .int .i64 Q.cl, .int .i64 Q.lo, .slice gp Q.cs.length gc, .slice gq Q.rs.length gd, .slice gs Q.ds.length gt] 33) = x := ⟨_, rfl⟩
  have bV : Below u7.heap.size u7 V7 := by rw [← hV7]; exact (Below.refl _ _).alloc (Nat.le_refl _) _
  have bN : Below V6.heap.size V6 V7 := hb7.trans (bV.mono hb7.size)
  have q : V7.heap[u7.heap.size]? = some (.cells #[.int .i64 Q.e, .int .i64 Q.h, .int .i64 Q.fw, .int .i64 Q.ft, .int .i64 Q.cl, .int .i64 Q.lo, .slice gp Q.cs.length gc, .slice gq Q.rs.length gd, .slice gs Q.ds.length gt] 33 (0, 0)) := by rw [← hV7]; exact heap_last u7 _
  rw [hV7]
  obtain ⟨A7, eA7⟩ : ∃ n, u7.heap.size = n := ⟨_, rfl⟩
  rw [eA7] at q ⊢
  have HQ7 := Lib.hid q; have E7 := Lib.hid bN; have HT1 := Lib.hid (t1.keep bV (Nat.le_refl _)); have HT2 := Lib.hid (t2.keep bV (Nat.le_refl _)); have HT3 := Lib.hid (t3.keep bV (Nat.le_refl _)); have HQP := Lib.hid hQP
  have D7 := Lib.hid (D6.out.trans (bN.mono D6.out.size))
  clear hV7 bV bN q eA7 hb7 t1 t2 t3 hQP
  have OE := own_emptyW V7
  have bE : Below V7.heap.size V7 (V7.alloc (.cells #[] 5)) := (Below.refl _ _).alloc (Nat.le_refl _) _
  have SX := (S2.out.keep D7.out).keep (bE.mono D7.out.size)
  have HOE := Lib.hid OE; have HSX := Lib.hid SX; have HBE := Lib.hid bE
  clear OE bE SX
  go_wp2_with (at_builtin; refine wpList_append_sl rfl _ _ 46 rfl V7.heap.size 5 i0 (.int .u8 0) 1 1 Try.underlying46 hi hz0 hz1 hz2 rfl (by decide) _ 0 [] rfl HOE.out w3.heap.size _ XJ.length (byt XJ) rfl HSX.out (byt_one _) ?d18 ?d28 ?d38 ?_)
  case d18 => unfold maxLen; omega
  case d28 => omega
  case d38 => exact HBE.out.size
  intro va8 wa8 oa8 ga8
  have ba8 : Below V7.heap.size V7 wa8 := HBE.out.grown ga8 HBE.out.size (fun k hk => by simp [Value.ownBlock] at hk; omega)
  have HOA := Lib.hid (show wa8.ownsRow V7.heap.size 5 1 va8 XJ.length (byt XJ) by simpa using oa8)
  have HBA := Lib.hid ba8
  clear oa8 ga8 ba8 HOE HSX HBE
  go_wp2_with (at_builtin; refine wpList_append_sl rfl _ _ 46 rfl V7.heap.size 5 i0 (.int .u8 0) 1 1 Try.underlying46 hi hz0 hz1 hz2 rfl (by decide) va8 XJ.length (byt XJ) rfl (HOA.out.alloc _) (wa8.heap.size + 1) _ 1 (byt [mo]) rfl (sl_oneW (heap_last wa8 _)) (byt_one _) ?f18 ?f28 ?f38 ?_)
  case f18 => unfold maxLen; omega
  case f28 => omega
  case f38 => have := HBA.out.size; simp; omega
  intro vb8 wb8 ob8 gb8
  have bb8 : Below V7.heap.size V7 wb8 := (HBA.out.alloc HBA.out.size _).grown gb8 (by have := HBA.out.size; simp; omega) (fun k hk => (HOA.out.lt k hk).1)
  have HOB := Lib.hid (show wb8.ownsRow V7.heap.size 5 1 vb8 (XJ ++ [mo]).length (byt (XJ ++ [mo])) by rw [List.length_append, ← byt_app]; exact ob8)
  have HBB := Lib.hid bb8
  clear ob8 gb8 bb8 HOA HBA
  obtain ⟨xb8, cb8, hvb, -, -, -, -⟩ := (Sl.of_own HOB.out).form
  rw [List.length_append, List.length_singleton] at hvb; subst hvb
  go_wp2_with fail
  refine Calls.mono (wtakeJoint_any (XJ ++ [mo]) _ wb8 (Sl.of_own HOB.out) (octs_app OJ.out (fun x hx => by rw [List.mem_singleton] at hx; rw [hx]; exact HMO.out)) (by rw [List.length_append, List.length_singleton]; omega)) ?_; intro r u8 ht
  rw [← HXJ.out] at ht
  obtain ⟨hb8', rfl⟩ := tkJoint_self ht HFJ.out
  have hb8 := HBB.out.trans (hb8'.mono HBB.out.size)
  rw [HXJ.out]
  clear ht hb8' HBB HOB
  go_upto_region 9 with fail
  obtain ⟨V8, hV8⟩ : ∃ x : World, u8.alloc (.cells #[.int .u16 j.o.v, .int .u16 j.o.x, .int .u16 j.o.l, .int .i64 j.o.e, .int .i64 j.o.k, .int .u16 j.n.v, .int .u16 j.n.x, .int .u16 j.n.l, .int .i64 j.n.e, .int .i64 j.n.k, .bool j.two] 45) = x := ⟨_, rfl⟩
  have bV : Below u8.heap.size u8 V8 := by rw [← hV8]; exact (Below.refl _ _).alloc (Nat.le_refl _) _
  have bN : Below V7.heap.size V7 V8 := hb8.trans (bV.mono hb8.size)
  have q : V8.heap[u8.heap.size]? = some (.cells #[.int .u16 j.o.v, .int .u16 j.o.x, .int .u16 j.o.l, .int .i64 j.o.e, .int .i64 j.o.k, .int .u16 j.n.v, .int .u16 j.n.x, .int .u16 j.n.l, .int .i64 j.n.e, .int .i64 j.n.k, .bool j.two] 45 (0, 0)) := by rw [← hV8]; exact heap_last u8 _
  rw [hV8]
  obtain ⟨A8, eA8⟩ : ∃ n, u8.heap.size = n := ⟨_, rfl⟩
  rw [eA8] at q ⊢
  have HQ8 := Lib.hid q; have E8 := Lib.hid bN
  have D8 := Lib.hid (D7.out.trans (bN.mono D7.out.size))
  clear hV8 bV bN q eA8 hb8
  have OE := own_emptyW V8
  have bE : Below V8.heap.size V8 (V8.alloc (.cells #[] 5)) := (Below.refl _ _).alloc (Nat.le_refl _) _
  have SX := (S0.out.keep D8.out).keep (bE.mono D8.out.size)
  have HOE := Lib.hid OE; have HSX := Lib.hid SX; have HBE := Lib.hid bE
  clear OE bE SX
  go_wp2_with (at_builtin; refine wpList_append_sl rfl _ _ 46 rfl V8.heap.size 5 i0 (.int .u8 0) 1 1 Try.underlying46 hi hz0 hz1 hz2 rfl (by decide) _ 0 [] rfl HOE.out w3.heap.size _ XC.length (byt XC) rfl HSX.out (byt_one _) ?d19 ?d29 ?d39 ?_)
  case d19 => unfold maxLen; omega
  case d29 => omega
  case d39 => exact HBE.out.size
  intro va9 wa9 oa9 ga9
  have ba9 : Below V8.heap.size V8 wa9 := HBE.out.grown ga9 HBE.out.size (fun k hk => by simp [Value.ownBlock] at hk; omega)
  have HOA := Lib.hid (show wa9.ownsRow V8.heap.size 5 1 va9 XC.length (byt XC) by simpa using oa9)
  have HBA := Lib.hid ba9
  clear oa9 ga9 ba9 HOE HSX HBE
  go_wp2_with (at_builtin; refine wpList_append_sl rfl _ _ 46 rfl V8.heap.size 5 i0 (.int .u8 0) 1 1 Try.underlying46 hi hz0 hz1 hz2 rfl (by decide) va9 XC.length (byt XC) rfl (HOA.out.alloc _) (wa9.heap.size + 1) _ 1 (byt [mo]) rfl (sl_oneW (heap_last wa9 _)) (byt_one _) ?f19 ?f29 ?f39 ?_)
  case f19 => unfold maxLen; omega
  case f29 => omega
  case f39 => have := HBA.out.size; simp; omega
  intro vb9 wb9 ob9 gb9
  have bb9 : Below V8.heap.size V8 wb9 := (HBA.out.alloc HBA.out.size _).grown gb9 (by have := HBA.out.size; simp; omega) (fun k hk => (HOA.out.lt k hk).1)
  have HOB := Lib.hid (show wb9.ownsRow V8.heap.size 5 1 vb9 (XC ++ [mo]).length (byt (XC ++ [mo])) by rw [List.length_append, ← byt_app]; exact ob9)
  have HBB := Lib.hid bb9
  clear ob9 gb9 bb9 HOA HBA
  obtain ⟨xb9, cb9, hvb, -, -, -, -⟩ := (Sl.of_own HOB.out).form
  rw [List.length_append, List.length_singleton] at hvb; subst hvb
  go_wp2_with fail
  refine Calls.mono (wtakeCmd_any (XC ++ [mo]) _ wb9 (Sl.of_own HOB.out) (octs_app OC.out (fun x hx => by rw [List.mem_singleton] at hx; rw [hx]; exact HMO.out)) (by rw [List.length_append, List.length_singleton]; omega)) ?_; intro r u9 ht
  rw [← HXC.out] at ht
  obtain ⟨hb9', rfl⟩ := tkCmd_none ht (cm_more HCV.out mo)
  have hb9 := HBB.out.trans (hb9'.mono HBB.out.size)
  clear ht hb9' HBB HOB
  go_upto_region 10 with fail
  obtain ⟨V9, hV9⟩ : ∃ x : World, u9.alloc (.cells #[.int .i64 0, .int .i64 0, .int .i64 0, .int .i64 0, .int .i64 0, .int .i64 0, .int .i64 0, .int .i64 0, .int .i64 0, .int .i64 0, .int .i64 0, .bool false, .slice none 0 0, .slice none 0 0] 29) = x := ⟨_, rfl⟩
  have bV : Below u9.heap.size u9 V9 := by rw [← hV9]; exact (Below.refl _ _).alloc (Nat.le_refl _) _
  have bN : Below V8.heap.size V8 V9 := hb9.trans (bV.mono hb9.size)
  have q : V9.heap[u9.heap.size]? = some (.cells #[.int .i64 0, .int .i64 0, .int .i64 0, .int .i64 0, .int .i64 0, .int .i64 0, .int .i64 0, .int .i64 0, .int .i64 0, .int .i64 0, .int .i64 0, .bool false, .slice none 0 0, .slice none 0 0] 29 (0, 0)) := by rw [← hV9]; exact heap_last u9 _
  rw [hV9]
  obtain ⟨A9, eA9⟩ : ∃ n, u9.heap.size = n := ⟨_, rfl⟩
  rw [eA9] at q ⊢
  have E9 := Lib.hid bN
  have D9 := Lib.hid (D8.out.trans (bN.mono D8.out.size))
  clear hV9 bV bN q eA9 hb9
  have PL := Lib.hid (place_any cut (XC.length : Int) V9 HCU.out (by omega) (by omega))
  go_wp2_with fail
  refine PL.out.mono ?_; rintro r wp ⟨⟨k10, rfl, hk10⟩, rfl⟩
  have hki : k10 < XC.length := by omega
  have hkc : (k10 : Int) ≤ (c0 : Int) := by omega
  have hkn : k10 ≤ c0 := by omega
  have hk0 : 0 ≤ (k10 : Int) := by omega
  have hst := (S0.out.keep D9.out).takeW (m := k10) (by omega)
  have HST := Lib.hid hst
  have hlt : (XC.take k10).length = k10 := by rw [List.length_take]; omega
  have HTK := Lib.hid (show ∀ w', w' = V9 → Calls Try.prog 22 #[.slice x0 k10 c0] w' (TkCmd w' (XC.take k10)) from fun w' e => by
    rw [e]
    exact wtakeCmd_any (XC.take k10) _ V9 (HST.out.mono D9.out.size) (Oct.take OC.out _) (by omega))
  clear hst hlt PL HST hk10
  go_wp2_with fail
  refine Calls.mono (HTK.out _ rfl) ?_; intro r u10 ht
  obtain ⟨hb10, rfl⟩ := tkCmd_none ht (by rw [← HXC.out]; exact cm_less HCV.out (by rw [HXC.out]; exact hki))
  clear ht HTK hki hkc hkn hk0
  go_upto_region 11 with fail
  obtain ⟨V10, hV10⟩ : ∃ x : World, u10.alloc (.cells #[.int .i64 0, .int .i64 0, .int .i64 0, .int .i64 0, .int .i64 0, .int .i64 0, .int .i64 0, .int .i64 0, .int .i64 0, .int .i64 0, .int .i64 0, .bool false, .slice none 0 0, .slice none 0 0] 29) = x := ⟨_, rfl⟩
  have bV : Below u10.heap.size u10 V10 := by rw [← hV10]; exact (Below.refl _ _).alloc (Nat.le_refl _) _
  have bN : Below V9.heap.size V9 V10 := hb10.trans (bV.mono hb10.size)
  have q : V10.heap[u10.heap.size]? = some (.cells #[.int .i64 0, .int .i64 0, .int .i64 0, .int .i64 0, .int .i64 0, .int .i64 0, .int .i64 0, .int .i64 0, .int .i64 0, .int .i64 0, .int .i64 0, .bool false, .slice none 0 0, .slice none 0 0] 29 (0, 0)) := by rw [← hV10]; exact heap_last u10 _
  rw [hV10]
  obtain ⟨A10, eA10⟩ : ∃ n, u10.heap.size = n := ⟨_, rfl⟩
  rw [eA10] at q ⊢
  have E10 := Lib.hid bN
  have D10 := Lib.hid (D9.out.trans (bN.mono D9.out.size))
  clear hV10 bV bN q eA10 hb10
  have PL := Lib.hid (place_any cut (XP.length : Int) V10 HCU.out (by omega) (by omega))
  go_wp2_with fail
  refine PL.out.mono ?_; rintro r wp ⟨⟨k11, rfl, hk11⟩, rfl⟩
  have hki : k11 < XP.length := by omega
  have hkc : (k11 : Int) ≤ (c1 : Int) := by omega
  have hkn : k11 ≤ c1 := by omega
  have hk0 : 0 ≤ (k11 : Int) := by omega
  have hst := (S1.out.keep D10.out).takeW (m := k11) (by omega)
  have HST := Lib.hid hst
  have hlt : (XP.take k11).length = k11 := by rw [List.length_take]; omega
  have HTK := Lib.hid (show ∀ w', w' = V10 → Calls Try.prog 24 #[.slice x1 k11 c1] w' (TkPart w' (XP.take k11)) from fun w' e => by
    rw [e]
    exact wtakePart_any (XP.take k11) _ V10 (HST.out.mono D10.out.size) (Oct.take OP.out _) (by omega))
  clear hst hlt PL HST hk11
  go_wp2_with fail
  refine Calls.mono (HTK.out _ rfl) ?_; intro r u11 ht
  obtain ⟨hb11, rfl⟩ := tkPart_none ht (by rw [← HXP.out]; exact pa_less HPV.out (by rw [HXP.out]; exact hki))
  clear ht HTK hki hkc hkn hk0
  go_upto_region 12 with fail
  obtain ⟨V11, hV11⟩ : ∃ x : World, u11.alloc (.cells #[.int .i64 0, .int .i64 0, .int .i64 0, .int .i64 0, .int .i64 0, .int .i64 0, .slice none 0 0, .slice none 0 0, .slice none 0 0] 33) = x := ⟨_, rfl⟩
  have bV : Below u11.heap.size u11 V11 := by rw [← hV11]; exact (Below.refl _ _).alloc (Nat.le_refl _) _
  have bN : Below V10.heap.size V10 V11 := hb11.trans (bV.mono hb11.size)
  have q : V11.heap[u11.heap.size]? = some (.cells #[.int .i64 0, .int .i64 0, .int .i64 0, .int .i64 0, .int .i64 0, .int .i64 0, .slice none 0 0, .slice none 0 0, .slice none 0 0] 33 (0, 0)) := by rw [← hV11]; exact heap_last u11 _
  rw [hV11]
  obtain ⟨A11, eA11⟩ : ∃ n, u11.heap.size = n := ⟨_, rfl⟩
  rw [eA11] at q ⊢
  have E11 := Lib.hid bN
  have D11 := Lib.hid (D10.out.trans (bN.mono D10.out.size))
  clear hV11 bV bN q eA11 hb11
  have PL := Lib.hid (place_any cut (XJ.length : Int) V11 HCU.out (by omega) (by omega))
  go_wp2_with fail
  refine PL.out.mono ?_; rintro r wp ⟨⟨k12, rfl, hk12⟩, rfl⟩
  have hki : k12 < XJ.length := by omega
  have hkc : (k12 : Int) ≤ (c2 : Int) := by omega
  have hkn : k12 ≤ c2 := by omega
  have hk0 : 0 ≤ (k12 : Int) := by omega
  have hst := (S2.out.keep D11.out).takeW (m := k12) (by omega)
  have HST := Lib.hid hst
  have hlt : (XJ.take k12).length = k12 := by rw [List.length_take]; omega
  have HTK := Lib.hid (show ∀ w', w' = V11 → Calls Try.prog 26 #[.slice x2 k12 c2] w' (TkJoint w' (XJ.take k12)) from fun w' e => by
    rw [e]
    exact wtakeJoint_any (XJ.take k12) _ V11 (HST.out.mono D11.out.size) (Oct.take OJ.out _) (by omega))
  clear hst hlt PL HST hk12
  go_wp2_with fail
  refine Calls.mono (HTK.out _ rfl) ?_; intro r u12 ht
  obtain ⟨hb12, rfl⟩ := tkJoint_none ht (by rw [← HXJ.out]; exact jo_less HFJ.out (by rw [HXJ.out]; exact hki))
  clear ht HTK hki hkc hkn hk0
  go_upto_region 13 with fail
  obtain ⟨V12, hV12⟩ : ∃ x : World, u12.alloc (.cells #[.int .u16 0, .int .u16 0, .int .u16 0, .int .i64 0, .int .i64 0, .int .u16 0, .int .u16 0, .int .u16 0, .int .i64 0, .int .i64 0, .bool false] 45) = x := ⟨_, rfl⟩
  have bV : Below u12.heap.size u12 V12 := by rw [← hV12]; exact (Below.refl _ _).alloc (Nat.le_refl _) _
  have bN : Below V11.heap.size V11 V12 := hb12.trans (bV.mono hb12.size)
  have q : V12.heap[u12.heap.size]? = some (.cells #[.int .u16 0, .int .u16 0, .int .u16 0, .int .i64 0, .int .i64 0, .int .u16 0, .int .u16 0, .int .u16 0, .int .i64 0, .int .i64 0, .bool false] 45 (0, 0)) := by rw [← hV12]; exact heap_last u12 _
  rw [hV12]
  obtain ⟨A12, eA12⟩ : ∃ n, u12.heap.size = n := ⟨_, rfl⟩
  rw [eA12] at q ⊢
  have E12 := Lib.hid bN
  have D12 := Lib.hid (D11.out.trans (bN.mono D11.out.size))
  clear hV12 bV bN q eA12 hb12
  have F8 := Lib.hid (E9.out.trans ((E10.out.trans ((E11.out.trans (E12.out.mono E11.out.size)).mono E10.out.size)).mono E9.out.size))
  have F7 := Lib.hid (E8.out.trans (F8.out.mono E8.out.size))
  have F6 := Lib.hid (E7.out.trans (F7.out.mono E7.out.size))
  have k6 := below_block F6.out (block_lt HQ6.out) HQ6.out
  have k7 := below_block F7.out (block_lt HQ7.out) HQ7.out
  have k8 := below_block F8.out (block_lt HQ8.out) HQ8.out
  have DW := Lib.hid (H3.out.trans (D12.out.mono H3.out.size))
  have kb0 := below_block DW.out (block_lt HK0.out) HK0.out
  have kb1 := below_block DW.out (block_lt HK1.out) HK1.out
  have kb2 := below_block DW.out (block_lt HK2.out) HK2.out
  have HS1' := Lib.hid (HS1.out.keep F6.out (Nat.le_refl _)); have HS2' := Lib.hid (HS2.out.keep F6.out (Nat.le_refl _))
  have HT1' := Lib.hid (HT1.out.keep F7.out (Nat.le_refl _)); have HT2' := Lib.hid (HT2.out.keep F7.out (Nat.le_refl _)); have HT3' := Lib.hid (HT3.out.keep F7.out (Nat.le_refl _))
  have HA1' := Lib.hid (HA1.out.keep DW.out (Nat.le_refl _)); have HA2' := Lib.hid (HA2.out.keep DW.out (Nat.le_refl _))
  have HE1' := Lib.hid (HE1.out.keep DW.out (Nat.le_refl _)); have HE2' := Lib.hid (HE2.out.keep DW.out (Nat.le_refl _)); have HE3' := Lib.hid (HE3.out.keep DW.out (Nat.le_refl _))
  clear HQ6 HQ7 HQ8 HK0 HK1 HK2 HS1 HS2 HT1 HT2 HT3 HA1 HA2 HE1 HE2 HE3 E7 E8 E9 E10 E11 E12 F6 F7 F8 D6 D7 D8 D9 D10 D11 D12 S0 S1 S2 H3 hf hg hU
  obtain ⟨U2, f2, hU2, hf2, hg2⟩ := calm_class V12
  obtain ⟨u2, hu2⟩ := hg2 _ (Below.refl _ _)
  have kA := fun u => block_cells (calm_heap hf2 kb0 u)
  have kB := fun u => block_cells (calm_heap hf2 kb1 u)
  have kC := fun u => block_cells (calm_heap hf2 kb2 u)
  have kD := fun u => block_cells (calm_heap hf2 k6 u)
  have kE := fun u => block_cells (calm_heap hf2 k7 u)
  have kF := fun u => block_cells (calm_heap hf2 k8 u)
  have hjq := fun w => eql_jo_yes j.o.v j.o.x j.o.l j.o.e j.o.k j.n.v j.n.x j.n.l j.n.e j.n.k j.two w
  have SC : Hid (∀ u, Calls Try.prog 10 #[.agg #[.int .i64 c.k, .int .i64 c.e, .int .i64 c.n, .int .i64 c.h, .int .i64 c.yn, .int .i64 c.yl, .int .i64 c.ys, .int .i64 c.ya, .int .i64 c.sw, .int .i64 c.st, .int .i64 c.w, .bool c.yes, .slice rp c.sp.length rc, .slice rq c.wr.length rd], .agg #[.int .i64 c.k, .int .i64 c.e, .int .i64 c.n, .int .i64 c.h, .int .i64 c.yn, .int .i64 c.yl, .int .i64 c.ys, .int .i64 c.ya, .int .i64 c.sw, .int .i64 c.st, .int .i64 c.w, .bool c.yes, .slice ap c.sp.length ac, .slice aq c.wr.length ad]] (f2 u) fun r w' => r = .returned (.bool true) ∧ Below (f2 u).heap.size (f2 u) w') := fun u => by
    have := wsameCmd_any c c rp rq ap aq rc rd ac ad (f2 u) ⟨GC.out.s, GC.out.r⟩ ⟨GC.out.s, GC.out.r⟩ (HS1'.out.keep (hf2 u) (Nat.le_refl _)) (HS2'.out.keep (hf2 u) (Nat.le_refl _)) (HA1'.out.keep (hf2 u) (Nat.le_refl _)) (HA2'.out.keep (hf2 u) (Nat.le_refl _)); rw [decide_eq_true (rfl : c = c)] at this; exact this
  have SP : Hid (∀ u, Calls Try.prog 12 #[.agg #[.int .i64 Q.e, .int .i64 Q.h, .int .i64 Q.fw, .int .i64 Q.ft, .int .i64 Q.cl, .int .i64 Q.lo, .slice gp Q.cs.length gc, .slice gq Q.rs.length gd, .slice gs Q.ds.length gt], .agg #[.int .i64 P.e, .int .i64 P.h, .int .i64 P.fw, .int .i64 P.ft, .int .i64 P.cl, .int .i64 P.lo, .slice ep P.cs.length ec, .slice eq P.rs.length ed, .slice es P.ds.length et]] (f2 u) fun r w' => r = .returned (.bool true) ∧ Below (f2 u).heap.size (f2 u) w') := fun u => by
    have hl := PaL.lens HQP.out
    have := wpart_any Q.e Q.h Q.fw Q.ft Q.cl Q.lo P.e P.h P.fw P.ft P.cl P.lo Q.cs P.cs Q.rs Q.ds P.rs P.ds gp gq gs ep eq es gc gd gt ec ed et (f2 u) ⟨by rw [hl.1]; exact GP.out.1.1, GP.out.1.1⟩ ⟨hl.2.2.2 GP.out.1.2, GP.out.1.2⟩ ⟨by rw [hl.2.1]; exact GP.out.2.1, GP.out.2.1⟩ ⟨by rw [hl.2.2.1]; exact GP.out.2.2.1, GP.out.2.2.1⟩ (HT1'.out.keep (hf2 u) (Nat.le_refl _)) (HE1'.out.keep (hf2 u) (Nat.le_refl _)) (HT2'.out.keep (hf2 u) (Nat.le_refl _)) (HE2'.out.keep (hf2 u) (Nat.le_refl _)) (HT3'.out.keep (hf2 u) (Nat.le_refl _)) (HE3'.out.keep (hf2 u) (Nat.le_refl _))
    have e : decide (Q.x = P.x) = true := decide_eq_true HQP.out
    rw [← e]; exact this
  rw [hu2]
  clear k6 k7 k8 kb0 kb1 kb2 hu2 HS1' HS2' HT1' HT2' HT3' HA1' HA2' HE1' HE2' HE3'
  go_wp2_with fail
  refine (SC.out _).mono ?_; rintro r w' ⟨rfl, hb⟩; obtain ⟨u, rfl⟩ := calm_step hf2 hg2 hb; clear hb
  go_wp2_with fail
  refine (SP.out _).mono ?_; rintro r w' ⟨rfl, hb⟩; obtain ⟨u, rfl⟩ := calm_step hf2 hg2 hb; clear hb
  go_wp2_with fail
  exact HQ.out _ _ rfl rfl (DW.out.trans ((hf2 _).mono DW.out.size))

set_option maxRecDepth 100000 in
theorem wback_lifted (os : Os) (started : os.Started) (H : Type) (enc : TypeId × Value → H) :
    ReturnsInHanded {} Try.checked os 6 .any (Rows.wireBackSpec.pre6 enc Try.prog Try.f6 Rows.wireBackRow.domain false) (Rows.wireBackSpec.post enc Try.prog Try.f6 false true false false) := by
  refine lift_law (C := Try.checked) (tb := 4) (by kernel_rfl) started (by kernel_rfl) Try.func6 (ChangeSpec.witness6 (enc := enc) (C := Try.checked) false ⟨#[], #[.agg #[.int .i64 0, .int .i64 0, .int .i64 0, .int .i64 0, .int .i64 0, .int .i64 0, .int .i64 0, .int .i64 0, .int .i64 0, .int .i64 0, .int .i64 0, .bool false, .slice none 0 0, .slice none 0 0], .agg #[.int .i64 0, .int .i64 0, .int .i64 0, .int .i64 0, .int .i64 0, .int .i64 0, .slice none 0 0, .slice none 0 0, .slice none 0 0], .agg #[.int .u16 0, .int .u16 0, .int .u16 0, .int .i64 0, .int .i64 0, .int .u16 0, .int .u16 0, .int .u16 0, .int .i64 0, .int .i64 0, .bool false], .int .u8 0, .int .i64 0], []⟩ 8 (by kernel_rfl) (by kernel_rfl) (by kernel_rfl) (by kernel_rfl)) (by kernel_rfl) (by kernel_rfl) rfl Try.underlying4 rfl ?_ ?_
  · intro ds h
    match ds, h with
    | [_, _, _, _, _], _ => rfl
  · intro W base args ds ps hval0 hA0 hlt hsz
    have hval : ∀ (j : Nat) t v, Try.f6.params[j]? = some t → args[j]? = some v → Value.okWide Try.prog W .any base t v := hval0
    have hA : DataW.TrodAll enc Try.prog W 0 (fun _ => true) true Try.f6.params.toList args.toList ds ps := hA0
    rw [Try.params6] at hA hval
    obtain ⟨v0, vs0, d0, ds0, p0, q0, hargs, rfl, rfl, h0, r0⟩ := trodAll_cons hA
    obtain ⟨v1, vs1, d1, ds1, p1, q1, rfl, rfl, rfl, h1, r1⟩ := trodAll_cons r0
    obtain ⟨v2, vs2, d2, ds2, p2, q2, rfl, rfl, rfl, h2, r2⟩ := trodAll_cons r1
    obtain ⟨v3, vs3, d3, ds3, p3, q3, rfl, rfl, rfl, h3, r3⟩ := trodAll_cons r2
    obtain ⟨v4, vs4, d4, ds4, p4, q4, rfl, rfl, rfl, h4, r4⟩ := trodAll_cons r3
    obtain ⟨rfl, rfl, rfl⟩ := trodAll_nil r4
    obtain ⟨args⟩ := args; obtain rfl : args = _ := hargs
    obtain ⟨c, ap, ac, aq, ad, rfl, Fc, a1, a2⟩ := open_cmd (hval 0 29 v0 rfl rfl) h0
    obtain ⟨P, ep, ec, eq, ed, es, et, rfl, FP, e1, e2, e3⟩ := open_part (hval 1 33 v1 rfl rfl) h1
    obtain ⟨j, rfl, FJ⟩ := open_jo (hval 2 45 v2 rfl rfl) h2
    obtain ⟨x, rfl, rfl, rfl, wx⟩ := open_int Try.underlying5 (hval 3 5 v3 rfl rfl) h3
    obtain ⟨y, rfl, rfl, rfl, wy⟩ := open_int Try.underlying3 (hval 4 3 v4 rfl rfl) h4
    exact wback_walk c P j x y ap aq ep eq es ac ad ec ed et W Fc FP FJ (wf_8 wx) (wf_64 wy) a1 a2 e1 e2 e3

theorem wback_holds : Rows.WireBackSaid :=
  OpenClaim.holds_of_wide 6 Try.f6 rfl rfl rfl rfl rfl rfl rfl ⟨rfl, rfl, rfl, rfl, rfl⟩ rfl rfl rfl rfl rfl (by kernel_rfl) Try.func6 (by kernel_rfl)
    (of_decide_eq_true (by kernel_rfl)) (by unfold Func.isWrapper; first | (rw [if_pos (by decide +kernel)]; kernel_rfl) | (rw [if_neg (by decide +kernel)]; exact ⟨rfl, rfl⟩))
    (fun os started H enc _ => wback_lifted os started H enc)
#print axioms wback_holds

end Go.Proofs.Ytmhmlpfkdpjlaaa
