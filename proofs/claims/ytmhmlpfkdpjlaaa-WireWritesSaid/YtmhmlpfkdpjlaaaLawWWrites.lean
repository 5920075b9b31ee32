/- WireWrites: for every command, state and joint: their bytes are the document's, twice, whatever is done to what was told (of commands and states that are not too great; others are let through); no condition. -/
import Derived.Test.YtmhmlpfkdpjlaaaWireZ
import Derived.Test.YtmhmlpfkdpjlaaaFrame
import Derived.Test.YtmhmlpfkdpjlaaaOpenPart
import Derived.Test.YtmhmlpfkdpjlaaaOpenJoint
import Derived.Test.YtmhmlpfkdpjlaaaSpoil
import Derived.Test.YtmhmlpfkdpjlaaaRows
namespace Go.Proofs.Ytmhmlpfkdpjlaaa
open Go.ChangeShapes Go.WideShapes Go.ChangeAt Go.RowKit

set_option maxRecDepth 100000 in
set_option maxHeartbeats 32000000 in
theorem wwrites_walk (c : CmX) (P : PaL) (j : JoX) (ap aq ep eq es : Option Addr) (ac ad ec ed et : Nat) (w : World) (Fc : CmF c) (FP : PaF P) (FJ : JoF j)
    (a1 : SpsAt w ap c.sp) (a2 : WrsAt w aq c.wr) (e1 : CesAt w ep P.cs) (e2 : OusAt w eq P.rs) (e3 : OusAt w es P.ds) :
    Calls Try.prog 4 #[.agg #[.int .i64 c.k, .int .i64 c.e, .int .i64 c.n, .int .i64 c.h, .int .i64 c.yn, .int .i64 c.yl, .int .i64 c.ys, .int .i64 c.ya, .int .i64 c.sw, .int .i64 c.st, .int .i64 c.w, .bool c.yes, .slice ap c.sp.length ac, .slice aq c.wr.length ad], .agg #[.int .i64 P.e, .int .i64 P.h, .int .i64 P.fw, .int .i64 P.ft, .int .i64 P.cl, .int .i64 P.lo, .slice ep P.cs.length ec, .slice eq P.rs.length ed, .slice es P.ds.length et], .agg #[.int .u16 j.o.v, .int .u16 j.o.x, .int .u16 j.o.l, .int .i64 j.o.e, .int .i64 j.o.k, .int .u16 j.n.v, .int .u16 j.n.x, .int .u16 j.n.l, .int .i64 j.n.e, .int .i64 j.n.k, .bool j.two]] w fun r w' => r = .returned (.bool true) ∧ Below w.heap.size w w' := by
  obtain ⟨W0, hW0⟩ : ∃ W : World, w.alloc (.cells #[.int .i64 c.k, .int .i64 c.e, .int .i64 c.n, .int .i64 c.h, .int .i64 c.yn, .int .i64 c.yl, .int .i64 c.ys, .int .i64 c.ya, .int .i64 c.sw, .int .i64 c.st, .int .i64 c.w, .bool c.yes, .slice ap c.sp.length ac, .slice aq c.wr.length ad] 29) = W := ⟨_, rfl⟩
  obtain ⟨W1, hW1⟩ : ∃ W : World, W0.alloc (.cells #[.int .i64 P.e, .int .i64 P.h, .int .i64 P.fw, .int .i64 P.ft, .int .i64 P.cl, .int .i64 P.lo, .slice ep P.cs.length ec, .slice eq P.rs.length ed, .slice es P.ds.length et] 33) = W := ⟨_, rfl⟩
  obtain ⟨W, hW2⟩ : ∃ W : World, W1.alloc (.cells #[.int .u16 j.o.v, .int .u16 j.o.x, .int .u16 j.o.l, .int .i64 j.o.e, .int .i64 j.o.k, .int .u16 j.n.v, .int .u16 j.n.x, .int .u16 j.n.l, .int .i64 j.n.e, .int .i64 j.n.k, .bool j.two] 45) = W := ⟨_, rfl⟩
  obtain ⟨B, eB⟩ : ∃ n, w.heap.size = n := ⟨_, rfl⟩
  have s0 : W0.heap.size = B + 1 := by rw [← hW0]; simp; omega
  have s1 : W1.heap.size = B + 1 + 1 := by rw [← hW1]; simp; omega
  have n0 : Below (B) w W0 := by rw [← hW0]; exact (Below.refl _ _).alloc (by omega) _
  have n1 : Below (B + 1) W0 W1 := by rw [← hW1]; exact (Below.refl _ _).alloc (by omega) _
  have n2 : Below (B + 1 + 1) W1 W := by rw [← hW2]; exact (Below.refl _ _).alloc (by omega) _
  have hb : Below B w W := ((n0.trans (n1.mono (by omega))).trans (n2.mono (by omega)))
  have k0 : W.heap[B]? = some (.cells #[.int .i64 c.k, .int .i64 c.e, .int .i64 c.n, .int .i64 c.h, .int .i64 c.yn, .int .i64 c.yl, .int .i64 c.ys, .int .i64 c.ya, .int .i64 c.sw, .int .i64 c.st, .int .i64 c.w, .bool c.yes, .slice ap c.sp.length ac, .slice aq c.wr.length ad] 29 (0, 0)) := by
    have h0 : W0.heap[B]? = some (.cells #[.int .i64 c.k, .int .i64 c.e, .int .i64 c.n, .int .i64 c.h, .int .i64 c.yn, .int .i64 c.yl, .int .i64 c.ys, .int .i64 c.ya, .int .i64 c.sw, .int .i64 c.st, .int .i64 c.w, .bool c.yes, .slice ap c.sp.length ac, .slice aq c.wr.length ad] 29 (0, 0)) := by rw [← hW0, ← eB]; exact heap_last _ _
    exact below_block n2 (by omega) (below_block n1 (by omega) (h0))
  have k1 : W.heap[B + 1]? = some (.cells #[.int .i64 P.e, .int .i64 P.h, .int .i64 P.fw, .int .i64 P.ft, .int .i64 P.cl, .int .i64 P.lo, .slice ep P.cs.length ec, .slice eq P.rs.length ed, .slice es P.ds.length et] 33 (0, 0)) := by
    have h0 : W1.heap[B + 1]? = some (.cells #[.int .i64 P.e, .int .i64 P.h, .int .i64 P.fw, .int .i64 P.ft, .int .i64 P.cl, .int .i64 P.lo, .slice ep P.cs.length ec, .slice eq P.rs.length ed, .slice es P.ds.length et] 33 (0, 0)) := by rw [← hW1, ← s0]; exact heap_last _ _
    exact below_block n2 (by omega) (h0)
  have k2 : W.heap[B + 1 + 1]? = some (.cells #[.int .u16 j.o.v, .int .u16 j.o.x, .int .u16 j.o.l, .int .i64 j.o.e, .int .i64 j.o.k, .int .u16 j.n.v, .int .u16 j.n.x, .int .u16 j.n.l, .int .i64 j.n.e, .int .i64 j.n.k, .bool j.two] 45 (0, 0)) := by
    have h0 : W.heap[B + 1 + 1]? = some (.cells #[.int .u16 j.o.v, .int .u16 j.o.x, .int .u16 j.o.l, .int .i64 j.o.e, .int .i64 j.o.k, .int .u16 j.n.v, .int .u16 j.n.x, .int .u16 j.n.l, .int .i64 j.n.e, .int .i64 j.n.k, .bool j.two] 45 (0, 0)) := by rw [← hW2, ← s1]; exact heap_last _ _
    exact h0
  have HC : Hid ((((w.alloc (.cells #[.int .i64 c.k, .int .i64 c.e, .int .i64 c.n, .int .i64 c.h, .int .i64 c.yn, .int .i64 c.yl, .int .i64 c.ys, .int .i64 c.ya, .int .i64 c.sw, .int .i64 c.st, .int .i64 c.w, .bool c.yes, .slice ap c.sp.length ac, .slice aq c.wr.length ad] 29)).alloc (.cells #[.int .i64 P.e, .int .i64 P.h, .int .i64 P.fw, .int .i64 P.ft, .int .i64 P.cl, .int .i64 P.lo, .slice ep P.cs.length ec, .slice eq P.rs.length ed, .slice es P.ds.length et] 33)).alloc (.cells #[.int .u16 j.o.v, .int .u16 j.o.x, .int .u16 j.o.l, .int .i64 j.o.e, .int .i64 j.o.k, .int .u16 j.n.v, .int .u16 j.n.x, .int .u16 j.n.l, .int .i64 j.n.e, .int .i64 j.n.k, .bool j.two] 45)) = W) := by show _ = _; rw [hW0, hW1, hW2]
  have HBW : Hid (∀ w', Below W.heap.size W w' → Below B w w') := fun w' h => hb.trans (h.mono (by have := hb.size; omega))
  have HA1 := Lib.hid (a1.keep hb (by omega)); have HA2 := Lib.hid (a2.keep hb (by omega))
  have HE1 := Lib.hid (e1.keep hb (by omega)); have HE2 := Lib.hid (e2.keep hb (by omega)); have HE3 := Lib.hid (e3.keep hb (by omega))
  have HFC := Lib.hid Fc; have HFP := Lib.hid FP; have HFJ := Lib.hid FJ
  obtain ⟨B1, e1'⟩ : ∃ n, B + 1 = n := ⟨_, rfl⟩
  obtain ⟨B2, e2'⟩ : ∃ n, B1 + 1 = n := ⟨_, rfl⟩
  have HEB := Lib.hid eB; have HEB1 := Lib.hid e1'; have HEB2 := Lib.hid e2'
  rw [e1'] at k1
  rw [e1', e2'] at k2
  have HK0 := Lib.hid k0; have HK1 := Lib.hid k1; have HK2 := Lib.hid k2
  clear hW0 hW1 hW2 s0 s1 n0 n1 n2 hb a1 a2 e1 e2 e3 Fc FP FJ eB e1' e2'
  obtain ⟨U, f, hU, hf, hg⟩ := calm_class W
  obtain ⟨u0, hu0⟩ := hg _ (Below.refl _ _)
  have kA := fun u => block_cells (calm_heap hf k0 u)
  have kB := fun u => block_cells (calm_heap hf k1 u)
  have kC := fun u => block_cells (calm_heap hf k2 u)
  have BG : Hid (∀ u, Calls Try.prog 7 #[] (f u) fun r w' => r = .returned (.bool true) ∧ Below (f u).heap.size (f u) w') := fun u => begun_any (f u)
  have LC : Hid (∀ u, Calls Try.prog 8 #[.agg #[.int .i64 c.k, .int .i64 c.e, .int .i64 c.n, .int .i64 c.h, .int .i64 c.yn, .int .i64 c.yl, .int .i64 c.ys, .int .i64 c.ya, .int .i64 c.sw, .int .i64 c.st, .int .i64 c.w, .bool c.yes, .slice ap c.sp.length ac, .slice aq c.wr.length ad]] (f u) (LcEnd c (f u))) := fun u => lightCmd_any c ap aq ac ad (f u) (by have := HFC.out.nsp; omega) (by have := HFC.out.nwr; omega) (HA1.out.keep (hf u) (Nat.le_refl _)) (HA2.out.keep (hf u) (Nat.le_refl _))
  have LP : Hid (∀ u, Calls Try.prog 9 #[.agg #[.int .i64 P.e, .int .i64 P.h, .int .i64 P.fw, .int .i64 P.ft, .int .i64 P.cl, .int .i64 P.lo, .slice ep P.cs.length ec, .slice eq P.rs.length ed, .slice es P.ds.length et]] (f u) (LpEnd P.cs P.rs P.ds (f u))) := fun u => lightPart_any P.e P.h P.fw P.ft P.cl P.lo P.cs P.rs P.ds ep eq es ec ed et (f u) (HE1.out.keep (hf u) (Nat.le_refl _))
  go_enter Try.func4, Try.ntmps4
  obtain ⟨Q', hQ⟩ : ∃ Q', bodyPost Try.prog Try.f4 (fun r w' => r = .returned (.bool true) ∧ Below w.heap.size w w') = Q' := ⟨_, rfl⟩
  have HQ : Hid (∀ (a : Act) (w' : World), a.tmps.getD 6 undef = .bool true → a.defers = [] → Below W.heap.size W w' → Q' .ret a w') := fun a w' h6 hd hb => by
    rw [← hQ]; exact bodyPost_ret (v := .bool true) (by rw [results_tmp rfl, h6]) hd ⟨rfl, by rw [HEB.out]; exact HBW.out _ hb⟩
  rw [hQ]
  clear hQ k0 k1 k2
  go_upto_region 1 with fail
  rw [HC.out]
  (try simp only [World.size_alloc])
  rw [HEB.out, HEB1.out, HEB2.out, hu0]
  clear HC HEB HEB1 HEB2 hu0 HBW
  go_wp2_with (first | (go_at_call 7; refine (BG.out _).mono ?_; rintro r w' ⟨rfl, hb⟩; obtain ⟨u, rfl⟩ := calm_step hf hg hb; clear hb))
  refine (LC.out _).mono ?_; rintro r w' ⟨⟨b, rfl, hbt⟩, hb⟩; obtain ⟨u, rfl⟩ := calm_step hf hg hb; clear hb
  cases b
  · have hu : undef = Value.tuple #[] := rfl
    go_wp2_with fail
    exact HQ.out _ _ rfl rfl (hf _)
  have GC : Hid (CmL c) := ltc_cml HFC.out (hbt rfl)
  clear hbt LC
  go_wp2_with fail
  refine (LP.out _).mono ?_; rintro r w' ⟨⟨b, rfl, hbt⟩, hb⟩; obtain ⟨u, rfl⟩ := calm_step hf hg hb; clear hb
  cases b
  · have hu : undef = Value.tuple #[] := rfl
    go_wp2_with fail
    exact HQ.out _ _ rfl rfl (hf _)
  have GP : Hid ((P.cs.length ≤ 1000000 ∧ ∀ x ∈ P.cs, x.1.vs.length ≤ 1000000) ∧ P.rs.length ≤ 1000000 ∧ P.ds.length ≤ 1000000 ∧ ((encPa P.x).length : Int) ≤ 140737488200000) := ⟨l8_lens (hbt rfl).1, by have := (hbt rfl).2; omega, by have := (hbt rfl).2; omega, by have := encPa_le HFP.out (hbt rfl).1 (hbt rfl).2.1 (hbt rfl).2.2; omega⟩
  clear hbt LP
  have C0 : Hid (∀ w', Below W.heap.size W w' → Calls Try.prog 14 #[.agg #[.int .i64 c.k, .int .i64 c.e, .int .i64 c.n, .int .i64 c.h, .int .i64 c.yn, .int .i64 c.yl, .int .i64 c.ys, .int .i64 c.ya, .int .i64 c.sw, .int .i64 c.st, .int .i64 c.w, .bool c.yes, .slice ap c.sp.length ac, .slice aq c.wr.length ad]] w' (WEnd w'.heap.size w'.heap.size w' (encCm c))) := fun w' h => wcmd_any c ap aq ac ad w' GC.out.f (HA1.out.keep h (Nat.le_refl _)) (HA2.out.keep h (Nat.le_refl _)) GC.out.l GC.out.s GC.out.r
  have R0 : Hid (∀ w', Below W.heap.size W w' → Calls Try.prog 17 #[.agg #[.int .i64 c.k, .int .i64 c.e, .int .i64 c.n, .int .i64 c.h, .int .i64 c.yn, .int .i64 c.yl, .int .i64 c.ys, .int .i64 c.ya, .int .i64 c.sw, .int .i64 c.st, .int .i64 c.w, .bool c.yes, .slice ap c.sp.length ac, .slice aq c.wr.length ad]] w' (WEnd w'.heap.size w'.heap.size w' (encCm c))) := fun w' h => rcmd_any c ap aq ac ad w' GC.out.f (HA1.out.keep h (Nat.le_refl _)) (HA2.out.keep h (Nat.le_refl _)) GC.out.l GC.out.s GC.out.r
  have C1 : Hid (∀ w', Below W.heap.size W w' → Calls Try.prog 15 #[.agg #[.int .i64 P.e, .int .i64 P.h, .int .i64 P.fw, .int .i64 P.ft, .int .i64 P.cl, .int .i64 P.lo, .slice ep P.cs.length ec, .slice eq P.rs.length ed, .slice es P.ds.length et]] w' (WEnd w'.heap.size w'.heap.size w' (encPa P.x))) := fun w' h => wpartB_any P ep eq es ec ed et w' HFP.out (HE1.out.keep h (Nat.le_refl _)) (HE2.out.keep h (Nat.le_refl _)) (HE3.out.keep h (Nat.le_refl _)) GP.out.2.2.2 GP.out.1.1 GP.out.1.2 GP.out.2.1 GP.out.2.2.1
  have R1 : Hid (∀ w', Below W.heap.size W w' → Calls Try.prog 18 #[.agg #[.int .i64 P.e, .int .i64 P.h, .int .i64 P.fw, .int .i64 P.ft, .int .i64 P.cl, .int .i64 P.lo, .slice ep P.cs.length ec, .slice eq P.rs.length ed, .slice es P.ds.length et]] w' (WEnd w'.heap.size w'.heap.size w' (encPa P.x))) := fun w' h => rpartB_any P ep eq es ec ed et w' HFP.out (HE1.out.keep h (Nat.le_refl _)) (HE2.out.keep h (Nat.le_refl _)) (HE3.out.keep h (Nat.le_refl _)) GP.out.2.2.2 GP.out.1.1 GP.out.1.2 GP.out.2.1 GP.out.2.2.1
  have C2 : Hid (∀ w', Below W.heap.size W w' → Calls Try.prog 16 #[.agg #[.int .u16 j.o.v, .int .u16 j.o.x, .int .u16 j.o.l, .int .i64 j.o.e, .int .i64 j.o.k, .int .u16 j.n.v, .int .u16 j.n.x, .int .u16 j.n.l, .int .i64 j.n.e, .int .i64 j.n.k, .bool j.two]] w' (WEnd w'.heap.size w'.heap.size w' (encJo j))) := fun w' h => wjoint_any j w' HFJ.out
  have R2 : Hid (∀ w', Below W.heap.size W w' → Calls Try.prog 19 #[.agg #[.int .u16 j.o.v, .int .u16 j.o.x, .int .u16 j.o.l, .int .i64 j.o.e, .int .i64 j.o.k, .int .u16 j.n.v, .int .u16 j.n.x, .int .u16 j.n.l, .int .i64 j.n.e, .int .i64 j.n.k, .bool j.two]] w' (WEnd w'.heap.size w'.heap.size w' (encJo j))) := fun w' h => rjoint_any j w' HFJ.out
  obtain ⟨t0, ht0⟩ : ∃ s, strOfNums (encCm c) = s := ⟨_, rfl⟩
  have K0 : Hid (∀ (w' : World) (v : Value), Sl w'.heap.size w' v 1 (encCm c).length (byt (encCm c)) → (convert 46 9 v).run Try.prog w' = .ok (.string t0) w') := fun w' v h => by
    have := run_convert_sl (P := Try.prog) h 46 5 Try.underlying46 Try.underlying5 9 Try.underlying9
    rw [ht0] at this; exact this
  obtain ⟨t1, ht1⟩ : ∃ s, strOfNums (encPa P.x) = s := ⟨_, rfl⟩
  have K1 : Hid (∀ (w' : World) (v : Value), Sl w'.heap.size w' v 1 (encPa P.x).length (byt (encPa P.x)) → (convert 46 9 v).run Try.prog w' = .ok (.string t1) w') := fun w' v h => by
    have := run_convert_sl (P := Try.prog) h 46 5 Try.underlying46 Try.underlying5 9 Try.underlying9
    rw [ht1] at this; exact this
  obtain ⟨t2, ht2⟩ : ∃ s, strOfNums (encJo j) = s := ⟨_, rfl⟩
  have K2 : Hid (∀ (w' : World) (v : Value), Sl w'.heap.size w' v 1 (encJo j).length (byt (encJo j)) → (convert 46 9 v).run Try.prog w' = .ok (.string t2) w') := fun w' v h => by
    have := run_convert_sl (P := Try.prog) h 46 5 Try.underlying46 Try.underlying5 9 Try.underlying9
    rw [ht2] at this; exact this
  clear ht0 ht1 ht2 GC GP HA1 HA2 HE1 HE2 HE3 HFC HFP HFJ kA kB kC BG
  go_upto_region 6 with fail
  go_loopw [7] (fun i wr => ∃ k : Nat, k ≤ 2 ∧ i = .int .i64 k ∧ Hid (Below W.heap.size W wr)) (fun i _ => 2 - (intOf i).toNat)
  case atStart => exact ⟨0, by omega, rfl, hf _⟩
  case round =>
    obtain ⟨k, hk, rfl, HK⟩ := hrel
    obtain ⟨wk, rfl⟩ : ∃ wk : World, wk = wr := ⟨_, rfl⟩
    by_cases hlt : k < 2
    · have hd : decide ((k : Int) < 2) = true := by simp; omega
      go_upto_region 8 with fail
      have kA : ∀ w', Below W.heap.size W w' → ∀ i, w'.cell? ⟨B, i, none⟩ = #[.int .i64 c.k, .int .i64 c.e, .int .i64 c.n, .int .i64 c.h, .int .i64 c.yn, .int .i64 c.yl, .int .i64 c.ys, .int .i64 c.ya, .int .i64 c.sw, .int .i64 c.st, .int .i64 c.w, .bool c.yes, .slice ap c.sp.length ac, .slice aq c.wr.length ad][i]? := fun w' h => block_cells (below_block h (block_lt HK0.out) HK0.out)
      have kB : ∀ w', Below W.heap.size W w' → ∀ i, w'.cell? ⟨B1, i, none⟩ = #[.int .i64 P.e, .int .i64 P.h, .int .i64 P.fw, .int .i64 P.ft, .int .i64 P.cl, .int .i64 P.lo, .slice ep P.cs.length ec, .slice eq P.rs.length ed, .slice es P.ds.length et][i]? := fun w' h => block_cells (below_block h (block_lt HK1.out) HK1.out)
      have kC : ∀ w', Below W.heap.size W w' → ∀ i, w'.cell? ⟨B2, i, none⟩ = #[.int .u16 j.o.v, .int .u16 j.o.x, .int .u16 j.o.l, .int .i64 j.o.e, .int .i64 j.o.k, .int .u16 j.n.v, .int .u16 j.n.x, .int .u16 j.n.l, .int .i64 j.n.e, .int .i64 j.n.k, .bool j.two][i]? := fun w' h => block_cells (below_block h (block_lt HK2.out) HK2.out)
      have h0 : Below W.heap.size W wk.drew := HK.out.drew
      refine wp_region_noPanic ?_
      refine wp_region_held_drew (S := fun w' => Below W.heap.size W w') (by kernel_rfl) h0 (fun hHeld => ?_)
      obtain ⟨wd, ewd⟩ : ∃ x, wk.drew = x := ⟨_, rfl⟩
      rw [ewd] at h0 hHeld ⊢
      clear ewd
      refine wpAnyH_take (i := 0) (v := ?_) rfl (by kernel_rfl) (by kernel_rfl) (by kernel_rfl) (fun _ _ _ h => h) (Or.inl ⟨by rfl, ?_⟩) hHeld ?_
      rotate_left
      · (intro wz hSw; (try dsimp only at hSw); (try simp only [List.getElem_toArray, List.getElem_cons_zero]); go_simp; try with_reducible rfl)
      try simp only [List.getElem_toArray, List.getElem_cons_zero, Act.put, List.setIfInBounds_toArray, List.set_cons_zero, List.set_cons_succ]
      refine wpAnyH_take (i := 2) (v := ?_) rfl (by kernel_rfl) (by kernel_rfl) (by kernel_rfl) (fun _ _ _ h => h) (Or.inl ⟨by rfl, ?_⟩) hHeld ?_
      rotate_left
      · (intro wz hSw; (try dsimp only at hSw); (try simp only [List.getElem_toArray, List.getElem_cons_succ, List.getElem_cons_zero]); go_simp; try with_reducible rfl)
      try simp only [List.getElem_toArray, List.getElem_cons_succ, List.getElem_cons_zero, Act.put, List.setIfInBounds_toArray, List.set_cons_zero, List.set_cons_succ]
      refine wpAnyH_take (i := 4) (v := ?_) rfl (by kernel_rfl) (by kernel_rfl) (by kernel_rfl) (fun _ _ _ h => h) (Or.inl ⟨by rfl, ?_⟩) hHeld ?_
      rotate_left
      · (intro wz hSw; (try dsimp only at hSw); (try simp only [List.getElem_toArray, List.getElem_cons_succ, List.getElem_cons_zero]); go_simp; try with_reducible rfl)
      try simp only [List.getElem_toArray, List.getElem_cons_succ, List.getElem_cons_zero, Act.put, List.setIfInBounds_toArray, List.set_cons_zero, List.set_cons_succ]
      refine wpAnyH_ready (rs := [1]) (by kernel_rfl) (by simp) ?_; refine AllReadyH.cons rfl (fun K hK => ?_) AllReadyH.nil; (try simp only [List.getElem_toArray, List.getElem_cons_succ, List.getElem_cons_zero]); go_simp
      refine (C0.out _ h0).mono ?_; rintro r w1 ⟨v0, rfl, ho0, hb0⟩
      have h1 := h0.trans (hb0.mono h0.size)
      refine hK.out _ _ h1 (fun _ => ?_)
      clear hK K hHeld
      try simp only [List.getElem_toArray, List.getElem_cons_succ, List.getElem_cons_zero, Act.put, List.setIfInBounds_toArray, List.set_cons_zero, List.set_cons_succ]
      have hHeld := h1
      refine wpAnyH_ready (rs := [3]) (by kernel_rfl) (by simp) ?_; refine AllReadyH.cons rfl (fun K hK => ?_) AllReadyH.nil; (try simp only [List.getElem_toArray, List.getElem_cons_succ, List.getElem_cons_zero]); go_simp
      refine (C1.out _ h1).mono ?_; rintro r w2 ⟨v1, rfl, ho1, hb1⟩
      have h2 := h1.trans (hb1.mono h1.size)
      refine hK.out _ _ h2 (fun _ => ?_)
      clear hK K hHeld
      try simp only [List.getElem_toArray, List.getElem_cons_succ, List.getElem_cons_zero, Act.put, List.setIfInBounds_toArray, List.set_cons_zero, List.set_cons_succ]
      have hHeld := h2
      refine wpAnyH_ready (rs := [5]) (by kernel_rfl) (by simp) ?_; refine AllReadyH.cons rfl (fun K hK => ?_) AllReadyH.nil; (try simp only [List.getElem_toArray, List.getElem_cons_succ, List.getElem_cons_zero]); go_simp
      refine (C2.out _ h2).mono ?_; rintro r w3 ⟨v2, rfl, ho2, hb2⟩
      have h3 := h2.trans (hb2.mono h2.size)
      refine hK.out _ _ h3 (fun _ => ?_)
      clear hK K hHeld
      try simp only [List.getElem_toArray, List.getElem_cons_succ, List.getElem_cons_zero, Act.put, List.setIfInBounds_toArray, List.set_cons_zero, List.set_cons_succ]
      have hHeld := h3
      refine wpAnyH_take (i := 6) (v := ?_) rfl (by kernel_rfl) (by kernel_rfl) (by kernel_rfl) (fun _ _ _ h => h) (Or.inl ⟨by rfl, ?_⟩) hHeld ?_
      rotate_left
      · (intro wz hSw; (try dsimp only at hSw); (try simp only [List.getElem_toArray, List.getElem_cons_succ, List.getElem_cons_zero]); go_simp; try with_reducible rfl)
      try simp only [List.getElem_toArray, List.getElem_cons_succ, List.getElem_cons_zero, Act.put, List.setIfInBounds_toArray, List.set_cons_zero, List.set_cons_succ]
      refine wpAnyH_take (i := 7) (v := ?_) rfl (by kernel_rfl) (by kernel_rfl) (by kernel_rfl) (fun _ _ _ h => h) (Or.inl ⟨by rfl, ?_⟩) hHeld ?_
      rotate_left
      · (intro wz hSw; (try dsimp only at hSw); (try simp only [List.getElem_toArray, List.getElem_cons_succ, List.getElem_cons_zero]); go_simp; try with_reducible rfl)
      try simp only [List.getElem_toArray, List.getElem_cons_succ, List.getElem_cons_zero, Act.put, List.setIfInBounds_toArray, List.set_cons_zero, List.set_cons_succ]
      refine wpAnyH_take (i := 8) (v := ?_) rfl (by kernel_rfl) (by kernel_rfl) (by kernel_rfl) (fun _ _ _ h => h) (Or.inl ⟨by rfl, ?_⟩) hHeld ?_
      rotate_left
      · (intro wz hSw; (try dsimp only at hSw); (try simp only [List.getElem_toArray, List.getElem_cons_succ, List.getElem_cons_zero]); go_simp; try with_reducible rfl)
      try simp only [List.getElem_toArray, List.getElem_cons_succ, List.getElem_cons_zero, Act.put, List.setIfInBounds_toArray, List.set_cons_zero, List.set_cons_succ]
      refine wpAnyH_done (by kernel_rfl) ?_ _
      refine NoPanic.normal ?_
      have p0 := own_less (own_less ho0 hb1) hb2
      have p1 := own_less ho1 hb2
      have z01 : v1.ownBlock = none ∨ v1.ownBlock ≠ v0.ownBlock := by
        cases e : v1.ownBlock with
        | none => exact .inl rfl
        | some x => exact .inr fun h => by have := (ho1.lt x e).1; have := (ho0.lt x h.symm).2; omega
      have z02 : v2.ownBlock = none ∨ v2.ownBlock ≠ v0.ownBlock := by
        cases e : v2.ownBlock with
        | none => exact .inl rfl
        | some x => exact .inr fun h => by have := (ho2.lt x e).1; have := (p0.lt x h.symm).2; have := (own_less ho0 hb1).lt x h.symm; omega
      have z12 : v2.ownBlock = none ∨ v2.ownBlock ≠ v1.ownBlock := by
        cases e : v2.ownBlock with
        | none => exact .inl rfl
        | some x => exact .inr fun h => by have := (ho2.lt x e).1; have := (ho1.lt x h.symm).2; omega
      have HO0 : Hid (w3.ownsRow W.heap.size 5 1 v0 (encCm c).length (byt (encCm c))) := p0.mono h0.size
      have HO1 : Hid (w3.ownsRow W.heap.size 5 1 v1 (encPa P.x).length (byt (encPa P.x))) := p1.mono h1.size
      have HO2 : Hid (w3.ownsRow W.heap.size 5 1 v2 (encJo j).length (byt (encJo j))) := ho2.mono h2.size
      have HZ := Lib.hid (And.intro z01 (And.intro z02 z12))
      have H3 := Lib.hid h3
      clear p0 p1 ho0 ho1 ho2 z01 z02 z12 h0 h1 h2 h3 hb0 hb1 hb2 hHeld HK
      go_upto_region 9 with fail
      have X0 : ∀ w', Below w3.heap.size w3 w' → (convert 46 9 v0).run Try.prog w' = .ok (.string t0) w' := fun w' h => K0.out w' v0 (Sl.of_own (own_less HO0.out h))
      have X1 : ∀ w', Below w3.heap.size w3 w' → (convert 46 9 v1).run Try.prog w' = .ok (.string t1) w' := fun w' h => K1.out w' v1 (Sl.of_own (own_less HO1.out h))
      have X2 : ∀ w', Below w3.heap.size w3 w' → (convert 46 9 v2).run Try.prog w' = .ok (.string t2) w' := fun w' h => K2.out w' v2 (Sl.of_own (own_less HO2.out h))
      replace kA : ∀ w', Below w3.heap.size w3 w' → ∀ i, w'.cell? ⟨B, i, none⟩ = #[.int .i64 c.k, .int .i64 c.e, .int .i64 c.n, .int .i64 c.h, .int .i64 c.yn, .int .i64 c.yl, .int .i64 c.ys, .int .i64 c.ya, .int .i64 c.sw, .int .i64 c.st, .int .i64 c.w, .bool c.yes, .slice ap c.sp.length ac, .slice aq c.wr.length ad][i]? := fun w' h => kA w' (H3.out.trans (h.mono H3.out.size))
      replace kB : ∀ w', Below w3.heap.size w3 w' → ∀ i, w'.cell? ⟨B1, i, none⟩ = #[.int .i64 P.e, .int .i64 P.h, .int .i64 P.fw, .int .i64 P.ft, .int .i64 P.cl, .int .i64 P.lo, .slice ep P.cs.length ec, .slice eq P.rs.length ed, .slice es P.ds.length et][i]? := fun w' h => kB w' (H3.out.trans (h.mono H3.out.size))
      replace kC : ∀ w', Below w3.heap.size w3 w' → ∀ i, w'.cell? ⟨B2, i, none⟩ = #[.int .u16 j.o.v, .int .u16 j.o.x, .int .u16 j.o.l, .int .i64 j.o.e, .int .i64 j.o.k, .int .u16 j.n.v, .int .u16 j.n.x, .int .u16 j.n.l, .int .i64 j.n.e, .int .i64 j.n.k, .bool j.two][i]? := fun w' h => kC w' (H3.out.trans (h.mono H3.out.size))
      have hu : undef = Value.tuple #[] := rfl
      have h0 : Below w3.heap.size w3 w3.drew := (Below.refl _ _).drew
      refine wp_region_noPanic ?_
      refine wp_region_held_drew (S := fun w' => Below w3.heap.size w3 w') (by kernel_rfl) h0 (fun hHeld => ?_)
      obtain ⟨wd, ewd⟩ : ∃ x, w3.drew = x := ⟨_, rfl⟩
      rw [ewd] at h0 hHeld ⊢
      clear ewd
      refine wpAnyH_take (i := 0) (v := ?_) rfl (by kernel_rfl) (by kernel_rfl) (by kernel_rfl) (fun _ _ _ h => h) (Or.inl ⟨by rfl, ?_⟩) hHeld ?_
      rotate_left
      · (intro wz hSw; (try dsimp only at hSw); (try simp only [List.getElem_toArray, List.getElem_cons_zero]); go_simp; try with_reducible rfl)
      try simp only [List.getElem_toArray, List.getElem_cons_zero, Act.put, List.setIfInBounds_toArray, List.set_cons_zero, List.set_cons_succ]
      refine wpAnyH_take (i := 1) (v := ?_) rfl (by kernel_rfl) (by kernel_rfl) (by kernel_rfl) (fun _ _ _ h => h) (Or.inl ⟨by rfl, ?_⟩) hHeld ?_
      rotate_left
      · (intro wz hSw; (try dsimp only at hSw); (try simp only [List.getElem_toArray, List.getElem_cons_succ, List.getElem_cons_zero]); go_simp; try with_reducible rfl)
      try simp only [List.getElem_toArray, List.getElem_cons_succ, List.getElem_cons_zero, Act.put, List.setIfInBounds_toArray, List.set_cons_zero, List.set_cons_succ]
      refine wpAnyH_take (i := 2) (v := ?_) rfl (by kernel_rfl) (by kernel_rfl) (by kernel_rfl) (fun _ _ _ h => h) (Or.inl ⟨by rfl, ?_⟩) hHeld ?_
      rotate_left
      · (intro wz hSw; (try dsimp only at hSw); (try simp only [List.getElem_toArray, List.getElem_cons_succ, List.getElem_cons_zero]); go_simp; try with_reducible rfl)
      try simp only [List.getElem_toArray, List.getElem_cons_succ, List.getElem_cons_zero, Act.put, List.setIfInBounds_toArray, List.set_cons_zero, List.set_cons_succ]
      refine wpAnyH_ready (rs := [3]) (by kernel_rfl) (by simp) ?_; refine AllReadyH.cons rfl (fun K hK => ?_) AllReadyH.nil; (try simp only [List.getElem_toArray, List.getElem_cons_succ, List.getElem_cons_zero]); go_simp
      refine (R0.out _ (H3.out.trans (h0.mono H3.out.size))).mono ?_; rintro r y0 ⟨q0, rfl, ho0, hb0⟩
      have h1 := h0.trans (hb0.mono h0.size)
      refine hK.out _ _ (h1) (fun _ => ?_)
      clear hK K hHeld
      try simp only [List.getElem_toArray, List.getElem_cons_succ, List.getElem_cons_zero, Act.put, List.setIfInBounds_toArray, List.set_cons_zero, List.set_cons_succ]
      have Y0 : ∀ w', Below y0.heap.size y0 w' → (convert 46 9 q0).run Try.prog w' = .ok (.string t0) w' := fun w' h => K0.out w' q0 (Sl.of_own (own_less ho0 h))
      refine wpAnyH_sub (S' := fun w' => Below w3.heap.size w3 w' ∧ Below y0.heap.size y0 w') (fun w' h => h.1) ?_
      have hHeld := And.intro (h1) (Below.refl y0.heap.size y0)
      refine wpAnyH_take (i := 4) (v := ?_) rfl (by kernel_rfl) (by kernel_rfl) (by kernel_rfl) (fun _ _ _ h => h) (Or.inl ⟨by rfl, ?_⟩) hHeld ?_
      rotate_left
      · (intro wz hSw; (try dsimp only at hSw); (try simp only [List.getElem_toArray, List.getElem_cons_succ, List.getElem_cons_zero]); go_simp; try with_reducible rfl)
      try simp only [List.getElem_toArray, List.getElem_cons_succ, List.getElem_cons_zero, Act.put, List.setIfInBounds_toArray, List.set_cons_zero, List.set_cons_succ]
      refine wpAnyH_take (i := 5) (v := ?_) rfl (by kernel_rfl) (by kernel_rfl) (by kernel_rfl) (fun _ _ _ h => h) (Or.inl ⟨by rfl, ?_⟩) hHeld ?_
      rotate_left
      · (intro wz hSw; (try dsimp only at hSw); (try simp only [List.getElem_toArray, List.getElem_cons_succ, List.getElem_cons_zero]); go_simp; try with_reducible rfl)
      try simp only [List.getElem_toArray, List.getElem_cons_succ, List.getElem_cons_zero, Act.put, List.setIfInBounds_toArray, List.set_cons_zero, List.set_cons_succ]
      refine wpAnyH_take (i := 6) (v := ?_) rfl (by kernel_rfl) (by kernel_rfl) (by kernel_rfl) (fun _ _ _ h => h) (Or.inl ⟨by rfl, ?_⟩) hHeld ?_
      rotate_left
      · (intro wz hSw; (try dsimp only at hSw); (try simp only [List.getElem_toArray, List.getElem_cons_succ, List.getElem_cons_zero]); go_simp; try with_reducible rfl)
      try simp only [List.getElem_toArray, List.getElem_cons_succ, List.getElem_cons_zero, Act.put, List.setIfInBounds_toArray, List.set_cons_zero, List.set_cons_succ]
      refine wpAnyH_take (i := 7) (v := ?_) rfl (by kernel_rfl) (by kernel_rfl) (by kernel_rfl) (fun _ _ _ h => h) (Or.inl ⟨by rfl, ?_⟩) hHeld ?_
      rotate_left
      · (intro wz hSw; (try dsimp only at hSw); (try simp only [List.getElem_toArray, List.getElem_cons_succ, List.getElem_cons_zero]); go_simp; try with_reducible rfl)
      try simp only [List.getElem_toArray, List.getElem_cons_succ, List.getElem_cons_zero, Act.put, List.setIfInBounds_toArray, List.set_cons_zero, List.set_cons_succ]
      refine wpAnyH_take (i := 8) (v := ?_) rfl (by kernel_rfl) (by kernel_rfl) (by kernel_rfl) (fun _ _ _ h => h) (Or.inl ⟨by rfl, ?_⟩) hHeld ?_
      rotate_left
      · (intro wz hSw; (try dsimp only at hSw); (try simp only [List.getElem_toArray, List.getElem_cons_succ, List.getElem_cons_zero]); go_simp; try with_reducible rfl)
      try simp only [List.getElem_toArray, List.getElem_cons_succ, List.getElem_cons_zero, Act.put, List.setIfInBounds_toArray, List.set_cons_zero, List.set_cons_succ]
      refine wpAnyH_take (i := 9) (v := ?_) rfl (by kernel_rfl) (by kernel_rfl) (by kernel_rfl) (fun _ _ _ h => h) (Or.inl ⟨by rfl, ?_⟩) hHeld ?_
      rotate_left
      · (intro wz hSw; (try dsimp only at hSw); (try simp only [List.getElem_toArray, List.getElem_cons_succ, List.getElem_cons_zero]); go_simp; try with_reducible rfl)
      try simp only [List.getElem_toArray, List.getElem_cons_succ, List.getElem_cons_zero, Act.put, List.setIfInBounds_toArray, List.set_cons_zero, List.set_cons_succ]
      refine wpAnyH_ready (rs := [10]) (by kernel_rfl) (by simp) ?_; refine AllReadyH.cons rfl (fun K hK => ?_) AllReadyH.nil; (try simp only [List.getElem_toArray, List.getElem_cons_succ, List.getElem_cons_zero]); go_simp
      refine (R1.out _ (H3.out.trans (h1.mono H3.out.size))).mono ?_; rintro r y1 ⟨q1, rfl, ho1, hb1⟩
      have h2 := h1.trans (hb1.mono h1.size)
      refine hK.out _ _ (And.intro h2 hb1) (fun _ => ?_)
      clear hK K hHeld
      try simp only [List.getElem_toArray, List.getElem_cons_succ, List.getElem_cons_zero, Act.put, List.setIfInBounds_toArray, List.set_cons_zero, List.set_cons_succ]
      have Y1 : ∀ w', Below y1.heap.size y1 w' → (convert 46 9 q1).run Try.prog w' = .ok (.string t1) w' := fun w' h => K1.out w' q1 (Sl.of_own (own_less ho1 h))
      refine wpAnyH_sub (S' := fun w' => (Below w3.heap.size w3 w' ∧ Below y0.heap.size y0 w') ∧ Below y1.heap.size y1 w') (fun w' h => h.1) ?_
      have hHeld := And.intro (And.intro h2 hb1) (Below.refl y1.heap.size y1)
      refine wpAnyH_take (i := 11) (v := ?_) rfl (by kernel_rfl) (by kernel_rfl) (by kernel_rfl) (fun _ _ _ h => h) (Or.inl ⟨by rfl, ?_⟩) hHeld ?_
      rotate_left
      · (intro wz hSw; (try dsimp only at hSw); (try simp only [List.getElem_toArray, List.getElem_cons_succ, List.getElem_cons_zero]); go_simp; try with_reducible rfl)
      try simp only [List.getElem_toArray, List.getElem_cons_succ, List.getElem_cons_zero, Act.put, List.setIfInBounds_toArray, List.set_cons_zero, List.set_cons_succ]
      refine wpAnyH_take (i := 12) (v := ?_) rfl (by kernel_rfl) (by kernel_rfl) (by kernel_rfl) (fun _ _ _ h => h) (Or.inl ⟨by rfl, ?_⟩) hHeld ?_
      rotate_left
      · (intro wz hSw; (try dsimp only at hSw); (try simp only [List.getElem_toArray, List.getElem_cons_succ, List.getElem_cons_zero]); go_simp; try with_reducible rfl)
      try simp only [List.getElem_toArray, List.getElem_cons_succ, List.getElem_cons_zero, Act.put, List.setIfInBounds_toArray, List.set_cons_zero, List.set_cons_succ]
      refine wpAnyH_take (i := 13) (v := ?_) rfl (by kernel_rfl) (by kernel_rfl) (by kernel_rfl) (fun _ _ _ h => h) (Or.inl ⟨by rfl, ?_⟩) hHeld ?_
      rotate_left
      · (intro wz hSw; (try dsimp only at hSw); (try simp only [List.getElem_toArray, List.getElem_cons_succ, List.getElem_cons_zero]); go_simp; try with_reducible rfl)
      try simp only [List.getElem_toArray, List.getElem_cons_succ, List.getElem_cons_zero, Act.put, List.setIfInBounds_toArray, List.set_cons_zero, List.set_cons_succ]
      refine wpAnyH_take (i := 14) (v := ?_) rfl (by kernel_rfl) (by kernel_rfl) (by kernel_rfl) (fun _ _ _ h => h) (Or.inl ⟨by rfl, ?_⟩) hHeld ?_
      rotate_left
      · (intro wz hSw; (try dsimp only at hSw); (try simp only [List.getElem_toArray, List.getElem_cons_succ, List.getElem_cons_zero]); go_simp; try with_reducible rfl)
      try simp only [List.getElem_toArray, List.getElem_cons_succ, List.getElem_cons_zero, Act.put, List.setIfInBounds_toArray, List.set_cons_zero, List.set_cons_succ]
      refine wpAnyH_take (i := 15) (v := ?_) rfl (by kernel_rfl) (by kernel_rfl) (by kernel_rfl) (fun _ _ _ h => h) (Or.inl ⟨by rfl, ?_⟩) hHeld ?_
      rotate_left
      · (intro wz hSw; (try dsimp only at hSw); (try simp only [List.getElem_toArray, List.getElem_cons_succ, List.getElem_cons_zero]); go_simp; try with_reducible rfl)
      try simp only [List.getElem_toArray, List.getElem_cons_succ, List.getElem_cons_zero, Act.put, List.setIfInBounds_toArray, List.set_cons_zero, List.set_cons_succ]
      refine wpAnyH_take (i := 16) (v := ?_) rfl (by kernel_rfl) (by kernel_rfl) (by kernel_rfl) (fun _ _ _ h => h) (Or.inl ⟨by rfl, ?_⟩) hHeld ?_
      rotate_left
      · (intro wz hSw; (try dsimp only at hSw); (try simp only [List.getElem_toArray, List.getElem_cons_succ, List.getElem_cons_zero]); go_simp; try with_reducible rfl)
      try simp only [List.getElem_toArray, List.getElem_cons_succ, List.getElem_cons_zero, Act.put, List.setIfInBounds_toArray, List.set_cons_zero, List.set_cons_succ]
      refine wpAnyH_take (i := 17) (v := ?_) rfl (by kernel_rfl) (by kernel_rfl) (by kernel_rfl) (fun _ _ _ h => h) (Or.inl ⟨by rfl, ?_⟩) hHeld ?_
      rotate_left
      · (intro wz hSw; (try dsimp only at hSw); (try simp only [List.getElem_toArray, List.getElem_cons_succ, List.getElem_cons_zero]); go_simp; try with_reducible rfl)
      try simp only [List.getElem_toArray, List.getElem_cons_succ, List.getElem_cons_zero, Act.put, List.setIfInBounds_toArray, List.set_cons_zero, List.set_cons_succ]
      refine wpAnyH_ready (rs := [18]) (by kernel_rfl) (by simp) ?_; refine AllReadyH.cons rfl (fun K hK => ?_) AllReadyH.nil; (try simp only [List.getElem_toArray, List.getElem_cons_succ, List.getElem_cons_zero]); go_simp
      refine (R2.out _ (H3.out.trans (h2.mono H3.out.size))).mono ?_; rintro r y2 ⟨q2, rfl, ho2, hb2⟩
      have h3 := h2.trans (hb2.mono h2.size)
      refine hK.out _ _ (And.intro (And.intro h3 (hb1.trans (hb2.mono hb1.size))) hb2) (fun _ => ?_)
      clear hK K hHeld
      try simp only [List.getElem_toArray, List.getElem_cons_succ, List.getElem_cons_zero, Act.put, List.setIfInBounds_toArray, List.set_cons_zero, List.set_cons_succ]
      have Y2 : ∀ w', Below y2.heap.size y2 w' → (convert 46 9 q2).run Try.prog w' = .ok (.string t2) w' := fun w' h => K2.out w' q2 (Sl.of_own (own_less ho2 h))
      refine wpAnyH_sub (S' := fun w' => ((Below w3.heap.size w3 w' ∧ Below y0.heap.size y0 w') ∧ Below y1.heap.size y1 w') ∧ Below y2.heap.size y2 w') (fun w' h => h.1) ?_
      have hHeld := And.intro (And.intro (And.intro h3 (hb1.trans (hb2.mono hb1.size))) hb2) (Below.refl y2.heap.size y2)
      refine wpAnyH_take (i := 19) (v := ?_) rfl (by kernel_rfl) (by kernel_rfl) (by kernel_rfl) (fun _ _ _ h => h) (Or.inl ⟨by rfl, ?_⟩) hHeld ?_
      rotate_left
      · (intro wz hSw; (try dsimp only at hSw); (try simp only [List.getElem_toArray, List.getElem_cons_succ, List.getElem_cons_zero]); go_simp; try with_reducible rfl)
      try simp only [List.getElem_toArray, List.getElem_cons_succ, List.getElem_cons_zero, Act.put, List.setIfInBounds_toArray, List.set_cons_zero, List.set_cons_succ]
      refine wpAnyH_take (i := 20) (v := ?_) rfl (by kernel_rfl) (by kernel_rfl) (by kernel_rfl) (fun _ _ _ h => h) (Or.inl ⟨by rfl, ?_⟩) hHeld ?_
      rotate_left
      · (intro wz hSw; (try dsimp only at hSw); (try simp only [List.getElem_toArray, List.getElem_cons_succ, List.getElem_cons_zero]); go_simp; try with_reducible rfl)
      try simp only [List.getElem_toArray, List.getElem_cons_succ, List.getElem_cons_zero, Act.put, List.setIfInBounds_toArray, List.set_cons_zero, List.set_cons_succ]
      refine wpAnyH_take (i := 21) (v := ?_) rfl (by kernel_rfl) (by kernel_rfl) (by kernel_rfl) (fun _ _ _ h => h) (Or.inl ⟨by rfl, ?_⟩) hHeld ?_
      rotate_left
      · (intro wz hSw; (try dsimp only at hSw); (try simp only [List.getElem_toArray, List.getElem_cons_succ, List.getElem_cons_zero]); go_simp; try with_reducible rfl)
      try simp only [List.getElem_toArray, List.getElem_cons_succ, List.getElem_cons_zero, Act.put, List.setIfInBounds_toArray, List.set_cons_zero, List.set_cons_succ]
      refine wpAnyH_done (by kernel_rfl) ?_ _
      refine NoPanic.normal ?_
      have HY3 := Lib.hid h3
      clear h0 h1 h2 h3 hb0 hb1 hb2 ho0 ho1 ho2 X0 X1 X2 Y0 Y1 Y2 kA kB kC hHeld
      have HW3 := Lib.hid (H3.out.trans (HY3.out.mono H3.out.size))
      have HP0 := Lib.hid (own_less HO0.out HY3.out); have HP1 := Lib.hid (own_less HO1.out HY3.out); have HP2 := Lib.hid (own_less HO2.out HY3.out)
      have HS0 := Lib.hid (spoil_any W.heap.size v0 _ _ y2 HP0.out)
      go_wp2_with fail
      refine HS0.out.mono ?_; rintro r z1 ⟨rfl, g1⟩
      have HB1 := Lib.hid (below_gr HW3.out HW3.out.size HP0.out (Nat.le_refl _) g1)
      have hq1 := HP1.out.kept g1 HZ.out.1
      have hq2 := HP2.out.kept g1 HZ.out.2.1
      have HS1 := Lib.hid (spoil_any W.heap.size v1 _ _ z1 hq1)
      have HQ1 := Lib.hid hq1; have HQ2 := Lib.hid hq2
      clear hq1 hq2 g1 HS0 HW3 HP0 HP1 HP2
      go_wp2_with fail
      refine HS1.out.mono ?_; rintro r z2 ⟨rfl, g2⟩
      have HB2 := Lib.hid (below_gr HB1.out HB1.out.size HQ1.out (Nat.le_refl _) g2)
      have hq2 := HQ2.out.kept g2 HZ.out.2.2
      have HS2 := Lib.hid (spoil_any W.heap.size v2 _ _ z2 hq2)
      have HQ3 := Lib.hid hq2
      clear hq2 g2 HS1 HB1 HQ1 HQ2
      go_wp2_with fail
      refine HS2.out.mono ?_; rintro r z3 ⟨rfl, g3⟩
      have HB3 := Lib.hid (below_gr HB2.out HB2.out.size HQ3.out (Nat.le_refl _) g3)
      clear g3 HS2 HB2 HQ3
      go_wp2_with fail
      go_roundw
      case rel => exact ⟨k + 1, by omega, by go_num, HB3⟩
      case measure => simp [intOf]; omega
    · obtain rfl : k = 2 := by omega
      have hd : decide ((2 : Int) < 2) = false := by simp
      go_wp2_with fail
      exact HQ.out _ _ rfl rfl HK.out

set_option maxRecDepth 100000 in
theorem wwrites_lifted (os : Os) (started : os.Started) (H : Type) (enc : TypeId × Value → H) :
    ReturnsInHanded {} Try.checked os 4 .any (Rows.wireWritesSpec.pre6 enc Try.prog Try.f4 Rows.wireWritesRow.domain false) (Rows.wireWritesSpec.post enc Try.prog Try.f4 false true false false) := by
  refine lift_law (C := Try.checked) (tb := 4) (by kernel_rfl) started (by kernel_rfl) Try.func4 (ChangeSpec.witness6 (enc := enc) (C := Try.checked) false ⟨#[], #[.agg #[.int .i64 0, .int .i64 0, .int .i64 0, .int .i64 0, .int .i64 0, .int .i64 0, .int .i64 0, .int .i64 0, .int .i64 0, .int .i64 0, .int .i64 0, .bool false, .slice none 0 0, .slice none 0 0], .agg #[.int .i64 0, .int .i64 0, .int .i64 0, .int .i64 0, .int .i64 0, .int .i64 0, .slice none 0 0, .slice none 0 0, .slice none 0 0], .agg #[.int .u16 0, .int .u16 0, .int .u16 0, .int .i64 0, .int .i64 0, .int .u16 0, .int .u16 0, .int .u16 0, .int .i64 0, .int .i64 0, .bool false]], []⟩ 8 (by kernel_rfl) (by kernel_rfl) (by kernel_rfl) (by kernel_rfl)) (by kernel_rfl) (by kernel_rfl) rfl Try.underlying4 rfl ?_ ?_
  · intro ds h
    match ds, h with
    | [_, _, _], _ => rfl
  · intro W base args ds ps hval0 hA0 hlt hsz
    have hval : ∀ (j : Nat) t v, Try.f4.params[j]? = some t → args[j]? = some v → Value.okWide Try.prog W .any base t v := hval0
    have hA : DataW.TrodAll enc Try.prog W 0 (fun _ => true) true Try.f4.params.toList args.toList ds ps := hA0
    rw [Try.params4] at hA hval
    obtain ⟨v0, v1, v2, d0, d1, d2, p0, p1, p2, rfl, rfl, rfl, h0, h1, h2⟩ := trodAll_three hA
    obtain ⟨c, ap, ac, aq, ad, rfl, Fc, a1, a2⟩ := open_cmd (hval 0 29 v0 rfl rfl) h0
    obtain ⟨P, ep, ec, eq, ed, es, et, rfl, FP, e1, e2, e3⟩ := open_part (hval 1 33 v1 rfl rfl) h1
    obtain ⟨j, rfl, FJ⟩ := open_jo (hval 2 45 v2 rfl rfl) h2
    exact wwrites_walk c P j ap aq ep eq es ac ad ec ed et W Fc FP FJ a1 a2 e1 e2 e3

theorem wwrites_holds : Rows.WireWritesSaid :=
  OpenClaim.holds_of_wide 4 Try.f4 rfl rfl rfl rfl rfl rfl rfl ⟨rfl, rfl, rfl, rfl, rfl⟩ rfl rfl rfl rfl rfl (by kernel_rfl) Try.func4 (by kernel_rfl)
    (of_decide_eq_true (by kernel_rfl)) (by unfold Func.isWrapper; first | (rw [if_pos (by decide +kernel)]; kernel_rfl) | (rw [if_neg (by decide +kernel)]; exact ⟨rfl, rfl⟩))
    (fun os started H enc _ => wwrites_lifted os started H enc)
#print axioms wwrites_holds

end Go.Proofs.Ytmhmlpfkdpjlaaa
