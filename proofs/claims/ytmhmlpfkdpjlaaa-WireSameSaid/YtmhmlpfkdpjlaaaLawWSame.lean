/- WireSame: for every two commands and every two states: they are told the same just if the document's answer tells so, and each is the same as itself (of commands and states that are not too great; others are let through); no condition. -/
import Derived.Test.YtmhmlpfkdpjlaaaWireY
import Derived.Test.YtmhmlpfkdpjlaaaWireZ
import Derived.Test.YtmhmlpfkdpjlaaaWireK
import Derived.Test.YtmhmlpfkdpjlaaaFrame
import Derived.Test.YtmhmlpfkdpjlaaaOpenPart
import Derived.Test.YtmhmlpfkdpjlaaaRows
namespace Go.Proofs.Ytmhmlpfkdpjlaaa
open Go.ChangeShapes Go.WideShapes Go.ChangeAt Go.RowKit

theorem l8_len {L : List CeL} (h : L8 L) : L.length ≤ 1000000 ∧ ∀ x ∈ L, x.1.vs.length ≤ 1000000 := by
  refine ⟨by have := h.1; omega, fun x hx => ?_⟩
  obtain ⟨j, hj, rfl⟩ := List.mem_iff_getElem.1 hx
  have := h.2 j hj; omega
set_option maxRecDepth 100000 in
set_option maxHeartbeats 16000000 in
theorem wsame_walk (c d : CmX) (P Q : PaL) (ap aq bp bq ep eq es gp gq gs : Option Addr) (ac ad bc bd ec ed et gc gd gt : Nat) (w : World) (Fc : CmF c) (Fd : CmF d)
    (a1 : SpsAt w ap c.sp) (a2 : WrsAt w aq c.wr) (b1 : SpsAt w bp d.sp) (b2 : WrsAt w bq d.wr) (e1 : CesAt w ep P.cs) (e2 : OusAt w eq P.rs) (e3 : OusAt w es P.ds) (g1 : CesAt w gp Q.cs) (g2 : OusAt w gq Q.rs) (g3 : OusAt w gs Q.ds) :
    Calls Try.prog 3 #[.agg #[.int .i64 c.k, .int .i64 c.e, .int .i64 c.n, .int .i64 c.h, .int .i64 c.yn, .int .i64 c.yl, .int .i64 c.ys, .int .i64 c.ya, .int .i64 c.sw, .int .i64 c.st, .int .i64 c.w, .bool c.yes, .slice ap c.sp.length ac, .slice aq c.wr.length ad], .agg #[.int .i64 d.k, .int .i64 d.e, .int .i64 d.n, .int .i64 d.h, .int .i64 d.yn, .int .i64 d.yl, .int .i64 d.ys, .int .i64 d.ya, .int .i64 d.sw, .int .i64 d.st, .int .i64 d.w, .bool d.yes, .slice bp d.sp.length bc, .slice bq d.wr.length bd], .agg #[.int .i64 P.e, .int .i64 P.h, .int .i64 P.fw, .int .i64 P.ft, .int .i64 P.cl, .int .i64 P.lo, .slice ep P.cs.length ec, .slice eq P.rs.length ed, .slice es P.ds.length et], .agg #[.int .i64 Q.e, .int .i64 Q.h, .int .i64 Q.fw, .int .i64 Q.ft, .int .i64 Q.cl, .int .i64 Q.lo, .slice gp Q.cs.length gc, .slice gq Q.rs.length gd, .slice gs Q.ds.length gt]] w fun r w' => r = .returned (.bool true) ∧ Below w.heap.size w w' := by
  obtain ⟨W0, hW0⟩ : ∃ W : World, w.alloc (.cells #[.int .i64 c.k, .int .i64 c.e, .int .i64 c.n, .int .i64 c.h, .int .i64 c.yn, .int .i64 c.yl, .int .i64 c.ys, .int .i64 c.ya, .int .i64 c.sw, .int .i64 c.st, .int .i64 c.w, .bool c.yes, .slice ap c.sp.length ac, .slice aq c.wr.length ad] 29) = W := ⟨_, rfl⟩
  obtain ⟨W1, hW1⟩ : ∃ W : World, W0.alloc (.cells #[.int .i64 d.k, .int .i64 d.e, .int .i64 d.n, .int .i64 d.h, .int .i64 d.yn, .int .i64 d.yl, .int .i64 d.ys, .int .i64 d.ya, .int .i64 d.sw, .int .i64 d.st, .int .i64 d.w, .bool d.yes, .slice bp d.sp.length bc, .slice bq d.wr.length bd] 29) = W := ⟨_, rfl⟩
  obtain ⟨W2, hW2⟩ : ∃ W : World, W1.alloc (.cells #[.int .i64 P.e, .int .i64 P.h, .int .i64 P.fw, .int .i64 P.ft, .int .i64 P.cl, .int .i64 P.lo, .slice ep P.cs.length ec, .slice eq P.rs.length ed, .slice es P.ds.length et] 33) = W := ⟨_, rfl⟩
  obtain ⟨W, hW⟩ : ∃ W : World, W2.alloc (.cells #[.int .i64 Q.e, .int .i64 Q.h, .int .i64 Q.fw, .int .i64 Q.ft, .int .i64 Q.cl, .int .i64 Q.lo, .slice gp Q.cs.length gc, .slice gq Q.rs.length gd, .slice gs Q.ds.length gt] 33) = W := ⟨_, rfl⟩
  obtain ⟨B, eB⟩ : ∃ n, w.heap.size = n := ⟨_, rfl⟩
  have s0 : W0.heap.size = B + 1 := by rw [← hW0]; simp; omega
  have s1 : W1.heap.size = B + 1 + 1 := by rw [← hW1]; simp; omega
  have s2 : W2.heap.size = B + 1 + 1 + 1 := by rw [← hW2]; simp; omega
  have n0 : Below B w W0 := by rw [← hW0]; exact (Below.refl _ _).alloc (by omega) _
  have n1 : Below (B + 1) W0 W1 := by rw [← hW1]; exact (Below.refl _ _).alloc (by omega) _
  have n2 : Below (B + 1 + 1) W1 W2 := by rw [← hW2]; exact (Below.refl _ _).alloc (by omega) _
  have n3 : Below (B + 1 + 1 + 1) W2 W := by rw [← hW]; exact (Below.refl _ _).alloc (by omega) _
  have hb : Below B w W := ((n0.trans (n1.mono (by omega))).trans (n2.mono (by omega))).trans (n3.mono (by omega))
  have k0 : W.heap[B]? = some (.cells #[.int .i64 c.k, .int .i64 c.e, .int .i64 c.n, .int .i64 c.h, .int .i64 c.yn, .int .i64 c.yl, .int .i64 c.ys, .int .i64 c.ya, .int .i64 c.sw, .int .i64 c.st, .int .i64 c.w, .bool c.yes, .slice ap c.sp.length ac, .slice aq c.wr.length ad] 29 (0, 0)) := by
    have h0 : W0.heap[B]? = some (.cells #[.int .i64 c.k, .int .i64 c.e, .int .i64 c.n, .int .i64 c.h, .int .i64 c.yn, .int .i64 c.yl, .int .i64 c.ys, .int .i64 c.ya, .int .i64 c.sw, .int .i64 c.st, .int .i64 c.w, .bool c.yes, .slice ap c.sp.length ac, .slice aq c.wr.length ad] 29 (0, 0)) := by rw [← hW0, ← eB]; exact heap_last _ _
    exact below_block n3 (by omega) (below_block n2 (by omega) (below_block n1 (by omega) h0))
  have k1 : W.heap[B + 1]? = some (.cells #[.int .i64 d.k, .int .i64 d.e, .int .i64 d.n, .int .i64 d.h, .int .i64 d.yn, .int .i64 d.yl, .int .i64 d.ys, .int .i64 d.ya, .int .i64 d.sw, .int .i64 d.st, .int .i64 d.w, .bool d.yes, .slice bp d.sp.length bc, .slice bq d.wr.length bd] 29 (0, 0)) := by
    have h0 : W1.heap[B + 1]? = some (.cells #[.int .i64 d.k, .int .i64 d.e, .int .i64 d.n, .int .i64 d.h, .int .i64 d.yn, .int .i64 d.yl, .int .i64 d.ys, .int .i64 d.ya, .int .i64 d.sw, .int .i64 d.st, .int .i64 d.w, .bool d.yes, .slice bp d.sp.length bc, .slice bq d.wr.length bd] 29 (0, 0)) := by rw [← hW1, ← s0]; exact heap_last _ _
    exact below_block n3 (by omega) (below_block n2 (by omega) h0)
  have k2 : W.heap[B + 1 + 1]? = some (.cells #[.int .i64 P.e, .int .i64 P.h, .int .i64 P.fw, .int .i64 P.ft, .int .i64 P.cl, .int .i64 P.lo, .slice ep P.cs.length ec, .slice eq P.rs.length ed, .slice es P.ds.length et] 33 (0, 0)) := by
    have h0 : W2.heap[B + 1 + 1]? = some (.cells #[.int .i64 P.e, .int .i64 P.h, .int .i64 P.fw, .int .i64 P.ft, .int .i64 P.cl, .int .i64 P.lo, .slice ep P.cs.length ec, .slice eq P.rs.length ed, .slice es P.ds.length et] 33 (0, 0)) := by rw [← hW2, ← s1]; exact heap_last _ _
    exact below_block n3 (by omega) h0
  have k3 : W.heap[B + 1 + 1 + 1]? = some (.cells #[.int .i64 Q.e, .int .i64 Q.h, .int .i64 Q.fw, .int .i64 Q.ft, .int .i64 Q.cl, .int .i64 Q.lo, .slice gp Q.cs.length gc, .slice gq Q.rs.length gd, .slice gs Q.ds.length gt] 33 (0, 0)) := by rw [← hW, ← s2]; exact heap_last _ _
  have HA1 := Lib.hid (a1.keep hb (by omega)); have HA2 := Lib.hid (a2.keep hb (by omega)); have HB1 := Lib.hid (b1.keep hb (by omega)); have HB2 := Lib.hid (b2.keep hb (by omega))
  have HE1 := Lib.hid (e1.keep hb (by omega)); have HE2 := Lib.hid (e2.keep hb (by omega)); have HE3 := Lib.hid (e3.keep hb (by omega))
  have HG1 := Lib.hid (g1.keep hb (by omega)); have HG2 := Lib.hid (g2.keep hb (by omega)); have HG3 := Lib.hid (g3.keep hb (by omega))
  have HBW : Hid (∀ w', Below W.heap.size W w' → Below B w w') := fun w' h => hb.trans (h.mono (by have := hb.size; omega))
  have HFC := Lib.hid Fc; have HFD := Lib.hid Fd
  have HC : Hid ((((w.alloc (.cells #[.int .i64 c.k, .int .i64 c.e, .int .i64 c.n, .int .i64 c.h, .int .i64 c.yn, .int .i64 c.yl, .int .i64 c.ys, .int .i64 c.ya, .int .i64 c.sw, .int .i64 c.st, .int .i64 c.w, .bool c.yes, .slice ap c.sp.length ac, .slice aq c.wr.length ad] 29)).alloc (.cells #[.int .i64 d.k, .int .i64 d.e, .int .i64 d.n, .int .i64 d.h, .int .i64 d.yn, .int .i64 d.yl, .int .i64 d.ys, .int .i64 d.ya, .int .i64 d.sw, .int .i64 d.st, .int .i64 d.w, .bool d.yes, .slice bp d.sp.length bc, .slice bq d.wr.length bd] 29)).alloc (.cells #[.int .i64 P.e, .int .i64 P.h, .int .i64 P.fw, .int .i64 P.ft, .int .i64 P.cl, .int .i64 P.lo, .slice ep P.cs.length ec, .slice eq P.rs.length ed, .slice es P.ds.length et] 33)).alloc (.cells #[.int .i64 Q.e, .int .i64 Q.h, .int .i64 Q.fw, .int .i64 Q.ft, .int .i64 Q.cl, .int .i64 Q.lo, .slice gp Q.cs.length gc, .slice gq Q.rs.length gd, .slice gs Q.ds.length gt] 33) = W) := by show _ = _; rw [hW0, hW1, hW2, hW]
  obtain ⟨B1, e1'⟩ : ∃ n, B + 1 = n := ⟨_, rfl⟩
  obtain ⟨B2, e2'⟩ : ∃ n, B1 + 1 = n := ⟨_, rfl⟩
  obtain ⟨B3, e3'⟩ : ∃ n, B2 + 1 = n := ⟨_, rfl⟩
  have HEB := Lib.hid eB; have HEB1 := Lib.hid e1'; have HEB2 := Lib.hid e2'; have HEB3 := Lib.hid e3'
  rw [e1'] at k1
  rw [e1', e2'] at k2
  rw [e1', e2', e3'] at k3
  clear hW0 hW1 hW2 hW s0 s1 s2 n0 n1 n2 n3 hb a1 a2 b1 b2 e1 e2 e3 g1 g2 g3 Fc Fd eB e1' e2' e3'
  obtain ⟨U, f, hU, hf, hg⟩ := calm_class W
  obtain ⟨u0, hu0⟩ := hg _ (Below.refl _ _)
  have kA := fun u => block_cells (calm_heap hf k0 u)
  have kB := fun u => block_cells (calm_heap hf k1 u)
  have kC := fun u => block_cells (calm_heap hf k2 u)
  have kD := fun u => block_cells (calm_heap hf k3 u)
  have BG : Hid (∀ u, Calls Try.prog 7 #[] (f u) fun r w' => r = .returned (.bool true) ∧ Below (f u).heap.size (f u) w') := fun u => begun_any (f u)
  have LC : Hid (∀ u, Calls Try.prog 8 #[.agg #[.int .i64 c.k, .int .i64 c.e, .int .i64 c.n, .int .i64 c.h, .int .i64 c.yn, .int .i64 c.yl, .int .i64 c.ys, .int .i64 c.ya, .int .i64 c.sw, .int .i64 c.st, .int .i64 c.w, .bool c.yes, .slice ap c.sp.length ac, .slice aq c.wr.length ad]] (f u) (LcEnd c (f u))) := fun u => lightCmd_any c ap aq ac ad (f u) (by have := HFC.out.nsp; omega) (by have := HFC.out.nwr; omega) (HA1.out.keep (hf u) (Nat.le_refl _)) (HA2.out.keep (hf u) (Nat.le_refl _))
  have LD : Hid (∀ u, Calls Try.prog 8 #[.agg #[.int .i64 d.k, .int .i64 d.e, .int .i64 d.n, .int .i64 d.h, .int .i64 d.yn, .int .i64 d.yl, .int .i64 d.ys, .int .i64 d.ya, .int .i64 d.sw, .int .i64 d.st, .int .i64 d.w, .bool d.yes, .slice bp d.sp.length bc, .slice bq d.wr.length bd]] (f u) (LcEnd d (f u))) := fun u => lightCmd_any d bp bq bc bd (f u) (by have := HFD.out.nsp; omega) (by have := HFD.out.nwr; omega) (HB1.out.keep (hf u) (Nat.le_refl _)) (HB2.out.keep (hf u) (Nat.le_refl _))
  have LP : Hid (∀ u, Calls Try.prog 9 #[.agg #[.int .i64 P.e, .int .i64 P.h, .int .i64 P.fw, .int .i64 P.ft, .int .i64 P.cl, .int .i64 P.lo, .slice ep P.cs.length ec, .slice eq P.rs.length ed, .slice es P.ds.length et]] (f u) (LpEnd P.cs P.rs P.ds (f u))) := fun u => lightPart_any P.e P.h P.fw P.ft P.cl P.lo P.cs P.rs P.ds ep eq es ec ed et (f u) (HE1.out.keep (hf u) (Nat.le_refl _))
  have LQ : Hid (∀ u, Calls Try.prog 9 #[.agg #[.int .i64 Q.e, .int .i64 Q.h, .int .i64 Q.fw, .int .i64 Q.ft, .int .i64 Q.cl, .int .i64 Q.lo, .slice gp Q.cs.length gc, .slice gq Q.rs.length gd, .slice gs Q.ds.length gt]] (f u) (LpEnd Q.cs Q.rs Q.ds (f u))) := fun u => lightPart_any Q.e Q.h Q.fw Q.ft Q.cl Q.lo Q.cs Q.rs Q.ds gp gq gs gc gd gt (f u) (HG1.out.keep (hf u) (Nat.le_refl _))
  go_enter Try.func3, Try.ntmps3
  obtain ⟨Q', hQ⟩ : ∃ Q', bodyPost Try.prog Try.f3 (fun r w' => r = .returned (.bool true) ∧ Below w.heap.size w w') = Q' := ⟨_, rfl⟩
  have HQ : Hid (∀ (a : Act) (w' : World), a.tmps.getD 8 undef = .bool true → a.defers = [] → Below W.heap.size W w' → Q' .ret a w') := fun a w' h6 hd hb => by
    rw [← hQ]; exact bodyPost_ret (v := .bool true) (by rw [results_tmp rfl, h6]) hd ⟨rfl, by rw [HEB.out]; exact HBW.out _ hb⟩
  rw [hQ]
  clear hQ k0 k1 k2 k3
  go_upto_region 1 with fail
  rw [HC.out]
  (try simp only [World.size_alloc])
  rw [HEB.out, HEB1.out, HEB2.out, HEB3.out, hu0]
  clear HC HEB HEB1 HEB2 HEB3 hu0 HBW
  go_wp2_with (first | (go_at_call 7; refine (BG.out _).mono ?_; rintro r w' ⟨rfl, hb⟩; obtain ⟨u, rfl⟩ := calm_step hf hg hb; clear hb))
  refine (LC.out _).mono ?_; rintro r w' ⟨⟨b, rfl, hbt⟩, hb⟩; obtain ⟨u, rfl⟩ := calm_step hf hg hb; clear hb
  cases b
  · have hu : undef = Value.tuple #[] := rfl
    go_wp2_with fail
    exact HQ.out _ _ rfl rfl (hf _)
  have GC : Hid (CmL c) := ltc_cml HFC.out (hbt rfl)
  clear hbt LC
  go_wp2_with fail
  refine (LD.out _).mono ?_; rintro r w' ⟨⟨b, rfl, hbt⟩, hb⟩; obtain ⟨u, rfl⟩ := calm_step hf hg hb; clear hb
  cases b
  · have hu : undef = Value.tuple #[] := rfl
    go_wp2_with fail
    exact HQ.out _ _ rfl rfl (hf _)
  have GD : Hid (CmL d) := ltc_cml HFD.out (hbt rfl)
  clear hbt LD
  go_wp2_with fail
  refine (LP.out _).mono ?_; rintro r w' ⟨⟨b, rfl, hbt⟩, hb⟩; obtain ⟨u, rfl⟩ := calm_step hf hg hb; clear hb
  cases b
  · have hu : undef = Value.tuple #[] := rfl
    go_wp2_with fail
    exact HQ.out _ _ rfl rfl (hf _)
  have GP : Hid ((P.cs.length ≤ 1000000 ∧ ∀ x ∈ P.cs, x.1.vs.length ≤ 1000000) ∧ P.rs.length ≤ 1000000 ∧ P.ds.length ≤ 1000000) := ⟨l8_len (hbt rfl).1, by have := (hbt rfl).2; omega, by have := (hbt rfl).2; omega⟩
  clear hbt LP
  go_wp2_with fail
  refine (LQ.out _).mono ?_; rintro r w' ⟨⟨b, rfl, hbt⟩, hb⟩; obtain ⟨u, rfl⟩ := calm_step hf hg hb; clear hb
  cases b
  · have hu : undef = Value.tuple #[] := rfl
    go_wp2_with fail
    exact HQ.out _ _ rfl rfl (hf _)
  have GQ : Hid ((Q.cs.length ≤ 1000000 ∧ ∀ x ∈ Q.cs, x.1.vs.length ≤ 1000000) ∧ Q.rs.length ≤ 1000000 ∧ Q.ds.length ≤ 1000000) := ⟨l8_len (hbt rfl).1, by have := (hbt rfl).2; omega, by have := (hbt rfl).2; omega⟩
  clear hbt LQ
  obtain ⟨x1, ex1⟩ : ∃ b, decide (c = d) = b := ⟨_, rfl⟩
  obtain ⟨x2, ex2⟩ : ∃ b, decide (P.x = Q.x) = b := ⟨_, rfl⟩
  have C1 : Hid (∀ u, Calls Try.prog 10 #[.agg #[.int .i64 c.k, .int .i64 c.e, .int .i64 c.n, .int .i64 c.h, .int .i64 c.yn, .int .i64 c.yl, .int .i64 c.ys, .int .i64 c.ya, .int .i64 c.sw, .int .i64 c.st, .int .i64 c.w, .bool c.yes, .slice ap c.sp.length ac, .slice aq c.wr.length ad], .agg #[.int .i64 d.k, .int .i64 d.e, .int .i64 d.n, .int .i64 d.h, .int .i64 d.yn, .int .i64 d.yl, .int .i64 d.ys, .int .i64 d.ya, .int .i64 d.sw, .int .i64 d.st, .int .i64 d.w, .bool d.yes, .slice bp d.sp.length bc, .slice bq d.wr.length bd]] (f u) fun r w' => r = .returned (.bool x1) ∧ Below (f u).heap.size (f u) w') := fun u => by
    have := wsameCmd_any c d ap aq bp bq ac ad bc bd (f u) ⟨GC.out.s, GC.out.r⟩ ⟨GD.out.s, GD.out.r⟩ (HA1.out.keep (hf u) (Nat.le_refl _)) (HA2.out.keep (hf u) (Nat.le_refl _)) (HB1.out.keep (hf u) (Nat.le_refl _)) (HB2.out.keep (hf u) (Nat.le_refl _)); rw [ex1] at this; exact this
  have C2 : Hid (∀ u, Calls Try.prog 11 #[.agg #[.int .i64 c.k, .int .i64 c.e, .int .i64 c.n, .int .i64 c.h, .int .i64 c.yn, .int .i64 c.yl, .int .i64 c.ys, .int .i64 c.ya, .int .i64 c.sw, .int .i64 c.st, .int .i64 c.w, .bool c.yes, .slice ap c.sp.length ac, .slice aq c.wr.length ad], .agg #[.int .i64 d.k, .int .i64 d.e, .int .i64 d.n, .int .i64 d.h, .int .i64 d.yn, .int .i64 d.yl, .int .i64 d.ys, .int .i64 d.ya, .int .i64 d.sw, .int .i64 d.st, .int .i64 d.w, .bool d.yes, .slice bp d.sp.length bc, .slice bq d.wr.length bd]] (f u) fun r w' => r = .returned (.bool x1) ∧ Below (f u).heap.size (f u) w') := fun u => by
    have := rsameCmd_any c d ap aq bp bq ac ad bc bd (f u) GC.out GD.out (HA1.out.keep (hf u) (Nat.le_refl _)) (HA2.out.keep (hf u) (Nat.le_refl _)) (HB1.out.keep (hf u) (Nat.le_refl _)) (HB2.out.keep (hf u) (Nat.le_refl _)); rw [ex1] at this; exact this
  have C3 : Hid (∀ u, Calls Try.prog 10 #[.agg #[.int .i64 c.k, .int .i64 c.e, .int .i64 c.n, .int .i64 c.h, .int .i64 c.yn, .int .i64 c.yl, .int .i64 c.ys, .int .i64 c.ya, .int .i64 c.sw, .int .i64 c.st, .int .i64 c.w, .bool c.yes, .slice ap c.sp.length ac, .slice aq c.wr.length ad], .agg #[.int .i64 c.k, .int .i64 c.e, .int .i64 c.n, .int .i64 c.h, .int .i64 c.yn, .int .i64 c.yl, .int .i64 c.ys, .int .i64 c.ya, .int .i64 c.sw, .int .i64 c.st, .int .i64 c.w, .bool c.yes, .slice ap c.sp.length ac, .slice aq c.wr.length ad]] (f u) fun r w' => r = .returned (.bool true) ∧ Below (f u).heap.size (f u) w') := fun u => by
    have := wsameCmd_any c c ap aq ap aq ac ad ac ad (f u) ⟨GC.out.s, GC.out.r⟩ ⟨GC.out.s, GC.out.r⟩ (HA1.out.keep (hf u) (Nat.le_refl _)) (HA2.out.keep (hf u) (Nat.le_refl _)) (HA1.out.keep (hf u) (Nat.le_refl _)) (HA2.out.keep (hf u) (Nat.le_refl _)); rw [decide_eq_true (rfl : c = c)] at this; exact this
  have C4 : Hid (∀ u, Calls Try.prog 12 #[.agg #[.int .i64 P.e, .int .i64 P.h, .int .i64 P.fw, .int .i64 P.ft, .int .i64 P.cl, .int .i64 P.lo, .slice ep P.cs.length ec, .slice eq P.rs.length ed, .slice es P.ds.length et], .agg #[.int .i64 Q.e, .int .i64 Q.h, .int .i64 Q.fw, .int .i64 Q.ft, .int .i64 Q.cl, .int .i64 Q.lo, .slice gp Q.cs.length gc, .slice gq Q.rs.length gd, .slice gs Q.ds.length gt]] (f u) fun r w' => r = .returned (.bool x2) ∧ Below (f u).heap.size (f u) w') := fun u => by
    have := wpart_any P.e P.h P.fw P.ft P.cl P.lo Q.e Q.h Q.fw Q.ft Q.cl Q.lo P.cs Q.cs P.rs P.ds Q.rs Q.ds ep eq es gp gq gs ec ed et gc gd gt (f u) ⟨GP.out.1.1, GQ.out.1.1⟩ ⟨GP.out.1.2, GQ.out.1.2⟩ ⟨GP.out.2.1, GQ.out.2.1⟩ ⟨GP.out.2.2, GQ.out.2.2⟩ (HE1.out.keep (hf u) (Nat.le_refl _)) (HG1.out.keep (hf u) (Nat.le_refl _)) (HE2.out.keep (hf u) (Nat.le_refl _)) (HG2.out.keep (hf u) (Nat.le_refl _)) (HE3.out.keep (hf u) (Nat.le_refl _)) (HG3.out.keep (hf u) (Nat.le_refl _))
    rw [← ex2]; exact this
  have C5 : Hid (∀ u, Calls Try.prog 13 #[.agg #[.int .i64 P.e, .int .i64 P.h, .int .i64 P.fw, .int .i64 P.ft, .int .i64 P.cl, .int .i64 P.lo, .slice ep P.cs.length ec, .slice eq P.rs.length ed, .slice es P.ds.length et], .agg #[.int .i64 Q.e, .int .i64 Q.h, .int .i64 Q.fw, .int .i64 Q.ft, .int .i64 Q.cl, .int .i64 Q.lo, .slice gp Q.cs.length gc, .slice gq Q.rs.length gd, .slice gs Q.ds.length gt]] (f u) fun r w' => r = .returned (.bool x2) ∧ Below (f u).heap.size (f u) w') := fun u => by
    have := rpart_any P.e P.h P.fw P.ft P.cl P.lo Q.e Q.h Q.fw Q.ft Q.cl Q.lo P.cs Q.cs P.rs P.ds Q.rs Q.ds ep eq es gp gq gs ec ed et gc gd gt (f u) ⟨GP.out.1.1, GQ.out.1.1⟩ ⟨GP.out.1.2, GQ.out.1.2⟩ ⟨GP.out.2.1, GQ.out.2.1⟩ ⟨GP.out.2.2, GQ.out.2.2⟩ (HE1.out.keep (hf u) (Nat.le_refl _)) (HG1.out.keep (hf u) (Nat.le_refl _)) (HE2.out.keep (hf u) (Nat.le_refl _)) (HG2.out.keep (hf u) (Nat.le_refl _)) (HE3.out.keep (hf u) (Nat.le_refl _)) (HG3.out.keep (hf u) (Nat.le_refl _))
    rw [← ex2]; exact this
  have C6 : Hid (∀ u, Calls Try.prog 12 #[.agg #[.int .i64 Q.e, .int .i64 Q.h, .int .i64 Q.fw, .int .i64 Q.ft, .int .i64 Q.cl, .int .i64 Q.lo, .slice gp Q.cs.length gc, .slice gq Q.rs.length gd, .slice gs Q.ds.length gt], .agg #[.int .i64 Q.e, .int .i64 Q.h, .int .i64 Q.fw, .int .i64 Q.ft, .int .i64 Q.cl, .int .i64 Q.lo, .slice gp Q.cs.length gc, .slice gq Q.rs.length gd, .slice gs Q.ds.length gt]] (f u) fun r w' => r = .returned (.bool true) ∧ Below (f u).heap.size (f u) w') := fun u => by
    have := wpart_any Q.e Q.h Q.fw Q.ft Q.cl Q.lo Q.e Q.h Q.fw Q.ft Q.cl Q.lo Q.cs Q.cs Q.rs Q.ds Q.rs Q.ds gp gq gs gp gq gs gc gd gt gc gd gt (f u) ⟨GQ.out.1.1, GQ.out.1.1⟩ ⟨GQ.out.1.2, GQ.out.1.2⟩ ⟨GQ.out.2.1, GQ.out.2.1⟩ ⟨GQ.out.2.2, GQ.out.2.2⟩ (HG1.out.keep (hf u) (Nat.le_refl _)) (HG1.out.keep (hf u) (Nat.le_refl _)) (HG2.out.keep (hf u) (Nat.le_refl _)) (HG2.out.keep (hf u) (Nat.le_refl _)) (HG3.out.keep (hf u) (Nat.le_refl _)) (HG3.out.keep (hf u) (Nat.le_refl _))
    rw [decide_eq_true rfl] at this; exact this
  have q1 : (x1 == x1) = true := by simp
  have q2 : (x2 == x2) = true := by simp
  clear ex1 ex2 GC GD GP GQ HA1 HA2 HB1 HB2 HE1 HE2 HE3 HG1 HG2 HG3 HFC HFD
  go_wp2_with fail
  refine wp_region_calm f (by kernel_rfl) (by kernel_rfl) (calm_drew hf hg _) ?_
  repeat (go_big_quiet_step ((first | (go_at_call 10; with_reducible exact calm_of hf hg (C1.out _)) | (go_at_call 10; with_reducible exact calm_of hf hg (C3.out _)) | (go_at_call 11; with_reducible exact calm_of hf hg (C2.out _)) | (go_at_call 12; with_reducible exact calm_of hf hg (C4.out _)) | (go_at_call 12; with_reducible exact calm_of hf hg (C6.out _)) | (go_at_call 13; with_reducible exact calm_of hf hg (C5.out _)))))
  refine wpQuiet_nil ?_; rintro _ ⟨u, rfl⟩
  go_wp2_with fail
  exact HQ.out _ _ rfl rfl (hf _)

set_option maxRecDepth 100000 in
theorem wsame_lifted (os : Os) (started : os.Started) (H : Type) (enc : TypeId × Value → H) :
    ReturnsInHanded {} Try.checked os 3 .any (Rows.wireSameSpec.pre6 enc Try.prog Try.f3 Rows.wireSameRow.domain false) (Rows.wireSameSpec.post enc Try.prog Try.f3 false true false false) := by
  refine lift_law (C := Try.checked) (tb := 4) (by kernel_rfl) started (by kernel_rfl) Try.func3 (ChangeSpec.witness6 (enc := enc) (C := Try.checked) false ⟨#[], #[.agg #[.int .i64 0, .int .i64 0, .int .i64 0, .int .i64 0, .int .i64 0, .int .i64 0, .int .i64 0, .int .i64 0, .int .i64 0, .int .i64 0, .int .i64 0, .bool false, .slice none 0 0, .slice none 0 0], .agg #[.int .i64 0, .int .i64 0, .int .i64 0, .int .i64 0, .int .i64 0, .int .i64 0, .int .i64 0, .int .i64 0, .int .i64 0, .int .i64 0, .int .i64 0, .bool false, .slice none 0 0, .slice none 0 0], .agg #[.int .i64 0, .int .i64 0, .int .i64 0, .int .i64 0, .int .i64 0, .int .i64 0, .slice none 0 0, .slice none 0 0, .slice none 0 0], .agg #[.int .i64 0, .int .i64 0, .int .i64 0, .int .i64 0, .int .i64 0, .int .i64 0, .slice none 0 0, .slice none 0 0, .slice none 0 0]], []⟩ 8 (by kernel_rfl) (by kernel_rfl) (by kernel_rfl) (by kernel_rfl)) (by kernel_rfl) (by kernel_rfl) rfl Try.underlying4 rfl ?_ ?_
  · intro ds h
    match ds, h with
    | [_, _, _, _], _ => rfl
  · intro W base args ds ps hval0 hA0 hlt hsz
    have hval : ∀ (j : Nat) t v, Try.f3.params[j]? = some t → args[j]? = some v → Value.okWide Try.prog W .any base t v := hval0
    have hA : DataW.TrodAll enc Try.prog W 0 (fun _ => true) true Try.f3.params.toList args.toList ds ps := hA0
    rw [Try.params3] at hA hval
    obtain ⟨v0, v1, v2, v3, d0, d1, d2, d3, p0, p1, p2, p3, rfl, rfl, rfl, h0, h1, h2, h3⟩ := trodAll_four hA
    obtain ⟨c, ap, ac, aq, ad, rfl, Fc, a1, a2⟩ := open_cmd (hval 0 29 v0 rfl rfl) h0
    obtain ⟨d, bp, bc, bq, bd, rfl, Fd, b1, b2⟩ := open_cmd (hval 1 29 v1 rfl rfl) h1
    obtain ⟨P, ep, ec, eq, ed, es, et, rfl, -, e1, e2, e3⟩ := open_part (hval 2 33 v2 rfl rfl) h2
    obtain ⟨Q, gp, gc, gq, gd, gs, gt, rfl, -, g1, g2, g3⟩ := open_part (hval 3 33 v3 rfl rfl) h3
    exact wsame_walk c d P Q ap aq bp bq ep eq es gp gq gs ac ad bc bd ec ed et gc gd gt W Fc Fd a1 a2 b1 b2 e1 e2 e3 g1 g2 g3

theorem wsame_holds : Rows.WireSameSaid :=
  OpenClaim.holds_of_wide 3 Try.f3 rfl rfl rfl rfl rfl rfl rfl ⟨rfl, rfl, rfl, rfl, rfl⟩ rfl rfl rfl rfl rfl (by kernel_rfl) Try.func3 (by kernel_rfl)
    (of_decide_eq_true (by kernel_rfl)) (by unfold Func.isWrapper; first | (rw [if_pos (by decide +kernel)]; kernel_rfl) | (rw [if_neg (by decide +kernel)]; exact ⟨rfl, rfl⟩))
    (fun os started H enc _ => wsame_lifted os started H enc)
#print axioms wsame_holds

end Go.Proofs.Ytmhmlpfkdpjlaaa
