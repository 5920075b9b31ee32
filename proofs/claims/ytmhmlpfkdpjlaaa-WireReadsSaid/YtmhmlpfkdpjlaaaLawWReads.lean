/- WireReads: for all bytes (4096 at most; more are let through): they are read as the command, the state, the joint that the document's answer reads, or as none; no condition. -/
import Derived.Test.YtmhmlpfkdpjlaaaReadA
import Derived.Test.YtmhmlpfkdpjlaaaRdF
import Derived.Test.YtmhmlpfkdpjlaaaRdG
import Derived.Test.YtmhmlpfkdpjlaaaRdH
import Derived.Test.YtmhmlpfkdpjlaaaRfJ
import Derived.Test.YtmhmlpfkdpjlaaaRfK
import Derived.Test.YtmhmlpfkdpjlaaaRfL
import Derived.Test.YtmhmlpfkdpjlaaaWireF
import Derived.Test.YtmhmlpfkdpjlaaaWireY
import Derived.Test.YtmhmlpfkdpjlaaaFrame
import Derived.Test.YtmhmlpfkdpjlaaaRows
namespace Go.Proofs.Ytmhmlpfkdpjlaaa
open Go.ChangeShapes Go.WideShapes Go.ChangeAt Go.RowKit

theorem wf_u8 {n : Int} (h : (Lit.int .u8 n).wf = true) : 0 ≤ n ∧ n ≤ 255 := by
  have h1 : IntKind.u8.min = 0 := rfl
  have h2 : IntKind.u8.max = 255 := rfl
  simp only [Lit.wf, Bool.and_eq_true, decide_eq_true_eq] at h; omega
set_option maxRecDepth 100000 in
set_option maxHeartbeats 16000000 in
theorem wreads_walk (bv : Value) (xs : List Int) (hx : Oct xs) (w : World) (hs : Sl w.heap.size w bv 1 xs.length (byt xs)) :
    Calls Try.prog 5 #[bv] w fun r w' => r = .returned (.bool true) ∧ Below w.heap.size w w' := by
  have HS := Lib.hid hs
  have HX := Lib.hid hx
  obtain ⟨pa, ca, rfl, h1, h2, -, -⟩ := hs.form
  unfold maxLen at h2
  clear hs hx
  by_cases hl : 4096 < xs.length
  · go_enter Try.func5, Try.ntmps5
    go_wp2_with fail
    refine (begun_any _).mono ?_; rintro r w1 ⟨rfl, hb⟩
    go_wp2_with fail
    go_ret
    exact ⟨rfl, hb⟩
  go_enter Try.func5, Try.ntmps5
  go_wp2_with fail
  refine (begun_any _).mono ?_; rintro r w1 ⟨rfl, hb1⟩
  have S1 := Lib.hid (HS.out.keep hb1)
  have hl2 : (xs.length : Int) ≤ 140737488200000 := by omega
  have hl3 : (xs.length : Int) ≤ 140737488300000 := by omega
  have hl5 : (xs.length : Int) ≤ 140737488355320 := by omega
  go_wp2_with fail
  refine (twin_any w.heap.size _ xs _ S1.out hb1.size hl5).mono ?_; rintro r V0 ⟨ga, rfl, hga, ta, hb2⟩
  have hw1 := hb1.size
  have D0 := Lib.hid (hb1.trans (hb2.mono hb1.size))
  have TT : Hid (Tw ga xs V0) := ta
  have hla := block_lt ta
  have HGA : Hid (w.heap.size ≤ ga) := Nat.le_trans hw1 hga
  clear S1 hb1 ta hb2 hw1 hga
  go_wp2_with fail
  refine Calls.mono (wtakeCmd_any xs _ _ (tw_sl TT.out hl5) HX.out hl3) ?_; intro r wt1 ht
  obtain ⟨c1, p1, q1, k1, l1, er1, rfl, ha, hb⟩ := tkCm_ans ht hl2
  clear ht
  go_upto_region 7 with fail
  obtain ⟨V1, hV⟩ : ∃ x : World, wt1.alloc (.cells #[.int .i64 c1.k, .int .i64 c1.e, .int .i64 c1.n, .int .i64 c1.h, .int .i64 c1.yn, .int .i64 c1.yl, .int .i64 c1.ys, .int .i64 c1.ya, .int .i64 c1.sw, .int .i64 c1.st, .int .i64 c1.w, .bool c1.yes, .slice p1 c1.sp.length k1, .slice q1 c1.wr.length l1] 29) = x := ⟨_, rfl⟩
  have bV : Below wt1.heap.size wt1 V1 := by rw [← hV]; exact (Below.refl _ _).alloc (Nat.le_refl _) _
  have hq : V1.heap[wt1.heap.size]? = some (.cells #[.int .i64 c1.k, .int .i64 c1.e, .int .i64 c1.n, .int .i64 c1.h, .int .i64 c1.yn, .int .i64 c1.yl, .int .i64 c1.ys, .int .i64 c1.ya, .int .i64 c1.sw, .int .i64 c1.st, .int .i64 c1.w, .bool c1.yes, .slice p1 c1.sp.length k1, .slice q1 c1.wr.length l1] 29 (0, 0)) := by rw [← hV]; exact heap_last wt1 _
  rw [hV]
  have hbb := hb.trans (bV.mono hb.size)
  have hsz := hbb.size
  have HA1 := Lib.hid (ha.keep bV (Nat.le_refl _))
  obtain ⟨g1, eg⟩ : ∃ n, wt1.heap.size = n := ⟨_, rfl⟩
  have hgs : V0.heap.size ≤ g1 := by have := hb.size; omega
  rw [eg] at hq ⊢
  have HQ1 := Lib.hid hq
  have TT' : Hid (Tw ga xs V1) := tw_keep TT.out hbb (block_lt TT.out)
  clear TT; have TT := TT'; clear TT'
  have D1 := Lib.hid (D0.out.trans (hbb.mono D0.out.size))
  have hga1 : ga < g1 := by omega
  have hla1 : ga < V1.heap.size := by omega
  clear hV bV hq hbb hsz ha hb eg hgs D0 hla
  go_wp2_with fail
  refine Calls.mono (rtakeCmd_any xs _ _ ((HS.out.keep D1.out).mono D1.out.size) HX.out hl3) ?_; intro r wt2 ht
  obtain ⟨c2, p2, q2, k2, l2, er2, rfl, ha, hb⟩ := tkCm_ans ht hl2
  clear ht
  go_upto_region 8 with fail
  obtain ⟨V2, hV⟩ : ∃ x : World, wt2.alloc (.cells #[.int .i64 c2.k, .int .i64 c2.e, .int .i64 c2.n, .int .i64 c2.h, .int .i64 c2.yn, .int .i64 c2.yl, .int .i64 c2.ys, .int .i64 c2.ya, .int .i64 c2.sw, .int .i64 c2.st, .int .i64 c2.w, .bool c2.yes, .slice p2 c2.sp.length k2, .slice q2 c2.wr.length l2] 29) = x := ⟨_, rfl⟩
  have bV : Below wt2.heap.size wt2 V2 := by rw [← hV]; exact (Below.refl _ _).alloc (Nat.le_refl _) _
  have hq : V2.heap[wt2.heap.size]? = some (.cells #[.int .i64 c2.k, .int .i64 c2.e, .int .i64 c2.n, .int .i64 c2.h, .int .i64 c2.yn, .int .i64 c2.yl, .int .i64 c2.ys, .int .i64 c2.ya, .int .i64 c2.sw, .int .i64 c2.st, .int .i64 c2.w, .bool c2.yes, .slice p2 c2.sp.length k2, .slice q2 c2.wr.length l2] 29 (0, 0)) := by rw [← hV]; exact heap_last wt2 _
  rw [hV]
  have hbb := hb.trans (bV.mono hb.size)
  have hsz := hbb.size
  have HA2 := Lib.hid (ha.keep bV (Nat.le_refl _))
  obtain ⟨g2, eg⟩ : ∃ n, wt2.heap.size = n := ⟨_, rfl⟩
  have hgs : V1.heap.size ≤ g2 := by have := hb.size; omega
  rw [eg] at hq ⊢
  have HQ2 := Lib.hid hq
  have HQ1' := Lib.hid (below_block hbb (block_lt HQ1.out) HQ1.out); clear HQ1; have HQ1 := HQ1'; clear HQ1'
  have HA1' := Lib.hid (HA1.out.keep hbb (Nat.le_refl _)); clear HA1; have HA1 := HA1'; clear HA1'
  have TT' : Hid (Tw ga xs V2) := tw_keep TT.out hbb (block_lt TT.out)
  clear TT; have TT := TT'; clear TT'
  have D2 := Lib.hid (D1.out.trans (hbb.mono D1.out.size))
  have hga2 : ga < g2 := by omega
  have hla2 : ga < V2.heap.size := by omega
  clear hV bV hq hbb hsz ha hb eg hgs D1 hla1
  obtain ⟨rfl, rfl⟩ := CmA.eq HA1.out HA2.out
  go_wp2_with fail
  refine Calls.mono (wtakePart_any xs _ _ (tw_sl TT.out hl5) HX.out hl3) ?_; intro r wt3 ht
  obtain ⟨P3, ap3, aq3, as3, ac3, ad3, at3, er3, rfl, ha, hb⟩ := tkPa_ans ht
  clear ht
  go_upto_region 9 with fail
  obtain ⟨V3, hV⟩ : ∃ x : World, wt3.alloc (.cells #[.int .i64 P3.e, .int .i64 P3.h, .int .i64 P3.fw, .int .i64 P3.ft, .int .i64 P3.cl, .int .i64 P3.lo, .slice ap3 P3.cs.length ac3, .slice aq3 P3.rs.length ad3, .slice as3 P3.ds.length at3] 33) = x := ⟨_, rfl⟩
  have bV : Below wt3.heap.size wt3 V3 := by rw [← hV]; exact (Below.refl _ _).alloc (Nat.le_refl _) _
  have hq : V3.heap[wt3.heap.size]? = some (.cells #[.int .i64 P3.e, .int .i64 P3.h, .int .i64 P3.fw, .int .i64 P3.ft, .int .i64 P3.cl, .int .i64 P3.lo, .slice ap3 P3.cs.length ac3, .slice aq3 P3.rs.length ad3, .slice as3 P3.ds.length at3] 33 (0, 0)) := by rw [← hV]; exact heap_last wt3 _
  rw [hV]
  have hbb := hb.trans (bV.mono hb.size)
  have hsz := hbb.size
  have HA3 := Lib.hid (ha.keep bV (Nat.le_refl _))
  obtain ⟨g3, eg⟩ : ∃ n, wt3.heap.size = n := ⟨_, rfl⟩
  have hgs : V2.heap.size ≤ g3 := by have := hb.size; omega
  rw [eg] at hq ⊢
  have HQ3 := Lib.hid hq
  have HQ1' := Lib.hid (below_block hbb (block_lt HQ1.out) HQ1.out); clear HQ1; have HQ1 := HQ1'; clear HQ1'
  have HA1' := Lib.hid (HA1.out.keep hbb (Nat.le_refl _)); clear HA1; have HA1 := HA1'; clear HA1'
  have HQ2' := Lib.hid (below_block hbb (block_lt HQ2.out) HQ2.out); clear HQ2; have HQ2 := HQ2'; clear HQ2'
  have HA2' := Lib.hid (HA2.out.keep hbb (Nat.le_refl _)); clear HA2; have HA2 := HA2'; clear HA2'
  have TT' : Hid (Tw ga xs V3) := tw_keep TT.out hbb (block_lt TT.out)
  clear TT; have TT := TT'; clear TT'
  have D3 := Lib.hid (D2.out.trans (hbb.mono D2.out.size))
  have hga3 : ga < g3 := by omega
  have hla3 : ga < V3.heap.size := by omega
  clear hV bV hq hbb hsz ha hb eg hgs D2 hla2
  go_wp2_with fail
  refine Calls.mono (rtakePart_any xs _ _ ((HS.out.keep D3.out).mono D3.out.size) HX.out hl2) ?_; intro r wt4 ht
  obtain ⟨P4, ap4, aq4, as4, ac4, ad4, at4, er4, rfl, ha, hb⟩ := tkPa_ans ht
  clear ht
  go_upto_region 10 with fail
  obtain ⟨V4, hV⟩ : ∃ x : World, wt4.alloc (.cells #[.int .i64 P4.e, .int .i64 P4.h, .int .i64 P4.fw, .int .i64 P4.ft, .int .i64 P4.cl, .int .i64 P4.lo, .slice ap4 P4.cs.length ac4, .slice aq4 P4.rs.length ad4, .slice as4 P4.ds.length at4] 33) = x := ⟨_, rfl⟩
  have bV : Below wt4.heap.size wt4 V4 := by rw [← hV]; exact (Below.refl _ _).alloc (Nat.le_refl _) _
  have hq : V4.heap[wt4.heap.size]? = some (.cells #[.int .i64 P4.e, .int .i64 P4.h, .int .i64 P4.fw, .int .i64 P4.ft, .int .i64 P4.cl, .int .i64 P4.lo, .slice ap4 P4.cs.length ac4, .slice aq4 P4.rs.length ad4, .slice as4 P4.ds.length at4] 33 (0, 0)) := by rw [← hV]; exact heap_last wt4 _
  rw [hV]
  have hbb := hb.trans (bV.mono hb.size)
  have hsz := hbb.size
  have HA4 := Lib.hid (ha.keep bV (Nat.le_refl _))
  obtain ⟨g4, eg⟩ : ∃ n, wt4.heap.size = n := ⟨_, rfl⟩
  have hgs : V3.heap.size ≤ g4 := by have := hb.size; omega
  rw [eg] at hq ⊢
  have HQ4 := Lib.hid hq
  have HQ1' := Lib.hid (below_block hbb (block_lt HQ1.out) HQ1.out); clear HQ1; have HQ1 := HQ1'; clear HQ1'
  have HA1' := Lib.hid (HA1.out.keep hbb (Nat.le_refl _)); clear HA1; have HA1 := HA1'; clear HA1'
  have HQ2' := Lib.hid (below_block hbb (block_lt HQ2.out) HQ2.out); clear HQ2; have HQ2 := HQ2'; clear HQ2'
  have HA2' := Lib.hid (HA2.out.keep hbb (Nat.le_refl _)); clear HA2; have HA2 := HA2'; clear HA2'
  have HQ3' := Lib.hid (below_block hbb (block_lt HQ3.out) HQ3.out); clear HQ3; have HQ3 := HQ3'; clear HQ3'
  have HA3' := Lib.hid (HA3.out.keep hbb (Nat.le_refl _)); clear HA3; have HA3 := HA3'; clear HA3'
  have TT' : Hid (Tw ga xs V4) := tw_keep TT.out hbb (block_lt TT.out)
  clear TT; have TT := TT'; clear TT'
  have D4 := Lib.hid (D3.out.trans (hbb.mono D3.out.size))
  have hga4 : ga < g4 := by omega
  have hla4 : ga < V4.heap.size := by omega
  clear hV bV hq hbb hsz ha hb eg hgs D3 hla3
  obtain ⟨hpe, rfl⟩ := PaA.eq HA3.out HA4.out
  have HPE := Lib.hid hpe; clear hpe
  go_wp2_with fail
  refine Calls.mono (wtakeJoint_any xs _ _ (tw_sl TT.out hl5) HX.out hl3) ?_; intro r wt5 ht
  obtain ⟨j5, n5, er5, rfl, ha, hb⟩ := tkJo_ans ht
  clear ht
  go_upto_region 11 with fail
  obtain ⟨V5, hV⟩ : ∃ x : World, wt5.alloc (.cells #[.int .u16 j5.o.v, .int .u16 j5.o.x, .int .u16 j5.o.l, .int .i64 j5.o.e, .int .i64 j5.o.k, .int .u16 j5.n.v, .int .u16 j5.n.x, .int .u16 j5.n.l, .int .i64 j5.n.e, .int .i64 j5.n.k, .bool j5.two] 45) = x := ⟨_, rfl⟩
  have bV : Below wt5.heap.size wt5 V5 := by rw [← hV]; exact (Below.refl _ _).alloc (Nat.le_refl _) _
  have hq : V5.heap[wt5.heap.size]? = some (.cells #[.int .u16 j5.o.v, .int .u16 j5.o.x, .int .u16 j5.o.l, .int .i64 j5.o.e, .int .i64 j5.o.k, .int .u16 j5.n.v, .int .u16 j5.n.x, .int .u16 j5.n.l, .int .i64 j5.n.e, .int .i64 j5.n.k, .bool j5.two] 45 (0, 0)) := by rw [← hV]; exact heap_last wt5 _
  rw [hV]
  have hbb := hb.trans (bV.mono hb.size)
  have hsz := hbb.size
  have HA5 := Lib.hid ha
  obtain ⟨g5, eg⟩ : ∃ n, wt5.heap.size = n := ⟨_, rfl⟩
  have hgs : V4.heap.size ≤ g5 := by have := hb.size; omega
  rw [eg] at hq ⊢
  have HQ5 := Lib.hid hq
  have HQ1' := Lib.hid (below_block hbb (block_lt HQ1.out) HQ1.out); clear HQ1; have HQ1 := HQ1'; clear HQ1'
  have HA1' := Lib.hid (HA1.out.keep hbb (Nat.le_refl _)); clear HA1; have HA1 := HA1'; clear HA1'
  have HQ2' := Lib.hid (below_block hbb (block_lt HQ2.out) HQ2.out); clear HQ2; have HQ2 := HQ2'; clear HQ2'
  have HA2' := Lib.hid (HA2.out.keep hbb (Nat.le_refl _)); clear HA2; have HA2 := HA2'; clear HA2'
  have HQ3' := Lib.hid (below_block hbb (block_lt HQ3.out) HQ3.out); clear HQ3; have HQ3 := HQ3'; clear HQ3'
  have HA3' := Lib.hid (HA3.out.keep hbb (Nat.le_refl _)); clear HA3; have HA3 := HA3'; clear HA3'
  have HQ4' := Lib.hid (below_block hbb (block_lt HQ4.out) HQ4.out); clear HQ4; have HQ4 := HQ4'; clear HQ4'
  have HA4' := Lib.hid (HA4.out.keep hbb (Nat.le_refl _)); clear HA4; have HA4 := HA4'; clear HA4'
  have TT' : Hid (Tw ga xs V5) := tw_keep TT.out hbb (block_lt TT.out)
  clear TT; have TT := TT'; clear TT'
  have D5 := Lib.hid (D4.out.trans (hbb.mono D4.out.size))
  have hga5 : ga < g5 := by omega
  have hla5 : ga < V5.heap.size := by omega
  clear hV bV hq hbb hsz ha hb eg hgs D4 hla4
  go_wp2_with fail
  refine Calls.mono (rtakeJoint_any xs _ _ ((HS.out.keep D5.out).mono D5.out.size) HX.out hl3) ?_; intro r wt6 ht
  obtain ⟨j6, n6, er6, rfl, ha, hb⟩ := tkJo_ans ht
  clear ht
  go_upto_region 12 with fail
  obtain ⟨V6, hV⟩ : ∃ x : World, wt6.alloc (.cells #[.int .u16 j6.o.v, .int .u16 j6.o.x, .int .u16 j6.o.l, .int .i64 j6.o.e, .int .i64 j6.o.k, .int .u16 j6.n.v, .int .u16 j6.n.x, .int .u16 j6.n.l, .int .i64 j6.n.e, .int .i64 j6.n.k, .bool j6.two] 45) = x := ⟨_, rfl⟩
  have bV : Below wt6.heap.size wt6 V6 := by rw [← hV]; exact (Below.refl _ _).alloc (Nat.le_refl _) _
  have hq : V6.heap[wt6.heap.size]? = some (.cells #[.int .u16 j6.o.v, .int .u16 j6.o.x, .int .u16 j6.o.l, .int .i64 j6.o.e, .int .i64 j6.o.k, .int .u16 j6.n.v, .int .u16 j6.n.x, .int .u16 j6.n.l, .int .i64 j6.n.e, .int .i64 j6.n.k, .bool j6.two] 45 (0, 0)) := by rw [← hV]; exact heap_last wt6 _
  rw [hV]
  have hbb := hb.trans (bV.mono hb.size)
  have hsz := hbb.size
  have HA6 := Lib.hid ha
  obtain ⟨g6, eg⟩ : ∃ n, wt6.heap.size = n := ⟨_, rfl⟩
  have hgs : V5.heap.size ≤ g6 := by have := hb.size; omega
  rw [eg] at hq ⊢
  have HQ6 := Lib.hid hq
  have HQ1' := Lib.hid (below_block hbb (block_lt HQ1.out) HQ1.out); clear HQ1; have HQ1 := HQ1'; clear HQ1'
  have HA1' := Lib.hid (HA1.out.keep hbb (Nat.le_refl _)); clear HA1; have HA1 := HA1'; clear HA1'
  have HQ2' := Lib.hid (below_block hbb (block_lt HQ2.out) HQ2.out); clear HQ2; have HQ2 := HQ2'; clear HQ2'
  have HA2' := Lib.hid (HA2.out.keep hbb (Nat.le_refl _)); clear HA2; have HA2 := HA2'; clear HA2'
  have HQ3' := Lib.hid (below_block hbb (block_lt HQ3.out) HQ3.out); clear HQ3; have HQ3 := HQ3'; clear HQ3'
  have HA3' := Lib.hid (HA3.out.keep hbb (Nat.le_refl _)); clear HA3; have HA3 := HA3'; clear HA3'
  have HQ4' := Lib.hid (below_block hbb (block_lt HQ4.out) HQ4.out); clear HQ4; have HQ4 := HQ4'; clear HQ4'
  have HA4' := Lib.hid (HA4.out.keep hbb (Nat.le_refl _)); clear HA4; have HA4 := HA4'; clear HA4'
  have HQ5' := Lib.hid (below_block hbb (block_lt HQ5.out) HQ5.out); clear HQ5; have HQ5 := HQ5'; clear HQ5'
  have TT' : Hid (Tw ga xs V6) := tw_keep TT.out hbb (block_lt TT.out)
  clear TT; have TT := TT'; clear TT'
  have D6 := Lib.hid (D5.out.trans (hbb.mono D5.out.size))
  have hga6 : ga < g6 := by omega
  have hla6 : ga < V6.heap.size := by omega
  clear hV bV hq hbb hsz ha hb eg hgs D5 hla5
  obtain ⟨rfl, rfl, rfl⟩ := JoA.eq HA5.out HA6.out
  have kj5 := block_cells HQ5.out
  have kj6 := block_cells HQ6.out
  go_wp2_with fail
  refine (kept_any w.heap.size _ xs ga _ (HS.out.keep D6.out) hl5 TT.out).mono ?_; rintro r w' ⟨rfl, rfl⟩
  clear kj5 kj6
  go_wp2_with fail
  refine (spoil_any ga _ _ _ _ (tw_own TT.out hl5)).mono ?_; rintro r W ⟨rfl, gx⟩
  have hrow : (Value.slice (some ⟨ga, 0, none⟩) xs.length (xs.length + 3)).ownBlock = some ga := rfl
  rw [hrow] at gx
  have DW : Hid (Below w.heap.size w W) := D6.out.grown gx D6.out.size (fun j hj => by injection hj with hj; have := HGA.out; omega)
  have A1 := Lib.hid (HA1.out.far TT.out gx)
  have A2 := Lib.hid (HA2.out.far TT.out gx)
  have A3 := Lib.hid (HA3.out.far TT.out gx)
  have A4 := Lib.hid (HA4.out.far TT.out gx)
  have hq1 := rd_stays gx HQ1.out (by omega)
  have hq2 := rd_stays gx HQ2.out (by omega)
  have hq3 := rd_stays gx HQ3.out (by omega)
  have hq4 := rd_stays gx HQ4.out (by omega)
  have HQ1W := Lib.hid hq1; have HQ2W := Lib.hid hq2; have HQ3W := Lib.hid hq3; have HQ4W := Lib.hid hq4
  have kh1 := block_cells hq1
  have kh2 := block_cells hq2
  have hC : Hid (Calls Try.prog 11 #[.agg #[.int .i64 c1.k, .int .i64 c1.e, .int .i64 c1.n, .int .i64 c1.h, .int .i64 c1.yn, .int .i64 c1.yl, .int .i64 c1.ys, .int .i64 c1.ya, .int .i64 c1.sw, .int .i64 c1.st, .int .i64 c1.w, .bool c1.yes, .slice p1 c1.sp.length k1, .slice q1 c1.wr.length l1], .agg #[.int .i64 c1.k, .int .i64 c1.e, .int .i64 c1.n, .int .i64 c1.h, .int .i64 c1.yn, .int .i64 c1.yl, .int .i64 c1.ys, .int .i64 c1.ya, .int .i64 c1.sw, .int .i64 c1.st, .int .i64 c1.w, .bool c1.yes, .slice p2 c1.sp.length k2, .slice q2 c1.wr.length l2]] W fun e w' => e = .returned (.bool true) ∧ Below W.heap.size W w') := by
    have := rsameCmd_any c1 c1 p1 q1 p2 q2 k1 l1 k2 l2 W A1.out.l A1.out.l A1.out.sp A1.out.wr A2.out.sp A2.out.wr
    rw [decide_eq_true rfl] at this
    exact this
  clear hrow gx HQ1 HQ2 HQ3 HQ4 HQ5 HQ6 HA1 HA2 HA3 HA4 HA5 HA6 TT hq1 hq2 hq3 hq4
  go_wp2_with fail
  refine hC.out.mono ?_; rintro r W2 ⟨rfl, hb⟩
  have hD : Hid (Calls Try.prog 13 #[.agg #[.int .i64 P3.e, .int .i64 P3.h, .int .i64 P3.fw, .int .i64 P3.ft, .int .i64 P3.cl, .int .i64 P3.lo, .slice ap3 P3.cs.length ac3, .slice aq3 P3.rs.length ad3, .slice as3 P3.ds.length at3], .agg #[.int .i64 P4.e, .int .i64 P4.h, .int .i64 P4.fw, .int .i64 P4.ft, .int .i64 P4.cl, .int .i64 P4.lo, .slice ap4 P4.cs.length ac4, .slice aq4 P4.rs.length ad4, .slice as4 P4.ds.length at4]] W2 fun e w' => e = .returned (.bool true) ∧ Below W2.heap.size W2 w') := by
    have := rpart_any P3.e P3.h P3.fw P3.ft P3.cl P3.lo P4.e P4.h P4.fw P4.ft P4.cl P4.lo P3.cs P4.cs P3.rs P3.ds P4.rs P4.ds ap3 aq3 as3 ap4 aq4 as4 ac3 ad3 at3 ac4 ad4 at4 W2 ⟨A3.out.l.1.1, A4.out.l.1.1⟩ ⟨A3.out.l.1.2, A4.out.l.1.2⟩ ⟨A3.out.l.2.1, A4.out.l.2.1⟩ ⟨A3.out.l.2.2, A4.out.l.2.2⟩ (A3.out.cs.keep hb (Nat.le_refl _)) (A4.out.cs.keep hb (Nat.le_refl _)) (A3.out.rs.keep hb (Nat.le_refl _)) (A4.out.rs.keep hb (Nat.le_refl _)) (A3.out.ds.keep hb (Nat.le_refl _)) (A4.out.ds.keep hb (Nat.le_refl _))
    rw [decide_eq_true (show PaX.mk P3.e P3.h P3.fw P3.ft P3.cl P3.lo (P3.cs.map (·.1)) P3.rs P3.ds = PaX.mk P4.e P4.h P4.fw P4.ft P4.cl P4.lo (P4.cs.map (·.1)) P4.rs P4.ds from HPE.out)] at this
    exact this
  have DW2 := Lib.hid (DW.out.trans (hb.mono DW.out.size))
  have kh3 := block_cells (below_block hb (block_lt HQ3W.out) HQ3W.out)
  have kh4 := block_cells (below_block hb (block_lt HQ4W.out) HQ4W.out)
  clear hC hb kh1 kh2
  go_wp2_with fail
  refine hD.out.mono ?_; rintro r W3 ⟨rfl, hb⟩
  have DW3 := Lib.hid (DW2.out.trans (hb.mono DW2.out.size))
  clear hD hb kh3 kh4
  go_wp2_with fail
  go_ret
  exact ⟨rfl, DW3.out⟩

set_option maxRecDepth 100000 in
theorem wreads_lifted (os : Os) (started : os.Started) (H : Type) (enc : TypeId × Value → H) :
    ReturnsInHanded {} Try.checked os 5 .any (Rows.wireReadsSpec.pre6 enc Try.prog Try.f5 Rows.wireReadsRow.domain false) (Rows.wireReadsSpec.post enc Try.prog Try.f5 false true false false) := by
  refine lift_law (C := Try.checked) (tb := 4) (by kernel_rfl) started (by kernel_rfl) Try.func5 (ChangeSpec.witness6 (enc := enc) (C := Try.checked) false ⟨#[], #[.slice none 0 0], []⟩ 8 (by kernel_rfl) (by kernel_rfl) (by kernel_rfl) (by kernel_rfl)) (by kernel_rfl) (by kernel_rfl) rfl Try.underlying4 rfl ?_ ?_
  · intro ds h
    match ds, h with
    | [_], _ => rfl
  · intro W base args ds ps hval0 hA0 hlt hsz
    have hval : ∀ (j : Nat) t v, Try.f5.params[j]? = some t → args[j]? = some v → Value.okWide Try.prog W .any base t v := hval0
    have hA : DataW.TrodAll enc Try.prog W 0 (fun _ => true) true Try.f5.params.toList args.toList ds ps := hA0
    rw [Try.params5] at hA hval
    obtain ⟨v0, d0, rfl, rfl, h0⟩ := trodAll_one hA
    obtain ⟨xs, hs, hw⟩ := open_nums Try.underlying46 Try.underlying5 (by kernel_rfl) (hval 0 46 v0 rfl rfl) h0
    exact wreads_walk v0 xs (fun x hm => wf_u8 (hw x hm)) W hs

theorem wreads_holds : Rows.WireReadsSaid :=
  OpenClaim.holds_of_wide 5 Try.f5 rfl rfl rfl rfl rfl rfl rfl ⟨rfl, rfl, rfl, rfl, rfl⟩ rfl rfl rfl rfl rfl (by kernel_rfl) Try.func5 (by kernel_rfl)
    (of_decide_eq_true (by kernel_rfl)) (by unfold Func.isWrapper; first | (rw [if_pos (by decide +kernel)]; kernel_rfl) | (rw [if_neg (by decide +kernel)]; exact ⟨rfl, rfl⟩))
    (fun os started H enc _ => wreads_lifted os started H enc)
#print axioms wreads_holds

end Go.Proofs.Ytmhmlpfkdpjlaaa
