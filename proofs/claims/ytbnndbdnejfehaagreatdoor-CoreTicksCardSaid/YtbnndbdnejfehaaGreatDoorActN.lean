/- Core: methods of an act: what is committed now (the program's). -/
import Derived.Test.YtbnndbdnejfehaaGreatDoorActN0
namespace Go.Proofs.YtbnndbdnejfehaaGreatDoor
open Go.ChangeShapes Go.WideShapes Go.ChangeAt Go.RowKit

set_option maxRecDepth 100000 in
set_option maxHeartbeats 16000000 in
theorem counts_gen (B R N : Nat) (c : Co) (p : Option Addr) (k : Nat) (v : Value) (l : List MsX) (w : World) (h : AcW 69 B w R ⟨c, p, k⟩ v l) (hB : 0 < B) (hT : Tab w) (hF : CoFit N c) (hN : N < 800000)
    (hrec : (confL c.l).two = true → ∀ (q : Option Addr) (d : Nat) (w1 : World), AcW 69 B w1 R ⟨pushC (count1 c) (finE c), q, d⟩ v l → Tab w1 → Calls Tryz.prog 78 #[.pointer (some ⟨R, 0, none⟩)] w1 fun e w' => e = .returned (.tuple #[]) ∧ ∃ q d, AcW 69 B w' R ⟨countsC (pushC (count1 c) (finE c)), q, d⟩ v l ∧ AcR w1 w' R v v) :
    Calls Tryz.prog 78 #[.pointer (some ⟨R, 0, none⟩)] w fun e w' => e = .returned (.tuple #[]) ∧ ∃ q d, AcW 69 B w' R ⟨countsC c, q, d⟩ v l ∧ AcR w w' R v v := by
  obtain ⟨J, hJ⟩ : ∃ J, confL c.l = J := ⟨_, rfl⟩
  have HJO : Hid (JnO J) := by show JnO J; rw [← hJ]; exact hF.lo.conf
  obtain ⟨S, hS⟩ : ∃ S, scanC c c.cm (c.l.last - c.cm).toNat = S := ⟨_, rfl⟩
  obtain ⟨N0, hN0⟩ : ∃ N0 : Nat, c.l.last = c.cm + (N0 : Int) := ⟨(c.l.last - c.cm).toNat, by have := hF.cm1; omega⟩
  have hS0 : scanC c c.cm N0 = S := by rw [← hS]; congr 1; omega
  have hmax : max c.cm c.l.b = c.cm := by have := hF.cm0; omega
  obtain ⟨M, hM⟩ : ∃ M, leastC c = M := ⟨_, rfl⟩
  have hM2 : mnF c.mt (listS (votersN J)) c.l.last = M := by rw [← hM, ← hJ]; rfl
  obtain ⟨c1, hc1⟩ : ∃ c1 : Co, { c with cm := S } = c1 := ⟨_, rfl⟩
  obtain ⟨c2, hc2⟩ : ∃ c2 : Co, { c1 with sf := max c1.sf M } = c2 := ⟨_, rfl⟩
  have hcc : count1 c = c2 := by rw [← hc2, ← hc1]; unfold count1; rw [hmax, hS, hM]
  have hF2 : CoFit N c2 := by rw [← hcc]; exact hF.count1
  have hl1 : c1.l = c.l := by rw [← hc1]
  have hl2 : c2.l = c.l := by rw [← hc2]; exact hl1
  have hm1 : c1.mt = c.mt := by rw [← hc1]
  have hi2 : c2.id = c.id := by rw [← hc2, ← hc1]
  have HB0 := Lib.hid hB; have HT := Lib.hid hT; have HF : Hid (CoFit N c) := hF; have HF2 : Hid (CoFit N c2) := hF2; have HREC := Lib.hid hrec; have HCC := Lib.hid hcc; have HA0 := Lib.hid h
  have HJ := Lib.hid hJ; have HS0 := Lib.hid hS0; have HM2 := Lib.hid hM2; have HC1 := Lib.hid hc1; have HC2 := Lib.hid hc2; have HN0 := Lib.hid hN0
  have HL1 := Lib.hid hl1; have HL2 := Lib.hid hl2; have HM1 := Lib.hid hm1; have HI2 := Lib.hid hi2
  have HCJ := Lib.hid (show Calls Tryz.prog 42 #[.pointer (some ⟨R, 0, none⟩)] w fun e w' => e = .returned (.agg #[.int .u16 J.ov, .int .u16 J.ox, .int .u16 J.ol, .int .i64 J.oe, .int .i64 J.ok, .int .u16 J.nv, .int .u16 J.nx, .int .u16 J.nl, .int .i64 J.ne, .int .i64 J.nk, .bool J.two]) ∧ Below w.heap.size w w' from by have := joint_act R c p k v w h.blk hF.lo.f (EnSl.of_own h.en); rw [hJ] at this; exact this)
  have HNN := Lib.hid hN
  have hcm0 : 0 ≤ c.cm := by have := hF.cm0; have := hF.lo.f.b0; omega
  have hcm1 : c.cm + (N0 : Int) ≤ 1152921504607846976 := by have := hF.lo.f.b1; have := hF.lo.f.n; rw [← hN0]; unfold Lg.last; omega
  have hcb : c.l.b ≤ c.cm := hF.cm0
  clear h hB hT hF hrec hJ hS hS0 hM hM2 hc1 hc2 hcc hF2 hN0 hN hl1 hl2 hm1 hi2 hmax
  go_enter Tryz.func78, Tryz.ntmps78
  go_wp2_with fail
  refine HCJ.out.mono ?_; rintro r w1 ⟨rfl, b1⟩
  go_upto_region 1 with fail
  obtain ⟨W, hW⟩ : ∃ z : World, w1.alloc (.cells #[.int .u16 J.ov, .int .u16 J.ox, .int .u16 J.ol, .int .i64 J.oe, .int .i64 J.ok, .int .u16 J.nv, .int .u16 J.nx, .int .u16 J.nl, .int .i64 J.ne, .int .i64 J.nk, .bool J.two] 27) = z := ⟨_, rfl⟩
  have hb : Below w.heap.size w W := by rw [← hW]; exact b1.trans (((Below.refl _ _).alloc (Nat.le_refl _) _).mono b1.size)
  have hX : W.heap[w1.heap.size]? = some (.cells #[.int .u16 J.ov, .int .u16 J.ox, .int .u16 J.ol, .int .i64 J.oe, .int .i64 J.ok, .int .u16 J.nv, .int .u16 J.nx, .int .u16 J.nl, .int .i64 J.ne, .int .i64 J.nk, .bool J.two] 27 (0, 0)) := by rw [← hW]; exact heap_last w1 _
  obtain ⟨X, eX⟩ : ∃ X, w1.heap.size = X := ⟨_, rfl⟩
  rw [hW]
  (try rw [eX])
  rw [eX] at hX
  have HX := Lib.hid hX
  have HXR := Lib.hid (show X ≠ R ∧ v.ownBlock ≠ some X from ⟨by have := HA0.out.lt; have := b1.size; omega, fun e => by have := (HA0.out.vge _ e).2; have := b1.size; omega⟩)
  have HA := Lib.hid (HA0.out.keep hb)
  have HR0 := Lib.hid (AcR.below (R := R) (v := v) hb)
  clear hW hb hX eX b1 HCJ
  have hRb : W.heap[R]? = some (.cells #[.int .i64 c.id, .int .i64 c.role, .int .i64 c.tm, .int .i64 c.vt, .int .i64 c.ld, .int .i64 c.wt, .int .i64 c.cm, .int .i64 c.sf, .int .i64 c.l.b, .int .i64 c.l.bt, .int .u16 c.l.j.ov, .int .u16 c.l.j.ox, .int .u16 c.l.j.ol, .int .i64 c.l.j.oe, .int .i64 c.l.j.ok, .int .u16 c.l.j.nv, .int .u16 c.l.j.nx, .int .u16 c.l.j.nl, .int .i64 c.l.j.ne, .int .i64 c.l.j.nk, .bool c.l.j.two, .slice p c.l.es.length k, .string c.sn, .int .u16 c.vs, .int .u16 c.hd, .int .i64 (c.nx 0), .int .i64 (c.nx 1), .int .i64 (c.nx 2), .int .i64 (c.nx 3), .int .i64 (c.nx 4), .int .i64 (c.nx 5), .int .i64 (c.nx 6), .int .i64 (c.nx 7), .int .i64 (c.nx 8), .int .i64 (c.nx 9), .int .i64 (c.mt 0), .int .i64 (c.mt 1), .int .i64 (c.mt 2), .int .i64 (c.mt 3), .int .i64 (c.mt 4), .int .i64 (c.mt 5), .int .i64 (c.mt 6), .int .i64 (c.mt 7), .int .i64 (c.mt 8), .int .i64 (c.mt 9), v] 69 (0, 0)) := HA.out.blk
  have kR := block_cells hRb
  clear hRb
  have HCL := Lib.hid (show Calls Tryz.prog 64 #[.agg #[.int .i64 c.l.b, .int .i64 c.l.bt, .int .u16 c.l.j.ov, .int .u16 c.l.j.ox, .int .u16 c.l.j.ol, .int .i64 c.l.j.oe, .int .i64 c.l.j.ok, .int .u16 c.l.j.nv, .int .u16 c.l.j.nx, .int .u16 c.l.j.nl, .int .i64 c.l.j.ne, .int .i64 c.l.j.nk, .bool c.l.j.two, .slice p c.l.es.length k]] W fun r w2 => r = .returned (.int .i64 (c.cm + (N0 : Int))) ∧ Below W.heap.size W w2 from by have := last_any c.l p k W HF.out.lo.f.b0 HF.out.lo.f.b1 HF.out.lo.f.n; rw [HN0.out] at this; exact this)
  go_wp2_with fail
  refine HCL.out.mono ?_; rintro r w2 ⟨rfl, b2⟩
  have HB2 : Hid (Below W.heap.size W w2) := b2
  clear b2 HCL kR
  go_upto_block 0 with fail
  go_cut [] from 3 to 62 (fun wx => Hid (AcW 69 B wx R ⟨c1, p, k⟩ v l ∧ AcR w wx R v v ∧ wx.heap[X]? = some (.cells #[.int .u16 J.ov, .int .u16 J.ox, .int .u16 J.ol, .int .i64 J.oe, .int .i64 J.ok, .int .u16 J.nv, .int .u16 J.nx, .int .u16 J.nl, .int .i64 J.ne, .int .i64 J.nk, .bool J.two] 27 (0, 0))))
  case first =>
    go_wp2_with fail
    go_loopw [3] (fun i wr => ∃ n : Nat, n ≤ N0 ∧ i = .int .i64 (c.cm + (n : Int)) ∧ Hid (scanC c c.cm n = S) ∧ Hid (Below W.heap.size W wr)) (fun i _ => (intOf i - c.cm).toNat)
    case atStart => exact ⟨N0, Nat.le_refl _, rfl, HS0, HB2⟩
    case round =>
      obtain ⟨n, hn, rfl, HK, HB⟩ := hrel
      obtain ⟨wk, rfl⟩ : ∃ wk : World, wk = wr := ⟨_, rfl⟩
      cases n with
      | zero =>
        have hd : decide (max c.cm c.l.b < c.cm + ((0 : Nat) : Int)) = false := by simp; omega
        have HZ : Hid (S = c.cm) := HK.out.symm
        go_upto_region 2 with fail
        have h0 : Below W.heap.size W wk.drew := HB.out.drew
        refine wp_region_held_drew (S := fun w' => Below W.heap.size W w') (by kernel_rfl) h0 (fun hHeld => ?_)
        obtain ⟨wi, ewi⟩ : ∃ x, wk.drew = x := ⟨_, rfl⟩
        rewrite [ewi] at h0 hHeld ⊢
        have k6 : ∀ w', Below W.heap.size W w' → w'.cell? ⟨R, 6, none⟩ = some (.int .i64 c.cm) := fun w' h => block_cells (below_block h HA.out.lt HA.out.blk) 6
        have k8 : ∀ w', Below W.heap.size W w' → w'.cell? ⟨R, 8, none⟩ = some (.int .i64 c.l.b) := fun w' h => block_cells (below_block h HA.out.lt HA.out.blk) 8
        clear ewi
        refine tkL 0 rfl hHeld ?_
        try simp only [zA, zC, Act.put, zD, zE, zF]
        refine tkL 1 rfl hHeld ?_
        try simp only [zA, zB, zC, Act.put, zD, zE, zF]
        refine tkL 2 rfl hHeld ?_
        try simp only [zA, zB, zC, Act.put, zD, zE, zF]
        refine tkL 3 rfl hHeld ?_
        try simp only [zA, zB, zC, Act.put, zD, zE, zF]
        refine tkL 4 rfl hHeld ?_
        try simp only [zA, zB, zC, Act.put, zD, zE, zF]
        refine tkL 5 rfl hHeld ?_
        try simp only [zA, zB, zC, Act.put, zD, zE, zF]
        refine tkL 6 rfl hHeld ?_
        try simp only [zA, zB, zC, Act.put, zD, zE, zF]
        refine tkL 7 rfl hHeld ?_
        try simp only [zA, zB, zC, Act.put, zD, zE, zF]
        refine tkL 8 rfl hHeld ?_
        try simp only [zA, zB, zC, Act.put, zD, zE, zF]
        refine tkL 9 rfl hHeld ?_
        try simp only [zA, zB, zC, Act.put, zD, zE, zF]
        refine tkL 10 rfl hHeld ?_
        try simp only [zA, zB, zC, Act.put, zD, zE, zF]
        refine tkL 11 rfl hHeld ?_
        try simp only [zA, zB, zC, Act.put, zD, zE, zF]
        refine tkL 12 rfl hHeld ?_
        try simp only [zA, zB, zC, Act.put, zD, zE, zF]
        refine tkL 13 rfl hHeld ?_
        try simp only [zA, zB, zC, Act.put, zD, zE, zF]
        refine wpAnyH_done (by kernel_rfl) ?_ _
        have HBi : Hid (Below W.heap.size W wi) := h0
        clear hHeld h0 k6 k8
        go_wp2_with fail
        go_meet
        case rel =>
          have e : c1 = c := by rw [← HC1.out, HZ.out]
          exact ⟨by rw [e]; exact HA.out.keep HBi.out, HR0.out.trans (AcR.below HBi.out), below_block HBi.out (block_lt HX.out) HX.out⟩
      | succ j =>
        rw [show ((j + 1 : Nat) : Int) = (j : Int) + 1 by omega]
        have hd : decide (max c.cm c.l.b < c.cm + ((j : Int) + 1)) = true := by simp; omega
        obtain ⟨x, hx⟩ : ∃ x, c.cm + ((j : Int) + 1) = x := ⟨_, rfl⟩
        rw [hx] at hd ⊢
        go_upto_region 2 with fail
        have h0 : Below W.heap.size W wk.drew := HB.out.drew
        refine wp_region_held_drew (S := fun w' => Below W.heap.size W w') (by kernel_rfl) h0 (fun hHeld => ?_)
        obtain ⟨wi, ewi⟩ : ∃ x, wk.drew = x := ⟨_, rfl⟩
        rewrite [ewi] at h0 hHeld ⊢
        have k6 : ∀ w', Below W.heap.size W w' → w'.cell? ⟨R, 6, none⟩ = some (.int .i64 c.cm) := fun w' h => block_cells (below_block h HA.out.lt HA.out.blk) 6
        have k8 : ∀ w', Below W.heap.size W w' → w'.cell? ⟨R, 8, none⟩ = some (.int .i64 c.l.b) := fun w' h => block_cells (below_block h HA.out.lt HA.out.blk) 8
        clear ewi
        refine tkL 0 rfl hHeld ?_
        try simp only [zA, zC, Act.put, zD, zE, zF]
        refine tkL 1 rfl hHeld ?_
        try simp only [zA, zB, zC, Act.put, zD, zE, zF]
        refine tkL 2 rfl hHeld ?_
        try simp only [zA, zB, zC, Act.put, zD, zE, zF]
        refine tkL 3 rfl hHeld ?_
        try simp only [zA, zB, zC, Act.put, zD, zE, zF]
        refine tkL 4 rfl hHeld ?_
        try simp only [zA, zB, zC, Act.put, zD, zE, zF]
        refine tkL 5 rfl hHeld ?_
        try simp only [zA, zB, zC, Act.put, zD, zE, zF]
        refine tkL 6 rfl hHeld ?_
        try simp only [zA, zB, zC, Act.put, zD, zE, zF]
        refine tkL 7 rfl hHeld ?_
        try simp only [zA, zB, zC, Act.put, zD, zE, zF]
        refine tkL 8 rfl hHeld ?_
        try simp only [zA, zB, zC, Act.put, zD, zE, zF]
        refine tkL 9 rfl hHeld ?_
        try simp only [zA, zB, zC, Act.put, zD, zE, zF]
        refine tkL 10 rfl hHeld ?_
        try simp only [zA, zB, zC, Act.put, zD, zE, zF]
        refine tkL 11 rfl hHeld ?_
        try simp only [zA, zB, zC, Act.put, zD, zE, zF]
        refine tkL 12 rfl hHeld ?_
        try simp only [zA, zB, zC, Act.put, zD, zE, zF]
        refine tkL 13 rfl hHeld ?_
        try simp only [zA, zB, zC, Act.put, zD, zE, zF]
        refine wpAnyH_done (by kernel_rfl) ?_ _
        have HBi : Hid (Below W.heap.size W wi) := h0
        clear hHeld h0 k6 k8
        have hRb : wi.heap[R]? = some (.cells #[.int .i64 c.id, .int .i64 c.role, .int .i64 c.tm, .int .i64 c.vt, .int .i64 c.ld, .int .i64 c.wt, .int .i64 c.cm, .int .i64 c.sf, .int .i64 c.l.b, .int .i64 c.l.bt, .int .u16 c.l.j.ov, .int .u16 c.l.j.ox, .int .u16 c.l.j.ol, .int .i64 c.l.j.oe, .int .i64 c.l.j.ok, .int .u16 c.l.j.nv, .int .u16 c.l.j.nx, .int .u16 c.l.j.nl, .int .i64 c.l.j.ne, .int .i64 c.l.j.nk, .bool c.l.j.two, .slice p c.l.es.length k, .string c.sn, .int .u16 c.vs, .int .u16 c.hd, .int .i64 (c.nx 0), .int .i64 (c.nx 1), .int .i64 (c.nx 2), .int .i64 (c.nx 3), .int .i64 (c.nx 4), .int .i64 (c.nx 5), .int .i64 (c.nx 6), .int .i64 (c.nx 7), .int .i64 (c.nx 8), .int .i64 (c.nx 9), .int .i64 (c.mt 0), .int .i64 (c.mt 1), .int .i64 (c.mt 2), .int .i64 (c.mt 3), .int .i64 (c.mt 4), .int .i64 (c.mt 5), .int .i64 (c.mt 6), .int .i64 (c.mt 7), .int .i64 (c.mt 8), .int .i64 (c.mt 9), v] 69 (0, 0)) := below_block HBi.out HA.out.lt HA.out.blk
        have kR := block_cells hRb
        clear hRb
        obtain ⟨⟨T, is⟩, hT⟩ : ∃ t, termL c.l x = t := ⟨_, rfl⟩
        have HCT := Lib.hid (show Calls Tryz.prog 65 #[.agg #[.int .i64 c.l.b, .int .i64 c.l.bt, .int .u16 c.l.j.ov, .int .u16 c.l.j.ox, .int .u16 c.l.j.ol, .int .i64 c.l.j.oe, .int .i64 c.l.j.ok, .int .u16 c.l.j.nv, .int .u16 c.l.j.nx, .int .u16 c.l.j.nl, .int .i64 c.l.j.ne, .int .i64 c.l.j.nk, .bool c.l.j.two, .slice p c.l.es.length k], .int .i64 x] wi fun r w2 => r = .returned (.tuple #[.int .i64 T, .bool is]) ∧ Below wi.heap.size wi w2 from by have := term_is c.l p k wi HF.out.lo.f (i := x) (by omega) ((EnSl.of_own HA.out.en).keep HBi.out (Nat.le_refl _)); rw [hT] at this; exact this)
        have HST : Hid (S = if T = c.tm ∧ commitsN J (matchedC c x) = true then x else scanC c c.cm j) := by
          show _ = _
          rw [← HK.out, scanC, HJ.out, Int.add_assoc, hx, hT]
        have hxj : x - 1 = c.cm + (j : Int) := by omega
        have hxb : 0 ≤ x ∧ x ≤ 1152921504607846976 := by omega
        have HXJ := Lib.hid hxj
        clear hx hT hxj HK
        go_wp2_with fail
        refine HCT.out.mono ?_; rintro r w3 ⟨rfl, b3⟩
        have HB3 : Hid (Below W.heap.size W w3) := HBi.out.trans (b3.mono HBi.out.size)
        clear b3 HCT kR
        go_upto_region 5 with fail
        have h0 : Below W.heap.size W w3.drew := HB3.out.drew
        refine wp_region_held_drew (S := fun w' => Below W.heap.size W w') (by kernel_rfl) h0 (fun hHeld => ?_)
        obtain ⟨wd, ewd⟩ : ∃ x, w3.drew = x := ⟨_, rfl⟩
        rewrite [ewd] at h0 hHeld ⊢
        have k2 : ∀ w', Below W.heap.size W w' → w'.cell? ⟨R, 2, none⟩ = some (.int .i64 c.tm) := fun w' h => block_cells (below_block h HA.out.lt HA.out.blk) 2
        have kJ := joint_cells HX.out
        clear ewd
        by_cases ht : T = c.tm
        · subst ht
          obtain ⟨G, hG⟩ : ∃ G, commitsN J (matchedC c x) = G := ⟨_, rfl⟩
          have HG := Lib.hid hG
          clear hG
          refine tkL 0 rfl hHeld ?_
          try simp only [zA, zC, Act.put, zD, zE, zF]
          refine tkL 1 rfl hHeld ?_
          try simp only [zA, zB, zC, Act.put, zD, zE, zF]
          refine tkL 2 rfl hHeld ?_
          try simp only [zA, zB, zC, Act.put, zD, zE, zF]
          refine tkL 3 rfl hHeld ?_
          try simp only [zA, zB, zC, Act.put, zD, zE, zF]
          refine tkL 4 rfl hHeld ?_
          try simp only [zA, zB, zC, Act.put, zD, zE, zF]
          refine tkL 5 rfl hHeld ?_
          try simp only [zA, zB, zC, Act.put, zD, zE, zF]
          refine tkL 6 rfl hHeld ?_
          try simp only [zA, zB, zC, Act.put, zD, zE, zF]
          refine tkL 7 rfl hHeld ?_
          try simp only [zA, zB, zC, Act.put, zD, zE, zF]
          refine tkL 8 rfl hHeld ?_
          try simp only [zA, zB, zC, Act.put, zD, zE, zF]
          refine tkL 9 rfl hHeld ?_
          try simp only [zA, zB, zC, Act.put, zD, zE, zF]
          refine tkL 10 rfl hHeld ?_
          try simp only [zA, zB, zC, Act.put, zD, zE, zF]
          refine wpAnyH_ready (rs := [11]) (by kernel_rfl) (by simp) ?_; refine AllReadyH.cons rfl (fun K hK => ?_) AllReadyH.nil; (try simp only [zA, zB, zC]); go_simp
          refine (matched_act R c p k v x wd (below_block h0 HA.out.lt HA.out.blk)).mono ?_; rintro r0 w4 ⟨rfl, rfl⟩
          refine hK.out _ _ h0 (fun _ => ?_)
          clear hK K hHeld
          try simp only [zA, zB, zC, Act.put, zD, zE, zF]
          have hHeld := h0
          refine wpAnyH_ready (rs := [12]) (by kernel_rfl) (by simp) ?_; refine AllReadyH.cons rfl (fun K hK => ?_) AllReadyH.nil; (try simp only [zA, zB, zC]); go_simp
          refine (show Calls Tryz.prog 116 #[.agg #[.int .u16 J.ov, .int .u16 J.ox, .int .u16 J.ol, .int .i64 J.oe, .int .i64 J.ok, .int .u16 J.nv, .int .u16 J.nx, .int .u16 J.nl, .int .i64 J.ne, .int .i64 J.nk, .bool J.two], .int .u16 (matchedC c x)] wd fun e w' => e = .returned (.bool G) ∧ Below wd.heap.size wd w' from by have := jCommits J (matchedC c x) wd; rw [HG.out] at this; exact this).mono ?_; rintro r0 w5 ⟨rfl, b5⟩
          have s5 := h0.trans (b5.mono h0.size)
          refine hK.out _ _ s5 (fun _ => ?_)
          clear hK K hHeld b5
          try simp only [zA, zB, zC, Act.put, zD, zE, zF]
          have hHeld := s5
          refine tkL 13 rfl hHeld ?_
          try simp only [zA, zB, zC, Act.put, zD, zE, zF]
          refine wpAnyH_done (by kernel_rfl) ?_ _
          have HB5 := Lib.hid s5
          clear hHeld s5 h0 k2 kJ
          cases G with
          | true =>
            have HSX : Hid (S = x) := by show _ = _; rw [HST.out, if_pos ⟨rfl, HG.out⟩]
            have hA5 := HA.out.keep HB5.out
            have k6 : w5.cell? ⟨R, 6, none⟩ = some (.int .i64 c.cm) := block_cells hA5.blk 6
            have f6 : w5.frozen? ⟨R, 6, none⟩ = false := block_free hA5.blk 6
            have hp := hA5.put 6 (.int .i64 x) (by decide) ⟨{ c with cm := x }, p, k⟩ rfl rfl rfl rfl
            have HP := Lib.hid (And.intro hp.1 (And.intro ((HR0.out.trans (AcR.below HB5.out)).trans hp.2) ((grown_setW w5 R 6 (.int .i64 x)).block X (by have := block_lt HX.out; have := HB5.out.size; omega) (fun e => HXR.out.1 (by simpa using e)))))
            clear hA5 hp
            go_wp2_with fail
            go_meet
            case rel =>
              have e : c1 = { c with cm := x } := by rw [← HC1.out, HSX.out]
              exact ⟨by rw [e]; exact HP.out.1, HP.out.2.1, HP.out.2.2.trans (below_block HB5.out (block_lt HX.out) HX.out)⟩
          | false =>
            have HSX : Hid (scanC c c.cm j = S) := by show _ = _; rw [HST.out, if_neg (by rw [HG.out]; simp)]
            go_wp2_with fail
            go_roundw
            case rel => exact ⟨j, by omega, by rw [← HXJ.out], HSX, HB5⟩
            case measure => have := HXJ.out; simp [intOf]; omega
        · have ht2 : (T == c.tm) = false := by simp [ht]
          have HSX : Hid (scanC c c.cm j = S) := by show _ = _; rw [HST.out, if_neg (fun h => ht h.1)]
          clear ht
          refine tkL 0 rfl hHeld ?_
          try simp only [zA, zC, Act.put, zD, zE, zF]
          refine tkL 1 rfl hHeld ?_
          try simp only [zA, zB, zC, Act.put, zD, zE, zF]
          refine tkL 2 rfl hHeld ?_
          try simp only [zA, zB, zC, Act.put, zD, zE, zF]
          refine tkL 3 rfl hHeld ?_
          try simp only [zA, zB, zC, Act.put, zD, zE, zF]
          refine tkL 4 rfl hHeld ?_
          try simp only [zA, zB, zC, Act.put, zD, zE, zF]
          refine tkL 5 rfl hHeld ?_
          try simp only [zA, zB, zC, Act.put, zD, zE, zF]
          refine tkL 6 rfl hHeld ?_
          try simp only [zA, zB, zC, Act.put, zD, zE, zF]
          refine tkL 7 rfl hHeld ?_
          try simp only [zA, zB, zC, Act.put, zD, zE, zF]
          refine tkH (i := 8) (v := undef) rfl (Or.inr ⟨by rfl, rfl⟩) hHeld ?_
          try simp only [zA, zB, zC, Act.put, zD, zE, zF]
          refine tkH (i := 9) (v := undef) rfl (Or.inr ⟨by rfl, rfl⟩) hHeld ?_
          try simp only [zA, zB, zC, Act.put, zD, zE, zF]
          refine tkH (i := 10) (v := undef) rfl (Or.inr ⟨by rfl, rfl⟩) hHeld ?_
          try simp only [zA, zB, zC, Act.put, zD, zE, zF]
          refine tkH (i := 11) (v := undef) rfl (Or.inr ⟨by rfl, rfl⟩) hHeld ?_
          try simp only [zA, zB, zC, Act.put, zD, zE, zF]
          refine tkH (i := 12) (v := undef) rfl (Or.inr ⟨by rfl, rfl⟩) hHeld ?_
          try simp only [zA, zB, zC, Act.put, zD, zE, zF]
          refine tkL 13 rfl hHeld ?_
          try simp only [zA, zB, zC, Act.put, zD, zE, zF]
          refine wpAnyH_done (by kernel_rfl) ?_ _
          have HB5 := Lib.hid h0
          clear hHeld h0 k2 kJ
          go_wp2_with fail
          go_roundw
          case rel => exact ⟨j, by omega, by rw [← HXJ.out], HSX, HB5⟩
          case measure => have := HXJ.out; simp [intOf]; omega
  case rest =>
    obtain ⟨W1, hW1⟩ : ∃ z : World, z = wc := ⟨_, rfl⟩
    rw [← hW1] at hcut ⊢
    have HA1 := Lib.hid hcut.out.1; have HR1 := Lib.hid hcut.out.2.1; have HX1 := Lib.hid hcut.out.2.2
    clear hW1 hcut HA HR0 HX HB2
    have HT1 := Lib.hid (HA0.out.tab HB0.out HT.out HR1.out)
    have hRb : W1.heap[R]? = some (.cells #[.int .i64 c1.id, .int .i64 c1.role, .int .i64 c1.tm, .int .i64 c1.vt, .int .i64 c1.ld, .int .i64 c1.wt, .int .i64 c1.cm, .int .i64 c1.sf, .int .i64 c1.l.b, .int .i64 c1.l.bt, .int .u16 c1.l.j.ov, .int .u16 c1.l.j.ox, .int .u16 c1.l.j.ol, .int .i64 c1.l.j.oe, .int .i64 c1.l.j.ok, .int .u16 c1.l.j.nv, .int .u16 c1.l.j.nx, .int .u16 c1.l.j.nl, .int .i64 c1.l.j.ne, .int .i64 c1.l.j.nk, .bool c1.l.j.two, .slice p c1.l.es.length k, .string c1.sn, .int .u16 c1.vs, .int .u16 c1.hd, .int .i64 (c1.nx 0), .int .i64 (c1.nx 1), .int .i64 (c1.nx 2), .int .i64 (c1.nx 3), .int .i64 (c1.nx 4), .int .i64 (c1.nx 5), .int .i64 (c1.nx 6), .int .i64 (c1.nx 7), .int .i64 (c1.nx 8), .int .i64 (c1.nx 9), .int .i64 (c1.mt 0), .int .i64 (c1.mt 1), .int .i64 (c1.mt 2), .int .i64 (c1.mt 3), .int .i64 (c1.mt 4), .int .i64 (c1.mt 5), .int .i64 (c1.mt 6), .int .i64 (c1.mt 7), .int .i64 (c1.mt 8), .int .i64 (c1.mt 9), v] 69 (0, 0)) := HA1.out.blk
    have kR := block_cells hRb
    clear hRb
    obtain ⟨L, hL⟩ : ∃ L, c.l.last = L := ⟨_, rfl⟩
    have HL := Lib.hid hL
    have HCL := Lib.hid (show Calls Tryz.prog 64 #[.agg #[.int .i64 c1.l.b, .int .i64 c1.l.bt, .int .u16 c1.l.j.ov, .int .u16 c1.l.j.ox, .int .u16 c1.l.j.ol, .int .i64 c1.l.j.oe, .int .i64 c1.l.j.ok, .int .u16 c1.l.j.nv, .int .u16 c1.l.j.nx, .int .u16 c1.l.j.nl, .int .i64 c1.l.j.ne, .int .i64 c1.l.j.nk, .bool c1.l.j.two, .slice p c1.l.es.length k]] W1 fun r w2 => r = .returned (.int .i64 L) ∧ Below W1.heap.size W1 w2 from by rw [HL1.out]; have := last_any c.l p k W1 HF.out.lo.f.b0 HF.out.lo.f.b1 HF.out.lo.f.n; rw [hL] at this; exact this)
    clear hL
    go_wp2_with fail
    refine HCL.out.mono ?_; rintro r w2 ⟨rfl, b2⟩
    have hA2 := HA1.out.keep b2
    have HA2 := Lib.hid hA2; have HR2 := Lib.hid (HR1.out.trans (AcR.below b2)); have HX2 := Lib.hid (below_block b2 (block_lt HX1.out) HX1.out); have HT2 := Lib.hid (HT1.out.keep b2)
    clear b2 hA2 HCL kR HA1 HR1 HX1 HT1
    have kX := block_cells HX2.out
    go_upto_if 73 with fail
    go_cut [7] from 73 to 78 (fun s wx => s = .int .u16 (votersN J) ∧ w2 = wx)
    case first =>
      cases h2 : J.two with
      | false =>
        have HV : Hid (votersN J = J.ov) := by show _ = _; unfold votersN pickB; rw [h2]; rfl
        go_wp2_with fail
        go_meet
        case rel => exact ⟨by rw [HV.out], rfl⟩
      | true =>
        have HV : Hid (votersN J = bits .or .u16 J.ov J.nv) := by show _ = _; unfold votersN pickB; rw [h2]; rfl
        go_wp2_with fail
        go_meet
        case rel => exact ⟨by rw [HV.out], rfl⟩
    case rest =>
      obtain ⟨rfl, rfl⟩ := hcut
      obtain ⟨V, hV⟩ : ∃ V, votersN J = V := ⟨_, rfl⟩
      obtain ⟨O, hO⟩ : ∃ O, lst V 9 = O := ⟨_, rfl⟩
      have hv0 : 0 ≤ V := by rw [← hV]; exact pickB_0 _ _ _ HJO.out.f.1.v.1
      have hO9 : O.length ≤ 9 := by rw [← hO]; exact lst_le _ 9
      have hOr : ∀ x ∈ O, 1 ≤ x ∧ x ≤ 9 := by rw [← hO]; intro x hx; have := lst_range _ 9 x hx; omega
      have HM3 : Hid (mnF c1.mt O L = M) := by show _ = _; rw [HM1.out, ← HL.out, ← hO, ← hV]; exact HM2.out
      have HOR := Lib.hid hOr
      have HCLi := Lib.hid (show Calls Tryz.prog 121 #[.int .u16 V] w2 fun e w' => ∃ v, e = .returned v ∧ w'.ownsRow w2.heap.size 3 1 v O.length (O.map (Value.int .i64)) ∧ Below w2.heap.size w2 w' from by have := list_any V w2 hv0 HT2.out; rw [hO] at this; exact this)
      rw [hV]
      clear hV hO hv0 hOr kX
      go_wp2_with fail
      refine HCLi.out.mono ?_; rintro r w3 ⟨u, rfl, hu, b3⟩
      obtain ⟨pu, cu, rfl⟩ := own_formH hu
      have HU := Lib.hid hu
      have HA3 := Lib.hid (HA2.out.keep b3); have HR3 := Lib.hid (HR2.out.trans (AcR.below b3)); have HX3 := Lib.hid (below_block b3 (block_lt HX2.out) HX2.out); have HT3 := Lib.hid (HT2.out.keep b3)
      clear hu b3 HCLi HA2 HR2 HX2 HT2
      go_wp2_with fail
      go_loop [6, 82] (fun s i => ∃ n : Nat, n ≤ O.length ∧ s = .int .i64 (mnF c1.mt (O.take n) L) ∧ i = .int .i64 n) (fun _ i => O.length - (intOf i).toNat)
      case atStart => exact ⟨0, Nat.zero_le _, rfl, rfl⟩
      case round =>
        obtain ⟨n, hn, rfl, rfl⟩ := hrel
        by_cases hlt : n < O.length
        · have hd : decide ((n : Int) < (O.length : Int)) = true := by simp; omega
          have hkm : (n : Int) < (O.length : Int) := by omega
          obtain ⟨g, rfl, hgb, hgl, hgc⟩ := own_at2 HU.out hlt
          obtain ⟨y, hy⟩ : ∃ y, O[n] = y := ⟨_, rfl⟩
          obtain ⟨y0, y1⟩ := HOR.out y (by rw [← hy]; exact List.getElem_mem hlt)
          obtain ⟨yn, rfl⟩ : ∃ yn : Nat, y = (yn : Int) := ⟨y.toNat, by omega⟩
          have hcell : w3.cell? ⟨g, n, none⟩ = some (.int .i64 (yn : Int)) := by rw [hgc w3 rfl n hlt, List.getElem?_map, List.getElem?_eq_getElem hlt, hy]; rfl
          have HNX := Lib.hid (mnF_next c1.mt (m := L) hlt hy)
          have kM := ac_mt HA3.out.blk (n := yn) (by omega)
          have hyn0 : 0 ≤ (yn : Int) := by omega
          have hyn1 : (yn : Int) < 10 := by omega
          obtain ⟨s1, hs1⟩ : ∃ s1, mnF c1.mt (O.take n) L = s1 := ⟨_, rfl⟩
          rw [hs1] at HNX ⊢
          clear hgb hgl hgc hy hs1
          go_wp2_with fail
          go_round
          case rel => exact ⟨n + 1, by omega, by rw [← HNX.out], by go_num⟩
          case measure => simp [intOf]; omega
        · obtain rfl : n = O.length := by omega
          have hd : decide ((O.length : Int) < (O.length : Int)) = false := by simp
          rw [List.take_of_length_le (Nat.le_refl _), HM3.out]
          have hp := HA3.out.put 7 (.int .i64 (max c1.sf M)) (by decide) ⟨{ c1 with sf := max c1.sf M }, p, k⟩ rfl rfl rfl rfl
          rw [HC2.out] at hp
          have k7 : w3.cell? ⟨R, 7, none⟩ = some (.int .i64 c1.sf) := block_cells HA3.out.blk 7
          have f7 : w3.frozen? ⟨R, 7, none⟩ = false := block_free HA3.out.blk 7
          have HA4 := Lib.hid hp.1; have HR4 := Lib.hid (HR3.out.trans hp.2)
          have HX4 := Lib.hid (((grown_setW w3 R 7 (.int .i64 (max c1.sf M))).block X (block_lt HX3.out) (fun e => HXR.out.1 (by simpa using e))).trans HX3.out)
          clear hp
          go_upto_block 4 with fail
          obtain ⟨W4, hW4⟩ : ∃ z : World, w3.setCell ⟨R, 7, none⟩ (.int .i64 (max c1.sf M)) = z := ⟨_, rfl⟩
          rw [hW4] at HA4 HR4 HX4 ⊢
          clear hW4 k7 f7 HA3 HR3 HX3 HT3 HU
          have HT4 := Lib.hid (HA0.out.tab HB0.out HT.out HR4.out)
          go_upto_region 17 with fail
          obtain ⟨st, hst⟩ : ∃ st, stoodK c2.l c2.l.es.length = st := ⟨_, rfl⟩
          have HST : Hid (c2.cm < st ↔ c2.cm < standL c.l) := by
            show _ ↔ _
            rw [← hst, HL2.out]
            exact stoodK_gt HF.out.lo.f.b0 (by have := HF2.out.cm0; rw [HL2.out] at this; exact this) _
          have h0 : Below W4.heap.size W4 W4.drew := (Below.refl _ _).drew
          refine wp_region_held_drew (S := fun w' => Below W4.heap.size W4 w') (by kernel_rfl) h0 (fun hHeld => ?_)
          obtain ⟨wd, ewd⟩ : ∃ x, W4.drew = x := ⟨_, rfl⟩
          rewrite [ewd] at h0 hHeld ⊢
          have k6 : ∀ w', Below W4.heap.size W4 w' → w'.cell? ⟨R, 6, none⟩ = some (.int .i64 c2.cm) := fun w' h => block_cells (below_block h HA4.out.lt HA4.out.blk) 6
          clear ewd
          refine tkL 0 rfl hHeld ?_
          try simp only [zA, zC, Act.put, zD, zE, zF]
          refine tkL 2 rfl hHeld ?_
          try simp only [zA, zB, zC, Act.put, zD, zE, zF]
          refine tkL 3 rfl hHeld ?_
          try simp only [zA, zB, zC, Act.put, zD, zE, zF]
          refine tkL 4 rfl hHeld ?_
          try simp only [zA, zB, zC, Act.put, zD, zE, zF]
          refine tkL 5 rfl hHeld ?_
          try simp only [zA, zB, zC, Act.put, zD, zE, zF]
          refine tkL 6 rfl hHeld ?_
          try simp only [zA, zB, zC, Act.put, zD, zE, zF]
          refine wpAnyH_ready (rs := [1]) (by kernel_rfl) (by simp) ?_; refine AllReadyH.cons rfl (fun K hK => ?_) AllReadyH.nil; (try simp only [zA, zB, zC]); go_simp
          refine (show Calls Tryz.prog 126 #[.pointer (some ⟨R, 0, none⟩)] wd fun e w' => e = .returned (.int .i64 st) ∧ Below wd.heap.size wd w' from by have := stood_act R c2 p k v wd (below_block h0 HA4.out.lt HA4.out.blk) HF2.out.lo.f ((EnSl.of_own HA4.out.en).keep h0 (Nat.le_refl _)); rw [hst] at this; exact this).mono ?_; rintro r0 w5 ⟨rfl, b5⟩
          have s5 := h0.trans (b5.mono h0.size)
          refine hK.out _ _ s5 (fun _ => ?_)
          clear hK K hHeld b5
          try simp only [zA, zB, zC, Act.put, zD, zE, zF]
          have hHeld := s5
          refine tkL 7 rfl hHeld ?_
          try simp only [zA, zB, zC, Act.put, zD, zE, zF]
          refine tkL 8 rfl hHeld ?_
          try simp only [zA, zB, zC, Act.put, zD, zE, zF]
          refine wpAnyH_done (by kernel_rfl) ?_ _
          have HA5 := Lib.hid (HA4.out.keep s5); have HR5 := Lib.hid (HR4.out.trans (AcR.below s5)); have HX5 := Lib.hid (below_block s5 (block_lt HX4.out) HX4.out); have HT5 := Lib.hid (HT4.out.keep s5)
          clear hHeld s5 h0 k6 hst HA4 HR4 HX4 HT4
          by_cases hlow : c2.cm < st
          · have hd6 : decide (c2.cm < st) = true := by simp [hlow]
            have HZ : Hid (countsC c = c2) := by show _ = _; rw [← HCC.out]; exact counts_low (by rw [HCC.out]; exact HST.out.1 hlow)
            go_wp2_with fail
            go_end0
            rw [HZ.out]
            first | exact ⟨rfl, ⟨p, k, HA5.out⟩, HR5.out⟩ | exact ⟨rfl, p, k, HA5.out, HR5.out⟩
          have hd6 : decide (c2.cm < st) = false := by simp; omega
          have HLOW : Hid (¬ (count1 c).cm < standL c.l) := by show ¬ _; rw [HCC.out]; exact fun h => hlow (HST.out.2 h)
          have hlw : st ≤ c2.cm := by omega
          clear hlow
          have kX := block_cells HX5.out
          cases h2 : J.two with
          | true =>
            have hcz : countsC c = countsC (pushC (count1 c) (finE c)) := counts_two HLOW.out (by rw [HJ.out]; exact h2)
            have HZ := Lib.hid hcz
            obtain ⟨E, hE⟩ : ∃ E, finalN J = E := ⟨_, rfl⟩
            have hfe : finE c = ⟨0, 2, ⟨#[]⟩, E⟩ := by unfold finE; rw [HJ.out, hE]; rfl
            have HCF := Lib.hid (show Calls Tryz.prog 130 #[.agg #[.int .u16 J.ov, .int .u16 J.ox, .int .u16 J.ol, .int .i64 J.oe, .int .i64 J.ok, .int .u16 J.nv, .int .u16 J.nx, .int .u16 J.nl, .int .i64 J.ne, .int .i64 J.nk, .bool J.two]] w5 fun e w' => e = .returned (.agg #[.int .u16 E.ov, .int .u16 E.ox, .int .u16 E.ol, .int .i64 E.oe, .int .i64 E.ok, .int .u16 E.nv, .int .u16 E.nx, .int .u16 E.nl, .int .i64 E.ne, .int .i64 E.nk, .bool E.two]) ∧ Below w5.heap.size w5 w' from by have := jFinal J w5; rw [hE] at this; exact this)
            have HFE := Lib.hid hfe
            have HTW : Hid ((confL c.l).two = true) := by show _ = _; rw [HJ.out]; exact h2
            rw [h2] at HCF
            clear hE hfe hcz
            go_wp2_with fail
            refine HCF.out.mono ?_; rintro r w6 ⟨rfl, b6⟩
            have HA6 := Lib.hid (HA5.out.keep b6); have HR6 := Lib.hid (HR5.out.trans (AcR.below b6)); have HT6 := Lib.hid (HT5.out.keep b6)
            have HID := Lib.hid (show c2.id = ((c2.id.toNat : Nat) : Int) ∧ c2.id.toNat < 10 from by have := HF2.out.id0; have := HF2.out.id1; omega)
            have HPU := Lib.hid (show Calls Tryz.prog 77 #[.pointer (some ⟨R, 0, none⟩), .agg #[.int .i64 0, .int .i64 2, .string ⟨#[]⟩, .int .u16 E.ov, .int .u16 E.ox, .int .u16 E.ol, .int .i64 E.oe, .int .i64 E.ok, .int .u16 E.nv, .int .u16 E.nx, .int .u16 E.nl, .int .i64 E.ne, .int .i64 E.nk, .bool E.two]] w6 fun r w' => r = .returned (.int .i64 (c2.l.last + 1)) ∧ ∃ q d, AcW 69 B w' R ⟨pushC (count1 c) (finE c), q, d⟩ v l ∧ AcR w6 w' R v v from by
              have := push_act B R c2.id.toNat c2 p k v l ⟨0, 2, ⟨#[]⟩, E⟩ w6 HA6.out HF2.out.lo.f HID.out.1 HID.out.2 (by have := HF2.out.n; have := HNN.out; omega)
              rw [HCC.out, HFE.out]; exact this)
            clear b6 HCF kX h2
            go_wp2_with fail
            refine HPU.out.mono ?_; rintro r w7 ⟨rfl, q7, d7, hA7, hr7⟩
            have HR7 := Lib.hid (HR6.out.trans hr7)
            have HCR := Lib.hid (HREC.out HTW.out q7 d7 w7 hA7 (HA6.out.tab HB0.out HT6.out hr7))
            clear hA7 hr7 HPU HREC
            go_wp2_with fail
            refine HCR.out.mono ?_; rintro r w8 ⟨rfl, q8, d8, hA8, hr8⟩
            have HO := Lib.hid (And.intro hA8 (HR7.out.trans hr8))
            clear hA8 hr8 HCR
            go_wp2_with fail
            go_end0
            rw [HZ.out]
            first | exact ⟨rfl, ⟨q8, d8, HO.out.1⟩, HO.out.2⟩ | exact ⟨rfl, q8, d8, HO.out.1, HO.out.2⟩
          | false =>
            have hcz := counts_one HLOW.out (by rw [HJ.out]; exact h2)
            rw [HJ.out, HCC.out] at hcz
            have HZ := Lib.hid hcz
            obtain ⟨G, hG⟩ : ∃ G, leadsN J c.id = G := ⟨_, rfl⟩
            have HG := Lib.hid hG
            have HCLd := Lib.hid (show ∀ w', Calls Tryz.prog 68 #[.agg #[.int .u16 J.ov, .int .u16 J.ox, .int .u16 J.ol, .int .i64 J.oe, .int .i64 J.ok, .int .u16 J.nv, .int .u16 J.nx, .int .u16 J.nl, .int .i64 J.ne, .int .i64 J.nk, .bool J.two], .int .i64 c2.id] w' fun e w2 => e = .returned (.bool G) ∧ Below w'.heap.size w' w2 from fun w' => by have := jLeads J c2.id HJO.out.f w'; rw [HI2.out, hG] at this; rw [HI2.out]; exact this)
            rw [h2] at HCLd
            clear hG hcz
            go_upto_region 21 with fail
            have h0 : Below w5.heap.size w5 w5.drew := (Below.refl _ _).drew
            refine wp_region_held_drew (S := fun w' => Below w5.heap.size w5 w') (by kernel_rfl) h0 (fun hHeld => ?_)
            obtain ⟨wd2, ewd⟩ : ∃ x, w5.drew = x := ⟨_, rfl⟩
            rewrite [ewd] at h0 hHeld ⊢
            have k0 : ∀ w', Below w5.heap.size w5 w' → w'.cell? ⟨R, 0, none⟩ = some (.int .i64 c2.id) := fun w' h => block_cells (below_block h HA5.out.lt HA5.out.blk) 0
            have kJ := joint_cells HX5.out
            rw [h2] at kJ
            clear ewd kX
            refine tkL 0 rfl hHeld ?_
            try simp only [zA, zC, Act.put, zD, zE, zF]
            refine tkL 1 rfl hHeld ?_
            try simp only [zA, zB, zC, Act.put, zD, zE, zF]
            refine tkL 2 rfl hHeld ?_
            try simp only [zA, zB, zC, Act.put, zD, zE, zF]
            refine tkL 3 rfl hHeld ?_
            try simp only [zA, zB, zC, Act.put, zD, zE, zF]
            refine tkL 4 rfl hHeld ?_
            try simp only [zA, zB, zC, Act.put, zD, zE, zF]
            refine tkL 5 rfl hHeld ?_
            try simp only [zA, zB, zC, Act.put, zD, zE, zF]
            refine wpAnyH_ready (rs := [6]) (by kernel_rfl) (by simp) ?_; refine AllReadyH.cons rfl (fun K hK => ?_) AllReadyH.nil; (try simp only [zA, zB, zC]); go_simp
            refine (HCLd.out wd2).mono ?_; rintro r0 w6 ⟨rfl, b6⟩
            have s6 := h0.trans (b6.mono h0.size)
            refine hK.out _ _ s6 (fun _ => ?_)
            clear hK K hHeld b6
            try simp only [zA, zB, zC, Act.put, zD, zE, zF]
            have hHeld := s6
            refine tkL 7 rfl hHeld ?_
            try simp only [zA, zB, zC, Act.put, zD, zE, zF]
            refine tkL 8 rfl hHeld ?_
            try simp only [zA, zB, zC, Act.put, zD, zE, zF]
            refine wpAnyH_done (by kernel_rfl) ?_ _
            have HA6 := Lib.hid (HA5.out.keep s6); have HR6 := Lib.hid (HR5.out.trans (AcR.below s6))
            clear hHeld s6 h0 k0 kJ
            cases G with
            | true =>
              have HY : Hid (countsC c = c2) := by show _ = _; rw [HZ.out, HG.out]; rfl
              go_wp2_with fail
              go_end0
              rw [HY.out]
              first | exact ⟨rfl, ⟨p, k, HA6.out⟩, HR6.out⟩ | exact ⟨rfl, p, k, HA6.out, HR6.out⟩
            | false =>
              have HY : Hid (countsC c = yieldsC c2) := by show _ = _; rw [HZ.out, HG.out]; rfl
              have HYI := Lib.hid (yields_act B R c2 p k v l w6 HA6.out)
              go_wp2_with fail
              refine HYI.out.mono ?_; rintro r w7 ⟨rfl, hA7, hr7⟩
              have HO := Lib.hid (And.intro hA7 (HR6.out.trans hr7))
              clear hA7 hr7 HYI
              go_wp2_with fail
              go_end0
              rw [HY.out]
              first | exact ⟨rfl, ⟨p, k, HO.out.1⟩, HO.out.2⟩ | exact ⟨rfl, p, k, HO.out.1, HO.out.2⟩
theorem counts_act (B R N : Nat) (c : Co) (p : Option Addr) (k : Nat) (v : Value) (l : List MsX) (w : World) (h : AcW 69 B w R ⟨c, p, k⟩ v l) (hB : 0 < B) (hT : Tab w) (hF : CoFit N c) (hN : N < 700000) :
    Calls Tryz.prog 78 #[.pointer (some ⟨R, 0, none⟩)] w fun e w' => e = .returned (.tuple #[]) ∧ ∃ q d, AcW 69 B w' R ⟨countsC c, q, d⟩ v l ∧ AcR w w' R v v :=
  counts_gen B R N c p k v l w h hB hT hF (by omega) (fun _ q d w1 h1 ht => counts_gen B R (N + 1) _ q d v l w1 h1 hB ht (hF.count1.push (by omega) (finE_ok hF)) (by omega) (fun h2 => by
    rw [show confL (pushC (count1 c) (finE c)).l = finalN (confL c.l) from conf_push rfl, final_one] at h2; cases h2))
end Go.Proofs.YtbnndbdnejfehaaGreatDoor
