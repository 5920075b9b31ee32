/- zone.Allot. -/
import Derived.Test.YtihkkoldjllifaaZoneF
import Derived.Test.YtihkkoldjllifaaZoneC
namespace Go.Proofs.Ytihkkoldjllifaa
open Go.RowKit

theorem cells_setCell {w : World} {b o : Nat} {cs : Array Value} {t : TypeId} {u : Value} (h : w.heap[b]? = some (.cells cs t (0, 0))) : (w.setCell ⟨b, o, none⟩ u).heap[b]? = some (.cells (cs.setIfInBounds o u) t (0, 0)) := by
  have hlt := block_lt h
  have h' : w.heap[b] = .cells cs t (0, 0) := by simpa [Array.getElem?_eq_getElem hlt] using h
  show (w.heap.modify b _)[b]? = _
  rw [Array.getElem?_eq_getElem (by simpa using hlt), Array.getElem_modify_self, h']
  rfl
theorem far_set {w : World} {p : Addr} {u : Value} {b : Nat} {o : Obj} (h : w.heap[b]? = some o) (hne : b ≠ p.block) : (w.setCell p u).heap[b]? = some o := (Below.heap_setCell w p u b hne).trans h
/-- What Allot and Check answer. -/
def cfgV (a : Cfg × Int) : Value := .tuple #[.agg #[.int .u16 a.1.v, .int .u16 a.1.x, .int .u16 a.1.l, .int .i64 a.1.e, .int .i64 a.1.k], .int .i64 a.2]
theorem take_none (rs load : List Int) (p pl : Option Addr) (cap capl : Nat) (r taken : Int) (N : Nat) (hl : rs.length ≤ 1000) (hll : load.length ≤ 1000) (hN : N ≤ 1000) (w : World) (hc : NumsAt w p rs) (hcl : NumsAt w pl load) (h : Hid (takeP rs r load taken N 0 = none)) :
    Calls Try.prog 45 #[.slice p rs.length cap, .int .i64 r, .int .i64 N, .slice pl load.length capl, .int .u16 taken] w fun e w' => e = .returned (.tuple #[.int .u16 0, .int .i64 8]) ∧ w = w' := by
  have := take_any rs load p pl cap capl r taken N hl hll hN w hc hcl
  rw [h.out] at this; exact this
theorem take_some (rs load : List Int) (p pl : Option Addr) (cap capl : Nat) (r taken : Int) (N : Nat) (hl : rs.length ≤ 1000) (hll : load.length ≤ 1000) (hN : N ≤ 1000) (w : World) (hc : NumsAt w p rs) (hcl : NumsAt w pl load) {g : Int} (h : Hid (takeP rs r load taken N 0 = some g)) :
    Calls Try.prog 45 #[.slice p rs.length cap, .int .i64 r, .int .i64 N, .slice pl load.length capl, .int .u16 taken] w fun e w' => e = .returned (.tuple #[.int .u16 g, .int .i64 0]) ∧ w = w' := by
  have := take_any rs load p pl cap capl r taken N hl hll hN w hc hcl
  rw [h.out] at this; exact this

section
variable (rs load : List Int) (z : Zn) (p pld pv pw pl : Option Addr) (cap capl cv cw cl : Nat)
set_option maxRecDepth 100000 in
set_option maxHeartbeats 8000000 in
theorem allot_any (hl : rs.length ≤ 1000) (hll : load.length ≤ 1000) (l0 : z.v.length ≤ 1000) (l1 : z.w.length ≤ 1000) (l2 : z.l.length ≤ 1000) (w : World) (hc : NumsAt w p rs) (hcl : NumsAt w pld load) (hz : ZoneAt w z pv pw pl) :
    Calls Try.prog 23 #[.slice p rs.length cap, .agg #[.slice pv z.v.length cv, .slice pw z.w.length cw, .slice pl z.l.length cl, .int .i64 z.e, .int .i64 z.k, .int .i64 z.s], .slice pld load.length capl] w fun r w' => r = .returned (cfgV (allotP rs load z)) ∧ Below w.heap.size w w' := by
  have HC := Lib.hid hc; have HCL := Lib.hid hcl; have HZ := Lib.hid hz
  clear hc hcl hz
  have B0 : Below w.heap.size w ((w.alloc (.cells #[.slice pv z.v.length cv, .slice pw z.w.length cw, .slice pl z.l.length cl, .int .i64 z.e, .int .i64 z.k, .int .i64 z.s] 43)).alloc (.cells #[.int .u16 0, .int .u16 0, .int .u16 0, .int .i64 0, .int .i64 0] 39)) := ((Below.refl _ _).alloc (Nat.le_refl _) _).alloc (by simp) _
  have HB0 := Lib.hid B0
  have HC0 := Lib.hid (HC.out.keep B0 (Nat.le_refl _))
  have HZ0 := Lib.hid (HZ.out.keep B0 (Nat.le_refl _))
  clear B0
  cases hb : regB rs
  · have HR := Lib.hid hb
    have HX : Hid (allotP rs load z = (noCfg, 1)) := allot_no (by rw [hb]; rfl)
    clear hb
    go_enter Try.func23, Try.ntmps23
    go_wp2_with fail
    refine (mayRegions_any rs p cap _ hl HC0.out).mono ?_; rintro r w' ⟨rfl, rfl⟩; rw [HR.out]
    go_wp2_with fail
    refine bodyPost_ret (v := cfgV (noCfg, 1)) (by simp [results, Try.results23, go_sem, cfgV, noCfg]) rfl ⟨by rw [HX.out], ?_⟩
    exact HB0.out
  · have HR := Lib.hid hb
    cases hmz : mayZ z
    · have HMZ := Lib.hid hmz
      have HX : Hid (allotP rs load z = (noCfg, 1)) := allot_no (by rw [hb, hmz]; rfl)
      clear hb hmz
      go_enter Try.func23, Try.ntmps23
      go_wp2_with fail
      refine (mayRegions_any rs p cap _ hl HC0.out).mono ?_; rintro r w' ⟨rfl, rfl⟩; rw [HR.out]
      go_wp2_with fail
      refine (mayZone_any z pv pw pl cv cw cl l0 l1 l2 _ HZ0.out).mono ?_; rintro r W1 ⟨rfl, hb1⟩; rw [HMZ.out]
      have hR1 := below_block hb1 (by simp) (heap_last (w.alloc (.cells #[.slice pv z.v.length cv, .slice pw z.w.length cw, .slice pl z.l.length cl, .int .i64 z.e, .int .i64 z.k, .int .i64 z.s] 43)) (.cells #[.int .u16 0, .int .u16 0, .int .u16 0, .int .i64 0, .int .i64 0] 39))
      simp only [World.size_alloc] at hR1
      have kR := block_cells hR1
      have kRf := block_free hR1
      have HBl := Lib.hid (HB0.out.trans (hb1.mono (by simp; omega)))
      clear hb1 hR1
      go_wp2_with fail
      refine bodyPost_ret (v := cfgV (noCfg, 1)) (by simp [results, Try.results23, go_sem, cfgV, noCfg, kR]) rfl ⟨by rw [HX.out], ?_⟩
      iterate 5 (refine Below.setCell ?_ (by show w.heap.size ≤ w.heap.size + 1; omega) _)
      exact HBl.out
    · have HMZ := Lib.hid hmz
      have HRM : Hid ((regB rs && mayZ z) = true) := by show _ = _; rw [hb, hmz]; rfl
      obtain ⟨T, hT⟩ : ∃ T, allotGo rs load z 12 0 ⟨0, 0, 0⟩ = T := ⟨_, rfl⟩
      have HT0 := Lib.hid hT
      clear hb hmz hT
      go_enter Try.func23, Try.ntmps23
      go_wp2_with fail
      refine (mayRegions_any rs p cap _ hl HC0.out).mono ?_; rintro r w' ⟨rfl, rfl⟩; rw [HR.out]
      go_wp2_with fail
      refine (mayZone_any z pv pw pl cv cw cl l0 l1 l2 _ HZ0.out).mono ?_; rintro r W1 ⟨rfl, hb1⟩; rw [HMZ.out]
      have hA1 := below_block hb1 (by simp; omega) (heap_prev (.cells #[.int .u16 0, .int .u16 0, .int .u16 0, .int .i64 0, .int .i64 0] 39) (heap_last w (.cells #[.slice pv z.v.length cv, .slice pw z.w.length cw, .slice pl z.l.length cl, .int .i64 z.e, .int .i64 z.k, .int .i64 z.s] 43)))
      have hR1 := below_block hb1 (by simp) (heap_last (w.alloc (.cells #[.slice pv z.v.length cv, .slice pw z.w.length cw, .slice pl z.l.length cl, .int .i64 z.e, .int .i64 z.k, .int .i64 z.s] 43)) (.cells #[.int .u16 0, .int .u16 0, .int .u16 0, .int .i64 0, .int .i64 0] 39))
      simp only [World.size_alloc] at hR1
      have kA := block_cells hA1
      have hBl := HB0.out.trans (hb1.mono (by simp; omega))
      have hsz : w.heap.size + 1 < W1.heap.size := block_lt hR1
      clear hb1
      go_wp2_with fail
      have hA2 := heap_prev (.cells #[.int .u16 0, .int .u16 0, .int .u16 0, .int .i64 z.e, .int .i64 z.k] 39) hA1
      have hR2 := heap_prev (.cells #[.int .u16 0, .int .u16 0, .int .u16 0, .int .i64 z.e, .int .i64 z.k] 39) hR1
      have hC2 := heap_last W1 (.cells #[.int .u16 0, .int .u16 0, .int .u16 0, .int .i64 z.e, .int .i64 z.k] 39)
      have hB2 := hBl.alloc hBl.size (.cells #[.int .u16 0, .int .u16 0, .int .u16 0, .int .i64 z.e, .int .i64 z.k] 39)
      obtain ⟨C, hC⟩ : ∃ C, W1.heap.size = C := ⟨_, rfl⟩
      rw [hC] at hC2 hsz ⊢
      obtain ⟨W2, hW2⟩ : ∃ W2, W1.alloc (.cells #[.int .u16 0, .int .u16 0, .int .u16 0, .int .i64 z.e, .int .i64 z.k] 39) = W2 := ⟨_, rfl⟩
      rw [hW2] at hA2 hR2 hC2 hB2 ⊢
      have HA2 := Lib.hid hA2; have HR2 := Lib.hid hR2; have HC2 := Lib.hid hC2; have HB2 := Lib.hid hB2
      clear hA1 hR1 kA hBl hA2 hR2 hC2 hB2 hC hW2
      go_loopw [29] (fun i wr => ∃ (r : Nat) (s : St), r ≤ 4 ∧ i = .int .i64 r ∧ Hid (wr.heap[w.heap.size]? = some (.cells #[.slice pv z.v.length cv, .slice pw z.w.length cw, .slice pl z.l.length cl, .int .i64 z.e, .int .i64 z.k, .int .i64 z.s] 43 (0, 0))) ∧ Hid (wr.heap[w.heap.size + 1]? = some (.cells #[.int .u16 0, .int .u16 0, .int .u16 0, .int .i64 0, .int .i64 0] 39 (0, 0))) ∧ Hid (wr.heap[C]? = some (.cells #[.int .u16 s.v, .int .u16 s.w, .int .u16 s.l, .int .i64 z.e, .int .i64 z.k] 39 (0, 0))) ∧ s.Fit ∧ Hid (allotGo rs load z (12 - 3 * r) (3 * r) s = T) ∧ Hid (Below w.heap.size w wr)) (fun i _ => 4 - (intOf i).toNat)
      case atStart => exact ⟨0, ⟨0, 0, 0⟩, by omega, rfl, HA2, HR2, HC2, ⟨by decide, by decide, by decide, by decide, by decide, by decide⟩, HT0, HB2⟩
      case round =>
        obtain ⟨r, s, hr4, rfl, hzb, hrb, hcb, hfit, hg, hbel⟩ := hrel
        obtain ⟨V, rfl⟩ : ∃ V : World, V = wr := ⟨_, rfl⟩
        clear HA2 HR2 HC2 HB2 HR HC0 HZ0
        by_cases hlt : r < 4
        · have kA := block_cells hzb.out
          have hd4 : decide ((r : Int) < 4) = true := by simp; omega
          go_wp2_with fail
          have hS3 := heap_last V (.cells #[.pointer (some ⟨C, 0, none⟩), .slice pv z.v.length cv, .pointer (some ⟨C, 1, none⟩), .slice pw z.w.length cw, .pointer (some ⟨C, 2, none⟩), .slice pl z.l.length cl] 75)
          have hZ3 := heap_prev (.cells #[.pointer (some ⟨C, 0, none⟩), .slice pv z.v.length cv, .pointer (some ⟨C, 1, none⟩), .slice pw z.w.length cw, .pointer (some ⟨C, 2, none⟩), .slice pl z.l.length cl] 75) hzb.out
          have hR3 := heap_prev (.cells #[.pointer (some ⟨C, 0, none⟩), .slice pv z.v.length cv, .pointer (some ⟨C, 1, none⟩), .slice pw z.w.length cw, .pointer (some ⟨C, 2, none⟩), .slice pl z.l.length cl] 75) hrb.out
          have hC3 := heap_prev (.cells #[.pointer (some ⟨C, 0, none⟩), .slice pv z.v.length cv, .pointer (some ⟨C, 1, none⟩), .slice pw z.w.length cw, .pointer (some ⟨C, 2, none⟩), .slice pl z.l.length cl] 75) hcb.out
          have hB3 := hbel.out.alloc hbel.out.size (.cells #[.pointer (some ⟨C, 0, none⟩), .slice pv z.v.length cv, .pointer (some ⟨C, 1, none⟩), .slice pw z.w.length cw, .pointer (some ⟨C, 2, none⟩), .slice pl z.l.length cl] 75)
          have hCV := block_lt hcb.out
          obtain ⟨S, hS⟩ : ∃ S, V.heap.size = S := ⟨_, rfl⟩
          rw [hS] at hS3 hCV ⊢
          obtain ⟨W3, hW3⟩ : ∃ W3, V.alloc (.cells #[.pointer (some ⟨C, 0, none⟩), .slice pv z.v.length cv, .pointer (some ⟨C, 1, none⟩), .slice pw z.w.length cw, .pointer (some ⟨C, 2, none⟩), .slice pl z.l.length cl] 75) = W3 := ⟨_, rfl⟩
          rw [hW3] at hS3 hZ3 hR3 hC3 hB3 ⊢
          have HS3 := Lib.hid hS3; have HZ3 := Lib.hid hZ3; have HR3 := Lib.hid hR3; have HC3 := Lib.hid hC3; have HB3 := Lib.hid hB3
          have HG3 : Hid (allotGo rs load z (12 - (3 * r + 0)) (3 * r + 0) s = T) := hg.out
          have hfit3 := hfit
          clear hS3 hZ3 hR3 hC3 hB3 hS hW3 hzb hrb hcb hbel hg kA hfit
          go_loopw [46] (fun i wr => ∃ (q : Nat) (s : St), q ≤ 3 ∧ i = .int .i64 q ∧ Hid (wr.heap[w.heap.size]? = some (.cells #[.slice pv z.v.length cv, .slice pw z.w.length cw, .slice pl z.l.length cl, .int .i64 z.e, .int .i64 z.k, .int .i64 z.s] 43 (0, 0))) ∧ Hid (wr.heap[w.heap.size + 1]? = some (.cells #[.int .u16 0, .int .u16 0, .int .u16 0, .int .i64 0, .int .i64 0] 39 (0, 0))) ∧ Hid (wr.heap[C]? = some (.cells #[.int .u16 s.v, .int .u16 s.w, .int .u16 s.l, .int .i64 z.e, .int .i64 z.k] 39 (0, 0))) ∧ Hid (wr.heap[S]? = some (.cells #[.pointer (some ⟨C, 0, none⟩), .slice pv z.v.length cv, .pointer (some ⟨C, 1, none⟩), .slice pw z.w.length cw, .pointer (some ⟨C, 2, none⟩), .slice pl z.l.length cl] 75 (0, 0))) ∧ s.Fit ∧ Hid (allotGo rs load z (12 - (3 * r + q)) (3 * r + q) s = T) ∧ Hid (Below w.heap.size w wr)) (fun i _ => 3 - (intOf i).toNat)
          case atStart => exact ⟨0, s, by omega, rfl, HZ3, HR3, HC3, HS3, hfit3, HG3, HB3⟩
          case round =>
          clear HZ3 HR3 HC3 HS3 hfit3 HG3 HB3
          clear s
          obtain ⟨q, s, hq3, rfl, hzb, hrb, hcb, hsb, hfit, hg, hbel⟩ := hrel
          obtain ⟨V, rfl⟩ : ∃ V : World, V = wr := ⟨_, rfl⟩
          have kC := block_cells hcb.out
          have kS := block_cells hsb.out
          obtain rfl | rfl | rfl | rfl : q = 0 ∨ q = 1 ∨ q = 2 ∨ q = 3 := by omega
          · -- i = 0
            obtain ⟨N, hN9, hN⟩ := mayZ_get HMZ.out 0 (by omega) r
            have HN : Hid ((z.list 0).getD r 0 = (N : Int)) := hN
            have hst := stepA_eq rs load z r 0 (by omega) s
            rw [hN, Int.toNat_natCast] at hst
            clear hN
            cases hT : takeP rs (r : Int) load s.all N 0 with
            | none =>
              have HT : Hid (takeP rs (r : Int) load (bits .or .u16 (bits .or .u16 s.v s.w) s.l) N 0 = none) := hT
              have hstep : stepA rs load z (3 * r + 0) s = none := by rw [hst, hT]; rfl
              have HX : Hid (allotP rs load z = (noCfg, 8)) := allot_full HRM.out (HT0.out.trans (hg.out.symm.trans (allotGo_no (by omega) hstep)))
              clear hstep
              clear hst hT hg
              go_wp2_with fail
              have hV := heap_last V (.cells #[.pointer (some ⟨C, 0, none⟩), .slice pv z.v.length cv] 75)
              have hVb := below_box V (.cells #[.pointer (some ⟨C, 0, none⟩), .slice pv z.v.length cv] 75)
              obtain ⟨X, hXe⟩ : ∃ X, V.heap.size = X := ⟨_, rfl⟩
              rw [hXe] at hV ⊢
              obtain ⟨V1, hV1⟩ : ∃ V1, V.alloc (.cells #[.pointer (some ⟨C, 0, none⟩), .slice pv z.v.length cv] 75) = V1 := ⟨_, rfl⟩
              rw [hV1] at hV hVb ⊢
              have HV := Lib.hid hV; have HVb := Lib.hid hVb
              clear hV hVb hXe hV1 kC kS
              obtain ⟨U, f, hU, hf, hg⟩ := calm_class (V1); obtain ⟨u0, hu0⟩ := hg _ (Below.refl _ _); rw [hu0]; clear hu0
              have HBu : Hid (∀ u, Below V.heap.size V (f u)) := fun u => HVb.out.trans ((hf u).mono HVb.out.size)
              have HBF : Hid (∀ u, Below w.heap.size w (f u)) := fun u => hbel.out.trans ((HBu.out u).mono hbel.out.size)
              have HZu : Hid (∀ u, (f u).heap[w.heap.size]? = some (.cells #[.slice pv z.v.length cv, .slice pw z.w.length cw, .slice pl z.l.length cl, .int .i64 z.e, .int .i64 z.k, .int .i64 z.s] 43 (0, 0))) := fun u => below_block (HBu.out u) (block_lt hzb.out) hzb.out
              have HRu : Hid (∀ u, (f u).heap[w.heap.size + 1]? = some (.cells #[.int .u16 0, .int .u16 0, .int .u16 0, .int .i64 0, .int .i64 0] 39 (0, 0))) := fun u => below_block (HBu.out u) (block_lt hrb.out) hrb.out
              have HCu : Hid (∀ u, (f u).heap[C]? = some (.cells #[.int .u16 s.v, .int .u16 s.w, .int .u16 s.l, .int .i64 z.e, .int .i64 z.k] 39 (0, 0))) := fun u => below_block (HBu.out u) (block_lt hcb.out) hcb.out
              have HSu : Hid (∀ u, (f u).heap[S]? = some (.cells #[.pointer (some ⟨C, 0, none⟩), .slice pv z.v.length cv, .pointer (some ⟨C, 1, none⟩), .slice pw z.w.length cw, .pointer (some ⟨C, 2, none⟩), .slice pl z.l.length cl] 75 (0, 0))) := fun u => below_block (HBu.out u) (block_lt hsb.out) hsb.out
              have HCr : Hid (∀ u, NumsAt (f u) p rs) := fun u => HC.out.keep (HBF.out u) (Nat.le_refl _)
              have HCld : Hid (∀ u, NumsAt (f u) pld load) := fun u => HCL.out.keep (HBF.out u) (Nat.le_refl _)
              have HCz : Hid (∀ u, NumsAt (f u) pv z.v) := fun u => HZ.out.nv.keep (HBF.out u) (Nat.le_refl _)
              have kX := fun u => block_cells (calm_heap hf HV.out u)
              have kC := fun u => block_cells (HCu.out u)
              have kCf := fun u => block_free (HCu.out u)
              have kR := fun u => block_cells (HRu.out u)
              have kRf := fun u => block_free (HRu.out u)
              refine wp_region_calm f (by kernel_rfl) (by kernel_rfl) (calm_drew hf hg _) ?_
              repeat (go_big_quiet_step ((first | (go_at_call 46; exact calm_same (at_is z.v pv cv r _ l0 (HCz.out _) HN)) | (go_at_call 45; exact calm_same (take_none rs load p pld cap capl _ _ N hl hll (by omega) _ (HCr.out _) (HCld.out _) HT)))))
              refine wpQuiet_nil ?_; rintro _ ⟨u, rfl⟩
              go_wp2_with fail
              refine bodyPost_ret (v := cfgV (noCfg, 8)) (by simp [results, Try.results23, go_sem, cfgV, noCfg, kR]) rfl ⟨by rw [HX.out], ?_⟩
              iterate 5 (refine Below.setCell ?_ (by show w.heap.size ≤ w.heap.size + 1; omega) _)
              exact HBF.out _
            | some g =>
              have HT : Hid (takeP rs (r : Int) load (bits .or .u16 (bits .or .u16 s.v s.w) s.l) N 0 = some g) := hT
              have HNX : Hid (allotGo rs load z (12 - (3 * r + 0 + 1)) (3 * r + 0 + 1) (s.put 0 g) = T) := by
                have hstep : stepA rs load z (3 * r + 0) s = some (s.put 0 g) := by rw [hst, hT]; rfl
                show _ = _; rw [← hg.out, allotGo_yes (by omega) hstep]; rfl
              have HPF := Lib.hid (St.fit_put hfit 0 g)
              clear hst hT hg
              go_wp2_with fail
              have hV := heap_last V (.cells #[.pointer (some ⟨C, 0, none⟩), .slice pv z.v.length cv] 75)
              have hVb := below_box V (.cells #[.pointer (some ⟨C, 0, none⟩), .slice pv z.v.length cv] 75)
              obtain ⟨X, hXe⟩ : ∃ X, V.heap.size = X := ⟨_, rfl⟩
              rw [hXe] at hV ⊢
              obtain ⟨V1, hV1⟩ : ∃ V1, V.alloc (.cells #[.pointer (some ⟨C, 0, none⟩), .slice pv z.v.length cv] 75) = V1 := ⟨_, rfl⟩
              rw [hV1] at hV hVb ⊢
              have HV := Lib.hid hV; have HVb := Lib.hid hVb
              clear hV hVb hXe hV1 kC kS
              obtain ⟨U, f, hU, hf, hg⟩ := calm_class (V1); obtain ⟨u0, hu0⟩ := hg _ (Below.refl _ _); rw [hu0]; clear hu0
              have HBu : Hid (∀ u, Below V.heap.size V (f u)) := fun u => HVb.out.trans ((hf u).mono HVb.out.size)
              have HBF : Hid (∀ u, Below w.heap.size w (f u)) := fun u => hbel.out.trans ((HBu.out u).mono hbel.out.size)
              have HZu : Hid (∀ u, (f u).heap[w.heap.size]? = some (.cells #[.slice pv z.v.length cv, .slice pw z.w.length cw, .slice pl z.l.length cl, .int .i64 z.e, .int .i64 z.k, .int .i64 z.s] 43 (0, 0))) := fun u => below_block (HBu.out u) (block_lt hzb.out) hzb.out
              have HRu : Hid (∀ u, (f u).heap[w.heap.size + 1]? = some (.cells #[.int .u16 0, .int .u16 0, .int .u16 0, .int .i64 0, .int .i64 0] 39 (0, 0))) := fun u => below_block (HBu.out u) (block_lt hrb.out) hrb.out
              have HCu : Hid (∀ u, (f u).heap[C]? = some (.cells #[.int .u16 s.v, .int .u16 s.w, .int .u16 s.l, .int .i64 z.e, .int .i64 z.k] 39 (0, 0))) := fun u => below_block (HBu.out u) (block_lt hcb.out) hcb.out
              have HSu : Hid (∀ u, (f u).heap[S]? = some (.cells #[.pointer (some ⟨C, 0, none⟩), .slice pv z.v.length cv, .pointer (some ⟨C, 1, none⟩), .slice pw z.w.length cw, .pointer (some ⟨C, 2, none⟩), .slice pl z.l.length cl] 75 (0, 0))) := fun u => below_block (HBu.out u) (block_lt hsb.out) hsb.out
              have HCr : Hid (∀ u, NumsAt (f u) p rs) := fun u => HC.out.keep (HBF.out u) (Nat.le_refl _)
              have HCld : Hid (∀ u, NumsAt (f u) pld load) := fun u => HCL.out.keep (HBF.out u) (Nat.le_refl _)
              have HCz : Hid (∀ u, NumsAt (f u) pv z.v) := fun u => HZ.out.nv.keep (HBF.out u) (Nat.le_refl _)
              have kX := fun u => block_cells (calm_heap hf HV.out u)
              have kC := fun u => block_cells (HCu.out u)
              have kCf := fun u => block_free (HCu.out u)
              have kR := fun u => block_cells (HRu.out u)
              have kRf := fun u => block_free (HRu.out u)
              refine wp_region_calm f (by kernel_rfl) (by kernel_rfl) (calm_drew hf hg _) ?_
              repeat (go_big_quiet_step ((first | (go_at_call 46; exact calm_same (at_is z.v pv cv r _ l0 (HCz.out _) HN)) | (go_at_call 45; exact calm_same (take_some rs load p pld cap capl _ _ N hl hll (by omega) _ (HCr.out _) (HCld.out _) HT)))))
              refine wpQuiet_nil ?_; rintro _ ⟨u, rfl⟩
              go_wp2_with fail
              go_roundw
              case rel => exact ⟨1, s.put 0 g, by omega, by go_num, far_set (HZu.out _) (by show w.heap.size ≠ C; omega), far_set (HRu.out _) (by show w.heap.size + 1 ≠ C; omega), cells_setCell (HCu.out _), far_set (HSu.out _) (by show S ≠ C; omega), HPF.out, HNX.out, (HBF.out _).setCell (by show w.heap.size ≤ C; omega) _⟩
              case measure => simp [intOf]
          · -- i = 1
            obtain ⟨N, hN9, hN⟩ := mayZ_get HMZ.out 1 (by omega) r
            have HN : Hid ((z.list 1).getD r 0 = (N : Int)) := hN
            have hst := stepA_eq rs load z r 1 (by omega) s
            rw [hN, Int.toNat_natCast] at hst
            clear hN
            cases hT : takeP rs (r : Int) load s.all N 0 with
            | none =>
              have HT : Hid (takeP rs (r : Int) load (bits .or .u16 (bits .or .u16 s.v s.w) s.l) N 0 = none) := hT
              have hstep : stepA rs load z (3 * r + 1) s = none := by rw [hst, hT]; rfl
              have HX : Hid (allotP rs load z = (noCfg, 8)) := allot_full HRM.out (HT0.out.trans (hg.out.symm.trans (allotGo_no (by omega) hstep)))
              clear hstep
              clear hst hT hg
              go_wp2_with fail
              have hV := heap_last V (.cells #[.pointer (some ⟨C, 1, none⟩), .slice pw z.w.length cw] 75)
              have hVb := below_box V (.cells #[.pointer (some ⟨C, 1, none⟩), .slice pw z.w.length cw] 75)
              obtain ⟨X, hXe⟩ : ∃ X, V.heap.size = X := ⟨_, rfl⟩
              rw [hXe] at hV ⊢
              obtain ⟨V1, hV1⟩ : ∃ V1, V.alloc (.cells #[.pointer (some ⟨C, 1, none⟩), .slice pw z.w.length cw] 75) = V1 := ⟨_, rfl⟩
              rw [hV1] at hV hVb ⊢
              have HV := Lib.hid hV; have HVb := Lib.hid hVb
              clear hV hVb hXe hV1 kC kS
              obtain ⟨U, f, hU, hf, hg⟩ := calm_class (V1); obtain ⟨u0, hu0⟩ := hg _ (Below.refl _ _); rw [hu0]; clear hu0
              have HBu : Hid (∀ u, Below V.heap.size V (f u)) := fun u => HVb.out.trans ((hf u).mono HVb.out.size)
              have HBF : Hid (∀ u, Below w.heap.size w (f u)) := fun u => hbel.out.trans ((HBu.out u).mono hbel.out.size)
              have HZu : Hid (∀ u, (f u).heap[w.heap.size]? = some (.cells #[.slice pv z.v.length cv, .slice pw z.w.length cw, .slice pl z.l.length cl, .int .i64 z.e, .int .i64 z.k, .int .i64 z.s] 43 (0, 0))) := fun u => below_block (HBu.out u) (block_lt hzb.out) hzb.out
              have HRu : Hid (∀ u, (f u).heap[w.heap.size + 1]? = some (.cells #[.int .u16 0, .int .u16 0, .int .u16 0, .int .i64 0, .int .i64 0] 39 (0, 0))) := fun u => below_block (HBu.out u) (block_lt hrb.out) hrb.out
              have HCu : Hid (∀ u, (f u).heap[C]? = some (.cells #[.int .u16 s.v, .int .u16 s.w, .int .u16 s.l, .int .i64 z.e, .int .i64 z.k] 39 (0, 0))) := fun u => below_block (HBu.out u) (block_lt hcb.out) hcb.out
              have HSu : Hid (∀ u, (f u).heap[S]? = some (.cells #[.pointer (some ⟨C, 0, none⟩), .slice pv z.v.length cv, .pointer (some ⟨C, 1, none⟩), .slice pw z.w.length cw, .pointer (some ⟨C, 2, none⟩), .slice pl z.l.length cl] 75 (0, 0))) := fun u => below_block (HBu.out u) (block_lt hsb.out) hsb.out
              have HCr : Hid (∀ u, NumsAt (f u) p rs) := fun u => HC.out.keep (HBF.out u) (Nat.le_refl _)
              have HCld : Hid (∀ u, NumsAt (f u) pld load) := fun u => HCL.out.keep (HBF.out u) (Nat.le_refl _)
              have HCz : Hid (∀ u, NumsAt (f u) pw z.w) := fun u => HZ.out.nw.keep (HBF.out u) (Nat.le_refl _)
              have kX := fun u => block_cells (calm_heap hf HV.out u)
              have kC := fun u => block_cells (HCu.out u)
              have kCf := fun u => block_free (HCu.out u)
              have kR := fun u => block_cells (HRu.out u)
              have kRf := fun u => block_free (HRu.out u)
              refine wp_region_calm f (by kernel_rfl) (by kernel_rfl) (calm_drew hf hg _) ?_
              repeat (go_big_quiet_step ((first | (go_at_call 46; exact calm_same (at_is z.w pw cw r _ l1 (HCz.out _) HN)) | (go_at_call 45; exact calm_same (take_none rs load p pld cap capl _ _ N hl hll (by omega) _ (HCr.out _) (HCld.out _) HT)))))
              refine wpQuiet_nil ?_; rintro _ ⟨u, rfl⟩
              go_wp2_with fail
              refine bodyPost_ret (v := cfgV (noCfg, 8)) (by simp [results, Try.results23, go_sem, cfgV, noCfg, kR]) rfl ⟨by rw [HX.out], ?_⟩
              iterate 5 (refine Below.setCell ?_ (by show w.heap.size ≤ w.heap.size + 1; omega) _)
              exact HBF.out _
            | some g =>
              have HT : Hid (takeP rs (r : Int) load (bits .or .u16 (bits .or .u16 s.v s.w) s.l) N 0 = some g) := hT
              have HNX : Hid (allotGo rs load z (12 - (3 * r + 1 + 1)) (3 * r + 1 + 1) (s.put 1 g) = T) := by
                have hstep : stepA rs load z (3 * r + 1) s = some (s.put 1 g) := by rw [hst, hT]; rfl
                show _ = _; rw [← hg.out, allotGo_yes (by omega) hstep]; rfl
              have HPF := Lib.hid (St.fit_put hfit 1 g)
              clear hst hT hg
              go_wp2_with fail
              have hV := heap_last V (.cells #[.pointer (some ⟨C, 1, none⟩), .slice pw z.w.length cw] 75)
              have hVb := below_box V (.cells #[.pointer (some ⟨C, 1, none⟩), .slice pw z.w.length cw] 75)
              obtain ⟨X, hXe⟩ : ∃ X, V.heap.size = X := ⟨_, rfl⟩
              rw [hXe] at hV ⊢
              obtain ⟨V1, hV1⟩ : ∃ V1, V.alloc (.cells #[.pointer (some ⟨C, 1, none⟩), .slice pw z.w.length cw] 75) = V1 := ⟨_, rfl⟩
              rw [hV1] at hV hVb ⊢
              have HV := Lib.hid hV; have HVb := Lib.hid hVb
              clear hV hVb hXe hV1 kC kS
              obtain ⟨U, f, hU, hf, hg⟩ := calm_class (V1); obtain ⟨u0, hu0⟩ := hg _ (Below.refl _ _); rw [hu0]; clear hu0
              have HBu : Hid (∀ u, Below V.heap.size V (f u)) := fun u => HVb.out.trans ((hf u).mono HVb.out.size)
              have HBF : Hid (∀ u, Below w.heap.size w (f u)) := fun u => hbel.out.trans ((HBu.out u).mono hbel.out.size)
              have HZu : Hid (∀ u, (f u).heap[w.heap.size]? = some (.cells #[.slice pv z.v.length cv, .slice pw z.w.length cw, .slice pl z.l.length cl, .int .i64 z.e, .int .i64 z.k, .int .i64 z.s] 43 (0, 0))) := fun u => below_block (HBu.out u) (block_lt hzb.out) hzb.out
              have HRu : Hid (∀ u, (f u).heap[w.heap.size + 1]? = some (.cells #[.int .u16 0, .int .u16 0, .int .u16 0, .int .i64 0, .int .i64 0] 39 (0, 0))) := fun u => below_block (HBu.out u) (block_lt hrb.out) hrb.out
              have HCu : Hid (∀ u, (f u).heap[C]? = some (.cells #[.int .u16 s.v, .int .u16 s.w, .int .u16 s.l, .int .i64 z.e, .int .i64 z.k] 39 (0, 0))) := fun u => below_block (HBu.out u) (block_lt hcb.out) hcb.out
              have HSu : Hid (∀ u, (f u).heap[S]? = some (.cells #[.pointer (some ⟨C, 0, none⟩), .slice pv z.v.length cv, .pointer (some ⟨C, 1, none⟩), .slice pw z.w.length cw, .pointer (some ⟨C, 2, none⟩), .slice pl z.l.length cl] 75 (0, 0))) := fun u => below_block (HBu.out u) (block_lt hsb.out) hsb.out
              have HCr : Hid (∀ u, NumsAt (f u) p rs) := fun u => HC.out.keep (HBF.out u) (Nat.le_refl _)
              have HCld : Hid (∀ u, NumsAt (f u) pld load) := fun u => HCL.out.keep (HBF.out u) (Nat.le_refl _)
              have HCz : Hid (∀ u, NumsAt (f u) pw z.w) := fun u => HZ.out.nw.keep (HBF.out u) (Nat.le_refl _)
              have kX := fun u => block_cells (calm_heap hf HV.out u)
              have kC := fun u => block_cells (HCu.out u)
              have kCf := fun u => block_free (HCu.out u)
              have kR := fun u => block_cells (HRu.out u)
              have kRf := fun u => block_free (HRu.out u)
              refine wp_region_calm f (by kernel_rfl) (by kernel_rfl) (calm_drew hf hg _) ?_
              repeat (go_big_quiet_step ((first | (go_at_call 46; exact calm_same (at_is z.w pw cw r _ l1 (HCz.out _) HN)) | (go_at_call 45; exact calm_same (take_some rs load p pld cap capl _ _ N hl hll (by omega) _ (HCr.out _) (HCld.out _) HT)))))
              refine wpQuiet_nil ?_; rintro _ ⟨u, rfl⟩
              go_wp2_with fail
              go_roundw
              case rel => exact ⟨2, s.put 1 g, by omega, by go_num, far_set (HZu.out _) (by show w.heap.size ≠ C; omega), far_set (HRu.out _) (by show w.heap.size + 1 ≠ C; omega), cells_setCell (HCu.out _), far_set (HSu.out _) (by show S ≠ C; omega), HPF.out, HNX.out, (HBF.out _).setCell (by show w.heap.size ≤ C; omega) _⟩
              case measure => simp [intOf]
          · -- i = 2
            obtain ⟨N, hN9, hN⟩ := mayZ_get HMZ.out 2 (by omega) r
            have HN : Hid ((z.list 2).getD r 0 = (N : Int)) := hN
            have hst := stepA_eq rs load z r 2 (by omega) s
            rw [hN, Int.toNat_natCast] at hst
            clear hN
            cases hT : takeP rs (r : Int) load s.all N 0 with
            | none =>
              have HT : Hid (takeP rs (r : Int) load (bits .or .u16 (bits .or .u16 s.v s.w) s.l) N 0 = none) := hT
              have hstep : stepA rs load z (3 * r + 2) s = none := by rw [hst, hT]; rfl
              have HX : Hid (allotP rs load z = (noCfg, 8)) := allot_full HRM.out (HT0.out.trans (hg.out.symm.trans (allotGo_no (by omega) hstep)))
              clear hstep
              clear hst hT hg
              go_wp2_with fail
              have hV := heap_last V (.cells #[.pointer (some ⟨C, 2, none⟩), .slice pl z.l.length cl] 75)
              have hVb := below_box V (.cells #[.pointer (some ⟨C, 2, none⟩), .slice pl z.l.length cl] 75)
              obtain ⟨X, hXe⟩ : ∃ X, V.heap.size = X := ⟨_, rfl⟩
              rw [hXe] at hV ⊢
              obtain ⟨V1, hV1⟩ : ∃ V1, V.alloc (.cells #[.pointer (some ⟨C, 2, none⟩), .slice pl z.l.length cl] 75) = V1 := ⟨_, rfl⟩
              rw [hV1] at hV hVb ⊢
              have HV := Lib.hid hV; have HVb := Lib.hid hVb
              clear hV hVb hXe hV1 kC kS
              obtain ⟨U, f, hU, hf, hg⟩ := calm_class (V1); obtain ⟨u0, hu0⟩ := hg _ (Below.refl _ _); rw [hu0]; clear hu0
              have HBu : Hid (∀ u, Below V.heap.size V (f u)) := fun u => HVb.out.trans ((hf u).mono HVb.out.size)
              have HBF : Hid (∀ u, Below w.heap.size w (f u)) := fun u => hbel.out.trans ((HBu.out u).mono hbel.out.size)
              have HZu : Hid (∀ u, (f u).heap[w.heap.size]? = some (.cells #[.slice pv z.v.length cv, .slice pw z.w.length cw, .slice pl z.l.length cl, .int .i64 z.e, .int .i64 z.k, .int .i64 z.s] 43 (0, 0))) := fun u => below_block (HBu.out u) (block_lt hzb.out) hzb.out
              have HRu : Hid (∀ u, (f u).heap[w.heap.size + 1]? = some (.cells #[.int .u16 0, .int .u16 0, .int .u16 0, .int .i64 0, .int .i64 0] 39 (0, 0))) := fun u => below_block (HBu.out u) (block_lt hrb.out) hrb.out
              have HCu : Hid (∀ u, (f u).heap[C]? = some (.cells #[.int .u16 s.v, .int .u16 s.w, .int .u16 s.l, .int .i64 z.e, .int .i64 z.k] 39 (0, 0))) := fun u => below_block (HBu.out u) (block_lt hcb.out) hcb.out
              have HSu : Hid (∀ u, (f u).heap[S]? = some (.cells #[.pointer (some ⟨C, 0, none⟩), .slice pv z.v.length cv, .pointer (some ⟨C, 1, none⟩), .slice pw z.w.length cw, .pointer (some ⟨C, 2, none⟩), .slice pl z.l.length cl] 75 (0, 0))) := fun u => below_block (HBu.out u) (block_lt hsb.out) hsb.out
              have HCr : Hid (∀ u, NumsAt (f u) p rs) := fun u => HC.out.keep (HBF.out u) (Nat.le_refl _)
              have HCld : Hid (∀ u, NumsAt (f u) pld load) := fun u => HCL.out.keep (HBF.out u) (Nat.le_refl _)
              have HCz : Hid (∀ u, NumsAt (f u) pl z.l) := fun u => HZ.out.nl.keep (HBF.out u) (Nat.le_refl _)
              have kX := fun u => block_cells (calm_heap hf HV.out u)
              have kC := fun u => block_cells (HCu.out u)
              have kCf := fun u => block_free (HCu.out u)
              have kR := fun u => block_cells (HRu.out u)
              have kRf := fun u => block_free (HRu.out u)
              refine wp_region_calm f (by kernel_rfl) (by kernel_rfl) (calm_drew hf hg _) ?_
              repeat (go_big_quiet_step ((first | (go_at_call 46; exact calm_same (at_is z.l pl cl r _ l2 (HCz.out _) HN)) | (go_at_call 45; exact calm_same (take_none rs load p pld cap capl _ _ N hl hll (by omega) _ (HCr.out _) (HCld.out _) HT)))))
              refine wpQuiet_nil ?_; rintro _ ⟨u, rfl⟩
              go_wp2_with fail
              refine bodyPost_ret (v := cfgV (noCfg, 8)) (by simp [results, Try.results23, go_sem, cfgV, noCfg, kR]) rfl ⟨by rw [HX.out], ?_⟩
              iterate 5 (refine Below.setCell ?_ (by show w.heap.size ≤ w.heap.size + 1; omega) _)
              exact HBF.out _
            | some g =>
              have HT : Hid (takeP rs (r : Int) load (bits .or .u16 (bits .or .u16 s.v s.w) s.l) N 0 = some g) := hT
              have HNX : Hid (allotGo rs load z (12 - (3 * r + 2 + 1)) (3 * r + 2 + 1) (s.put 2 g) = T) := by
                have hstep : stepA rs load z (3 * r + 2) s = some (s.put 2 g) := by rw [hst, hT]; rfl
                show _ = _; rw [← hg.out, allotGo_yes (by omega) hstep]; rfl
              have HPF := Lib.hid (St.fit_put hfit 2 g)
              clear hst hT hg
              go_wp2_with fail
              have hV := heap_last V (.cells #[.pointer (some ⟨C, 2, none⟩), .slice pl z.l.length cl] 75)
              have hVb := below_box V (.cells #[.pointer (some ⟨C, 2, none⟩), .slice pl z.l.length cl] 75)
              obtain ⟨X, hXe⟩ : ∃ X, V.heap.size = X := ⟨_, rfl⟩
              rw [hXe] at hV ⊢
              obtain ⟨V1, hV1⟩ : ∃ V1, V.alloc (.cells #[.pointer (some ⟨C, 2, none⟩), .slice pl z.l.length cl] 75) = V1 := ⟨_, rfl⟩
              rw [hV1] at hV hVb ⊢
              have HV := Lib.hid hV; have HVb := Lib.hid hVb
              clear hV hVb hXe hV1 kC kS
              obtain ⟨U, f, hU, hf, hg⟩ := calm_class (V1); obtain ⟨u0, hu0⟩ := hg _ (Below.refl _ _); rw [hu0]; clear hu0
              have HBu : Hid (∀ u, Below V.heap.size V (f u)) := fun u => HVb.out.trans ((hf u).mono HVb.out.size)
              have HBF : Hid (∀ u, Below w.heap.size w (f u)) := fun u => hbel.out.trans ((HBu.out u).mono hbel.out.size)
              have HZu : Hid (∀ u, (f u).heap[w.heap.size]? = some (.cells #[.slice pv z.v.length cv, .slice pw z.w.length cw, .slice pl z.l.length cl, .int .i64 z.e, .int .i64 z.k, .int .i64 z.s] 43 (0, 0))) := fun u => below_block (HBu.out u) (block_lt hzb.out) hzb.out
              have HRu : Hid (∀ u, (f u).heap[w.heap.size + 1]? = some (.cells #[.int .u16 0, .int .u16 0, .int .u16 0, .int .i64 0, .int .i64 0] 39 (0, 0))) := fun u => below_block (HBu.out u) (block_lt hrb.out) hrb.out
              have HCu : Hid (∀ u, (f u).heap[C]? = some (.cells #[.int .u16 s.v, .int .u16 s.w, .int .u16 s.l, .int .i64 z.e, .int .i64 z.k] 39 (0, 0))) := fun u => below_block (HBu.out u) (block_lt hcb.out) hcb.out
              have HSu : Hid (∀ u, (f u).heap[S]? = some (.cells #[.pointer (some ⟨C, 0, none⟩), .slice pv z.v.length cv, .pointer (some ⟨C, 1, none⟩), .slice pw z.w.length cw, .pointer (some ⟨C, 2, none⟩), .slice pl z.l.length cl] 75 (0, 0))) := fun u => below_block (HBu.out u) (block_lt hsb.out) hsb.out
              have HCr : Hid (∀ u, NumsAt (f u) p rs) := fun u => HC.out.keep (HBF.out u) (Nat.le_refl _)
              have HCld : Hid (∀ u, NumsAt (f u) pld load) := fun u => HCL.out.keep (HBF.out u) (Nat.le_refl _)
              have HCz : Hid (∀ u, NumsAt (f u) pl z.l) := fun u => HZ.out.nl.keep (HBF.out u) (Nat.le_refl _)
              have kX := fun u => block_cells (calm_heap hf HV.out u)
              have kC := fun u => block_cells (HCu.out u)
              have kCf := fun u => block_free (HCu.out u)
              have kR := fun u => block_cells (HRu.out u)
              have kRf := fun u => block_free (HRu.out u)
              refine wp_region_calm f (by kernel_rfl) (by kernel_rfl) (calm_drew hf hg _) ?_
              repeat (go_big_quiet_step ((first | (go_at_call 46; exact calm_same (at_is z.l pl cl r _ l2 (HCz.out _) HN)) | (go_at_call 45; exact calm_same (take_some rs load p pld cap capl _ _ N hl hll (by omega) _ (HCr.out _) (HCld.out _) HT)))))
              refine wpQuiet_nil ?_; rintro _ ⟨u, rfl⟩
              go_wp2_with fail
              go_roundw
              case rel => exact ⟨3, s.put 2 g, by omega, by go_num, far_set (HZu.out _) (by show w.heap.size ≠ C; omega), far_set (HRu.out _) (by show w.heap.size + 1 ≠ C; omega), cells_setCell (HCu.out _), far_set (HSu.out _) (by show S ≠ C; omega), HPF.out, HNX.out, (HBF.out _).setCell (by show w.heap.size ≤ C; omega) _⟩
              case measure => simp [intOf]
          · go_wp2_with fail
            go_roundw
            case rel => exact ⟨r + 1, s, by omega, by go_num, hzb, hrb, hcb, hfit, hg, hbel⟩
            case measure => simp [intOf]; omega
        · obtain rfl : r = 4 := by omega
          have HTs : Hid (T = some s) := by show _ = _; rw [← hg.out]; rfl
          have HX : Hid (allotP rs load z = (cfgOf z s, 0)) := allot_ok HRM.out (HT0.out.trans HTs.out)
          obtain ⟨N, hN⟩ : ∃ N, cnt (bits .or .u16 s.v s.w) = N := ⟨_, rfl⟩
          have hn := cnt_le (bits .or .u16 s.v s.w)
          rw [hN] at hn
          obtain ⟨n0, n9⟩ := hn
          have q0 := (bits_fit .or s.v s.w).1
          have HN := Lib.hid hN
          have kC := block_cells hcb.out
          clear hg hN
          go_wp2_with fail
          refine (count_is _ _ q0 HN).mono ?_; rintro r W5 ⟨rfl, hb5⟩
          have hC5 := below_block hb5 (block_lt hcb.out) hcb.out
          have hR5 := below_block hb5 (block_lt hrb.out) hrb.out
          have HB5 := Lib.hid (hbel.out.trans (hb5.mono hbel.out.size))
          clear kC hb5
          have kC := block_cells hC5; have kCf := block_free hC5
          have kR := block_cells hR5; have kRf := block_free hR5
          have hCR : C ≠ w.heap.size + 1 := by omega
          clear hC5 hR5 HT0 HTs HRM
          by_cases e0 : z.e = 0
          · by_cases k0 : z.k = 0
            · have he : (z.e == 0) = true := by simp [e0]
              have hk : (z.k == 0) = true := by simp [k0]
              have HV : Hid (cfgV (cfgOf z s, 0) = .tuple #[.agg #[.int .u16 s.v, .int .u16 s.w, .int .u16 s.l, .int .i64 (N / 2 + 1), .int .i64 (N / 2 + 1)], .int .i64 0]) := by show _ = _; unfold cfgV cfgOf; simp only [e0, k0, if_true, HN.out]
              clear e0 k0
              go_wp2_with fail
              refine bodyPost_ret (v := .tuple #[.agg #[.int .u16 s.v, .int .u16 s.w, .int .u16 s.l, .int .i64 (N / 2 + 1), .int .i64 (N / 2 + 1)], .int .i64 0]) (by simp [results, Try.results23, go_sem, kR]) rfl ⟨by rw [HX.out, HV.out], ?_⟩
              repeat (first | (with_reducible refine Below.setCell ?_ (show w.heap.size ≤ w.heap.size + 1 by omega) _) | (with_reducible refine Below.setCell ?_ (show w.heap.size ≤ C by omega) _))
              exact HB5.out
            · have he : (z.e == 0) = true := by simp [e0]
              have hk : (z.k == 0) = false := by simp [k0]
              have HV : Hid (cfgV (cfgOf z s, 0) = .tuple #[.agg #[.int .u16 s.v, .int .u16 s.w, .int .u16 s.l, .int .i64 (N / 2 + 1), .int .i64 (z.k)], .int .i64 0]) := by show _ = _; unfold cfgV cfgOf; simp only [e0, k0, if_true, if_false, HN.out]
              clear e0 k0
              go_wp2_with fail
              refine bodyPost_ret (v := .tuple #[.agg #[.int .u16 s.v, .int .u16 s.w, .int .u16 s.l, .int .i64 (N / 2 + 1), .int .i64 (z.k)], .int .i64 0]) (by simp [results, Try.results23, go_sem, kR]) rfl ⟨by rw [HX.out, HV.out], ?_⟩
              repeat (first | (with_reducible refine Below.setCell ?_ (show w.heap.size ≤ w.heap.size + 1 by omega) _) | (with_reducible refine Below.setCell ?_ (show w.heap.size ≤ C by omega) _))
              exact HB5.out
          · by_cases k0 : z.k = 0
            · have he : (z.e == 0) = false := by simp [e0]
              have hk : (z.k == 0) = true := by simp [k0]
              have HV : Hid (cfgV (cfgOf z s, 0) = .tuple #[.agg #[.int .u16 s.v, .int .u16 s.w, .int .u16 s.l, .int .i64 (z.e), .int .i64 (N / 2 + 1)], .int .i64 0]) := by show _ = _; unfold cfgV cfgOf; simp only [e0, k0, if_true, if_false, HN.out]
              clear e0 k0
              go_wp2_with fail
              refine bodyPost_ret (v := .tuple #[.agg #[.int .u16 s.v, .int .u16 s.w, .int .u16 s.l, .int .i64 (z.e), .int .i64 (N / 2 + 1)], .int .i64 0]) (by simp [results, Try.results23, go_sem, kR]) rfl ⟨by rw [HX.out, HV.out], ?_⟩
              repeat (first | (with_reducible refine Below.setCell ?_ (show w.heap.size ≤ w.heap.size + 1 by omega) _) | (with_reducible refine Below.setCell ?_ (show w.heap.size ≤ C by omega) _))
              exact HB5.out
            · have he : (z.e == 0) = false := by simp [e0]
              have hk : (z.k == 0) = false := by simp [k0]
              have HV : Hid (cfgV (cfgOf z s, 0) = .tuple #[.agg #[.int .u16 s.v, .int .u16 s.w, .int .u16 s.l, .int .i64 (z.e), .int .i64 (z.k)], .int .i64 0]) := by show _ = _; unfold cfgV cfgOf; simp only [e0, k0, if_false, HN.out]
              clear e0 k0
              go_wp2_with fail
              refine bodyPost_ret (v := .tuple #[.agg #[.int .u16 s.v, .int .u16 s.w, .int .u16 s.l, .int .i64 (z.e), .int .i64 (z.k)], .int .i64 0]) (by simp [results, Try.results23, go_sem, kR]) rfl ⟨by rw [HX.out, HV.out], ?_⟩
              repeat (first | (with_reducible refine Below.setCell ?_ (show w.heap.size ≤ w.heap.size + 1 by omega) _) | (with_reducible refine Below.setCell ?_ (show w.heap.size ≤ C by omega) _))
              exact HB5.out
end
end Go.Proofs.Ytihkkoldjllifaa
