/- The reference's Allot. -/
import Derived.Test.YtihkkoldjllifaaZoneH
import Derived.Test.YtihkkoldjllifaaCalmTail
import Derived.Test.YtihkkoldjllifaaHeld
namespace Go.Proofs.Ytihkkoldjllifaa
open Go.RowKit

section
variable (rs load : List Int) (z : Zn) (p pld pv pw pl : Option Addr) (cap capl cv cw cl : Nat)
theorem best_is (r used : Int) (hl : rs.length ≤ 1000) (hll : load.length ≤ 1000) (u0 : 0 ≤ used) (u1 : used ≤ 65535) (w : World) (hc : NumsAt w p rs) (hcl : NumsAt w pld load) {B : Nat} (h : Hid (bestP rs r used load = B)) :
    Calls Try.prog 49 #[.slice p rs.length cap, .int .i64 r, .int .u16 used, .slice pld load.length capl] w fun e w' => e = .returned (.int .i64 B) ∧ w = w' := by
  have := best_any rs load p pld cap capl r used hl hll u0 u1 w hc hcl
  rw [h.out] at this; exact this
theorem refCount_is (s : Int) (w : World) (h0 : 0 ≤ s) (h1 : s ≤ 65535) {N : Int} (h : Hid (cnt s = N)) :
    Calls Try.prog 50 #[.int .u16 s] w fun e w' => e = .returned (.int .i64 N) ∧ Below w.heap.size w w' := by
  have := refCount_any s w h0 h1
  rw [h.out] at this; exact this
set_option maxRecDepth 100000 in
set_option maxHeartbeats 16000000 in
theorem refAllot_any (hl : rs.length ≤ 1000) (hll : load.length ≤ 1000) (l0 : z.v.length ≤ 1000) (l1 : z.w.length ≤ 1000) (l2 : z.l.length ≤ 1000) (w : World) (hc : NumsAt w p rs) (hcl : NumsAt w pld load) (hz : ZoneAt w z pv pw pl) :
    Calls Try.prog 24 #[.slice p rs.length cap, .agg #[.slice pv z.v.length cv, .slice pw z.w.length cw, .slice pl z.l.length cl, .int .i64 z.e, .int .i64 z.k, .int .i64 z.s], .slice pld load.length capl] w fun r w' => r = .returned (cfgV (allotP rs load z)) ∧ Below w.heap.size w w' := by
  have HC := Lib.hid hc; have HCL := Lib.hid hcl; have HZ := Lib.hid hz
  clear hc hcl hz
  have B0 : Below w.heap.size w ((w.alloc (.cells #[.slice pv z.v.length cv, .slice pw z.w.length cw, .slice pl z.l.length cl, .int .i64 z.e, .int .i64 z.k, .int .i64 z.s] 43)).alloc (.cells #[.int .u16 0, .int .u16 0, .int .u16 0, .int .i64 0, .int .i64 0] 39)) := ((Below.refl _ _).alloc (Nat.le_refl _) _).alloc (by simp) _
  have HB0 := Lib.hid B0
  have HC0 := Lib.hid (HC.out.keep B0 (Nat.le_refl _))
  have HZ0 := Lib.hid (HZ.out.keep B0 (Nat.le_refl _))
  clear B0
  cases hb : regB rs
  · have HR := Lib.hid hb
    have HX : Hid (allotP rs load z = (noCfg, 1)) := allot_no (by rw [hb]; rfl)
    clear hb
    go_enter Try.func24, Try.ntmps24
    go_wp2_with fail
    refine (refMayRegions_any rs p cap _ hl HC0.out).mono ?_; rintro r w' ⟨rfl, rfl⟩; rw [HR.out]
    go_wp2_with fail
    refine bodyPost_ret (v := cfgV (noCfg, 1)) (by simp [results, Try.results24, go_sem, cfgV, noCfg]) rfl ⟨by rw [HX.out], ?_⟩
    repeat (with_reducible refine Below.setCell ?_ (show w.heap.size ≤ w.heap.size + 1 by omega) _)
    exact HB0.out
  · have HR := Lib.hid hb
    cases hmz : mayZ z
    · have HMZ := Lib.hid hmz
      have HX : Hid (allotP rs load z = (noCfg, 1)) := allot_no (by rw [hb, hmz]; rfl)
      clear hb hmz
      go_enter Try.func24, Try.ntmps24
      go_wp2_with fail
      refine (refMayRegions_any rs p cap _ hl HC0.out).mono ?_; rintro r w' ⟨rfl, rfl⟩; rw [HR.out]
      go_wp2_with fail
      refine (refMayZone_any z pv pw pl cv cw cl l0 l1 l2 _ HZ0.out).mono ?_; rintro r W1 ⟨rfl, hb1⟩; rw [HMZ.out]
      have hR1 := below_block hb1 (by simp) (heap_last (w.alloc (.cells #[.slice pv z.v.length cv, .slice pw z.w.length cw, .slice pl z.l.length cl, .int .i64 z.e, .int .i64 z.k, .int .i64 z.s] 43)) (.cells #[.int .u16 0, .int .u16 0, .int .u16 0, .int .i64 0, .int .i64 0] 39))
      simp only [World.size_alloc] at hR1
      have kR := block_cells hR1
      have kRf := block_free hR1
      have HBl := Lib.hid (HB0.out.trans (hb1.mono (by simp; omega)))
      clear hb1 hR1
      go_wp2_with fail
      refine bodyPost_ret (v := cfgV (noCfg, 1)) (by simp [results, Try.results24, go_sem, cfgV, noCfg, kR]) rfl ⟨by rw [HX.out], ?_⟩
      repeat (with_reducible refine Below.setCell ?_ (show w.heap.size ≤ w.heap.size + 1 by omega) _)
      exact HBl.out
    · have HMZ := Lib.hid hmz
      have HRM : Hid ((regB rs && mayZ z) = true) := by show _ = _; rw [hb, hmz]; rfl
      obtain ⟨T, hT⟩ : ∃ T, allotGo rs load z 12 0 ⟨0, 0, 0⟩ = T := ⟨_, rfl⟩
      have HT0 := Lib.hid hT
      clear hb hmz hT
      go_enter Try.func24, Try.ntmps24
      go_wp2_with fail
      refine (refMayRegions_any rs p cap _ hl HC0.out).mono ?_; rintro r w' ⟨rfl, rfl⟩; rw [HR.out]
      go_wp2_with fail
      refine (refMayZone_any z pv pw pl cv cw cl l0 l1 l2 _ HZ0.out).mono ?_; rintro r W1 ⟨rfl, hb1⟩; rw [HMZ.out]
      have hA1 := below_block hb1 (by simp; omega) (heap_prev (.cells #[.int .u16 0, .int .u16 0, .int .u16 0, .int .i64 0, .int .i64 0] 39) (heap_last w (.cells #[.slice pv z.v.length cv, .slice pw z.w.length cw, .slice pl z.l.length cl, .int .i64 z.e, .int .i64 z.k, .int .i64 z.s] 43)))
      have hR1 := below_block hb1 (by simp) (heap_last (w.alloc (.cells #[.slice pv z.v.length cv, .slice pw z.w.length cw, .slice pl z.l.length cl, .int .i64 z.e, .int .i64 z.k, .int .i64 z.s] 43)) (.cells #[.int .u16 0, .int .u16 0, .int .u16 0, .int .i64 0, .int .i64 0] 39))
      simp only [World.size_alloc] at hR1
      have hBl := HB0.out.trans (hb1.mono (by simp; omega))
      have hsz : w.heap.size + 1 < W1.heap.size := block_lt hR1
      have kA0 := fun (o : Obj) => block_cells (heap_prev o hA1)
      have kA1 := fun (o o' : Obj) => block_cells (heap_prev o' (heap_prev o hA1))
      clear hb1
      go_wp2_with fail
      clear kA0 kA1
      obtain ⟨C, hC⟩ : ∃ C, W1.heap.size = C := ⟨_, rfl⟩
      have hC2 := heap_last W1 (.cells #[.int .u16 0, .int .u16 0, .int .u16 0, .int .i64 0, .int .i64 0] 39)
      have h92 := heap_last (W1.alloc (.cells #[.int .u16 0, .int .u16 0, .int .u16 0, .int .i64 0, .int .i64 0] 39)) (.cells #[.pointer (some ⟨C, 0, none⟩), .pointer (some ⟨C, 1, none⟩), .pointer (some ⟨C, 2, none⟩)] 74)
      have h102 := heap_last ((W1.alloc (.cells #[.int .u16 0, .int .u16 0, .int .u16 0, .int .i64 0, .int .i64 0] 39)).alloc (.cells #[.pointer (some ⟨C, 0, none⟩), .pointer (some ⟨C, 1, none⟩), .pointer (some ⟨C, 2, none⟩)] 74)) (.cells #[.slice pv z.v.length cv, .slice pw z.w.length cw, .slice pl z.l.length cl] 35)
      simp only [World.size_alloc] at h92 h102
      rw [hC] at hC2 h92 h102 hsz ⊢
      replace h92 := heap_prev (.cells #[.slice pv z.v.length cv, .slice pw z.w.length cw, .slice pl z.l.length cl] 35) h92
      replace hC2 := heap_prev (.cells #[.slice pv z.v.length cv, .slice pw z.w.length cw, .slice pl z.l.length cl] 35) (heap_prev (.cells #[.pointer (some ⟨C, 0, none⟩), .pointer (some ⟨C, 1, none⟩), .pointer (some ⟨C, 2, none⟩)] 74) hC2)
      have hA2 := heap_prev (.cells #[.slice pv z.v.length cv, .slice pw z.w.length cw, .slice pl z.l.length cl] 35) (heap_prev (.cells #[.pointer (some ⟨C, 0, none⟩), .pointer (some ⟨C, 1, none⟩), .pointer (some ⟨C, 2, none⟩)] 74) (heap_prev (.cells #[.int .u16 0, .int .u16 0, .int .u16 0, .int .i64 0, .int .i64 0] 39) hA1))
      have hR2 := heap_prev (.cells #[.slice pv z.v.length cv, .slice pw z.w.length cw, .slice pl z.l.length cl] 35) (heap_prev (.cells #[.pointer (some ⟨C, 0, none⟩), .pointer (some ⟨C, 1, none⟩), .pointer (some ⟨C, 2, none⟩)] 74) (heap_prev (.cells #[.int .u16 0, .int .u16 0, .int .u16 0, .int .i64 0, .int .i64 0] 39) hR1))
      have hB2 : Below w.heap.size w (((W1.alloc (.cells #[.int .u16 0, .int .u16 0, .int .u16 0, .int .i64 0, .int .i64 0] 39)).alloc (.cells #[.pointer (some ⟨C, 0, none⟩), .pointer (some ⟨C, 1, none⟩), .pointer (some ⟨C, 2, none⟩)] 74)).alloc (.cells #[.slice pv z.v.length cv, .slice pw z.w.length cw, .slice pl z.l.length cl] 35)) := ((hBl.alloc hBl.size _).alloc (by have := hBl.size; simp; omega) _).alloc (by have := hBl.size; simp; omega) _
      obtain ⟨D, hD⟩ : ∃ D, C + 1 = D := ⟨_, rfl⟩
      rw [hD] at h92 h102 ⊢
      obtain ⟨E, hE⟩ : ∃ E, D + 1 = E := ⟨_, rfl⟩
      rw [hE] at h102 ⊢
      obtain ⟨W2, hW2⟩ : ∃ W2, (((W1.alloc (.cells #[.int .u16 0, .int .u16 0, .int .u16 0, .int .i64 0, .int .i64 0] 39)).alloc (.cells #[.pointer (some ⟨C, 0, none⟩), .pointer (some ⟨C, 1, none⟩), .pointer (some ⟨C, 2, none⟩)] 74)).alloc (.cells #[.slice pv z.v.length cv, .slice pw z.w.length cw, .slice pl z.l.length cl] 35)) = W2 := ⟨_, rfl⟩
      rw [hW2] at hA2 hR2 hC2 h92 h102 hB2 ⊢
      have hDC : D ≠ C := by omega
      have hEC : E ≠ C := by omega
      have HA2 := Lib.hid hA2; have HR2 := Lib.hid hR2; have HC2 := Lib.hid hC2; have HB2 := Lib.hid hB2; have H92 := Lib.hid h92; have H102 := Lib.hid h102
      clear hA1 hR1 hBl hA2 hR2 hC2 hB2 hC hW2 hD hE h92 h102
      go_loopw [11, 12] (fun u i wr => ∃ (r : Nat) (s : St), r ≤ 4 ∧ i = .int .i64 r ∧ u = .int .u16 s.all ∧ Hid (wr.heap[w.heap.size]? = some (.cells #[.slice pv z.v.length cv, .slice pw z.w.length cw, .slice pl z.l.length cl, .int .i64 z.e, .int .i64 z.k, .int .i64 z.s] 43 (0, 0))) ∧ Hid (wr.heap[w.heap.size + 1]? = some (.cells #[.int .u16 0, .int .u16 0, .int .u16 0, .int .i64 0, .int .i64 0] 39 (0, 0))) ∧ Hid (wr.heap[C]? = some (.cells #[.int .u16 s.v, .int .u16 s.w, .int .u16 s.l, .int .i64 0, .int .i64 0] 39 (0, 0))) ∧ Hid (wr.heap[D]? = some (.cells #[.pointer (some ⟨C, 0, none⟩), .pointer (some ⟨C, 1, none⟩), .pointer (some ⟨C, 2, none⟩)] 74 (0, 0))) ∧ Hid (wr.heap[E]? = some (.cells #[.slice pv z.v.length cv, .slice pw z.w.length cw, .slice pl z.l.length cl] 35 (0, 0))) ∧ s.Fit ∧ Hid (allotGo rs load z (12 - 3 * r) (3 * r) s = T) ∧ Hid (Below w.heap.size w wr)) (fun _ i _ => 4 - (intOf i).toNat)
      case atStart => exact ⟨0, ⟨0, 0, 0⟩, by omega, rfl, by rw [show St.all ⟨0, 0, 0⟩ = 0 by decide +kernel], HA2, HR2, HC2, H92, H102, ⟨by decide, by decide, by decide, by decide, by decide, by decide⟩, HT0, HB2⟩
      case round =>
        obtain ⟨r, s, hr4, rfl, rfl, hzb, hrb, hcb, h9, h10, hfit, hg, hbel⟩ := hrel
        obtain ⟨V, rfl⟩ : ∃ V : World, V = wr := ⟨_, rfl⟩
        clear HA2 HR2 HC2 HB2 HR HC0 HZ0 H92 H102
        by_cases hlt : r < 4
        · have hd4 : decide ((r : Int) < 4) = true := by simp; omega
          have HG3 : Hid (allotGo rs load z (12 - (3 * r + 0)) (3 * r + 0) s = T) := hg.out
          go_wp2_with fail
          go_loopw [11, 13] (fun u i wr => ∃ (q : Nat) (s : St), q ≤ 3 ∧ i = .int .i64 q ∧ u = .int .u16 s.all ∧ Hid (wr.heap[w.heap.size]? = some (.cells #[.slice pv z.v.length cv, .slice pw z.w.length cw, .slice pl z.l.length cl, .int .i64 z.e, .int .i64 z.k, .int .i64 z.s] 43 (0, 0))) ∧ Hid (wr.heap[w.heap.size + 1]? = some (.cells #[.int .u16 0, .int .u16 0, .int .u16 0, .int .i64 0, .int .i64 0] 39 (0, 0))) ∧ Hid (wr.heap[C]? = some (.cells #[.int .u16 s.v, .int .u16 s.w, .int .u16 s.l, .int .i64 0, .int .i64 0] 39 (0, 0))) ∧ Hid (wr.heap[D]? = some (.cells #[.pointer (some ⟨C, 0, none⟩), .pointer (some ⟨C, 1, none⟩), .pointer (some ⟨C, 2, none⟩)] 74 (0, 0))) ∧ Hid (wr.heap[E]? = some (.cells #[.slice pv z.v.length cv, .slice pw z.w.length cw, .slice pl z.l.length cl] 35 (0, 0))) ∧ s.Fit ∧ Hid (allotGo rs load z (12 - (3 * r + q)) (3 * r + q) s = T) ∧ Hid (Below w.heap.size w wr)) (fun _ i _ => 3 - (intOf i).toNat)
          case atStart => exact ⟨0, s, by omega, rfl, rfl, hzb, hrb, hcb, h9, h10, hfit, HG3, hbel⟩
          case round =>
          clear hzb hrb hcb h9 h10 hfit hg hbel HG3
          obtain ⟨q, s, hq3, rfl, rfl, hzb, hrb, hcb, h9, h10, hfit, hg, hbel⟩ := hrel
          obtain ⟨V, rfl⟩ : ∃ V : World, V = wr := ⟨_, rfl⟩
          have kC := block_cells hcb.out
          obtain rfl | rfl | rfl | rfl : q = 0 ∨ q = 1 ∨ q = 2 ∨ q = 3 := by omega
          · -- list 0
            rw [show ((0 : Nat) : Int) = 0 from rfl]
            obtain ⟨N, hN9, hN⟩ := mayZ_get HMZ.out 0 (by omega) r
            have hst := stepA_eq rs load z r 0 (by omega) s
            rw [hN, Int.toNat_natCast] at hst
            obtain ⟨TK, hTK⟩ : ∃ TK, takeP rs (r : Int) load s.all N 0 = TK := ⟨_, rfl⟩
            rw [hTK] at hst
            have HTK0 : Hid (takeP rs (r : Int) load s.all (N - 0) 0 = TK) := hTK
            have HST := Lib.hid hst
            have HN : Hid (z.v.getD r 0 = (N : Int)) := hN
            have HZ0 : Hid (bits .or .u16 s.v 0 = s.v) := or_zero16 _ hfit.v0 hfit.v1
            have HU0 : Hid (bits .or .u16 s.all 0 = s.all) := or_zero16 _ (all_fit s).1 (all_fit s).2
            have hcb0 : Hid (V.heap[C]? = some (.cells #[.int .u16 (bits .or .u16 s.v 0), .int .u16 s.w, .int .u16 s.l, .int .i64 0, .int .i64 0] 39 (0, 0))) := by show _ = _; rw [HZ0.out]; exact hcb.out
            clear hst hTK hN kC hcb
            go_wp2_with fail
            rw [← HU0.out]
            go_loopw [11, 14] (fun u kk wr => ∃ (k : Nat) (got : Int), k ≤ N ∧ kk = .int .i64 k ∧ u = .int .u16 (bits .or .u16 s.all got) ∧ 0 ≤ got ∧ got ≤ 65535 ∧ Hid (wr.heap[w.heap.size]? = some (.cells #[.slice pv z.v.length cv, .slice pw z.w.length cw, .slice pl z.l.length cl, .int .i64 z.e, .int .i64 z.k, .int .i64 z.s] 43 (0, 0))) ∧ Hid (wr.heap[w.heap.size + 1]? = some (.cells #[.int .u16 0, .int .u16 0, .int .u16 0, .int .i64 0, .int .i64 0] 39 (0, 0))) ∧ Hid (wr.heap[C]? = some (.cells #[.int .u16 (bits .or .u16 s.v got), .int .u16 s.w, .int .u16 s.l, .int .i64 0, .int .i64 0] 39 (0, 0))) ∧ Hid (wr.heap[D]? = some (.cells #[.pointer (some ⟨C, 0, none⟩), .pointer (some ⟨C, 1, none⟩), .pointer (some ⟨C, 2, none⟩)] 74 (0, 0))) ∧ Hid (wr.heap[E]? = some (.cells #[.slice pv z.v.length cv, .slice pw z.w.length cw, .slice pl z.l.length cl] 35 (0, 0))) ∧ Hid (takeP rs (r : Int) load s.all (N - k) got = TK) ∧ Hid (Below w.heap.size w wr)) (fun _ i _ => N - (intOf i).toNat)
            case atStart => exact ⟨0, 0, by omega, rfl, rfl, by omega, by omega, hzb, hrb, hcb0, h9, h10, HTK0, hbel⟩
            case round =>
              clear hzb hrb hcb0 h9 h10 HTK0 hbel HZ0 HU0
              obtain ⟨k, got, hk, rfl, rfl, g0, g1, hzb, hrb, hcb, h9, h10, ht, hbel⟩ := hrel
              obtain ⟨V, rfl⟩ : ∃ V : World, V = wr := ⟨_, rfl⟩
              obtain ⟨x0, x1⟩ := bits_fit .or s.all got
              obtain ⟨y0, y1⟩ := bits_fit .or s.v got
              have kC := block_cells hcb.out
              have k9 := block_cells h9.out
              have k10 := block_cells h10.out
              by_cases hrl : r < z.v.length
              · obtain ⟨ga, o, hpa, hga, hcell⟩ := (HZ.out.nv.keep hbel.out (Nat.le_refl _)) r hrl
                have hget : z.v[r] = (N : Int) := by
                  have := HN.out; rw [List.getD_eq_getElem?_getD, List.getElem?_eq_getElem hrl] at this; exact this
                rw [hget] at hcell
                have hrd : decide ((r : Int) < (z.v.length : Int)) = true := by simp; omega
                clear hget
                by_cases hkN : k < N
                · obtain ⟨B, hB⟩ : ∃ B, bestP rs (r : Int) (bits .or .u16 s.all got) load = B := ⟨_, rfl⟩
                  have HB := Lib.hid hB
                  have HCr := Lib.hid (HC.out.keep hbel.out (Nat.le_refl _))
                  have HCl := Lib.hid (HCL.out.keep hbel.out (Nat.le_refl _))
                  clear hB
                  by_cases hb0 : B = 0
                  · subst hb0
                    have hno : TK = none := by rw [← ht.out, takeP_no (by omega) HB.out]
                    have hstep : stepA rs load z (3 * r + 0) s = none := by rw [HST.out, hno]; rfl
                    have HX : Hid (allotP rs load z = (noCfg, 8)) := allot_full HRM.out (HT0.out.trans (hg.out.symm.trans (allotGo_no (by omega) hstep)))
                    have kR := block_cells hrb.out
                    have kRf := block_free hrb.out
                    clear hno hstep ht hg
                    subst hpa
                    go_wp2_with fail
                    refine (best_is rs load p pld cap capl _ _ hl hll x0 x1 _ HCr.out HCl.out HB).mono ?_; rintro e w' ⟨rfl, rfl⟩
                    go_wp2_with fail
                    refine bodyPost_ret (v := cfgV (noCfg, 8)) (by simp [results, Try.results24, go_sem, cfgV, noCfg, kR]) rfl ⟨by rw [HX.out], ?_⟩
                    repeat (with_reducible refine Below.setCell ?_ (show w.heap.size ≤ w.heap.size + 1 by omega) _)
                    exact hbel.out
                  · have hz : ((B : Int) == 0) = false := by simp; omega
                    have HTN : Hid (takeP rs (r : Int) load s.all (N - (k + 1)) (bits .or .u16 got (oneB B)) = TK) := by
                      show _ = _; rw [← ht.out, takeP_yes (n := N - k) (by omega) (by rw [HB.out]; exact hb0), HB.out]; rfl
                    obtain ⟨o0, o1⟩ := oneB_fit B
                    have HA1 := Lib.hid (or_assoc16 s.all got (oneB B) (all_fit s).1 g0 o0)
                    have HA2 := Lib.hid (or_assoc16 s.v got (oneB B) hfit.v0 g0 o0)
                    obtain ⟨n0, n1⟩ := bits_fit .or got (oneB B)
                    clear ht hb0
                    subst hpa
                    go_wp2_with fail
                    refine (best_is rs load p pld cap capl _ _ hl hll x0 x1 _ HCr.out HCl.out HB).mono ?_; rintro e w' ⟨rfl, rfl⟩
                    go_wp2_with fail
                    refine (refWith_any _ _ _ x0 x1).mono ?_; rintro e w' ⟨rfl, rfl⟩
                    rw [HA1.out]
                    go_wp2_with fail
                    clear kC k9 k10 hcell
                    obtain ⟨U, f, hU, hf, hg⟩ := calm_class (V); obtain ⟨u0, hu0⟩ := hg _ (Below.refl _ _); rw [hu0]; clear hu0
                    have HCu : Hid (∀ u, (f u).heap[C]? = some (.cells #[.int .u16 (bits .or .u16 s.v got), .int .u16 s.w, .int .u16 s.l, .int .i64 0, .int .i64 0] 39 (0, 0))) := fun u => calm_heap hf hcb.out u
                    have HBu : Hid (∀ u, Below V.heap.size V (f u)) := hf
                    have kC := fun u => block_cells (HCu.out u)
                    have kCf := fun u => block_free (HCu.out u)
                    have k9 := fun u => block_cells (calm_heap hf h9.out u)
                    refine wp_region_calm_tail f 13 (by kernel_rfl) (by kernel_rfl) (calm_drew hf hg _) ?_
                    simp only [List.take_succ_cons, List.take_zero, List.drop_succ_cons, List.drop_zero]
                    repeat (go_big_quiet_step ((first | (go_at_call 32; exact calm_same (refWith_any _ _ _ y0 y1)))))
                    refine wpQuiet_nil ?_; intro u
                    rw [HA2.out]
                    go_wp2_with fail
                    have HCN : Hid (((f u).setCell ⟨C, 0, none⟩ (.int .u16 (bits .or .u16 s.v (bits .or .u16 got (oneB B))))).heap[C]? = some (.cells #[.int .u16 (bits .or .u16 s.v (bits .or .u16 got (oneB B))), .int .u16 s.w, .int .u16 s.l, .int .i64 0, .int .i64 0] 39 (0, 0))) := cells_setCell (HCu.out u)
                    go_roundw
                    case rel => exact ⟨k + 1, _, by omega, by go_num, rfl, n0, n1, far_set (below_block (HBu.out u) (block_lt hzb.out) hzb.out) (by show w.heap.size ≠ C; omega), far_set (below_block (HBu.out u) (block_lt hrb.out) hrb.out) (by show w.heap.size + 1 ≠ C; omega), HCN, far_set (below_block (HBu.out u) (block_lt h9.out) h9.out) (by show D ≠ C; omega), far_set (below_block (HBu.out u) (block_lt h10.out) h10.out) (by show E ≠ C; omega), HTN, (hbel.out.trans ((HBu.out u).mono hbel.out.size)).setCell (by show w.heap.size ≤ C; omega) _⟩
                    case measure => simp [intOf]; omega
                · obtain rfl : k = N := by omega
                  have hyes : TK = some got := by rw [← ht.out, Nat.sub_self]; rfl
                  have hstep : stepA rs load z (3 * r + 0) s = some (s.put 0 got) := by rw [HST.out, hyes]; rfl
                  have HNX : Hid (allotGo rs load z (12 - (3 * r + 1)) (3 * r + 1) (s.put 0 got) = T) := by show _ = _; rw [← hg.out, allotGo_yes (by omega) hstep]; rfl
                  have HPF := Lib.hid (St.fit_put hfit 0 got)
                  have HAP := Lib.hid (all_put hfit 0 (by omega) got g0)
                  clear hyes hstep ht hg
                  subst hpa
                  go_wp2_with fail
                  go_roundw
                  case rel => exact ⟨1, s.put 0 got, by omega, by go_num, by rw [HAP.out], hzb, hrb, hcb, h9, h10, HPF.out, HNX.out, hbel⟩
                  case measure => simp [intOf]
              · have hN0 : N = 0 := by
                  have := HN.out; rw [List.getD_eq_getElem?_getD, List.getElem?_eq_none (by omega)] at this; simp at this; omega
                have hk0 : k = 0 := by omega
                have hyes : TK = some got := by rw [← ht.out, hN0, Nat.zero_sub]; rfl
                have hstep : stepA rs load z (3 * r + 0) s = some (s.put 0 got) := by rw [HST.out, hyes]; rfl
                have HNX : Hid (allotGo rs load z (12 - (3 * r + 1)) (3 * r + 1) (s.put 0 got) = T) := by show _ = _; rw [← hg.out, allotGo_yes (by omega) hstep]; rfl
                have HPF := Lib.hid (St.fit_put hfit 0 got)
                have HAP := Lib.hid (all_put hfit 0 (by omega) got g0)
                have hrd : decide ((r : Int) < (z.v.length : Int)) = false := by simp; omega
                clear hyes hstep ht hg hN0 hk0
                go_wp2_with fail
                go_roundw
                case rel => exact ⟨1, s.put 0 got, by omega, by go_num, by rw [HAP.out], hzb, hrb, hcb, h9, h10, HPF.out, HNX.out, hbel⟩
                case measure => simp [intOf]
          · -- list 1
            rw [show ((1 : Nat) : Int) = 1 from rfl]
            obtain ⟨N, hN9, hN⟩ := mayZ_get HMZ.out 1 (by omega) r
            have hst := stepA_eq rs load z r 1 (by omega) s
            rw [hN, Int.toNat_natCast] at hst
            obtain ⟨TK, hTK⟩ : ∃ TK, takeP rs (r : Int) load s.all N 0 = TK := ⟨_, rfl⟩
            rw [hTK] at hst
            have HTK0 : Hid (takeP rs (r : Int) load s.all (N - 0) 0 = TK) := hTK
            have HST := Lib.hid hst
            have HN : Hid (z.w.getD r 0 = (N : Int)) := hN
            have HZ0 : Hid (bits .or .u16 s.w 0 = s.w) := or_zero16 _ hfit.w0 hfit.w1
            have HU0 : Hid (bits .or .u16 s.all 0 = s.all) := or_zero16 _ (all_fit s).1 (all_fit s).2
            have hcb0 : Hid (V.heap[C]? = some (.cells #[.int .u16 s.v, .int .u16 (bits .or .u16 s.w 0), .int .u16 s.l, .int .i64 0, .int .i64 0] 39 (0, 0))) := by show _ = _; rw [HZ0.out]; exact hcb.out
            clear hst hTK hN kC hcb
            go_wp2_with fail
            rw [← HU0.out]
            go_loopw [11, 14] (fun u kk wr => ∃ (k : Nat) (got : Int), k ≤ N ∧ kk = .int .i64 k ∧ u = .int .u16 (bits .or .u16 s.all got) ∧ 0 ≤ got ∧ got ≤ 65535 ∧ Hid (wr.heap[w.heap.size]? = some (.cells #[.slice pv z.v.length cv, .slice pw z.w.length cw, .slice pl z.l.length cl, .int .i64 z.e, .int .i64 z.k, .int .i64 z.s] 43 (0, 0))) ∧ Hid (wr.heap[w.heap.size + 1]? = some (.cells #[.int .u16 0, .int .u16 0, .int .u16 0, .int .i64 0, .int .i64 0] 39 (0, 0))) ∧ Hid (wr.heap[C]? = some (.cells #[.int .u16 s.v, .int .u16 (bits .or .u16 s.w got), .int .u16 s.l, .int .i64 0, .int .i64 0] 39 (0, 0))) ∧ Hid (wr.heap[D]? = some (.cells #[.pointer (some ⟨C, 0, none⟩), .pointer (some ⟨C, 1, none⟩), .pointer (some ⟨C, 2, none⟩)] 74 (0, 0))) ∧ Hid (wr.heap[E]? = some (.cells #[.slice pv z.v.length cv, .slice pw z.w.length cw, .slice pl z.l.length cl] 35 (0, 0))) ∧ Hid (takeP rs (r : Int) load s.all (N - k) got = TK) ∧ Hid (Below w.heap.size w wr)) (fun _ i _ => N - (intOf i).toNat)
            case atStart => exact ⟨0, 0, by omega, rfl, rfl, by omega, by omega, hzb, hrb, hcb0, h9, h10, HTK0, hbel⟩
            case round =>
              clear hzb hrb hcb0 h9 h10 HTK0 hbel HZ0 HU0
              obtain ⟨k, got, hk, rfl, rfl, g0, g1, hzb, hrb, hcb, h9, h10, ht, hbel⟩ := hrel
              obtain ⟨V, rfl⟩ : ∃ V : World, V = wr := ⟨_, rfl⟩
              obtain ⟨x0, x1⟩ := bits_fit .or s.all got
              obtain ⟨y0, y1⟩ := bits_fit .or s.w got
              have kC := block_cells hcb.out
              have k9 := block_cells h9.out
              have k10 := block_cells h10.out
              by_cases hrl : r < z.w.length
              · obtain ⟨ga, o, hpa, hga, hcell⟩ := (HZ.out.nw.keep hbel.out (Nat.le_refl _)) r hrl
                have hget : z.w[r] = (N : Int) := by
                  have := HN.out; rw [List.getD_eq_getElem?_getD, List.getElem?_eq_getElem hrl] at this; exact this
                rw [hget] at hcell
                have hrd : decide ((r : Int) < (z.w.length : Int)) = true := by simp; omega
                clear hget
                by_cases hkN : k < N
                · obtain ⟨B, hB⟩ : ∃ B, bestP rs (r : Int) (bits .or .u16 s.all got) load = B := ⟨_, rfl⟩
                  have HB := Lib.hid hB
                  have HCr := Lib.hid (HC.out.keep hbel.out (Nat.le_refl _))
                  have HCl := Lib.hid (HCL.out.keep hbel.out (Nat.le_refl _))
                  clear hB
                  by_cases hb0 : B = 0
                  · subst hb0
                    have hno : TK = none := by rw [← ht.out, takeP_no (by omega) HB.out]
                    have hstep : stepA rs load z (3 * r + 1) s = none := by rw [HST.out, hno]; rfl
                    have HX : Hid (allotP rs load z = (noCfg, 8)) := allot_full HRM.out (HT0.out.trans (hg.out.symm.trans (allotGo_no (by omega) hstep)))
                    have kR := block_cells hrb.out
                    have kRf := block_free hrb.out
                    clear hno hstep ht hg
                    subst hpa
                    go_wp2_with fail
                    refine (best_is rs load p pld cap capl _ _ hl hll x0 x1 _ HCr.out HCl.out HB).mono ?_; rintro e w' ⟨rfl, rfl⟩
                    go_wp2_with fail
                    refine bodyPost_ret (v := cfgV (noCfg, 8)) (by simp [results, Try.results24, go_sem, cfgV, noCfg, kR]) rfl ⟨by rw [HX.out], ?_⟩
                    repeat (with_reducible refine Below.setCell ?_ (show w.heap.size ≤ w.heap.size + 1 by omega) _)
                    exact hbel.out
                  · have hz : ((B : Int) == 0) = false := by simp; omega
                    have HTN : Hid (takeP rs (r : Int) load s.all (N - (k + 1)) (bits .or .u16 got (oneB B)) = TK) := by
                      show _ = _; rw [← ht.out, takeP_yes (n := N - k) (by omega) (by rw [HB.out]; exact hb0), HB.out]; rfl
                    obtain ⟨o0, o1⟩ := oneB_fit B
                    have HA1 := Lib.hid (or_assoc16 s.all got (oneB B) (all_fit s).1 g0 o0)
                    have HA2 := Lib.hid (or_assoc16 s.w got (oneB B) hfit.w0 g0 o0)
                    obtain ⟨n0, n1⟩ := bits_fit .or got (oneB B)
                    clear ht hb0
                    subst hpa
                    go_wp2_with fail
                    refine (best_is rs load p pld cap capl _ _ hl hll x0 x1 _ HCr.out HCl.out HB).mono ?_; rintro e w' ⟨rfl, rfl⟩
                    go_wp2_with fail
                    refine (refWith_any _ _ _ x0 x1).mono ?_; rintro e w' ⟨rfl, rfl⟩
                    rw [HA1.out]
                    go_wp2_with fail
                    clear kC k9 k10 hcell
                    obtain ⟨U, f, hU, hf, hg⟩ := calm_class (V); obtain ⟨u0, hu0⟩ := hg _ (Below.refl _ _); rw [hu0]; clear hu0
                    have HCu : Hid (∀ u, (f u).heap[C]? = some (.cells #[.int .u16 s.v, .int .u16 (bits .or .u16 s.w got), .int .u16 s.l, .int .i64 0, .int .i64 0] 39 (0, 0))) := fun u => calm_heap hf hcb.out u
                    have HBu : Hid (∀ u, Below V.heap.size V (f u)) := hf
                    have kC := fun u => block_cells (HCu.out u)
                    have kCf := fun u => block_free (HCu.out u)
                    have k9 := fun u => block_cells (calm_heap hf h9.out u)
                    refine wp_region_calm_tail f 13 (by kernel_rfl) (by kernel_rfl) (calm_drew hf hg _) ?_
                    simp only [List.take_succ_cons, List.take_zero, List.drop_succ_cons, List.drop_zero]
                    repeat (go_big_quiet_step ((first | (go_at_call 32; exact calm_same (refWith_any _ _ _ y0 y1)))))
                    refine wpQuiet_nil ?_; intro u
                    rw [HA2.out]
                    go_wp2_with fail
                    have HCN : Hid (((f u).setCell ⟨C, 1, none⟩ (.int .u16 (bits .or .u16 s.w (bits .or .u16 got (oneB B))))).heap[C]? = some (.cells #[.int .u16 s.v, .int .u16 (bits .or .u16 s.w (bits .or .u16 got (oneB B))), .int .u16 s.l, .int .i64 0, .int .i64 0] 39 (0, 0))) := cells_setCell (HCu.out u)
                    go_roundw
                    case rel => exact ⟨k + 1, _, by omega, by go_num, rfl, n0, n1, far_set (below_block (HBu.out u) (block_lt hzb.out) hzb.out) (by show w.heap.size ≠ C; omega), far_set (below_block (HBu.out u) (block_lt hrb.out) hrb.out) (by show w.heap.size + 1 ≠ C; omega), HCN, far_set (below_block (HBu.out u) (block_lt h9.out) h9.out) (by show D ≠ C; omega), far_set (below_block (HBu.out u) (block_lt h10.out) h10.out) (by show E ≠ C; omega), HTN, (hbel.out.trans ((HBu.out u).mono hbel.out.size)).setCell (by show w.heap.size ≤ C; omega) _⟩
                    case measure => simp [intOf]; omega
                · obtain rfl : k = N := by omega
                  have hyes : TK = some got := by rw [← ht.out, Nat.sub_self]; rfl
                  have hstep : stepA rs load z (3 * r + 1) s = some (s.put 1 got) := by rw [HST.out, hyes]; rfl
                  have HNX : Hid (allotGo rs load z (12 - (3 * r + 2)) (3 * r + 2) (s.put 1 got) = T) := by show _ = _; rw [← hg.out, allotGo_yes (by omega) hstep]; rfl
                  have HPF := Lib.hid (St.fit_put hfit 1 got)
                  have HAP := Lib.hid (all_put hfit 1 (by omega) got g0)
                  clear hyes hstep ht hg
                  subst hpa
                  go_wp2_with fail
                  go_roundw
                  case rel => exact ⟨2, s.put 1 got, by omega, by go_num, by rw [HAP.out], hzb, hrb, hcb, h9, h10, HPF.out, HNX.out, hbel⟩
                  case measure => simp [intOf]
              · have hN0 : N = 0 := by
                  have := HN.out; rw [List.getD_eq_getElem?_getD, List.getElem?_eq_none (by omega)] at this; simp at this; omega
                have hk0 : k = 0 := by omega
                have hyes : TK = some got := by rw [← ht.out, hN0, Nat.zero_sub]; rfl
                have hstep : stepA rs load z (3 * r + 1) s = some (s.put 1 got) := by rw [HST.out, hyes]; rfl
                have HNX : Hid (allotGo rs load z (12 - (3 * r + 2)) (3 * r + 2) (s.put 1 got) = T) := by show _ = _; rw [← hg.out, allotGo_yes (by omega) hstep]; rfl
                have HPF := Lib.hid (St.fit_put hfit 1 got)
                have HAP := Lib.hid (all_put hfit 1 (by omega) got g0)
                have hrd : decide ((r : Int) < (z.w.length : Int)) = false := by simp; omega
                clear hyes hstep ht hg hN0 hk0
                go_wp2_with fail
                go_roundw
                case rel => exact ⟨2, s.put 1 got, by omega, by go_num, by rw [HAP.out], hzb, hrb, hcb, h9, h10, HPF.out, HNX.out, hbel⟩
                case measure => simp [intOf]
          · -- list 2
            rw [show ((2 : Nat) : Int) = 2 from rfl]
            obtain ⟨N, hN9, hN⟩ := mayZ_get HMZ.out 2 (by omega) r
            have hst := stepA_eq rs load z r 2 (by omega) s
            rw [hN, Int.toNat_natCast] at hst
            obtain ⟨TK, hTK⟩ : ∃ TK, takeP rs (r : Int) load s.all N 0 = TK := ⟨_, rfl⟩
            rw [hTK] at hst
            have HTK0 : Hid (takeP rs (r : Int) load s.all (N - 0) 0 = TK) := hTK
            have HST := Lib.hid hst
            have HN : Hid (z.l.getD r 0 = (N : Int)) := hN
            have HZ0 : Hid (bits .or .u16 s.l 0 = s.l) := or_zero16 _ hfit.l0 hfit.l1
            have HU0 : Hid (bits .or .u16 s.all 0 = s.all) := or_zero16 _ (all_fit s).1 (all_fit s).2
            have hcb0 : Hid (V.heap[C]? = some (.cells #[.int .u16 s.v, .int .u16 s.w, .int .u16 (bits .or .u16 s.l 0), .int .i64 0, .int .i64 0] 39 (0, 0))) := by show _ = _; rw [HZ0.out]; exact hcb.out
            clear hst hTK hN kC hcb
            go_wp2_with fail
            rw [← HU0.out]
            go_loopw [11, 14] (fun u kk wr => ∃ (k : Nat) (got : Int), k ≤ N ∧ kk = .int .i64 k ∧ u = .int .u16 (bits .or .u16 s.all got) ∧ 0 ≤ got ∧ got ≤ 65535 ∧ Hid (wr.heap[w.heap.size]? = some (.cells #[.slice pv z.v.length cv, .slice pw z.w.length cw, .slice pl z.l.length cl, .int .i64 z.e, .int .i64 z.k, .int .i64 z.s] 43 (0, 0))) ∧ Hid (wr.heap[w.heap.size + 1]? = some (.cells #[.int .u16 0, .int .u16 0, .int .u16 0, .int .i64 0, .int .i64 0] 39 (0, 0))) ∧ Hid (wr.heap[C]? = some (.cells #[.int .u16 s.v, .int .u16 s.w, .int .u16 (bits .or .u16 s.l got), .int .i64 0, .int .i64 0] 39 (0, 0))) ∧ Hid (wr.heap[D]? = some (.cells #[.pointer (some ⟨C, 0, none⟩), .pointer (some ⟨C, 1, none⟩), .pointer (some ⟨C, 2, none⟩)] 74 (0, 0))) ∧ Hid (wr.heap[E]? = some (.cells #[.slice pv z.v.length cv, .slice pw z.w.length cw, .slice pl z.l.length cl] 35 (0, 0))) ∧ Hid (takeP rs (r : Int) load s.all (N - k) got = TK) ∧ Hid (Below w.heap.size w wr)) (fun _ i _ => N - (intOf i).toNat)
            case atStart => exact ⟨0, 0, by omega, rfl, rfl, by omega, by omega, hzb, hrb, hcb0, h9, h10, HTK0, hbel⟩
            case round =>
              clear hzb hrb hcb0 h9 h10 HTK0 hbel HZ0 HU0
              obtain ⟨k, got, hk, rfl, rfl, g0, g1, hzb, hrb, hcb, h9, h10, ht, hbel⟩ := hrel
              obtain ⟨V, rfl⟩ : ∃ V : World, V = wr := ⟨_, rfl⟩
              obtain ⟨x0, x1⟩ := bits_fit .or s.all got
              obtain ⟨y0, y1⟩ := bits_fit .or s.l got
              have kC := block_cells hcb.out
              have k9 := block_cells h9.out
              have k10 := block_cells h10.out
              by_cases hrl : r < z.l.length
              · obtain ⟨ga, o, hpa, hga, hcell⟩ := (HZ.out.nl.keep hbel.out (Nat.le_refl _)) r hrl
                have hget : z.l[r] = (N : Int) := by
                  have := HN.out; rw [List.getD_eq_getElem?_getD, List.getElem?_eq_getElem hrl] at this; exact this
                rw [hget] at hcell
                have hrd : decide ((r : Int) < (z.l.length : Int)) = true := by simp; omega
                clear hget
                by_cases hkN : k < N
                · obtain ⟨B, hB⟩ : ∃ B, bestP rs (r : Int) (bits .or .u16 s.all got) load = B := ⟨_, rfl⟩
                  have HB := Lib.hid hB
                  have HCr := Lib.hid (HC.out.keep hbel.out (Nat.le_refl _))
                  have HCl := Lib.hid (HCL.out.keep hbel.out (Nat.le_refl _))
                  clear hB
                  by_cases hb0 : B = 0
                  · subst hb0
                    have hno : TK = none := by rw [← ht.out, takeP_no (by omega) HB.out]
                    have hstep : stepA rs load z (3 * r + 2) s = none := by rw [HST.out, hno]; rfl
                    have HX : Hid (allotP rs load z = (noCfg, 8)) := allot_full HRM.out (HT0.out.trans (hg.out.symm.trans (allotGo_no (by omega) hstep)))
                    have kR := block_cells hrb.out
                    have kRf := block_free hrb.out
                    clear hno hstep ht hg
                    subst hpa
                    go_wp2_with fail
                    refine (best_is rs load p pld cap capl _ _ hl hll x0 x1 _ HCr.out HCl.out HB).mono ?_; rintro e w' ⟨rfl, rfl⟩
                    go_wp2_with fail
                    refine bodyPost_ret (v := cfgV (noCfg, 8)) (by simp [results, Try.results24, go_sem, cfgV, noCfg, kR]) rfl ⟨by rw [HX.out], ?_⟩
                    repeat (with_reducible refine Below.setCell ?_ (show w.heap.size ≤ w.heap.size + 1 by omega) _)
                    exact hbel.out
                  · have hz : ((B : Int) == 0) = false := by simp; omega
                    have HTN : Hid (takeP rs (r : Int) load s.all (N - (k + 1)) (bits .or .u16 got (oneB B)) = TK) := by
                      show _ = _; rw [← ht.out, takeP_yes (n := N - k) (by omega) (by rw [HB.out]; exact hb0), HB.out]; rfl
                    obtain ⟨o0, o1⟩ := oneB_fit B
                    have HA1 := Lib.hid (or_assoc16 s.all got (oneB B) (all_fit s).1 g0 o0)
                    have HA2 := Lib.hid (or_assoc16 s.l got (oneB B) hfit.l0 g0 o0)
                    obtain ⟨n0, n1⟩ := bits_fit .or got (oneB B)
                    clear ht hb0
                    subst hpa
                    go_wp2_with fail
                    refine (best_is rs load p pld cap capl _ _ hl hll x0 x1 _ HCr.out HCl.out HB).mono ?_; rintro e w' ⟨rfl, rfl⟩
                    go_wp2_with fail
                    refine (refWith_any _ _ _ x0 x1).mono ?_; rintro e w' ⟨rfl, rfl⟩
                    rw [HA1.out]
                    go_wp2_with fail
                    clear kC k9 k10 hcell
                    obtain ⟨U, f, hU, hf, hg⟩ := calm_class (V); obtain ⟨u0, hu0⟩ := hg _ (Below.refl _ _); rw [hu0]; clear hu0
                    have HCu : Hid (∀ u, (f u).heap[C]? = some (.cells #[.int .u16 s.v, .int .u16 s.w, .int .u16 (bits .or .u16 s.l got), .int .i64 0, .int .i64 0] 39 (0, 0))) := fun u => calm_heap hf hcb.out u
                    have HBu : Hid (∀ u, Below V.heap.size V (f u)) := hf
                    have kC := fun u => block_cells (HCu.out u)
                    have kCf := fun u => block_free (HCu.out u)
                    have k9 := fun u => block_cells (calm_heap hf h9.out u)
                    refine wp_region_calm_tail f 13 (by kernel_rfl) (by kernel_rfl) (calm_drew hf hg _) ?_
                    simp only [List.take_succ_cons, List.take_zero, List.drop_succ_cons, List.drop_zero]
                    repeat (go_big_quiet_step ((first | (go_at_call 32; exact calm_same (refWith_any _ _ _ y0 y1)))))
                    refine wpQuiet_nil ?_; intro u
                    rw [HA2.out]
                    go_wp2_with fail
                    have HCN : Hid (((f u).setCell ⟨C, 2, none⟩ (.int .u16 (bits .or .u16 s.l (bits .or .u16 got (oneB B))))).heap[C]? = some (.cells #[.int .u16 s.v, .int .u16 s.w, .int .u16 (bits .or .u16 s.l (bits .or .u16 got (oneB B))), .int .i64 0, .int .i64 0] 39 (0, 0))) := cells_setCell (HCu.out u)
                    go_roundw
                    case rel => exact ⟨k + 1, _, by omega, by go_num, rfl, n0, n1, far_set (below_block (HBu.out u) (block_lt hzb.out) hzb.out) (by show w.heap.size ≠ C; omega), far_set (below_block (HBu.out u) (block_lt hrb.out) hrb.out) (by show w.heap.size + 1 ≠ C; omega), HCN, far_set (below_block (HBu.out u) (block_lt h9.out) h9.out) (by show D ≠ C; omega), far_set (below_block (HBu.out u) (block_lt h10.out) h10.out) (by show E ≠ C; omega), HTN, (hbel.out.trans ((HBu.out u).mono hbel.out.size)).setCell (by show w.heap.size ≤ C; omega) _⟩
                    case measure => simp [intOf]; omega
                · obtain rfl : k = N := by omega
                  have hyes : TK = some got := by rw [← ht.out, Nat.sub_self]; rfl
                  have hstep : stepA rs load z (3 * r + 2) s = some (s.put 2 got) := by rw [HST.out, hyes]; rfl
                  have HNX : Hid (allotGo rs load z (12 - (3 * r + 3)) (3 * r + 3) (s.put 2 got) = T) := by show _ = _; rw [← hg.out, allotGo_yes (by omega) hstep]; rfl
                  have HPF := Lib.hid (St.fit_put hfit 2 got)
                  have HAP := Lib.hid (all_put hfit 2 (by omega) got g0)
                  clear hyes hstep ht hg
                  subst hpa
                  go_wp2_with fail
                  go_roundw
                  case rel => exact ⟨3, s.put 2 got, by omega, by go_num, by rw [HAP.out], hzb, hrb, hcb, h9, h10, HPF.out, HNX.out, hbel⟩
                  case measure => simp [intOf]
              · have hN0 : N = 0 := by
                  have := HN.out; rw [List.getD_eq_getElem?_getD, List.getElem?_eq_none (by omega)] at this; simp at this; omega
                have hk0 : k = 0 := by omega
                have hyes : TK = some got := by rw [← ht.out, hN0, Nat.zero_sub]; rfl
                have hstep : stepA rs load z (3 * r + 2) s = some (s.put 2 got) := by rw [HST.out, hyes]; rfl
                have HNX : Hid (allotGo rs load z (12 - (3 * r + 3)) (3 * r + 3) (s.put 2 got) = T) := by show _ = _; rw [← hg.out, allotGo_yes (by omega) hstep]; rfl
                have HPF := Lib.hid (St.fit_put hfit 2 got)
                have HAP := Lib.hid (all_put hfit 2 (by omega) got g0)
                have hrd : decide ((r : Int) < (z.l.length : Int)) = false := by simp; omega
                clear hyes hstep ht hg hN0 hk0
                go_wp2_with fail
                go_roundw
                case rel => exact ⟨3, s.put 2 got, by omega, by go_num, by rw [HAP.out], hzb, hrb, hcb, h9, h10, HPF.out, HNX.out, hbel⟩
                case measure => simp [intOf]
          · go_wp2_with fail
            go_roundw
            case rel => exact ⟨r + 1, s, by omega, by go_num, rfl, hzb, hrb, hcb, h9, h10, hfit, hg, hbel⟩
            case measure => simp [intOf]; omega
        · obtain rfl : r = 4 := by omega
          have HTs : Hid (T = some s) := by show _ = _; rw [← hg.out]; rfl
          have HX : Hid (allotP rs load z = (cfgOf z s, 0)) := allot_ok HRM.out (HT0.out.trans HTs.out)
          obtain ⟨N, hN⟩ : ∃ N, cnt (bits .or .u16 s.v s.w) = N := ⟨_, rfl⟩
          have hn := cnt_le (bits .or .u16 s.v s.w)
          rw [hN] at hn
          obtain ⟨n0, n9⟩ := hn
          obtain ⟨j0, j1⟩ := joinB_fit s.v s.w
          have HNJ : Hid (cnt (joinB s.v s.w) = N) := by show _ = _; rw [← hN]; exact cnt_and _ (bits_fit _ _ _).1
          have HN := Lib.hid hN
          have HFC : Hid (FitC s.v s.w s.l) := ⟨hfit.v0, hfit.v1, hfit.w0, hfit.w1, hfit.l0, hfit.l1⟩
          have kC := block_cells hcb.out
          clear hg hN
          go_wp2_with fail
          refine (refVotes_any _ _ _ _ _ HFC.out _).mono ?_; rintro r W4 ⟨rfl, hb4⟩
          go_wp2_with fail
          refine (refCount_is _ _ j0 j1 HNJ).mono ?_; rintro r W5 ⟨rfl, hb5⟩
          have hb45 := bstep hb4 hb5
          have hC5 := below_block hb45 (block_lt hcb.out) hcb.out
          have hR5 := below_block hb45 (block_lt hrb.out) hrb.out
          have hA5 := below_block hb45 (block_lt hzb.out) hzb.out
          have HB5 := Lib.hid (hbel.out.trans (hb45.mono hbel.out.size))
          clear kC hb4 hb5 hb45
          have hAC : w.heap.size ≠ C := by omega
          have hRC : w.heap.size + 1 ≠ C := by omega
          have kA := block_cells hA5
          have kC := block_cells hC5; have kCf := block_free hC5
          go_wp2_with fail
          have HK : Hid (∀ (w' : World) (j : Nat) (v : Value), (∀ j, w'.cell? ⟨w.heap.size, j, none⟩ = #[Value.slice pv z.v.length cv, .slice pw z.w.length cw, .slice pl z.l.length cl, .int .i64 z.e, .int .i64 z.k, .int .i64 z.s][j]?) → ∀ i, (w'.setCell ⟨C, j, none⟩ v).cell? ⟨w.heap.size, i, none⟩ = #[Value.slice pv z.v.length cv, .slice pw z.w.length cw, .slice pl z.l.length cl, .int .i64 z.e, .int .i64 z.k, .int .i64 z.s][i]?) := fun w' j v h i => (World.cell?_setCell_far w' ⟨C, j, none⟩ ⟨w.heap.size, i, none⟩ v (by show C ≠ w.heap.size; omega)).trans (h i)
          have h0 : ∀ j, W5.drew.cell? ⟨w.heap.size, j, none⟩ = #[Value.slice pv z.v.length cv, .slice pw z.w.length cw, .slice pl z.l.length cl, .int .i64 z.e, .int .i64 z.k, .int .i64 z.s][j]? := kA
          refine wp_region_held_drew (S := fun w' => ∀ j, w'.cell? ⟨w.heap.size, j, none⟩ = #[Value.slice pv z.v.length cv, .slice pw z.w.length cw, .slice pl z.l.length cl, .int .i64 z.e, .int .i64 z.k, .int .i64 z.s][j]?) (by kernel_rfl) h0 (fun hHeld => ?_)
          refine wpAnyH_take (i := 0) (v := ?_) rfl (by kernel_rfl) (by kernel_rfl) (by kernel_rfl) (fun _ _ _ h => h) (Or.inl ⟨by rfl, ?_⟩) hHeld ?_
          rotate_left
          · (intro wz hSw; (try dsimp only at hSw); (try simp only [List.getElem_toArray, List.getElem_cons_zero]); go_simp; try with_reducible rfl)
          try simp only [List.getElem_toArray, List.getElem_cons_zero, Act.put, List.setIfInBounds_toArray, List.set_cons_zero, List.set_cons_succ]
          refine wpAnyH_take (i := 1) (v := ?_) rfl (by kernel_rfl) (by kernel_rfl) (by kernel_rfl) (fun _ _ _ h => h) (Or.inl ⟨by rfl, ?_⟩) hHeld ?_
          rotate_left
          · (intro wz hSw; (try dsimp only at hSw); (try simp only [List.getElem_toArray, List.getElem_cons_succ, List.getElem_cons_zero]); go_simp; try with_reducible rfl)
          try simp only [List.getElem_toArray, List.getElem_cons_succ, List.getElem_cons_zero, Act.put, List.setIfInBounds_toArray, List.set_cons_zero, List.set_cons_succ]
          refine wpAnyH_take (i := 2) (v := ?_) rfl (by kernel_rfl) (by kernel_rfl) (by kernel_rfl) (fun _ _ _ h => h) (Or.inl ⟨by rfl, ?_⟩) hHeld ?_
          rotate_left
          · (intro wz hSw; (try dsimp only at hSw); (try simp only [List.getElem_toArray, List.getElem_cons_succ, List.getElem_cons_zero]); go_simp; try with_reducible rfl)
          try simp only [List.getElem_toArray, List.getElem_cons_succ, List.getElem_cons_zero, Act.put, List.setIfInBounds_toArray, List.set_cons_zero, List.set_cons_succ]
          refine wpAnyH_take (i := 3) (v := ?_) rfl (by kernel_rfl) (by kernel_rfl) (by kernel_rfl) (fun _ _ _ h => h) (Or.inl ⟨by rfl, ?_⟩) hHeld ?_
          rotate_left
          · (intro wz hSw; (try dsimp only at hSw); (try simp only [List.getElem_toArray, List.getElem_cons_succ, List.getElem_cons_zero]); go_simp; try with_reducible rfl)
          try simp only [List.getElem_toArray, List.getElem_cons_succ, List.getElem_cons_zero, Act.put, List.setIfInBounds_toArray, List.set_cons_zero, List.set_cons_succ]
          refine wpAnyH_take (i := 4) (v := ?_) rfl (by kernel_rfl) (by kernel_rfl) (by kernel_rfl) (fun _ _ _ h => h) (Or.inl ⟨by rfl, ?_⟩) hHeld ?_
          rotate_left
          · (intro wz hSw; (try dsimp only at hSw); (try simp only [List.getElem_toArray, List.getElem_cons_succ, List.getElem_cons_zero]); go_simp; try with_reducible rfl)
          try simp only [List.getElem_toArray, List.getElem_cons_succ, List.getElem_cons_zero, Act.put, List.setIfInBounds_toArray, List.set_cons_zero, List.set_cons_succ]
          refine wpAnyH_ready (rs := [5]) (by kernel_rfl) (by simp) ?_; refine AllReadyH.cons rfl (fun K hK => ?_) AllReadyH.nil; (try simp only [List.getElem_toArray, List.getElem_cons_succ, List.getElem_cons_zero]); go_simp
          refine hK.out _ _ (HK.out _ _ _ h0) (fun hHeld' => ?_)
          clear hK K hHeld; have hHeld := hHeld'; clear hHeld'
          try simp only [List.getElem_toArray, List.getElem_cons_succ, List.getElem_cons_zero, Act.put, List.setIfInBounds_toArray, List.set_cons_zero, List.set_cons_succ]
          refine wpAnyH_take (i := 6) (v := ?_) rfl (by kernel_rfl) (by kernel_rfl) (by kernel_rfl) (fun _ _ _ h => h) (Or.inl ⟨by rfl, ?_⟩) hHeld ?_
          rotate_left
          · (intro wz hSw; (try dsimp only at hSw); (try simp only [List.getElem_toArray, List.getElem_cons_succ, List.getElem_cons_zero]); go_simp; try with_reducible rfl)
          try simp only [List.getElem_toArray, List.getElem_cons_succ, List.getElem_cons_zero, Act.put, List.setIfInBounds_toArray, List.set_cons_zero, List.set_cons_succ]
          refine wpAnyH_ready (rs := [7]) (by kernel_rfl) (by simp) ?_; refine AllReadyH.cons rfl (fun K hK => ?_) AllReadyH.nil; (try simp only [List.getElem_toArray, List.getElem_cons_succ, List.getElem_cons_zero]); go_simp
          refine hK.out _ _ (HK.out _ _ _ hHeld) (fun hHeld' => ?_)
          clear hK K hHeld; clear hHeld'
          try simp only [List.getElem_toArray, List.getElem_cons_succ, List.getElem_cons_zero, Act.put, List.setIfInBounds_toArray, List.set_cons_zero, List.set_cons_succ]
          refine wpAnyH_done (by kernel_rfl) ?_ _
          have hC6 : (((W5.setCell ⟨C, 3, none⟩ (.int .i64 z.e)).setCell ⟨C, 4, none⟩ (.int .i64 z.k)).drew).heap[C]? = some (.cells #[.int .u16 s.v, .int .u16 s.w, .int .u16 s.l, .int .i64 z.e, .int .i64 z.k] 39 (0, 0)) := cells_setCell (cells_setCell (w := W5) hC5)
          have hR6 : (((W5.setCell ⟨C, 3, none⟩ (.int .i64 z.e)).setCell ⟨C, 4, none⟩ (.int .i64 z.k)).drew).heap[w.heap.size + 1]? = some (.cells #[.int .u16 0, .int .u16 0, .int .u16 0, .int .i64 0, .int .i64 0] 39 (0, 0)) := far_set (far_set (w := W5) hR5 (by exact hRC)) (by exact hRC)
          have HB6 : Hid (Below w.heap.size w (((W5.setCell ⟨C, 3, none⟩ (.int .i64 z.e)).setCell ⟨C, 4, none⟩ (.int .i64 z.k)).drew)) := ((HB5.out.setCell (by show w.heap.size ≤ C; omega) _).setCell (by show w.heap.size ≤ C; omega) _).drew
          obtain ⟨W6, hW6⟩ : ∃ W6, ((W5.setCell ⟨C, 3, none⟩ (.int .i64 z.e)).setCell ⟨C, 4, none⟩ (.int .i64 z.k)).drew = W6 := ⟨_, rfl⟩
          rw [hW6] at hC6 hR6 HB6 ⊢
          clear kA kC kCf hW6 h0 HK hC5 hR5 hA5 HT0 HTs HRM
          have kC := block_cells hC6; have kCf := block_free hC6
          have kR := block_cells hR6; have kRf := block_free hR6
          clear hC6 hR6
          by_cases e0 : z.e = 0
          · by_cases k0 : z.k = 0
            · have he : (z.e == 0) = true := by simp [e0]
              have hk : (z.k == 0) = true := by simp [k0]
              have HV : Hid (cfgV (cfgOf z s, 0) = .tuple #[.agg #[.int .u16 s.v, .int .u16 s.w, .int .u16 s.l, .int .i64 (N / 2 + 1), .int .i64 (N / 2 + 1)], .int .i64 0]) := by show _ = _; unfold cfgV cfgOf; simp only [e0, k0, if_true, HN.out]
              clear e0 k0
              go_wp2_with fail
              refine bodyPost_ret (v := .tuple #[.agg #[.int .u16 s.v, .int .u16 s.w, .int .u16 s.l, .int .i64 (N / 2 + 1), .int .i64 (N / 2 + 1)], .int .i64 0]) (by simp [results, Try.results24, go_sem, kR]) rfl ⟨by rw [HX.out, HV.out], ?_⟩
              repeat (first | (with_reducible refine Below.setCell ?_ (show w.heap.size ≤ w.heap.size + 1 by omega) _) | (with_reducible refine Below.setCell ?_ (show w.heap.size ≤ C by omega) _))
              exact HB6.out
            · have he : (z.e == 0) = true := by simp [e0]
              have hk : (z.k == 0) = false := by simp [k0]
              have HV : Hid (cfgV (cfgOf z s, 0) = .tuple #[.agg #[.int .u16 s.v, .int .u16 s.w, .int .u16 s.l, .int .i64 (N / 2 + 1), .int .i64 (z.k)], .int .i64 0]) := by show _ = _; unfold cfgV cfgOf; simp only [e0, k0, if_true, if_false, HN.out]
              clear e0 k0
              go_wp2_with fail
              refine bodyPost_ret (v := .tuple #[.agg #[.int .u16 s.v, .int .u16 s.w, .int .u16 s.l, .int .i64 (N / 2 + 1), .int .i64 (z.k)], .int .i64 0]) (by simp [results, Try.results24, go_sem, kR]) rfl ⟨by rw [HX.out, HV.out], ?_⟩
              repeat (first | (with_reducible refine Below.setCell ?_ (show w.heap.size ≤ w.heap.size + 1 by omega) _) | (with_reducible refine Below.setCell ?_ (show w.heap.size ≤ C by omega) _))
              exact HB6.out
          · by_cases k0 : z.k = 0
            · have he : (z.e == 0) = false := by simp [e0]
              have hk : (z.k == 0) = true := by simp [k0]
              have HV : Hid (cfgV (cfgOf z s, 0) = .tuple #[.agg #[.int .u16 s.v, .int .u16 s.w, .int .u16 s.l, .int .i64 (z.e), .int .i64 (N / 2 + 1)], .int .i64 0]) := by show _ = _; unfold cfgV cfgOf; simp only [e0, k0, if_true, if_false, HN.out]
              clear e0 k0
              go_wp2_with fail
              refine bodyPost_ret (v := .tuple #[.agg #[.int .u16 s.v, .int .u16 s.w, .int .u16 s.l, .int .i64 (z.e), .int .i64 (N / 2 + 1)], .int .i64 0]) (by simp [results, Try.results24, go_sem, kR]) rfl ⟨by rw [HX.out, HV.out], ?_⟩
              repeat (first | (with_reducible refine Below.setCell ?_ (show w.heap.size ≤ w.heap.size + 1 by omega) _) | (with_reducible refine Below.setCell ?_ (show w.heap.size ≤ C by omega) _))
              exact HB6.out
            · have he : (z.e == 0) = false := by simp [e0]
              have hk : (z.k == 0) = false := by simp [k0]
              have HV : Hid (cfgV (cfgOf z s, 0) = .tuple #[.agg #[.int .u16 s.v, .int .u16 s.w, .int .u16 s.l, .int .i64 (z.e), .int .i64 (z.k)], .int .i64 0]) := by show _ = _; unfold cfgV cfgOf; simp only [e0, k0, if_false, HN.out]
              clear e0 k0
              go_wp2_with fail
              refine bodyPost_ret (v := .tuple #[.agg #[.int .u16 s.v, .int .u16 s.w, .int .u16 s.l, .int .i64 (z.e), .int .i64 (z.k)], .int .i64 0]) (by simp [results, Try.results24, go_sem, kR]) rfl ⟨by rw [HX.out, HV.out], ?_⟩
              repeat (first | (with_reducible refine Below.setCell ?_ (show w.heap.size ≤ w.heap.size + 1 by omega) _) | (with_reducible refine Below.setCell ?_ (show w.heap.size ≤ C by omega) _))
              exact HB6.out
end
end Go.Proofs.Ytihkkoldjllifaa
