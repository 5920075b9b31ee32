/- ZoneRight's walk where Check lets through. -/
import Derived.Test.YtihkkoldjllifaaZRight0
namespace Go.Proofs.Ytihkkoldjllifaa
open Go.ChangeShapes Go.WideShapes Go.ChangeAt Go.RowKit

section
variable (rs load : List Int) (z : Zn) (p pld pv pw pl : Option Addr) (cap capl cv cw cl : Nat)
set_option maxRecDepth 100000 in
set_option maxHeartbeats 32000000 in
theorem zright_ok (w : World) (hr : rs.length ≤ maxLen) (m0 : z.v.length ≤ maxLen) (m1 : z.w.length ≤ maxLen) (m2 : z.l.length ≤ maxLen) (m3 : load.length ≤ maxLen) (HC : Hid (NumsAt w p rs)) (HCL : Hid (NumsAt w pld load)) (HZ : Hid (ZoneAt w z pv pw pl)) (HLT : Hid (lightB rs load z = true)) {dv dx dl de dk : Int} (HCh : Hid (checkP rs load z = (⟨dv, dx, dl, de, dk⟩, 0))) :
    Calls Try.prog 9 #[.slice p rs.length cap, .agg #[.slice pv z.v.length cv, .slice pw z.w.length cw, .slice pl z.l.length cl, .int .i64 z.e, .int .i64 z.k, .int .i64 z.s], .slice pld load.length capl] w fun r w' => r = .returned (.bool true) ∧ Below w.heap.size w w' := by
  obtain ⟨q0, q1, q2, q3, q4⟩ := lightB_iff HLT.out
  obtain ⟨av, ax, al, ae, ak, hAl, hfit, hm, hR, hmz, hrb, hbrk, hsame⟩ := check_good HCh.out (by first | exact .inl rfl | exact .inr rfl)
  have HAl := Lib.hid hAl; have HFC : Hid (FitC av ax al) := hfit; have HM := Lib.hid hm; have HR := Lib.hid hR; have HMZ := Lib.hid hmz; have HZS := Lib.hid (mayZ_s hmz); have HBRK := Lib.hid hbrk
  obtain ⟨l1, l9⟩ := regB_len hrb
  have HES := Lib.hid hsame
  clear hAl hfit hm hR hmz hrb hbrk hsame
  obtain ⟨e1, e2, e3, e4, e5⟩ := HES.out rfl
  obtain rfl := e1.symm; obtain rfl := e2.symm; obtain rfl := e3.symm; obtain rfl := e4.symm; obtain rfl := e5.symm
  clear HES e1 e2 e3 e4 e5
  go_enter Try.func9, Try.ntmps9
  go_wp2_with fail
  refine (begun11_any _).mono ?_; rintro r w1 ⟨rfl, hb1⟩
  have hA := below_block hb1 (by simp) (heap_last w (.cells #[.slice pv z.v.length cv, .slice pw z.w.length cw, .slice pl z.l.length cl, .int .i64 z.e, .int .i64 z.k, .int .i64 z.s] 43))
  have HB1 := Lib.hid (box_out (box_first hb1))
  have kA := block_cells hA
  clear hb1
  go_wp2_with fail
  refine (light_is' rs load z p pld pv pw pl cap capl cv cw cl _ hr m0 m1 m2 m3 HLT).mono ?_; rintro r w2 ⟨rfl, hb2⟩
  replace hA := below_block hb2 (block_lt hA) hA
  have HB2 := Lib.hid (bstep HB1.out hb2)
  clear hb2 kA
  have kA := block_cells hA
  have N0 := Lib.hid (HC.out.keep HB2.out (Nat.le_refl _)); have L0 := Lib.hid (HCL.out.keep HB2.out (Nat.le_refl _)); have Z0 := Lib.hid (HZ.out.keep HB2.out (Nat.le_refl _))
  go_wp2_with fail
  refine (check_is' rs load z p pld pv pw pl cap capl cv cw cl (by omega) (by omega) (by omega) (by omega) (by omega) _ N0.out L0.out Z0.out HCh).mono ?_; rintro r w3 ⟨rfl, hb⟩
  have hA3 := heap_prev (.cells #[.int .u16 av, .int .u16 ax, .int .u16 al, .int .i64 ae, .int .i64 ak] 39) (below_block hb (block_lt hA) hA)
  have hD3 := heap_last w3 (.cells #[.int .u16 av, .int .u16 ax, .int .u16 al, .int .i64 ae, .int .i64 ak] 39)
  have HB3 := Lib.hid ((bstep HB2.out hb).alloc (bstep HB2.out hb).size (.cells #[.int .u16 av, .int .u16 ax, .int .u16 al, .int .i64 ae, .int .i64 ak] 39))
  clear kA hb hA
  go_upto_region 6 with fail
  obtain ⟨D, hDe⟩ : ∃ D, w3.heap.size = D := ⟨_, rfl⟩
  rw [hDe] at hD3 ⊢
  obtain ⟨W3, hW⟩ : ∃ W, w3.alloc (.cells #[.int .u16 av, .int .u16 ax, .int .u16 al, .int .i64 ae, .int .i64 ak] 39) = W := ⟨_, rfl⟩
  rw [hW] at hA3 hD3 HB3 ⊢
  clear hDe hW
  have kA := block_cells hA3
  have kD := block_cells hD3
  have N1 := Lib.hid (HC.out.keep HB3.out (Nat.le_refl _)); have L1 := Lib.hid (HCL.out.keep HB3.out (Nat.le_refl _)); have Z1 := Lib.hid (HZ.out.keep HB3.out (Nat.le_refl _))
  go_wp2_with fail
  refine (allot_is rs load z p pld pv pw pl cap capl cv cw cl (by omega) (by omega) (by omega) (by omega) (by omega) _ N1.out L1.out Z1.out HAl).mono ?_; rintro r w4 ⟨rfl, hb⟩
  have hA4 := heap_prev (.cells #[.int .u16 av, .int .u16 ax, .int .u16 al, .int .i64 ae, .int .i64 ak] 39) (below_block hb (block_lt hA3) hA3)
  have hD4 := heap_prev (.cells #[.int .u16 av, .int .u16 ax, .int .u16 al, .int .i64 ae, .int .i64 ak] 39) (below_block hb (block_lt hD3) hD3)
  have hE4 := heap_last w4 (.cells #[.int .u16 av, .int .u16 ax, .int .u16 al, .int .i64 ae, .int .i64 ak] 39)
  have HB4 := Lib.hid ((bstep HB3.out hb).alloc (bstep HB3.out hb).size (.cells #[.int .u16 av, .int .u16 ax, .int .u16 al, .int .i64 ae, .int .i64 ak] 39))
  clear kA kD hb hA3 hD3
  go_upto_region 9 with fail
  obtain ⟨E, hEe⟩ : ∃ E, w4.heap.size = E := ⟨_, rfl⟩
  rw [hEe] at hE4 ⊢
  obtain ⟨W4, hW⟩ : ∃ W, w4.alloc (.cells #[.int .u16 av, .int .u16 ax, .int .u16 al, .int .i64 ae, .int .i64 ak] 39) = W := ⟨_, rfl⟩
  rw [hW] at hA4 hD4 hE4 HB4 ⊢
  clear hEe hW
  have kA := block_cells hA4
  have kD := block_cells hD4
  have kE := block_cells hE4
  have kE' := fun (o : Obj) => block_cells (heap_prev o hE4)
  have kA' := fun (o : Obj) => block_cells (heap_prev o hA4)
  go_upto_region 13 with fail
  have hS0 := heap_last W4 (.cells #[.slice pv z.v.length cv, .slice pw z.w.length cw, .slice pl z.l.length cl] 35)
  have hS5 := heap_prev (.cells #[.int .u16 av, .int .u16 ax, .int .u16 al] 37) hS0
  have hT5 := heap_last (W4.alloc (.cells #[.slice pv z.v.length cv, .slice pw z.w.length cw, .slice pl z.l.length cl] 35)) (.cells #[.int .u16 av, .int .u16 ax, .int .u16 al] 37)
  have hA5 := heap_prev (.cells #[.int .u16 av, .int .u16 ax, .int .u16 al] 37) (heap_prev (.cells #[.slice pv z.v.length cv, .slice pw z.w.length cw, .slice pl z.l.length cl] 35) hA4)
  have hE5 := heap_prev (.cells #[.int .u16 av, .int .u16 ax, .int .u16 al] 37) (heap_prev (.cells #[.slice pv z.v.length cv, .slice pw z.w.length cw, .slice pl z.l.length cl] 35) hE4)
  have HB5 : Hid (Below w.heap.size w ((W4.alloc (.cells #[.slice pv z.v.length cv, .slice pw z.w.length cw, .slice pl z.l.length cl] 35)).alloc (.cells #[.int .u16 av, .int .u16 ax, .int .u16 al] 37))) := (HB4.out.alloc HB4.out.size _).alloc (by have := HB4.out.size; simp; omega) _
  simp only [World.size_alloc] at hT5
  obtain ⟨S, hSe⟩ : ∃ S, W4.heap.size = S := ⟨_, rfl⟩
  rw [hSe] at hS5 hT5 ⊢
  obtain ⟨T, hTe⟩ : ∃ T, S + 1 = T := ⟨_, rfl⟩
  rw [hTe] at hT5 ⊢
  obtain ⟨V, hV⟩ : ∃ V, (W4.alloc (.cells #[.slice pv z.v.length cv, .slice pw z.w.length cw, .slice pl z.l.length cl] 35)).alloc (.cells #[.int .u16 av, .int .u16 ax, .int .u16 al] 37) = V := ⟨_, rfl⟩
  rw [hV] at hS5 hT5 hA5 hE5 HB5 ⊢
  have HZ5 := HZ.out.keep HB5.out (Nat.le_refl _)
  have HN5 := Lib.hid (HC.out.keep HB5.out (Nat.le_refl _))
  have HS : Hid (∀ q, q < 3 → ∃ p' c', V.cell? ⟨S, q, none⟩ = some (.slice p' (z.list q).length c') ∧ NumsAt V p' (z.list q)) := fun q hq => by
    have : q = 0 ∨ q = 1 ∨ q = 2 := by omega
    rcases this with rfl | rfl | rfl
    · exact ⟨_, _, block_cells hS5 0, HZ5.nv⟩
    · exact ⟨_, _, block_cells hS5 1, HZ5.nw⟩
    · exact ⟨_, _, block_cells hS5 2, HZ5.nl⟩
  have HT : Hid (∀ q, q < 3 → V.cell? ⟨T, q, none⟩ = some (.int .u16 (St.get ⟨av, ax, al⟩ q))) := fun q hq => by
    have : q = 0 ∨ q = 1 ∨ q = 2 := by omega
    rcases this with rfl | rfl | rfl <;> exact block_cells hT5 _
  have HA5 := Lib.hid hA5; have HE5 := Lib.hid hE5
  clear hS0 hS5 hT5 hA5 hE5 hSe hTe hV kA kE kE' kA' hA4 hE4 hD4 kD HZ5
  go_wp2_with fail
  go_loop [13] (fun i => ∃ q : Nat, q ≤ 3 ∧ i = .int .i64 q) (fun i => 3 - (intOf i).toNat)
  case atStart => exact ⟨0, by omega, rfl⟩
  case round =>
    obtain ⟨q, hq3, rfl⟩ := hrel
    by_cases hq : q < 3
    · obtain ⟨p', c', hcS, hNq⟩ := HS.out q hq
      have hcT := HT.out q hq
      obtain ⟨U, hU⟩ : ∃ U, St.get ⟨av, ax, al⟩ q = U := ⟨_, rfl⟩
      have hUf : 0 ≤ U ∧ U ≤ 65535 := by rw [← hU]; exact get_fit ⟨HFC.out.v0, HFC.out.v1, HFC.out.x0, HFC.out.x1, HFC.out.l0, HFC.out.l1⟩ q
      obtain ⟨u0, u1⟩ := hUf
      rw [hU] at hcT
      have HU := Lib.hid hU
      obtain ⟨L, hL⟩ : ∃ L, z.list q = L := ⟨_, rfl⟩
      rw [hL] at hcS hNq
      have HL := Lib.hid hL
      have HNq := Lib.hid hNq
      have hd3 : decide ((q : Int) < 3) = true := by simp; omega
      have hLlen : L.length ≤ 30 := by
        rw [← hL]
        have : q = 0 ∨ q = 1 ∨ q = 2 := by omega
        rcases this with rfl | rfl | rfl
        · exact q1
        · exact q2
        · exact q3
      clear hU hL hNq
      go_wp2_with fail
      go_loop [14] (fun i => ∃ r : Nat, r ≤ 4 ∧ i = .int .i64 r) (fun i => 4 - (intOf i).toNat)
      case atStart => exact ⟨0, by omega, rfl⟩
      case round =>
        obtain ⟨r, hr4, rfl⟩ := hrel
        by_cases hrr : r < 4
        · have hd4 : decide ((r : Int) < 4) = true := by simp; omega
          obtain ⟨N, hN9, hN⟩ := mayZ_get HMZ.out q hq r
          have hcnt := HR.out.cnt q r hq
          rw [if_pos (by omega), hN, Int.toNat_natCast, HU.out] at hcnt
          rw [HL.out] at hN
          have HN := Lib.hid hN; have HCN := Lib.hid hcnt
          clear hN hcnt
          go_wp2_with fail
          go_loop [15, 16] (fun n i => ∃ m : Nat, m ≤ rs.length ∧ i = .int .i64 ((m : Int) + 1) ∧ n = .int .i64 (bs (fun k => regP rs r k && hasB U k) m)) (fun _ i => rs.length + 1 - (intOf i).toNat)
          case atStart => exact ⟨0, by omega, rfl, rfl⟩
          case round =>
            obtain ⟨m, hm, rfl, rfl⟩ := hrel
            have hbm := bs_max (fun k => regP rs r k && hasB U k) m
            by_cases hmt : m < rs.length
            · obtain ⟨g, o, rfl, hg, hcell⟩ := HN5.out m hmt
              obtain ⟨y, hy⟩ : ∃ y, rs[m] = y := ⟨_, rfl⟩
              rw [hy] at hcell
              have hP : (regP rs r (m + 1) && hasB U ((m + 1 : Nat) : Int)) = (decide (y = (r : Int)) && hasB U ((m : Int) + 1)) := by
                unfold regP
                rw [Nat.add_sub_cancel, List.getD_eq_getElem?_getD, List.getElem?_eq_getElem hmt, Option.getD_some, hy, show (((m + 1 : Nat)) : Int) = (m : Int) + 1 by omega]
              by_cases hyr : y = (r : Int)
              · cases hh : hasB U ((m : Int) + 1)
                · have HH := Lib.hid hh
                  have HX : Hid (bs (fun k => regP rs r k && hasB U k) (m + 1) = bs (fun k => regP rs r k && hasB U k) m) := bs_not (by rw [hP, hh]; simp)
                  clear hP hh hy
                  subst hyr
                  go_wp2_with fail
                  refine (refHas_is' _ _ _ u0 u1 HH).mono ?_; rintro e w' ⟨rfl, rfl⟩
                  go_wp2_with fail
                  go_round
                  case rel => exact ⟨m + 1, by omega, by go_num, by rw [HX.out]⟩
                  case measure => simp [intOf]; omega
                · have HH := Lib.hid hh
                  have HX : Hid (bs (fun k => regP rs r k && hasB U k) (m + 1) = bs (fun k => regP rs r k && hasB U k) m + 1) := bs_yes (by rw [hP, hh, hyr]; simp)
                  clear hP hh hy
                  subst hyr
                  go_wp2_with fail
                  refine (refHas_is' _ _ _ u0 u1 HH).mono ?_; rintro e w' ⟨rfl, rfl⟩
                  go_wp2_with fail
                  go_round
                  case rel => exact ⟨m + 1, by omega, by go_num, by rw [HX.out]; go_num⟩
                  case measure => simp [intOf]; omega
              · have hqy : (y == (r : Int)) = false := by simp [hyr]
                have HX : Hid (bs (fun k => regP rs r k && hasB U k) (m + 1) = bs (fun k => regP rs r k && hasB U k) m) := bs_not (by rw [hP]; simp [hyr])
                clear hP hy hyr
                go_wp2_with fail
                go_round
                case rel => exact ⟨m + 1, by omega, by go_num, by rw [HX.out]⟩
                case measure => simp [intOf]; omega
            · obtain rfl : m = rs.length := by omega
              have hCN : bs (fun k => regP rs r k && hasB U k) rs.length = N := HCN.out
              rw [hCN]
              clear hCN hbm
              by_cases hrl : r < L.length
              · obtain ⟨gl, ol, hpl, hgl, hcl⟩ := HNq.out r hrl
                have hget : L[r] = (N : Int) := by
                  have := HN.out; rw [List.getD_eq_getElem?_getD, List.getElem?_eq_getElem hrl] at this; exact this
                rw [hget] at hcl
                have hrd : decide ((r : Int) < (L.length : Int)) = true := by simp; omega
                have hrd2 : decide ((L.length : Int) ≤ (r : Int)) = false := by simp; omega
                clear hget
                subst hpl
                go_wp2_with fail
                go_round
                case rel => exact ⟨r + 1, by omega, by go_num⟩
                case measure => simp [intOf]; omega
              · have hN0 : N = 0 := by
                  have := HN.out; rw [List.getD_eq_getElem?_getD, List.getElem?_eq_none (by omega)] at this; simp at this; omega
                subst hN0
                have hrd : decide ((r : Int) < (L.length : Int)) = false := by simp; omega
                have hrd2 : decide ((L.length : Int) ≤ (r : Int)) = true := by simp; omega
                go_wp2_with fail
                go_round
                case rel => exact ⟨r + 1, by omega, by go_num⟩
                case measure => simp [intOf]; omega
        · go_wp2_with fail
          go_round
          case rel => exact ⟨q + 1, by omega, by go_num⟩
          case measure => simp [intOf]; omega
    · clear HS HT HMZ HR
      obtain ⟨U, f, hU, hf, hg⟩ := calm_class V
      obtain ⟨u0, hu0⟩ := hg _ (Below.refl _ _)
      rw [hu0]
      have HBF : Hid (∀ u, Below w.heap.size w (f u)) := fun u => bstep HB5.out (hf u)
      have HNu : Hid (∀ u, NumsAt (f u) p rs) := fun u => HC.out.keep (HBF.out u) (Nat.le_refl _)
      have HAu : Hid (∀ u, (f u).heap[w.heap.size]? = some (.cells #[.slice pv z.v.length cv, .slice pw z.w.length cw, .slice pl z.l.length cl, .int .i64 z.e, .int .i64 z.k, .int .i64 z.s] 43)) := calm_heap hf HA5.out
      have HEu : Hid (∀ u, (f u).heap[E]? = some (.cells #[.int .u16 av, .int .u16 ax, .int .u16 al, .int .i64 ae, .int .i64 ak] 39)) := calm_heap hf HE5.out
      clear hu0
      go_wp2_with fail
      go_loopw [17, 18] (fun b i wr => ∃ k : Nat, k ≤ 10 ∧ i = .int .i64 k ∧ b = .bool (brk rs av ax al ae ak z.s k) ∧ ∃ u, wr = f u) (fun _ i _ => 10 - (intOf i).toNat)
      case atStart => exact ⟨0, by omega, rfl, rfl, _, rfl⟩
      case round =>
        obtain ⟨k, hk, rfl, rfl, uk, rfl⟩ := hrel
        by_cases hkk : k < 10
        · have hd9 : decide ((k : Int) ≤ 9) = true := by simp; omega
          obtain ⟨bk, hbk⟩ : ∃ b, brk rs av ax al ae ak z.s k = b := ⟨_, rfl⟩
          have HBk := Lib.hid hbk
          rw [hbk]
          clear hbk
          go_wp2_with fail
          go_loopw [19, 20] (fun g i wr => ∃ n : Nat, n ≤ rs.length ∧ i = .int .i64 ((n : Int) + 1) ∧ g = .int .u16 (leftTo rs z.s k n) ∧ ∃ u, wr = f u) (fun _ i _ => rs.length + 1 - (intOf i).toNat)
          case atStart => exact ⟨0, by omega, rfl, rfl, _, rfl⟩
          case round =>
            obtain ⟨n, hn, rfl, rfl, un, rfl⟩ := hrel
            obtain ⟨g0, g1⟩ := leftTo_fit rs z.s k n
            by_cases hnt : n < rs.length
            · have hd1 : decide ((n : Int) + 1 ≤ (rs.length : Int)) = true := by simp; omega
              have hd2 : decide ((n : Int) < (rs.length : Int)) = true := by simp; omega
              have kA := block_cells (HAu.out un)
              obtain ⟨G, hG⟩ : ∃ G, leftTo rs z.s k n = G := ⟨_, rfl⟩
              have HK : Hid (leftTo rs z.s k (n + 1) = if keepP rs z.s k (n + 1) = true then bits .or .u16 G (oneB ((n : Int) + 1)) else G) := by rw [← hG]; rfl
              rw [hG] at g0 g1 ⊢
              clear hG
              rcases HZS.out with hz | hz | hz
              · have HK : Hid (leftTo rs z.s k (n + 1) = bits .or .u16 G (oneB ((n : Int) + 1))) := by
                  show _ = _; rw [HK.out, if_pos (by rw [hz]; rfl)]
                rw [hz] at kA
                clear hz
                go_wp2_with fail
                refine (refWith_any _ _ _ g0 g1).mono ?_; rintro e w' ⟨rfl, rfl⟩
                go_wp2_with fail
                go_roundw
                case rel => exact ⟨n + 1, by omega, by go_num, by rw [HK.out], _, rfl⟩
                case measure => simp [intOf]; omega
              · by_cases hnk : n + 1 = k
                · have HK : Hid (leftTo rs z.s k (n + 1) = G) := by
                    show _ = _; rw [HK.out, if_neg (by rw [hz]; simp [keepP, hnk])]
                  rw [hz] at kA
                  have hq : ((n : Int) + 1 != (k : Int)) = false := by simp; omega
                  clear hz hnk
                  go_wp2_with fail
                  go_roundw
                  case rel => exact ⟨n + 1, by omega, by go_num, by rw [HK.out], _, rfl⟩
                  case measure => simp [intOf]; omega
                · have HK : Hid (leftTo rs z.s k (n + 1) = bits .or .u16 G (oneB ((n : Int) + 1))) := by
                    show _ = _; rw [HK.out, if_pos (by rw [hz]; simp [keepP, hnk])]
                  rw [hz] at kA
                  have hq : ((n : Int) + 1 != (k : Int)) = true := by simp; omega
                  clear hz hnk
                  go_wp2_with fail
                  refine (refWith_any _ _ _ g0 g1).mono ?_; rintro e w' ⟨rfl, rfl⟩
                  go_wp2_with fail
                  go_roundw
                  case rel => exact ⟨n + 1, by omega, by go_num, by rw [HK.out], _, rfl⟩
                  case measure => simp [intOf]; omega
              · obtain ⟨gr, o, hpp, hgr, hcell⟩ := HNu.out un n hnt
                have hgd : rs.getD (n + 1 - 1) 0 = rs[n] := by rw [Nat.add_sub_cancel, List.getD_eq_getElem?_getD, List.getElem?_eq_getElem hnt]; rfl
                obtain ⟨y, hy⟩ : ∃ y, rs[n] = y := ⟨_, rfl⟩
                rw [hy] at hcell hgd
                by_cases hyk : y = (k : Int)
                · have HK : Hid (leftTo rs z.s k (n + 1) = G) := by
                    show _ = _; rw [HK.out, if_neg (by rw [hz]; unfold keepP; rw [hgd]; simp [hyk])]
                  rw [hz] at kA
                  have hq : (y != (k : Int)) = false := by simp [hyk]
                  clear hz hyk hy hgd
                  subst hpp
                  go_wp2_with fail
                  go_roundw
                  case rel => exact ⟨n + 1, by omega, by go_num, by rw [HK.out], _, rfl⟩
                  case measure => simp [intOf]; omega
                · have HK : Hid (leftTo rs z.s k (n + 1) = bits .or .u16 G (oneB ((n : Int) + 1))) := by
                    show _ = _; rw [HK.out, if_pos (by rw [hz]; unfold keepP; rw [hgd]; simp [hyk])]
                  rw [hz] at kA
                  have hq : (y != (k : Int)) = true := by simp [hyk]
                  clear hz hyk hy hgd
                  subst hpp
                  go_wp2_with fail
                  refine (refWith_any _ _ _ g0 g1).mono ?_; rintro e w' ⟨rfl, rfl⟩
                  go_wp2_with fail
                  go_roundw
                  case rel => exact ⟨n + 1, by omega, by go_num, by rw [HK.out], _, rfl⟩
                  case measure => simp [intOf]; omega
            · obtain rfl : n = rs.length := by omega
              have hd1 : decide ((rs.length : Int) + 1 ≤ (rs.length : Int)) = false := by simp; omega
              obtain ⟨G, hG⟩ : ∃ G, leftTo rs z.s k rs.length = G := ⟨_, rfl⟩
              rw [hG] at g0 g1 ⊢
              have HG := Lib.hid hG
              clear hG
              obtain ⟨b1, hb1⟩ : ∃ b, electsC av ax al ae ak G = b := ⟨_, rfl⟩
              obtain ⟨b2, hb2⟩ : ∃ b, commitsC av ax al ae ak G = b := ⟨_, rfl⟩
              obtain ⟨M, hM⟩ : ∃ M, meetB G av = M := ⟨_, rfl⟩
              have HBK : Hid (brk rs av ax al ae ak z.s (k + 1) = (bk || (!b1 || !b2 || (M == 0)))) := by
                show _ = _
                unfold brk brokenB
                rw [HBk.out, HG.out, hb1, hb2, hM]
              have HE1 := Lib.hid hb1; have HE2 := Lib.hid hb2; have HM1 := Lib.hid hM
              clear hb1 hb2 hM
              have kE := block_cells (HEu.out un)
              go_upto_region 38 with fail
              have hJ := heap_last (f un) (.cells #[.int .u16 av, .int .u16 ax, .int .u16 al, .int .i64 ae, .int .i64 ak, .int .u16 0, .int .u16 0, .int .u16 0, .int .i64 0, .int .i64 0, .bool false] 57)
              have hEJ := heap_prev (.cells #[.int .u16 av, .int .u16 ax, .int .u16 al, .int .i64 ae, .int .i64 ak, .int .u16 0, .int .u16 0, .int .u16 0, .int .i64 0, .int .i64 0, .bool false] 57) (HEu.out un)
              have HBJ : Hid (Below V.heap.size V ((f un).alloc (.cells #[.int .u16 av, .int .u16 ax, .int .u16 al, .int .i64 ae, .int .i64 ak, .int .u16 0, .int .u16 0, .int .u16 0, .int .i64 0, .int .i64 0, .bool false] 57))) := (hf un).alloc (hf un).size _
              obtain ⟨VJ, hVJ⟩ : ∃ W, (f un).alloc (.cells #[.int .u16 av, .int .u16 ax, .int .u16 al, .int .i64 ae, .int .i64 ak, .int .u16 0, .int .u16 0, .int .u16 0, .int .i64 0, .int .i64 0, .bool false] 57) = W := ⟨_, rfl⟩
              obtain ⟨JJ, hJJ⟩ : ∃ j, (f un).heap.size = j := ⟨_, rfl⟩
              rw [hVJ] at hJ hEJ HBJ ⊢
              rw [hJJ] at hJ ⊢
              clear hVJ hJJ kE
              have kJ := block_cells hJ
              have kE := block_cells hEJ
              cases bk
              · cases b1
                · go_wp2_with fail
                  refine (refElects0_is av ax al ae ak G HFC.out g0 g1 _ HE1).mono ?_; rintro r w7 ⟨rfl, hb⟩
                  obtain ⟨ux, hx⟩ := hg _ (HBJ.out.trans (hb.mono HBJ.out.size))
                  have HWX := Lib.hid hx; clear hx
                  clear kJ kE hb
                  go_wp2_with fail
                  go_roundw
                  case rel => exact ⟨k + 1, by omega, by go_num, by rw [HBK.out]; rfl, _, HWX.out⟩
                  case measure => simp [intOf]; omega
                · go_wp2_with fail
                  refine (refElects0_is av ax al ae ak G HFC.out g0 g1 _ HE1).mono ?_; rintro r w7 ⟨rfl, hb⟩
                  have hJ7 := below_block hb (block_lt hJ) hJ
                  have hE7 := below_block hb (block_lt hEJ) hEJ
                  have HB7 : Hid (Below V.heap.size V w7) := HBJ.out.trans (hb.mono HBJ.out.size)
                  clear kJ kE hb hJ hEJ
                  have kJ := block_cells hJ7
                  have kE := block_cells hE7
                  cases b2
                  · go_wp2_with fail
                    refine (refCommits0_is av ax al ae ak G HFC.out g0 g1 _ HE2).mono ?_; rintro r w8 ⟨rfl, hb⟩
                    obtain ⟨ux, hx⟩ := hg _ (HB7.out.trans (hb.mono HB7.out.size))
                    have HWX := Lib.hid hx; clear hx
                    clear kJ kE hb
                    go_wp2_with fail
                    go_roundw
                    case rel => exact ⟨k + 1, by omega, by go_num, by rw [HBK.out]; rfl, _, HWX.out⟩
                    case measure => simp [intOf]; omega
                  · go_wp2_with fail
                    refine (refCommits0_is av ax al ae ak G HFC.out g0 g1 _ HE2).mono ?_; rintro r w8 ⟨rfl, hb⟩
                    obtain ⟨ux, hx⟩ := hg _ (HB7.out.trans (hb.mono HB7.out.size))
                    have HWX := Lib.hid hx; clear hx
                    have hE8 := below_block hb (block_lt hE7) hE7
                    clear kJ kE hb hE7 hJ7
                    have kE := block_cells hE8
                    cases hm0 : (M == 0)
                    · go_wp2_with fail
                      refine (refMeet9_is _ _ _ g0 g1 HFC.out.v0 HFC.out.v1 HM1).mono ?_; rintro r w9 ⟨rfl, rfl⟩
                      go_wp2_with fail
                      go_roundw
                      case rel => exact ⟨k + 1, by omega, by go_num, by rw [HBK.out, hm0]; rfl, _, HWX.out⟩
                      case measure => simp [intOf]; omega
                    · go_wp2_with fail
                      refine (refMeet9_is _ _ _ g0 g1 HFC.out.v0 HFC.out.v1 HM1).mono ?_; rintro r w9 ⟨rfl, rfl⟩
                      go_wp2_with fail
                      go_roundw
                      case rel => exact ⟨k + 1, by omega, by go_num, by rw [HBK.out, hm0]; rfl, _, HWX.out⟩
                      case measure => simp [intOf]; omega
              · obtain ⟨ux, hx⟩ := hg _ HBJ.out
                have HWX := Lib.hid hx; clear hx
                go_wp2_with fail
                go_roundw
                case rel => exact ⟨k + 1, by omega, by go_num, by rw [HBK.out]; rfl, _, HWX.out⟩
                case measure => simp [intOf]; omega
        · obtain rfl : k = 10 := by omega
          have HBW := HBF.out uk
          clear hkk hk
          rw [HBRK.out]
          clear HBF HNu HAu HEu
          go_wp2_with fail
          go_ret
          exact ⟨rfl, HBW⟩
end
end Go.Proofs.Ytihkkoldjllifaa
