/- ZoneBalance: for every list of regions, zone and loads (30 numbers each at most; others are let through): a node that is taken has no more load than one of its region that is not; no condition. -/
import Derived.Test.YtihkkoldjllifaaBegun11
import Derived.Test.YtihkkoldjllifaaPlainBal
import Derived.Test.YtihkkoldjllifaaLight11
import Derived.Test.YtihkkoldjllifaaOpenZone
import Derived.Test.YtihkkoldjllifaaRef10c
import Derived.Test.YtihkkoldjllifaaRows
namespace Go.Proofs.Ytihkkoldjllifaa
open Go.ChangeShapes Go.WideShapes Go.ChangeAt Go.RowKit

theorem members_is (v x l e k : Int) (fc : FitC v x l) (w : World) :
    Calls Try.prog 36 #[.agg #[.int .u16 v, .int .u16 x, .int .u16 l, .int .i64 e, .int .i64 k, .int .u16 0, .int .u16 0, .int .u16 0, .int .i64 0, .int .i64 0, .bool false]] w fun r w' => r = .returned (.int .u16 (memU v x l)) ∧ Below w.heap.size w w' :=
  refMembers_any v x l e k 0 0 0 0 0 false fc ⟨by decide, by decide, by decide, by decide, by decide, by decide⟩ w
set_option maxHeartbeats 400000 in
theorem loadOf_any (xs : List Int) (p : Option Addr) (cap i : Nat) (w : World) (_hl : xs.length ≤ 1000) (hi : i ≤ 2000) (hc : NumsAt w p xs) :
    Calls Try.prog 37 #[.slice p xs.length cap, .int .i64 ((i : Int) + 1)] w fun r w' => r = .returned (.int .i64 (xs.getD i 0)) ∧ w = w' := by
  by_cases hlt : i < xs.length
  · obtain ⟨g, o, rfl, hg, hcell⟩ := hc i hlt
    have hd : xs.getD i 0 = xs[i] := by simp [hlt]
    obtain ⟨y, hy⟩ : ∃ y, xs[i] = y := ⟨_, rfl⟩
    rw [hy] at hcell hd
    rw [hd]
    clear hc hd hy
    go_enter Try.func37, Try.ntmps37
    go_wp2_with fail
    go_ret
    exact ⟨rfl, rfl⟩
  · have hd : xs.getD i 0 = 0 := by simp [List.getD, List.getElem?_eq_none (show xs.length ≤ i by omega)]
    rw [hd]
    clear hc hd
    go_enter Try.func37, Try.ntmps37
    go_wp2_with fail
    go_ret
    exact ⟨rfl, rfl⟩
theorem loadOf_is (xs : List Int) (p : Option Addr) (cap i : Nat) (w : World) (hl : xs.length ≤ 1000 ∧ i ≤ 2000) (hc : NumsAt w p xs) {X : Int} (h : Hid (xs.getD i 0 = X)) :
    Calls Try.prog 37 #[.slice p xs.length cap, .int .i64 ((i : Int) + 1)] w fun r w' => r = .returned (.int .i64 X) ∧ w = w' := by
  have := loadOf_any xs p cap i w hl.1 hl.2 hc
  rw [h.out] at this; exact this

section
variable (rs load : List Int) (z : Zn) (p pld pv pw pl : Option Addr) (cap capl cv cw cl : Nat)
theorem light_is' (w : World) (hr : rs.length ≤ maxLen) (h0 : z.v.length ≤ maxLen) (h1 : z.w.length ≤ maxLen) (h2 : z.l.length ≤ maxLen) (h3 : load.length ≤ maxLen) {b : Bool} (h : Hid (lightB rs load z = b)) :
    Calls Try.prog 22 #[.slice p rs.length cap, .agg #[.slice pv z.v.length cv, .slice pw z.w.length cw, .slice pl z.l.length cl, .int .i64 z.e, .int .i64 z.k, .int .i64 z.s], .slice pld load.length capl] w fun r w' => r = .returned (.bool b) ∧ Below w.heap.size w w' := by
  have := light_any rs load z p pld pv pw pl cap capl cv cw cl w hr h0 h1 h2 h3
  rw [h.out] at this; exact this
set_option maxRecDepth 100000 in
set_option maxHeartbeats 8000000 in
theorem zbal_walk (w : World) (hr : rs.length ≤ maxLen) (m0 : z.v.length ≤ maxLen) (m1 : z.w.length ≤ maxLen) (m2 : z.l.length ≤ maxLen) (m3 : load.length ≤ maxLen) (hc : NumsAt w p rs) (hcl : NumsAt w pld load) (hz : ZoneAt w z pv pw pl) :
    Calls Try.prog 10 #[.slice p rs.length cap, .agg #[.slice pv z.v.length cv, .slice pw z.w.length cw, .slice pl z.l.length cl, .int .i64 z.e, .int .i64 z.k, .int .i64 z.s], .slice pld load.length capl] w fun r w' => r = .returned (.bool true) ∧ Below w.heap.size w w' := by
  have HC := Lib.hid hc; have HCL := Lib.hid hcl; have HZ := Lib.hid hz
  clear hc hcl hz
  cases hlt : lightB rs load z
  · have HLT := Lib.hid hlt
    clear hlt
    go_enter Try.func10, Try.ntmps10
    go_wp2_with fail
    refine (begun11_any _).mono ?_; rintro r w1 ⟨rfl, hb1⟩
    have hA1 := below_block hb1 (by simp) (heap_last w (.cells #[.slice pv z.v.length cv, .slice pw z.w.length cw, .slice pl z.l.length cl, .int .i64 z.e, .int .i64 z.k, .int .i64 z.s] 43))
    have HB1 := Lib.hid (box_out (box_first hb1))
    have kA := block_cells hA1
    clear hb1 hA1
    go_wp2_with fail
    refine (light_is' rs load z p pld pv pw pl cap capl cv cw cl _ hr m0 m1 m2 m3 HLT).mono ?_; rintro r w2 ⟨rfl, hb2⟩
    have HB2 := Lib.hid (bstep HB1.out hb2)
    clear hb2 kA
    go_wp2_with fail
    go_ret
    exact ⟨rfl, HB2.out⟩
  · have HLT := Lib.hid hlt
    obtain ⟨q0, q1, q2, q3, q4⟩ := lightB_iff hlt
    have hfit := allotP_fit rs load z
    obtain ⟨⟨⟨av, ax, al, ae, ak⟩, ea⟩, hAl⟩ : ∃ A, allotP rs load z = A := ⟨_, rfl⟩
    rw [hAl] at hfit
    have HFC : Hid (FitC av ax al) := hfit
    have HAl := Lib.hid hAl
    clear hlt hAl hfit
    by_cases he : ea = 0
    · subst he
      obtain ⟨hrb, hbal⟩ := bal_allot HAl.out
      obtain ⟨l1, l9⟩ := regB_len hrb
      have HBAL := Lib.hid hbal
      clear hrb hbal
      go_enter Try.func10, Try.ntmps10
      go_wp2_with fail
      refine (begun11_any _).mono ?_; rintro r w1 ⟨rfl, hb1⟩
      have hA := below_block hb1 (by simp) (heap_last w (.cells #[.slice pv z.v.length cv, .slice pw z.w.length cw, .slice pl z.l.length cl, .int .i64 z.e, .int .i64 z.k, .int .i64 z.s] 43))
      have HB1 := Lib.hid (box_out (box_first hb1))
      have kA := block_cells hA
      clear hb1
      go_wp2_with fail
      refine (light_is' rs load z p pld pv pw pl cap capl cv cw cl _ hr m0 m1 m2 m3 HLT).mono ?_; rintro r w2 ⟨rfl, hb2⟩
      replace hA := below_block hb2 (block_lt hA) hA
      have HB2 := Lib.hid (bstep HB1.out hb2)
      clear hb2 kA
      have kA := block_cells hA
      have N0 := Lib.hid (HC.out.keep HB2.out (Nat.le_refl _)); have L0 := Lib.hid (HCL.out.keep HB2.out (Nat.le_refl _)); have Z0 := Lib.hid (HZ.out.keep HB2.out (Nat.le_refl _))
      go_wp2_with fail
      refine (allot_is rs load z p pld pv pw pl cap capl cv cw cl (by omega) (by omega) (by omega) (by omega) (by omega) _ N0.out L0.out Z0.out HAl).mono ?_; rintro r w3 ⟨rfl, hb⟩
      have HB3 := Lib.hid ((bstep HB2.out hb).alloc (bstep HB2.out hb).size (.cells #[.int .u16 av, .int .u16 ax, .int .u16 al, .int .i64 ae, .int .i64 ak] 39))
      clear kA hb hA
      go_wp2_with fail
      refine (members_is av ax al ae ak HFC.out _).mono ?_; rintro r V ⟨rfl, hb⟩
      have HBV := Lib.hid (bstep HB3.out hb)
      clear hb
      obtain ⟨U, f, hU, hf, hg⟩ := calm_class (V); obtain ⟨u0, hu0⟩ := hg _ (Below.refl _ _); rw [hu0]; clear hu0
      have HBF : Hid (∀ u, Below w.heap.size w (f u)) := fun u => bstep HBV.out (hf u)
      have HNu : Hid (∀ u, NumsAt (f u) p rs) := fun u => HC.out.keep (HBF.out u) (Nat.le_refl _)
      have HLu : Hid (∀ u, NumsAt (f u) pld load) := fun u => HCL.out.keep (HBF.out u) (Nat.le_refl _)
      go_wp2_with fail
      go_loopw [10] (fun i wr => ∃ m : Nat, m ≤ rs.length ∧ i = .int .i64 ((m : Int) + 1) ∧ ∃ u, wr = f u) (fun i _ => rs.length + 1 - (intOf i).toNat)
      case atStart => exact ⟨0, by omega, rfl, _, rfl⟩
      case round =>
        obtain ⟨m, hm, rfl, um, rfl⟩ := hrel
        by_cases hmt : m < rs.length
        · have hd1 : decide ((m : Int) + 1 ≤ (rs.length : Int)) = true := by simp; omega
          have hd2 : decide ((m : Int) < (rs.length : Int)) = true := by simp; omega
          go_wp2_with fail
          go_loopw [11] (fun i wr => ∃ n : Nat, n ≤ rs.length ∧ i = .int .i64 ((n : Int) + 1) ∧ ∃ u, wr = f u) (fun i _ => rs.length + 1 - (intOf i).toNat)
          case atStart => exact ⟨0, by omega, rfl, _, rfl⟩
          case round =>
            obtain ⟨n, hn, rfl, un, rfl⟩ := hrel
            by_cases hnt : n < rs.length
            · obtain ⟨ga, o, hpa, hga, hc1⟩ := HNu.out un m hmt
              obtain ⟨gb, ob, hpb, hgb, hc2⟩ := HNu.out un n hnt
              have hpp := hpa.symm.trans hpb
              simp only [Option.some.injEq, Addr.mk.injEq, and_true] at hpp
              obtain ⟨rfl, rfl⟩ := hpp
              have hcu1 : ∀ u, (f u).cell? ⟨ga, o + m, none⟩ = some (.int .i64 rs[m]) := fun u => by
                obtain ⟨ga', o', e, -, h⟩ := HNu.out u m hmt
                have := hpa.symm.trans e
                simp only [Option.some.injEq, Addr.mk.injEq, and_true] at this
                obtain ⟨rfl, rfl⟩ := this; exact h
              have hcu2 : ∀ u, (f u).cell? ⟨ga, o + n, none⟩ = some (.int .i64 rs[n]) := fun u => by
                obtain ⟨ga', o', e, -, h⟩ := HNu.out u n hnt
                have := hpa.symm.trans e
                simp only [Option.some.injEq, Addr.mk.injEq, and_true] at this
                obtain ⟨rfl, rfl⟩ := this; exact h
              obtain ⟨y, hy⟩ : ∃ y, rs[m] = y := ⟨_, rfl⟩
              obtain ⟨y', hy'⟩ : ∃ y', rs[n] = y' := ⟨_, rfl⟩
              rw [hy] at hcu1; rw [hy'] at hcu2
              clear hc1 hc2 hpb hgb
              by_cases e : y = y'
              · subst e
                cases ha : hasB (memU av ax al) ((m : Int) + 1)
                · have HA := Lib.hid ha
                  clear ha hy hy'
                  subst hpa
                  go_wp2_with fail
                  refine wp_region_calm f (by kernel_rfl) (by kernel_rfl) (calm_drew hf hg _) ?_
                  repeat (go_big_quiet_step ((first | (go_at_call 31; with_reducible exact calm_same (refHas_is' (memU av ax al) _ _ (memU_fit av ax al).1 (memU_fit av ax al).2 HA)))))
                  refine wpQuiet_nil ?_; rintro _ ⟨u, rfl⟩
                  go_wp2_with fail
                  go_roundw
                  case rel => exact ⟨n + 1, by omega, by go_num, _, rfl⟩
                  case measure => simp [intOf]; omega
                · have HA := Lib.hid ha
                  cases hb : hasB (memU av ax al) ((n : Int) + 1)
                  · have HBn := Lib.hid hb
                    obtain ⟨X, hX⟩ : ∃ X, load.getD m 0 = X := ⟨_, rfl⟩
                    obtain ⟨Y, hY⟩ : ∃ Y, load.getD n 0 = Y := ⟨_, rfl⟩
                    have HX := Lib.hid hX; have HY := Lib.hid hY
                    have key : X < Y ∨ (X = Y ∧ m ≤ n) := by
                      have f0 := HFC.out
                      have em : ((m : Int) + 1) = ((m + 1 : Nat) : Int) := by omega
                      have en : ((n : Int) + 1) = ((n + 1 : Nat) : Int) := by omega
                      rw [em, hasB_mem f0.v0 f0.x0 f0.l0 (m + 1) (by omega) (by omega)] at ha
                      rw [en, hasB_mem f0.v0 f0.x0 f0.l0 (n + 1) (by omega) (by omega)] at hb
                      have := HBAL.out (m + 1) (n + 1) (by omega) (by omega) (by omega) (by omega) (by
                        simp only [Nat.add_sub_cancel]
                        rw [List.getD_eq_getElem?_getD, List.getD_eq_getElem?_getD, List.getElem?_eq_getElem hmt, List.getElem?_eq_getElem hnt, hy, hy']) ha hb
                      unfold ldP at this
                      simp only [Nat.add_sub_cancel] at this
                      rw [hX, hY] at this; omega
                    clear ha hb hX hY hy hy'
                    by_cases hxy : X = Y
                    · subst hxy
                      have hmn : m ≤ n := by omega
                      have hgt : decide ((n : Int) + 1 < (m : Int) + 1) = false := by simp; omega
                      have hgt2 : decide ((n : Int) < (m : Int)) = false := by simp; omega
                      clear key
                      subst hpa
                      go_wp2_with fail
                      refine wp_region_calm f (by kernel_rfl) (by kernel_rfl) (calm_drew hf hg _) ?_
                      repeat (go_big_quiet_step ((first | (go_at_call 31; with_reducible exact calm_same (refHas_is' (memU av ax al) _ _ (memU_fit av ax al).1 (memU_fit av ax al).2 HA)) | (go_at_call 31; with_reducible exact calm_same (refHas_is' (memU av ax al) _ _ (memU_fit av ax al).1 (memU_fit av ax al).2 HBn)) | (go_at_call 37; with_reducible exact calm_same (loadOf_is load pld capl m _ (by omega) (HLu.out _) HX)) | (go_at_call 37; with_reducible exact calm_same (loadOf_is load pld capl n _ (by omega) (HLu.out _) HY)))))
                      refine wpQuiet_nil ?_; rintro _ ⟨u, rfl⟩
                      go_wp2_with fail
                      go_roundw
                      case rel => exact ⟨n + 1, by omega, by go_num, _, rfl⟩
                      case measure => simp [intOf]; omega
                    · have hq : (X == Y) = false := by simp [hxy]
                      have hgt : decide (Y < X) = false := by simp; omega
                      clear key hxy
                      subst hpa
                      go_wp2_with fail
                      refine wp_region_calm f (by kernel_rfl) (by kernel_rfl) (calm_drew hf hg _) ?_
                      repeat (go_big_quiet_step ((first | (go_at_call 31; with_reducible exact calm_same (refHas_is' (memU av ax al) _ _ (memU_fit av ax al).1 (memU_fit av ax al).2 HA)) | (go_at_call 31; with_reducible exact calm_same (refHas_is' (memU av ax al) _ _ (memU_fit av ax al).1 (memU_fit av ax al).2 HBn)) | (go_at_call 37; with_reducible exact calm_same (loadOf_is load pld capl m _ (by omega) (HLu.out _) HX)) | (go_at_call 37; with_reducible exact calm_same (loadOf_is load pld capl n _ (by omega) (HLu.out _) HY)))))
                      refine wpQuiet_nil ?_; rintro _ ⟨u, rfl⟩
                      go_wp2_with fail
                      go_roundw
                      case rel => exact ⟨n + 1, by omega, by go_num, _, rfl⟩
                      case measure => simp [intOf]; omega
                  · have HBn := Lib.hid hb
                    clear ha hb hy hy'
                    subst hpa
                    go_wp2_with fail
                    refine wp_region_calm f (by kernel_rfl) (by kernel_rfl) (calm_drew hf hg _) ?_
                    repeat (go_big_quiet_step ((first | (go_at_call 31; with_reducible exact calm_same (refHas_is' (memU av ax al) _ _ (memU_fit av ax al).1 (memU_fit av ax al).2 HA)) | (go_at_call 31; with_reducible exact calm_same (refHas_is' (memU av ax al) _ _ (memU_fit av ax al).1 (memU_fit av ax al).2 HBn)))))
                    refine wpQuiet_nil ?_; rintro _ ⟨u, rfl⟩
                    go_wp2_with fail
                    go_roundw
                    case rel => exact ⟨n + 1, by omega, by go_num, _, rfl⟩
                    case measure => simp [intOf]; omega
              · have hq : (y == y') = false := by simp [e]
                clear e hy hy'
                subst hpa
                go_wp2_with fail
                refine wp_region_calm f (by kernel_rfl) (by kernel_rfl) (calm_drew hf hg _) ?_
                repeat (go_big_quiet_step ((first | fail)))
                refine wpQuiet_nil ?_; rintro _ ⟨u, rfl⟩
                go_wp2_with fail
                go_roundw
                case rel => exact ⟨n + 1, by omega, by go_num, _, rfl⟩
                case measure => simp [intOf]; omega
            · go_wp2_with fail
              go_roundw
              case rel => exact ⟨m + 1, by omega, by go_num, _, rfl⟩
              case measure => simp [intOf]; omega
        · go_wp2_with fail
          go_ret
          exact ⟨rfl, HBF.out _⟩
    · have hd : (ea != 0) = true := by simp [he]
      clear he
      go_enter Try.func10, Try.ntmps10
      go_wp2_with fail
      refine (begun11_any _).mono ?_; rintro r w1 ⟨rfl, hb1⟩
      have hA := below_block hb1 (by simp) (heap_last w (.cells #[.slice pv z.v.length cv, .slice pw z.w.length cw, .slice pl z.l.length cl, .int .i64 z.e, .int .i64 z.k, .int .i64 z.s] 43))
      have HB1 := Lib.hid (box_out (box_first hb1))
      have kA := block_cells hA
      clear hb1
      go_wp2_with fail
      refine (light_is' rs load z p pld pv pw pl cap capl cv cw cl _ hr m0 m1 m2 m3 HLT).mono ?_; rintro r w2 ⟨rfl, hb2⟩
      replace hA := below_block hb2 (block_lt hA) hA
      have HB2 := Lib.hid (bstep HB1.out hb2)
      clear hb2 kA
      have kA := block_cells hA
      have N0 := Lib.hid (HC.out.keep HB2.out (Nat.le_refl _)); have L0 := Lib.hid (HCL.out.keep HB2.out (Nat.le_refl _)); have Z0 := Lib.hid (HZ.out.keep HB2.out (Nat.le_refl _))
      go_wp2_with fail
      refine (allot_is rs load z p pld pv pw pl cap capl cv cw cl (by omega) (by omega) (by omega) (by omega) (by omega) _ N0.out L0.out Z0.out HAl).mono ?_; rintro r w3 ⟨rfl, hb⟩
      have HB3 := Lib.hid ((bstep HB2.out hb).alloc (bstep HB2.out hb).size (.cells #[.int .u16 av, .int .u16 ax, .int .u16 al, .int .i64 ae, .int .i64 ak] 39))
      clear kA hb hA
      go_wp2_with fail
      go_ret
      exact ⟨rfl, HB3.out⟩
end
theorem zbal_sl (rs load : List Int) (z : Zn) (pv pw pl : Option Addr) (cv cw cl : Nat) (v0 v2 : Value) (w : World) (hs : Sl w.heap.size w v0 1 rs.length (rs.map (.int .i64))) (hs2 : Sl w.heap.size w v2 1 load.length (load.map (.int .i64)))
    (hz : ZoneAt w z pv pw pl) (m0 : z.v.length ≤ maxLen) (m1 : z.w.length ≤ maxLen) (m2 : z.l.length ≤ maxLen) :
    Calls Try.prog 10 #[v0, .agg #[.slice pv z.v.length cv, .slice pw z.w.length cw, .slice pl z.l.length cl, .int .i64 z.e, .int .i64 z.k, .int .i64 z.s], v2] w fun r w' => r = .returned (.bool true) ∧ Below w.heap.size w w' := by
  obtain ⟨p, cap, rfl, hx, hn⟩ := NumsAt.of_sl hs (Nat.le_refl _)
  obtain ⟨pld, capl, rfl, hx2, hn2⟩ := NumsAt.of_sl hs2 (Nat.le_refl _)
  exact zbal_walk rs load z p pld pv pw pl cap capl cv cw cl w hx m0 m1 m2 hx2 hn hn2 hz

set_option maxRecDepth 100000 in
theorem zbal_lifted (os : Os) (started : os.Started) (H : Type) (enc : TypeId × Value → H) :
    ReturnsInHanded {} Try.checked os 10 .any (Rows.zoneBalanceSpec.pre6 enc Try.prog Try.f10 Rows.zoneBalanceRow.domain false) (Rows.zoneBalanceSpec.post enc Try.prog Try.f10 false true false false) := by
  refine lift_law (C := Try.checked) (tb := 4) (by kernel_rfl) started (by kernel_rfl) Try.func10 (ChangeSpec.witness6 (enc := enc) (C := Try.checked) false ⟨#[], #[.slice none 0 0, .agg #[.slice none 0 0, .slice none 0 0, .slice none 0 0, .int .i64 0, .int .i64 0, .int .i64 0], .slice none 0 0], []⟩ 8 (by kernel_rfl) (by kernel_rfl) (by kernel_rfl) (by kernel_rfl)) (by kernel_rfl) (by kernel_rfl) rfl Try.underlying4 rfl ?_ ?_
  · intro ds h
    match ds, h with
    | [_, _, _], _ => rfl
  · intro W base args ds ps hval0 hA0 hlt hsz
    have hval : ∀ (j : Nat) t v, Try.f10.params[j]? = some t → args[j]? = some v → Value.okWide Try.prog W .any base t v := hval0
    have hA : DataW.TrodAll enc Try.prog W 0 (fun _ => true) true Try.f10.params.toList args.toList ds ps := hA0
    rw [Try.params10] at hA hval
    obtain ⟨v0, v1, v2, d0, d1, d2, p0, p1, p2, rfl, rfl, rfl, h0, h1, h2⟩ := trodAll_three hA
    obtain ⟨rs, hs, -⟩ := open_nums Try.underlying35 Try.underlying3 (by kernel_rfl) (hval 0 35 v0 rfl rfl) h0
    obtain ⟨z, pv, pw, pl, cv, cw, cl, rfl, hz, m0, m1, m2⟩ := open_zone (hval 1 43 v1 rfl rfl) h1
    obtain ⟨load, hs2, -⟩ := open_nums Try.underlying35 Try.underlying3 (by kernel_rfl) (hval 2 35 v2 rfl rfl) h2
    exact zbal_sl rs load z pv pw pl cv cw cl v0 v2 W hs hs2 hz m0 m1 m2

theorem zbal_holds : Rows.ZoneBalanceSaid :=
  OpenClaim.holds_of_wide 10 Try.f10 rfl rfl rfl rfl rfl rfl rfl ⟨rfl, rfl, rfl, rfl, rfl⟩ rfl rfl rfl rfl rfl (by kernel_rfl) Try.func10 (by kernel_rfl)
    (of_decide_eq_true (by kernel_rfl)) (by unfold Func.isWrapper; first | (rw [if_pos (by decide +kernel)]; kernel_rfl) | (rw [if_neg (by decide +kernel)]; exact ⟨rfl, rfl⟩))
    (fun os started H enc _ => zbal_lifted os started H enc)
#print axioms zbal_holds

end Go.Proofs.Ytihkkoldjllifaa
