/- EntriesOrder: for all three lists of steps (40 at most each; others are let through): of any two logs one is at least as new as the other one, both if they end alike, and of three it holds through; no condition. -/
import Derived.Test.YtabiccpodnjieaaOrdFit
import Derived.Test.YtabiccpodnjieaaEOrdT1
import Derived.Test.YtabiccpodnjieaaEOrdT2
import Derived.Test.YtabiccpodnjieaaEOrdT3
import Derived.Test.YtabiccpodnjieaaFrame
import Derived.Test.YtabiccpodnjieaaRows
namespace Go.Proofs.Ytabiccpodnjieaa
open Go.ChangeShapes Go.WideShapes Go.ChangeAt Go.RowKit

set_option maxRecDepth 100000 in
set_option maxHeartbeats 16000000 in
theorem eorder_walk (va vb vc : Value) (xs ys zs : List Int) (ha : Oct xs) (hb : Oct ys) (hc : Oct zs) (w : World) (sa : Sl w.heap.size w va 1 xs.length (byt xs)) (sb : Sl w.heap.size w vb 1 ys.length (byt ys)) (sc : Sl w.heap.size w vc 1 zs.length (byt zs)) :
    Calls Try.prog 4 #[va, vb, vc] w fun r w' => r = .returned (.bool true) ∧ Below w.heap.size w w' := by
  have SA := Lib.hid sa; have SB := Lib.hid sb; have SC := Lib.hid sc
  obtain ⟨pa, ca, rfl, a1, a2, -, -⟩ := sa.form
  obtain ⟨pb, cb, rfl, b1, b2, -, -⟩ := sb.form
  obtain ⟨pc, cc, rfl, c1, c2, -, -⟩ := sc.form
  unfold maxLen at a2 b2 c2
  clear sa sb sc
  by_cases hl : 40 < xs.length ∨ 40 < ys.length ∨ 40 < zs.length
  · have h3 : (40 < xs.length) ∨ (¬ 40 < xs.length ∧ 40 < ys.length) ∨ (¬ 40 < xs.length ∧ ¬ 40 < ys.length ∧ 40 < zs.length) := by omega
    clear hl
    rcases h3 with h | ⟨h, h'⟩ | ⟨h, h', h''⟩
    all_goals
      go_enter Try.func4, Try.ntmps4
      go_wp2_with fail
      refine (begun_any _).mono ?_; rintro r w1 ⟨rfl, hb⟩
      go_wp2_with fail
      go_ret
      exact ⟨rfl, hb⟩
  have hla : xs.length ≤ 40 := by omega
  have hlb : ys.length ≤ 40 := by omega
  have hlc : zs.length ≤ 40 := by omega
  have HX := Lib.hid ha; have HY := Lib.hid hb; have HZ := Lib.hid hc
  clear hl ha hb hc
  obtain ⟨l, hl⟩ : ∃ l, madeL xs 0 0 = l := ⟨_, rfl⟩
  obtain ⟨m, hm⟩ : ∃ m, madeL ys 0 0 = m := ⟨_, rfl⟩
  obtain ⟨n, hn⟩ : ∃ n, madeL zs 0 0 = n := ⟨_, rfl⟩
  have FL : Hid (LgFit l) := by show LgFit l; rw [← hl]; exact made_fit xs (by omega) (by decide) (by decide)
  have FM : Hid (LgFit m) := by show LgFit m; rw [← hm]; exact made_fit ys (by omega) (by decide) (by decide)
  have FN : Hid (LgFit n) := by show LgFit n; rw [← hn]; exact made_fit zs (by omega) (by decide) (by decide)
  have HL := Lib.hid hl; have HM := Lib.hid hm; have HN := Lib.hid hn
  clear hl hm hn
  go_enter Try.func4, Try.ntmps4
  go_wp2_with fail
  refine (begun_any _).mono ?_; rintro r w1 ⟨rfl, hb1⟩
  have B1 := Lib.hid hb1
  clear hb1
  go_upto_region 5 with fail
  have hM1 := made_any (.slice pa xs.length ca) xs 0 0 w1 HX.out ((SA.out.keep B1.out).mono B1.out.size) (by omega) (by decide)
  rw [HL.out] at hM1
  have hM1' := Lib.hid hM1
  clear hM1
  go_wp2_with fail
  refine hM1'.out.mono ?_; rintro r w2 ⟨p1, k1, rfl, ho1, hb2⟩
  have B2 := Lib.hid (B1.out.trans (hb2.mono B1.out.size))
  have E1 := Lib.hid (EnSl.of_own ho1)
  clear hb2 ho1
  have hM2 := made_any (.slice pb ys.length cb) ys 0 0 w2 HY.out ((SB.out.keep B2.out).mono B2.out.size) (by omega) (by decide)
  rw [HM.out] at hM2
  have hM2' := Lib.hid hM2
  clear hM2
  go_wp2_with fail
  refine hM2'.out.mono ?_; rintro r w3 ⟨p2, k2, rfl, ho2, hb3⟩
  have B3 := Lib.hid (B2.out.trans (hb3.mono B2.out.size))
  have E2 := Lib.hid (EnSl.of_own ho2)
  have E13 := Lib.hid (E1.out.keep hb3 (Nat.le_refl _))
  clear hb3 ho2
  have hM3 := made_any (.slice pc zs.length cc) zs 0 0 w3 HZ.out ((SC.out.keep B3.out).mono B3.out.size) (by omega) (by decide)
  rw [HN.out] at hM3
  have hM3' := Lib.hid hM3
  clear hM3
  go_wp2_with fail
  refine hM3'.out.mono ?_; rintro r w4 ⟨p3, k3, rfl, ho3, hb4⟩
  have B4 := Lib.hid (B3.out.trans (hb4.mono B3.out.size))
  have E3 := Lib.hid (EnSl.of_own ho3)
  have E14 := Lib.hid (E13.out.keep hb4 (Nat.le_refl _))
  have E24 := Lib.hid (E2.out.keep hb4 (Nat.le_refl _))
  clear hb4 ho3
  go_upto_region 6 with fail
  obtain ⟨W, hW⟩ : ∃ W, ((w4.alloc (.cells #[.int .i64 l.b, .int .i64 l.bt, .int .u16 l.j.ov, .int .u16 l.j.ox, .int .u16 l.j.ol, .int .i64 l.j.oe, .int .i64 l.j.ok, .int .u16 l.j.nv, .int .u16 l.j.nx, .int .u16 l.j.nl, .int .i64 l.j.ne, .int .i64 l.j.nk, .bool l.j.two, .slice p1 l.es.length k1] 32)).alloc (.cells #[.int .i64 m.b, .int .i64 m.bt, .int .u16 m.j.ov, .int .u16 m.j.ox, .int .u16 m.j.ol, .int .i64 m.j.oe, .int .i64 m.j.ok, .int .u16 m.j.nv, .int .u16 m.j.nx, .int .u16 m.j.nl, .int .i64 m.j.ne, .int .i64 m.j.nk, .bool m.j.two, .slice p2 m.es.length k2] 32)).alloc (.cells #[.int .i64 n.b, .int .i64 n.bt, .int .u16 n.j.ov, .int .u16 n.j.ox, .int .u16 n.j.ol, .int .i64 n.j.oe, .int .i64 n.j.ok, .int .u16 n.j.nv, .int .u16 n.j.nx, .int .u16 n.j.nl, .int .i64 n.j.ne, .int .i64 n.j.nk, .bool n.j.two, .slice p3 n.es.length k3] 32) = W := ⟨_, rfl⟩
  have hA : W.heap[w4.heap.size]? = some (.cells #[.int .i64 l.b, .int .i64 l.bt, .int .u16 l.j.ov, .int .u16 l.j.ox, .int .u16 l.j.ol, .int .i64 l.j.oe, .int .i64 l.j.ok, .int .u16 l.j.nv, .int .u16 l.j.nx, .int .u16 l.j.nl, .int .i64 l.j.ne, .int .i64 l.j.nk, .bool l.j.two, .slice p1 l.es.length k1] 32 (0, 0)) := by rw [← hW]; exact heap_prev _ (heap_prev _ (heap_last w4 _))
  have hA1 : W.heap[w4.heap.size + 1]? = some (.cells #[.int .i64 m.b, .int .i64 m.bt, .int .u16 m.j.ov, .int .u16 m.j.ox, .int .u16 m.j.ol, .int .i64 m.j.oe, .int .i64 m.j.ok, .int .u16 m.j.nv, .int .u16 m.j.nx, .int .u16 m.j.nl, .int .i64 m.j.ne, .int .i64 m.j.nk, .bool m.j.two, .slice p2 m.es.length k2] 32 (0, 0)) := by rw [← hW]; exact heap_prev _ (heap_atL (by simp))
  have hA2 : W.heap[w4.heap.size + 1 + 1]? = some (.cells #[.int .i64 n.b, .int .i64 n.bt, .int .u16 n.j.ov, .int .u16 n.j.ox, .int .u16 n.j.ol, .int .i64 n.j.oe, .int .i64 n.j.ok, .int .u16 n.j.nv, .int .u16 n.j.nx, .int .u16 n.j.nl, .int .i64 n.j.ne, .int .i64 n.j.nk, .bool n.j.two, .slice p3 n.es.length k3] 32 (0, 0)) := by rw [← hW]; exact heap_atL (by simp)
  have hB : Below w4.heap.size w4 W := by rw [← hW]; exact (((Below.refl _ w4).alloc (Nat.le_refl _) _).alloc (by simp) _).alloc (by simp; omega) _
  rw [hW]
  clear hW
  have EL := Lib.hid (E14.out.keep hB (Nat.le_refl _)); have EM := Lib.hid (E24.out.keep hB (Nat.le_refl _)); have EN := Lib.hid (E3.out.keep hB (Nat.le_refl _))
  have HBW := Lib.hid (B4.out.trans (hB.mono B4.out.size))
  have HA := Lib.hid hA; have HA1 := Lib.hid hA1; have HA2 := Lib.hid hA2
  obtain ⟨A, eA⟩ : ∃ A, w4.heap.size = A := ⟨_, rfl⟩
  rw [eA] at HA HA1 HA2 ⊢
  clear hA hA1 hA2 hB E14 E24 E3 E13 E1 E2 hM1' hM2' hM3' SA SB SC HX HY HZ HL HM HN eA
  obtain ⟨VL, hVL⟩ : ∃ v, Value.agg #[.int .i64 l.b, .int .i64 l.bt, .int .u16 l.j.ov, .int .u16 l.j.ox, .int .u16 l.j.ol, .int .i64 l.j.oe, .int .i64 l.j.ok, .int .u16 l.j.nv, .int .u16 l.j.nx, .int .u16 l.j.nl, .int .i64 l.j.ne, .int .i64 l.j.nk, .bool l.j.two, .slice p1 l.es.length k1] = v := ⟨_, rfl⟩
  obtain ⟨VM, hVM⟩ : ∃ v, Value.agg #[.int .i64 m.b, .int .i64 m.bt, .int .u16 m.j.ov, .int .u16 m.j.ox, .int .u16 m.j.ol, .int .i64 m.j.oe, .int .i64 m.j.ok, .int .u16 m.j.nv, .int .u16 m.j.nx, .int .u16 m.j.nl, .int .i64 m.j.ne, .int .i64 m.j.nk, .bool m.j.two, .slice p2 m.es.length k2] = v := ⟨_, rfl⟩
  obtain ⟨VN, hVN⟩ : ∃ v, Value.agg #[.int .i64 n.b, .int .i64 n.bt, .int .u16 n.j.ov, .int .u16 n.j.ox, .int .u16 n.j.ol, .int .i64 n.j.oe, .int .i64 n.j.ok, .int .u16 n.j.nv, .int .u16 n.j.nx, .int .u16 n.j.nl, .int .i64 n.j.ne, .int .i64 n.j.nk, .bool n.j.two, .slice p3 n.es.length k3] = v := ⟨_, rfl⟩
  rw [hVL, hVM, hVN]
  obtain ⟨U, f, hU, hf, hg⟩ := calm_class (W); obtain ⟨u0, hu0⟩ := hg _ (Below.refl _ _); rw [hu0]; clear hu0
  have kA := fun u => block_cells (calm_heap hf HA.out u)
  have kA1 := fun u => block_cells (calm_heap hf HA1.out u)
  have kA2 := fun u => block_cells (calm_heap hf HA2.out u)
  have HBu : Hid (∀ u, Below W.heap.size W (f u)) := fun u => hf u
  obtain ⟨X, hX⟩ : ∃ X, l.last = X := ⟨_, rfl⟩
  obtain ⟨Y, hY⟩ : ∃ Y, m.last = Y := ⟨_, rfl⟩
  obtain ⟨S, hS⟩ : ∃ S, termL l X = S := ⟨_, rfl⟩
  obtain ⟨T, hT⟩ : ∃ T, termL m Y = T := ⟨_, rfl⟩
  have hlS : lastTerm l = S.1 := by unfold lastTerm; rw [hX, hS]
  have hlT : lastTerm m = T.1 := by unfold lastTerm; rw [hY, hT]
  have HXb : Hid (-9223372036854775808 ≤ X ∧ X ≤ 9223372036854775807) := by show _ ∧ _; rw [← hX]; exact FL.out.last0
  have HYb : Hid (-9223372036854775808 ≤ Y ∧ Y ≤ 9223372036854775807) := by show _ ∧ _; rw [← hY]; exact FM.out.last0
  have LX : Hid (∀ u, Calls Try.prog 12 #[VL] (f u) fun r w' => r = .returned (.int .i64 X) ∧ Below (f u).heap.size (f u) w') := fun u => by
    have := last_any l p1 k1 (f u) FL.out.b0 FL.out.b1 FL.out.n; rw [hX] at this; simp only [hVL] at this; exact this
  have LY : Hid (∀ u, Calls Try.prog 12 #[VM] (f u) fun r w' => r = .returned (.int .i64 Y) ∧ Below (f u).heap.size (f u) w') := fun u => by
    have := last_any m p2 k2 (f u) FM.out.b0 FM.out.b1 FM.out.n; rw [hY] at this; simp only [hVM] at this; exact this
  have TX : Hid (∀ u, Calls Try.prog 14 #[VL, .int .i64 X] (f u) fun r w' => r = .returned (.tuple #[.int .i64 S.1, .bool S.2]) ∧ Below (f u).heap.size (f u) w') := fun u => by
    have := term_is l p1 k1 (f u) FL.out HXb.out (EL.out.keep (HBu.out u) (Nat.le_refl _)); rw [hS] at this; simp only [hVL] at this; exact this
  have TY : Hid (∀ u, Calls Try.prog 14 #[VM, .int .i64 Y] (f u) fun r w' => r = .returned (.tuple #[.int .i64 T.1, .bool T.2]) ∧ Below (f u).heap.size (f u) w') := fun u => by
    have := term_is m p2 k2 (f u) FM.out HYb.out (EM.out.keep (HBu.out u) (Nat.le_refl _)); rw [hT] at this; simp only [hVM] at this; exact this
  have NLM : Hid (∀ u, Calls Try.prog 17 #[VL, VM] (f u) fun r w' => r = .returned (.bool (newB l m)) ∧ Below (f u).heap.size (f u) w') := fun u => by
    have := newer12_any l m p1 p2 k1 k2 (f u) FL.out FM.out (EL.out.keep (HBu.out u) (Nat.le_refl _)) (EM.out.keep (HBu.out u) (Nat.le_refl _))
    simp only [hVL, hVM] at this; exact this
  have NML : Hid (∀ u, Calls Try.prog 17 #[VM, VL] (f u) fun r w' => r = .returned (.bool (newB m l)) ∧ Below (f u).heap.size (f u) w') := fun u => by
    have := newer12_any m l p2 p1 k2 k1 (f u) FM.out FL.out (EM.out.keep (HBu.out u) (Nat.le_refl _)) (EL.out.keep (HBu.out u) (Nat.le_refl _))
    simp only [hVL, hVM] at this; exact this
  have NMN : Hid (∀ u, Calls Try.prog 17 #[VM, VN] (f u) fun r w' => r = .returned (.bool (newB m n)) ∧ Below (f u).heap.size (f u) w') := fun u => by
    have := newer12_any m n p2 p3 k2 k3 (f u) FM.out FN.out (EM.out.keep (HBu.out u) (Nat.le_refl _)) (EN.out.keep (HBu.out u) (Nat.le_refl _))
    simp only [hVM, hVN] at this; exact this
  have NLN : Hid (∀ u, Calls Try.prog 17 #[VL, VN] (f u) fun r w' => r = .returned (.bool (newB l n)) ∧ Below (f u).heap.size (f u) w') := fun u => by
    have := newer12_any l n p1 p3 k1 k3 (f u) FL.out FN.out (EL.out.keep (HBu.out u) (Nat.le_refl _)) (EN.out.keep (HBu.out u) (Nat.le_refl _))
    simp only [hVL, hVN] at this; exact this
  refine wp_region_calm f (by kernel_rfl) (by kernel_rfl) (calm_drew hf hg _) ?_
  repeat (go_big_quiet_step ((first | (go_at_call 12; with_reducible exact calm_of hf hg (LX.out _)) | (go_at_call 14; with_reducible exact calm_of hf hg (TX.out _)))))
  refine wpQuiet_nil ?_; rintro _ ⟨u, rfl⟩
  go_upto_region 7 with fail
  refine wp_region_calm f (by kernel_rfl) (by kernel_rfl) (calm_drew hf hg _) ?_
  repeat (go_big_quiet_step ((first | (go_at_call 12; with_reducible exact calm_of hf hg (LY.out _)) | (go_at_call 14; with_reducible exact calm_of hf hg (TY.out _)))))
  refine wpQuiet_nil ?_; rintro _ ⟨u, rfl⟩
  have e1 : lastTerm l = S.1 := hlS
  have e2 : lastTerm m = T.1 := hlT
  obtain ⟨s1, hs1⟩ : ∃ s, S.1 = s := ⟨_, rfl⟩
  obtain ⟨t1, ht1⟩ : ∃ t, T.1 = t := ⟨_, rfl⟩
  rw [hs1] at e1 ⊢
  rw [ht1] at e2 ⊢
  have HLS := Lib.hid e1; have HLT := Lib.hid e2; have HXX := Lib.hid hX; have HYY := Lib.hid hY
  clear hlS hlT hX hY hS hT e1 e2 hs1 ht1 TX TY HXb HYb
  have HNLM : Hid (newB l m = true ↔ t1 < s1 ∨ (s1 = t1 ∧ Y ≤ X)) := by
    have := newB_iff l m; rw [HLS.out, HLT.out, HXX.out, HYY.out] at this; exact this
  have HNML : Hid (newB m l = true ↔ s1 < t1 ∨ (t1 = s1 ∧ X ≤ Y)) := by
    have := newB_iff m l; rw [HLS.out, HLT.out, HXX.out, HYY.out] at this; exact this
  have HTR : Hid (newB l m = true → newB m n = true → newB l n = true) := newB_trans
  clear HLS HLT HXX HYY FL FM FN EL EM EN B1 B2 B3 B4
  obtain ⟨b1, hb1⟩ : ∃ b, newB l m = b := ⟨_, rfl⟩
  obtain ⟨b2, hb2⟩ : ∃ b, newB m l = b := ⟨_, rfl⟩
  obtain ⟨b3, hb3⟩ : ∃ b, newB m n = b := ⟨_, rfl⟩
  obtain ⟨b4, hb4⟩ : ∃ b, newB l n = b := ⟨_, rfl⟩
  rw [hb1] at HNLM HTR NLM
  rw [hb2] at HNML NML
  rw [hb3] at HTR NMN
  rw [hb4] at HTR NLN
  clear hb1 hb2 hb3 hb4
  go_upto_region 8 with fail
  rcases Int.lt_trichotomy s1 t1 with h1 | h1 | h1
  · have hst : (s1 == t1) = false := by simp; omega
    obtain rfl : b1 = false := by cases b1; rfl; have := HNLM.out.1 rfl; omega
    obtain rfl : b2 = true := HNML.out.2 (by omega)
    refine wp_region_calm f (by kernel_rfl) (by kernel_rfl) (calm_drew hf hg _) ?_
    repeat (go_big_quiet_step ((first | (go_at_call 12; with_reducible exact calm_of hf hg (LX.out _)) | (go_at_call 12; with_reducible exact calm_of hf hg (LY.out _)))))
    refine wpQuiet_nil ?_; rintro _ ⟨u, rfl⟩
    go_upto_region 9 with fail
    refine eord_tail3 l m n p1 p2 p3 k1 k2 k3 A VL VM VN hVL hVM hVN hf hg kA kA1 kA2 b3 b4 NLM NML NMN NLN _ _ _ _ _ _ _ _ _ _ _ _ _ _ _ _ _ _ _ _ _ _ _ _ _ _ _ _ _ _ _ _ _ _ _ _ _ _ _ _ _ _ _ _ _ _ _ _ _ _ _ _ _ _ _ _ _ _ _ _ _ _ _ _ _ _ _ _ _ _ _ _ _ _ _ _ _ _ _ _ _ _ _ _ _ _ _ _ _ _ _ _ _ _ _ ?_
    show ∀ _ _, _
    intro a' u' h6 hd
    go_wp2_with fail
    refine bodyPost_ret (v := .bool true) ?_ hd ⟨rfl, HBW.out.trans ((hf _).mono HBW.out.size)⟩
    rw [results_tmp rfl, h6]
  · subst h1
    have hst : (s1 == s1) = true := by simp
    refine wp_region_calm f (by kernel_rfl) (by kernel_rfl) (calm_drew hf hg _) ?_
    repeat (go_big_quiet_step ((first | (go_at_call 12; with_reducible exact calm_of hf hg (LX.out _)) | (go_at_call 12; with_reducible exact calm_of hf hg (LY.out _)))))
    refine wpQuiet_nil ?_; rintro _ ⟨u, rfl⟩
    go_upto_region 9 with fail
    rcases Int.lt_trichotomy X Y with h2 | h2 | h2
    · obtain rfl : b1 = false := by cases b1; rfl; have := HNLM.out.1 rfl; omega
      obtain rfl : b2 = true := HNML.out.2 (by omega)
      have hxy : (X == Y) = false := by simp; omega
      rw [hxy]
      refine eord_tail3 l m n p1 p2 p3 k1 k2 k3 A VL VM VN hVL hVM hVN hf hg kA kA1 kA2 b3 b4 NLM NML NMN NLN _ _ _ _ _ _ _ _ _ _ _ _ _ _ _ _ _ _ _ _ _ _ _ _ _ _ _ _ _ _ _ _ _ _ _ _ _ _ _ _ _ _ _ _ _ _ _ _ _ _ _ _ _ _ _ _ _ _ _ _ _ _ _ _ _ _ _ _ _ _ _ _ _ _ _ _ _ _ _ _ _ _ _ _ _ _ _ _ _ _ _ _ _ _ _ ?_
      show ∀ _ _, _
      intro a' u' h6 hd
      go_wp2_with fail
      refine bodyPost_ret (v := .bool true) ?_ hd ⟨rfl, HBW.out.trans ((hf _).mono HBW.out.size)⟩
      rw [results_tmp rfl, h6]
    · obtain rfl : b1 = true := HNLM.out.2 (by omega)
      obtain rfl : b2 = true := HNML.out.2 (by omega)
      have hxy : (X == Y) = true := by simp; omega
      rw [hxy]
      refine eord_tail1 l m n p1 p2 p3 k1 k2 k3 A VL VM VN hVL hVM hVN hf hg kA kA1 kA2 b3 b4 NLM NML NMN NLN HTR _ _ _ _ _ _ _ _ _ _ _ _ _ _ _ _ _ _ _ _ _ _ _ _ _ _ _ _ _ _ _ _ _ _ _ _ _ _ _ _ _ _ _ _ _ _ _ _ _ _ _ _ _ _ _ _ _ _ _ _ _ _ _ _ _ _ _ _ _ _ _ _ _ _ _ _ _ _ _ _ _ _ _ _ _ _ _ _ _ _ _ _ _ _ _ ?_
      show ∀ _ _, _
      intro a' u' h6 hd
      go_wp2_with fail
      refine bodyPost_ret (v := .bool true) ?_ hd ⟨rfl, HBW.out.trans ((hf _).mono HBW.out.size)⟩
      rw [results_tmp rfl, h6]
    · obtain rfl : b1 = true := HNLM.out.2 (by omega)
      obtain rfl : b2 = false := by cases b2; rfl; have := HNML.out.1 rfl; omega
      have hxy : (X == Y) = false := by simp; omega
      rw [hxy]
      refine eord_tail2 l m n p1 p2 p3 k1 k2 k3 A VL VM VN hVL hVM hVN hf hg kA kA1 kA2 b3 b4 NLM NML NMN NLN HTR _ _ _ _ _ _ _ _ _ _ _ _ _ _ _ _ _ _ _ _ _ _ _ _ _ _ _ _ _ _ _ _ _ _ _ _ _ _ _ _ _ _ _ _ _ _ _ _ _ _ _ _ _ _ _ _ _ _ _ _ _ _ _ _ _ _ _ _ _ _ _ _ _ _ _ _ _ _ _ _ _ _ _ _ _ _ _ _ _ _ _ _ _ _ _ ?_
      show ∀ _ _, _
      intro a' u' h6 hd
      go_wp2_with fail
      refine bodyPost_ret (v := .bool true) ?_ hd ⟨rfl, HBW.out.trans ((hf _).mono HBW.out.size)⟩
      rw [results_tmp rfl, h6]
  · have hst : (s1 == t1) = false := by simp; omega
    obtain rfl : b1 = true := HNLM.out.2 (by omega)
    obtain rfl : b2 = false := by cases b2; rfl; have := HNML.out.1 rfl; omega
    refine wp_region_calm f (by kernel_rfl) (by kernel_rfl) (calm_drew hf hg _) ?_
    repeat (go_big_quiet_step ((first | (go_at_call 12; with_reducible exact calm_of hf hg (LX.out _)) | (go_at_call 12; with_reducible exact calm_of hf hg (LY.out _)))))
    refine wpQuiet_nil ?_; rintro _ ⟨u, rfl⟩
    go_upto_region 9 with fail
    refine eord_tail2 l m n p1 p2 p3 k1 k2 k3 A VL VM VN hVL hVM hVN hf hg kA kA1 kA2 b3 b4 NLM NML NMN NLN HTR _ _ _ _ _ _ _ _ _ _ _ _ _ _ _ _ _ _ _ _ _ _ _ _ _ _ _ _ _ _ _ _ _ _ _ _ _ _ _ _ _ _ _ _ _ _ _ _ _ _ _ _ _ _ _ _ _ _ _ _ _ _ _ _ _ _ _ _ _ _ _ _ _ _ _ _ _ _ _ _ _ _ _ _ _ _ _ _ _ _ _ _ _ _ _ ?_
    show ∀ _ _, _
    intro a' u' h6 hd
    go_wp2_with fail
    refine bodyPost_ret (v := .bool true) ?_ hd ⟨rfl, HBW.out.trans ((hf _).mono HBW.out.size)⟩
    rw [results_tmp rfl, h6]

set_option maxRecDepth 100000 in
theorem eorder_lifted (os : Os) (started : os.Started) (H : Type) (enc : TypeId × Value → H) :
    ReturnsInHanded {} Try.checked os 4 .any (Rows.entriesOrderSpec.pre6 enc Try.prog Try.f4 Rows.entriesOrderRow.domain false) (Rows.entriesOrderSpec.post enc Try.prog Try.f4 false true false false) := by
  refine lift_law (C := Try.checked) (tb := 4) (by kernel_rfl) started (by kernel_rfl) Try.func4 (ChangeSpec.witness6 (enc := enc) (C := Try.checked) false ⟨#[], #[.slice none 0 0, .slice none 0 0, .slice none 0 0], []⟩ 8 (by kernel_rfl) (by kernel_rfl) (by kernel_rfl) (by kernel_rfl)) (by kernel_rfl) (by kernel_rfl) rfl Try.underlying4 rfl ?_ ?_
  · intro ds h
    match ds, h with
    | [_, _, _], _ => rfl
  · intro W base args ds ps hval0 hA0 hlt hsz
    have hval : ∀ (j : Nat) t v, Try.f4.params[j]? = some t → args[j]? = some v → Value.okWide Try.prog W .any base t v := hval0
    have hA : DataW.TrodAll enc Try.prog W 0 (fun _ => true) true Try.f4.params.toList args.toList ds ps := hA0
    rw [Try.params4] at hA hval
    obtain ⟨v0, v1, v2, d0, d1, d2, p0, p1, p2, rfl, rfl, rfl, h0, h1, h2⟩ := trodAll_three hA
    obtain ⟨xs, hs, hw⟩ := open_nums Try.underlying22 Try.underlying5 (by kernel_rfl) (hval 0 22 v0 rfl rfl) h0
    obtain ⟨ys, hs1, hw1⟩ := open_nums Try.underlying22 Try.underlying5 (by kernel_rfl) (hval 1 22 v1 rfl rfl) h1
    obtain ⟨zs, hs2, hw2⟩ := open_nums Try.underlying22 Try.underlying5 (by kernel_rfl) (hval 2 22 v2 rfl rfl) h2
    exact eorder_walk v0 v1 v2 xs ys zs (fun x hm => wf_u8 (hw x hm)) (fun x hm => wf_u8 (hw1 x hm)) (fun x hm => wf_u8 (hw2 x hm)) W hs hs1 hs2

theorem eorder_holds : Rows.EntriesOrderSaid :=
  OpenClaim.holds_of_wide 4 Try.f4 rfl rfl rfl rfl rfl rfl rfl ⟨rfl, rfl, rfl, rfl, rfl⟩ rfl rfl rfl rfl rfl (by kernel_rfl) Try.func4 (by kernel_rfl)
    (of_decide_eq_true (by kernel_rfl)) (by unfold Func.isWrapper; first | (rw [if_pos (by decide +kernel)]; kernel_rfl) | (rw [if_neg (by decide +kernel)]; exact ⟨rfl, rfl⟩))
    (fun os started H enc _ => eorder_lifted os started H enc)
#print axioms eorder_holds

end Go.Proofs.Ytabiccpodnjieaa
