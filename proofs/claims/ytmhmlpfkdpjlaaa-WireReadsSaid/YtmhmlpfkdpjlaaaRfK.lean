/- Wire: the reference's TakePart. -/
import Derived.Test.YtmhmlpfkdpjlaaaRfJ
import Derived.Test.YtmhmlpfkdpjlaaaGwD
namespace Go.Proofs.Ytmhmlpfkdpjlaaa
open Go.ChangeShapes Go.WideShapes Go.ChangeAt Go.RowKit

set_option maxRecDepth 100000 in
set_option maxHeartbeats 16000000 in
theorem rtakePart_any (X0 : List Int) (v : Value) (w : World) (hv : Sl w.heap.size w v 1 X0.length (byt X0)) (hoct : Oct X0) (hlen : (X0.length : Int) ≤ 140737488200000) :
    Calls Try.prog 25 #[v] w (TkPart w X0) := by
  obtain ⟨p, cap, rfl, hc1, hc2, -, -⟩ := hv.form
  have HV := Lib.hid hv; have HOC := Lib.hid hoct; have HLN := Lib.hid hlen
  obtain ⟨B, eB⟩ : ∃ n, w.heap.size = n := ⟨_, rfl⟩
  have HEB := Lib.hid eB
  clear hv hoct hlen hc1 hc2
  go_enter Try.func25, Try.ntmps25
  go_upto_region 2 with fail
  obtain ⟨Wa, hWa⟩ : ∃ x : World, w.alloc (.cells #[.int .i64 0, .int .i64 0, .int .i64 0, .int .i64 0, .int .i64 0, .int .i64 0, .slice none 0 0, .slice none 0 0, .slice none 0 0] 33) = x := ⟨_, rfl⟩
  obtain ⟨W, hW⟩ : ∃ x : World, Wa.alloc (.cells #[.slice p X0.length cap, .bool false] 110) = x := ⟨_, rfl⟩
  have sa : Wa.heap.size = B + 1 := by rw [← hWa]; simp; omega
  have sw : W.heap.size = B + 1 + 1 := by rw [← hW]; simp; omega
  have ba : Below B w Wa := by rw [← hWa]; exact (Below.refl _ _).alloc (by omega) _
  have bb : Below Wa.heap.size Wa W := by rw [← hW]; exact (Below.refl _ _).alloc (Nat.le_refl _) _
  have hR : W.heap[B + 1]? = some (.cells #[.slice p X0.length cap, .bool false] 110 (0, 0)) := by rw [← hW, ← sa]; exact heap_last _ _
  have hZa : Wa.heap[B]? = some (.cells #[.int .i64 0, .int .i64 0, .int .i64 0, .int .i64 0, .int .i64 0, .int .i64 0, .slice none 0 0, .slice none 0 0, .slice none 0 0] 33 (0, 0)) := by rw [← hWa, ← eB]; exact heap_last _ _
  have hZ := below_block bb (block_lt hZa) hZa
  have hB1 : Below B w W := ba.trans (bb.mono (by omega))
  have hr : RfW B W (B + 1) X0 false := ⟨⟨by omega, p, cap, hR, by have := HV.out; rw [eB] at this; exact this.keep hB1⟩, HOC.out, by have := HLN.out; omega⟩
  rw [hWa, hW]
  obtain ⟨R, eR⟩ : ∃ n, B + 1 = n := ⟨_, rfl⟩
  rw [eR] at hr sw ⊢
  have hBR : B < R := by omega
  have H0 := Lib.hid hr; have HB1 := Lib.hid hB1; have HZ := Lib.hid hZ
  clear hWa hW sa ba bb hR hZa hZ hB1 hr eR eB
  have hk0 := rfBy_oct 1 X0 false HOC.out
  obtain ⟨⟨L0, X1, b1⟩, hr0⟩ : ∃ r, rfBy 1 X0 false = r := ⟨_, rfl⟩
  have C0 := Lib.hid (rfby1_any B R X0 false W H0.out)
  rw [hr0] at C0 hk0
  dsimp only at hk0
  obtain ⟨n0, rfl⟩ : ∃ v, L0 = [v] := by
    match L0, hk0.2.2 with
    | [v], _ => exact ⟨v, rfl⟩
  have hrb : rfB X0 false = (n0, X1, b1) := by unfold rfB; rw [hr0]; rfl
  obtain ⟨⟨n1, X2, b2⟩, hr1⟩ : ∃ r, rfN X1 b1 = r := ⟨_, rfl⟩
  have C1 := Lib.hid (fun w' => rfn_any B R X1 b1 w')
  rw [hr1] at C1
  obtain ⟨⟨n2, X3, b3⟩, hr2⟩ : ∃ r, rfN X2 b2 = r := ⟨_, rfl⟩
  have C2 := Lib.hid (fun w' => rfn_any B R X2 b2 w')
  rw [hr2] at C2
  obtain ⟨⟨⟨s1, s2⟩, X4, b4⟩, hr3⟩ : ∃ r, rfS X3 b3 = r := ⟨_, rfl⟩
  have C3 := Lib.hid (fun w' => rfs_any B R X3 b3 w')
  rw [hr3] at C3
  obtain ⟨⟨n4, X5, b5⟩, hr4⟩ : ∃ r, rfN X4 b4 = r := ⟨_, rfl⟩
  have C4 := Lib.hid (fun w' => rfn_any B R X4 b4 w')
  rw [hr4] at C4
  obtain ⟨⟨n5, X6, b6⟩, hr5⟩ : ∃ r, rfN X5 b5 = r := ⟨_, rfl⟩
  have C5 := Lib.hid (fun w' => rfn_any B R X5 b5 w')
  rw [hr5] at C5
  obtain ⟨⟨l1, X7, b7⟩, hr6⟩ : ∃ r, rfL rfCe X6 b6 = r := ⟨_, rfl⟩
  obtain ⟨⟨l2, X8, b8⟩, hr7⟩ : ∃ r, rfL rfOu X7 b7 = r := ⟨_, rfl⟩
  obtain ⟨⟨l3, X9, b9⟩, hr8⟩ : ∃ r, rfL rfOu X8 b8 = r := ⟨_, rfl⟩
  have C7 := Lib.hid (fun w' => rfouts_any B R X7 b7 w')
  have C8 := Lib.hid (fun w' => rfouts_any B R X8 b8 w')
  rw [hr7] at C7; rw [hr8] at C8
  have HRD : Hid (rd2 rfB rfPa X0 false = ((n0, ⟨n1, n2, s1, s2, n4, n5, l1, l2, l3⟩), X9, b9)) := rd2_is hrb (rdMap_is (rd2_is hr1 (rd2_is hr2 (rd2_is hr3 (rd2_is hr4 (rd2_is hr5 (rd2_is hr6 (rd2_is hr7 hr8))))))))
  have HR6 := Lib.hid hr6
  clear hr0 hrb hk0 hr1 hr2 hr3 hr4 hr5 hr6 hr7 hr8
  go_wp2_with fail
  refine C0.out.mono ?_; rintro e w1 ⟨p1, cap1, rfl, hs, hcap, h1, g1⟩
  dsimp only at hs h1 ⊢
  have H1 := Lib.hid h1; have G1 := Lib.hid g1
  obtain ⟨pa, ca, hv, -, -, -, hc⟩ := hs.form
  obtain ⟨rfl, -, rfl⟩ : pa = p1 ∧ _ ∧ ca = cap1 := by simp only [Value.slice.injEq] at hv; exact ⟨hv.1.symm, hv.2.1, hv.2.2.symm⟩
  obtain ⟨gq, oq, rfl, -, hcell⟩ := hc 0 (by omega)
  have hcell' : w1.cell? ⟨gq, oq, none⟩ = some (.int .u8 n0) := by rw [Nat.add_zero] at hcell; rw [hcell]; rfl
  have HZ1 := Lib.hid (rd_stays G1.out HZ.out (by omega))
  clear g1 h1 hs hv hc hcell C0 H0
  by_cases hn : n0 = 2
  · have hq : (n0 != 2) = false := by simpa using hn
    go_wp2_with fail
    refine (C1.out _ H1.out).mono ?_; rintro r wc1 ⟨rfl, rc1, kc1⟩
    have qc1 := kc1
    dsimp only at rc1 ⊢
    go_wp2_with fail
    refine (C2.out _ rc1).mono ?_; rintro r wc2 ⟨rfl, rc2, kc2⟩
    have qc2 := grown_transW qc1 kc2
    dsimp only at rc2 ⊢
    go_wp2_with fail
    refine (C3.out _ rc2).mono ?_; rintro r wc3 ⟨rfl, rc3, kc3⟩
    have qc3 := grown_transW qc2 kc3
    dsimp only at rc3 ⊢
    go_wp2_with fail
    refine (C4.out _ rc3).mono ?_; rintro r wc4 ⟨rfl, rc4, kc4⟩
    have qc4 := grown_transW qc3 kc4
    dsimp only at rc4 ⊢
    go_wp2_with fail
    refine (C5.out _ rc4).mono ?_; rintro r wc5 ⟨rfl, rc5, kc5⟩
    have qc5 := grown_transW qc4 kc5
    dsimp only at rc5 ⊢
    go_upto_region 5 with fail
    obtain ⟨V, hV⟩ : ∃ x : World, wc5.alloc (.cells #[.int .i64 n1, .int .i64 n2, .int .i64 s1, .int .i64 s2, .int .i64 n4, .int .i64 n5, .slice none 0 0, .slice none 0 0, .slice none 0 0] 33) = x := ⟨_, rfl⟩
    have bV : Below wc5.heap.size wc5 V := by rw [← hV]; exact (Below.refl _ _).alloc (Nat.le_refl _) _
    have hG : V.heap[wc5.heap.size]? = some (.cells #[.int .i64 n1, .int .i64 n2, .int .i64 s1, .int .i64 s2, .int .i64 n4, .int .i64 n5, .slice none 0 0, .slice none 0 0, .slice none 0 0] 33 (0, 0)) := by rw [← hV]; exact heap_last wc5 _
    have sV : V.heap.size = wc5.heap.size + 1 := by rw [← hV]; simp
    have rV := rc5.keep bV (Nat.le_refl _)
    have gV := grown_transW G1.out (grown_transW qc5 (grown_belowW bV (grown_refl _ (some R))))
    rw [hV]
    obtain ⟨g, ec⟩ : ∃ n, wc5.heap.size = n := ⟨_, rfl⟩
    have hRc : R < g := by have := rc5.lt; omega
    have hWc : W.heap.size ≤ g := by have := G1.out.size; have := qc5.size; omega
    rw [ec] at hG sV ⊢
    have HG6 : Hid (V.heap[g]? = some (.cells #[.int .i64 n1, .int .i64 n2, .int .i64 s1, .int .i64 s2, .int .i64 n4, .int .i64 n5, .slice none 0 0, .slice none 0 0, .slice none 0 0] 33 (0, 0))) := hG
    have GB6 := Lib.hid gV; have H6 := Lib.hid rV
    clear hV bV hG gV rV ec kc1 kc2 kc3 kc4 kc5 qc1 qc2 qc3 qc4 qc5 rc1 rc2 rc3 rc4 rc5
    have HCA := Lib.hid (fun w' => rfc_any B R X6 b6 w')
    have hnr := rfC_range X6 b6
    have hL : rfL rfCe X6 b6 = itF rfCe (rfC X6 b6).1.toNat (rfC X6 b6).2.1 (rfC X6 b6).2.2 := rfl
    obtain ⟨⟨NA, YA, b0A⟩, hr⟩ : ∃ r, rfC X6 b6 = r := ⟨_, rfl⟩
    rw [hr] at HCA hnr hL
    dsimp only at HCA hnr hL
    obtain ⟨nA, rfl⟩ := Int.eq_ofNat_of_zero_le hnr.1
    rw [Int.toNat_natCast] at hL
    have hn2A : nA ≤ 65536 := by omega
    have HLA := Lib.hid (hL.symm.trans HR6.out)
    clear hr hnr hL
    go_wp2_with fail
    refine (HCA.out _ H6.out).mono ?_; rintro e wSA ⟨rfl, ha, ga⟩
    dsimp only at ha ⊢
    go_upto_block 0 with fail
    have hGs := rd_stays ga HG6.out (by omega)
    obtain ⟨bsA, hbsA⟩ : ∃ b, g + 1 = b := ⟨_, rfl⟩
    have hgbA : g < bsA := by omega
    have hzS : bsA ≤ wSA.heap.size := by have := ga.size; omega
    have HOA : Hid (∃ M : List CeL, M.map (·.1) = (itF rfCe 0 YA b0A).1 ∧ LsF R g bsA W wSA (fun v => #[.int .i64 n1, .int .i64 n2, .int .i64 s1, .int .i64 s2, .int .i64 n4, .int .i64 n5, v, .slice none 0 0, .slice none 0 0]) 33 75 12 ceR M wSA ∧ (∀ x ∈ M, VeO bsA wSA x) ∧ RfW B wSA R (itF rfCe 0 YA b0A).2.1 (itF rfCe 0 YA b0A).2.2) := ⟨[], rfl, ⟨⟨.slice none 0 0, hGs, ⟨rfl, .inl ⟨rfl, rfl⟩⟩⟩, grown_transW GB6.out ga, hzS, fun _ _ _ _ => rfl⟩, fun x hx => absurd hx (by simp), ha⟩
    clear ha ga HCA hGs hzS hbsA
    go_cut [] from 29 to 46 (fun wx => Hid (∃ M : List CeL, M.map (·.1) = l1 ∧ LsF R g bsA W wSA (fun v => #[.int .i64 n1, .int .i64 n2, .int .i64 s1, .int .i64 s2, .int .i64 n4, .int .i64 n5, v, .slice none 0 0, .slice none 0 0]) 33 75 12 ceR M wx ∧ (∀ x ∈ M, VeO bsA wx x) ∧ RfW B wx R X7 b7))
    case first =>
      obtain ⟨i0, hi, hz0, hz1, hz2⟩ := info_parts Try.infoCe
      go_wp2_with fail
      go_loopw [6] (fun i wr => ∃ m k : Nat, k + m = nA ∧ i = .int .i64 m ∧ Hid (∃ M : List CeL, M.map (·.1) = (itF rfCe k YA b0A).1 ∧ LsF R g bsA W wSA (fun v => #[.int .i64 n1, .int .i64 n2, .int .i64 s1, .int .i64 s2, .int .i64 n4, .int .i64 n5, v, .slice none 0 0, .slice none 0 0]) 33 75 12 ceR M wr ∧ (∀ x ∈ M, VeO bsA wr x) ∧ RfW B wr R (itF rfCe k YA b0A).2.1 (itF rfCe k YA b0A).2.2)) (fun i _ => (intOf i).toNat)
      case atStart => exact ⟨nA, 0, by omega, rfl, HOA⟩
      case round =>
        clear HOA
        obtain ⟨m, k, hkm, rfl, HJ⟩ := hrel
        obtain ⟨wk, rfl⟩ : ∃ wk : World, wk = wr := ⟨_, rfl⟩
        have hil := itF_len rfCe YA b0A k
        obtain ⟨⟨acc, ys, bb⟩, hr⟩ : ∃ r, itF rfCe k YA b0A = r := ⟨_, rfl⟩
        rw [hr] at HJ hil
        dsimp only at HJ hil
        have HRR := Lib.hid hr
        obtain ⟨L, eL, ⟨⟨v, hg, ho⟩, hB, hz, hkp⟩, hv2, hw⟩ := HJ.out
        have hlL : L.length ≤ 65536 := by rw [← eL, List.length_map] at hil; omega
        have hB0 := hw.r
        obtain ⟨-, pk, capk, hR, -⟩ := hB0
        have kR := block_cells hR
        have H0 := Lib.hid hw; have HG := Lib.hid hg; have HO := Lib.hid ho; have HB := Lib.hid hB; have HKP := Lib.hid hkp; have HV2 := Lib.hid hv2; have HEL := Lib.hid eL
        clear hr hR hg ho hB hw hkp HJ hv2 eL hil
        by_cases hm : m = 0
        · subst hm
          have hd : decide ((0 : Int) < ((0 : Nat) : Int)) = false := by simp
          have HE := Lib.hid (show itF rfCe nA YA b0A = (acc, ys, bb) by rw [show nA = k by omega]; exact HRR.out)
          have HX : Hid (∃ M : List CeL, M.map (·.1) = l1 ∧ LsF R g bsA W wSA (fun v => #[.int .i64 n1, .int .i64 n2, .int .i64 s1, .int .i64 s2, .int .i64 n4, .int .i64 n5, v, .slice none 0 0, .slice none 0 0]) 33 75 12 ceR M wk ∧ (∀ x ∈ M, VeO bsA wk x) ∧ RfW B wk R X7 b7) := by
            have e3 := HLA.out.symm.trans HE.out
            simp only [Prod.mk.injEq] at e3
            show ∃ _, _
            rw [e3.1, e3.2.1, e3.2.2]
            exact ⟨L, HEL.out, ⟨⟨v, HG.out, HO.out⟩, HB.out, hz, HKP.out⟩, HV2.out, H0.out⟩
          clear HG HO HB HKP H0 HE HRR HV2 HEL
          go_wp2_with fail
          go_meet
          case rel => exact HX
        have hd : decide ((0 : Int) < (m : Int)) = true := by simp; omega
        cases bb with
        | true =>
          have HE := Lib.hid (show itF rfCe nA YA b0A = (acc, ys, true) by rw [← hkm, itF_stop (by rw [HRR.out]) m]; exact HRR.out)
          have HX : Hid (∃ M : List CeL, M.map (·.1) = l1 ∧ LsF R g bsA W wSA (fun v => #[.int .i64 n1, .int .i64 n2, .int .i64 s1, .int .i64 s2, .int .i64 n4, .int .i64 n5, v, .slice none 0 0, .slice none 0 0]) 33 75 12 ceR M wk ∧ (∀ x ∈ M, VeO bsA wk x) ∧ RfW B wk R X7 b7) := by
            have e3 := HLA.out.symm.trans HE.out
            simp only [Prod.mk.injEq] at e3
            show ∃ _, _
            rw [e3.1, e3.2.1, e3.2.2]
            exact ⟨L, HEL.out, ⟨⟨v, HG.out, HO.out⟩, HB.out, hz, HKP.out⟩, HV2.out, H0.out⟩
          clear HG HO HB HKP H0 HE HRR HV2 HEL
          go_wp2_with fail
          go_meet
          case rel => exact HX
        | false =>
          obtain ⟨⟨x, Xx1, bx1⟩, hr1⟩ : ∃ r, rfCe ys false = r := ⟨_, rfl⟩
          have HNX := Lib.hid (itF_next HRR.out hr1)
          have C1 := Lib.hid (fun w' => rfcell_any B R ys false w')
          rw [hr1] at C1
          have KG : Hid (∀ w', wk.grownBy w' (some R) → ∀ j, w'.cell? ⟨g, j, none⟩ = #[.int .i64 n1, .int .i64 n2, .int .i64 s1, .int .i64 s2, .int .i64 n4, .int .i64 n5, v, .slice none 0 0, .slice none 0 0][j]?) := fun w' h => block_cells (rd_stays h HG.out (by omega))
          have rg : R < g := by omega
          have gb : g < bsA := by omega
          have ng : W.heap.size ≤ g := by omega
          have hRb : R < bsA := by omega
          clear hr1
          go_upto_region 8 with fail
          have g0 : wk.grownBy wk.drew (some R) := grown_drewW (grown_refl wk _)
          have r0 := H0.out.drew
          refine wp_region_held_drew (S := fun w' => KpB bsA R g wk w') (by kernel_rfl) (kpB_gr hz g0) (fun hHeld => ?_)
          obtain ⟨wd, ewd⟩ : ∃ x, wk.drew = x := ⟨_, rfl⟩
          rw [ewd] at g0 r0 hHeld ⊢
          clear ewd
          refine wpAnyH_take (i := 0) (v := ?_) rfl (by kernel_rfl) (by kernel_rfl) (by kernel_rfl) (fun _ _ _ h => h) (Or.inl ⟨by rfl, ?_⟩) hHeld ?_
          rotate_left
          · (intro wz hSw; (try dsimp only at hSw); (try simp only [List.getElem_toArray, List.getElem_cons_zero]); go_simp; try with_reducible rfl)
          try simp only [List.getElem_toArray, List.getElem_cons_zero, Act.put, List.setIfInBounds_toArray, List.set_cons_zero, List.set_cons_succ]
          refine wpAnyH_take (i := 2) (v := ?_) rfl (by kernel_rfl) (by kernel_rfl) (by kernel_rfl) (fun _ _ _ h => h) (Or.inl ⟨by rfl, ?_⟩) hHeld ?_
          rotate_left
          · (intro wz hSw; (try dsimp only at hSw); (try simp only [List.getElem_toArray, List.getElem_cons_succ, List.getElem_cons_zero]); go_simp; try with_reducible rfl)
          try simp only [List.getElem_toArray, List.getElem_cons_succ, List.getElem_cons_zero, Act.put, List.setIfInBounds_toArray, List.set_cons_zero, List.set_cons_succ]
          clear hHeld
          apply cutPc (R := fun G p c w' => wk.grownBy w' (some R) ∧ RfW B w' R Xx1 bx1 ∧ w'.heap[G]? = some (.cells [.string x.k, .slice p x.vs.length c, .bool x.lk, .int .i64 x.yn, .int .i64 x.yl, .int .i64 x.ys, .int .i64 x.ya, .int .i64 x.hm, .int .i64 x.sw, .int .i64 x.st, .bool x.lr, .string x.ld].toArray 75 (0, 0)) ∧ VeO bsA w' (x, p, c))
          · intro hcut
            have hHeld := kpB_gr (g := g) hz g0
            refine wpAnyH_ready (rs := [1, 3]) (by kernel_rfl) (by simp) ?_
            refine AllReadyH.cons rfl (fun K hK => ?_) (AllReadyH.cons rfl (fun K hK => ?_) AllReadyH.nil)
            · skip
              try simp only [List.getElem_toArray, List.getElem_cons_succ, List.getElem_cons_zero]
              have kg := KG.out wd g0
              go_simp
              clear kg
              refine hK.out _ _ hHeld (fun _ => ?_)
              clear hK K
              try simp only [List.getElem_toArray, List.getElem_cons_succ, List.getElem_cons_zero, Act.put, List.setIfInBounds_toArray, List.set_cons_zero, List.set_cons_succ]
              refine wpAnyH_ready (rs := [3]) (by kernel_rfl) (by simp) ?_
              refine AllReadyH.cons rfl (fun K hK => ?_) AllReadyH.nil
              try simp only [List.getElem_toArray, List.getElem_cons_succ, List.getElem_cons_zero]
              go_simp
              refine (C1.out _ r0).mono ?_; rintro r w2 ⟨p, c, rfl, oo2, r2, k2⟩
              have g2 := grown_transW g0 k2
              have o2 : VeO bsA w2 (x, p, c) := World.ownsRow.mono oo2 (Nat.le_trans hz g0.size)
              refine hK.out _ _ (kpB_gr hz g2) (fun _ => ?_)
              clear hK K hHeld oo2
              try simp only
              have hHeld := kpB_gr (g := g) hz g2
              refine wpAnyH_ready (rs := [4]) (by kernel_rfl) (by simp) ?_
              refine AllReadyH.cons rfl (fun K hK => ?_) AllReadyH.nil
              try simp only [List.getElem_toArray, List.getElem_cons_succ, List.getElem_cons_zero]
              go_simp
              obtain ⟨wb3, ew3⟩ : ∃ x' : World, w2.alloc (.cells #[.string x.k, .slice p x.vs.length c, .bool x.lk, .int .i64 x.yn, .int .i64 x.yl, .int .i64 x.ys, .int .i64 x.ya, .int .i64 x.hm, .int .i64 x.sw, .int .i64 x.st, .bool x.lr, .string x.ld] 75) = x' := ⟨_, rfl⟩
              have bl3 : Below w2.heap.size w2 wb3 := by rw [← ew3]; exact (Below.refl _ _).alloc (Nat.le_refl _) _
              have q3 : wb3.heap[w2.heap.size]? = some (.cells [.string x.k, .slice p x.vs.length c, .bool x.lk, .int .i64 x.yn, .int .i64 x.yl, .int .i64 x.ys, .int .i64 x.ya, .int .i64 x.hm, .int .i64 x.sw, .int .i64 x.st, .bool x.lr, .string x.ld].toArray 75 (0, 0)) := by rw [← ew3]; exact heap_last w2 _
              have g3 := grown_transW g2 (grown_below bl3 (some R))
              have r3 := r2.keep bl3 (Nat.le_refl _)
              have o3 := o2.kept (grown_below bl3 (some R)) (show R < bsA by omega)
              rw [ew3]
              obtain ⟨G, eG3⟩ : ∃ n, w2.heap.size = n := ⟨_, rfl⟩
              try rw [eG3]
              rw [eG3] at q3
              refine hK.out _ _ (kpB_gr hz g3) (fun _ => ?_)
              clear hK K hHeld ew3
              try simp only [List.getElem_toArray, List.getElem_cons_succ, List.getElem_cons_zero, Act.put, List.setIfInBounds_toArray, List.set_cons_zero, List.set_cons_succ]
              have hHeld := kpB_gr (g := g) hz g3
              exact hcut G p c wb3 ⟨g3, r3, q3, o3⟩
            · skip
              try simp only [List.getElem_toArray, List.getElem_cons_succ, List.getElem_cons_zero]
              go_simp
              refine (C1.out _ r0).mono ?_; rintro r w4 ⟨p, c, rfl, oo4, r4, k4⟩
              have g4 := grown_transW g0 k4
              have o4 : VeO bsA w4 (x, p, c) := World.ownsRow.mono oo4 (Nat.le_trans hz g0.size)
              refine hK.out _ _ (kpB_gr hz g4) (fun _ => ?_)
              clear hK K hHeld oo4
              try simp only
              have hHeld := kpB_gr (g := g) hz g4
              refine wpAnyH_ready (rs := [1, 4]) (by kernel_rfl) (by simp) ?_
              refine AllReadyH.cons rfl (fun K hK => ?_) (AllReadyH.cons rfl (fun K hK => ?_) AllReadyH.nil)
              · skip
                try simp only [List.getElem_toArray, List.getElem_cons_succ, List.getElem_cons_zero]
                have kg := KG.out w4 g4
                go_simp
                clear kg
                refine hK.out _ _ hHeld (fun _ => ?_)
                clear hK K
                try simp only [List.getElem_toArray, List.getElem_cons_succ, List.getElem_cons_zero, Act.put, List.setIfInBounds_toArray, List.set_cons_zero, List.set_cons_succ]
                refine wpAnyH_ready (rs := [4]) (by kernel_rfl) (by simp) ?_
                refine AllReadyH.cons rfl (fun K hK => ?_) AllReadyH.nil
                try simp only [List.getElem_toArray, List.getElem_cons_succ, List.getElem_cons_zero]
                go_simp
                obtain ⟨wb6, ew6⟩ : ∃ x' : World, w4.alloc (.cells #[.string x.k, .slice p x.vs.length c, .bool x.lk, .int .i64 x.yn, .int .i64 x.yl, .int .i64 x.ys, .int .i64 x.ya, .int .i64 x.hm, .int .i64 x.sw, .int .i64 x.st, .bool x.lr, .string x.ld] 75) = x' := ⟨_, rfl⟩
                have bl6 : Below w4.heap.size w4 wb6 := by rw [← ew6]; exact (Below.refl _ _).alloc (Nat.le_refl _) _
                have q6 : wb6.heap[w4.heap.size]? = some (.cells [.string x.k, .slice p x.vs.length c, .bool x.lk, .int .i64 x.yn, .int .i64 x.yl, .int .i64 x.ys, .int .i64 x.ya, .int .i64 x.hm, .int .i64 x.sw, .int .i64 x.st, .bool x.lr, .string x.ld].toArray 75 (0, 0)) := by rw [← ew6]; exact heap_last w4 _
                have g6 := grown_transW g4 (grown_below bl6 (some R))
                have r6 := r4.keep bl6 (Nat.le_refl _)
                have o6 := o4.kept (grown_below bl6 (some R)) (show R < bsA by omega)
                rw [ew6]
                obtain ⟨G, eG6⟩ : ∃ n, w4.heap.size = n := ⟨_, rfl⟩
                try rw [eG6]
                rw [eG6] at q6
                refine hK.out _ _ (kpB_gr hz g6) (fun _ => ?_)
                clear hK K hHeld ew6
                try simp only [List.getElem_toArray, List.getElem_cons_succ, List.getElem_cons_zero, Act.put, List.setIfInBounds_toArray, List.set_cons_zero, List.set_cons_succ]
                have hHeld := kpB_gr (g := g) hz g6
                exact hcut G p c wb6 ⟨g6, r6, q6, o6⟩
              · skip
                try simp only [List.getElem_toArray, List.getElem_cons_succ, List.getElem_cons_zero]
                go_simp
                obtain ⟨wb7, ew7⟩ : ∃ x' : World, w4.alloc (.cells #[.string x.k, .slice p x.vs.length c, .bool x.lk, .int .i64 x.yn, .int .i64 x.yl, .int .i64 x.ys, .int .i64 x.ya, .int .i64 x.hm, .int .i64 x.sw, .int .i64 x.st, .bool x.lr, .string x.ld] 75) = x' := ⟨_, rfl⟩
                have bl7 : Below w4.heap.size w4 wb7 := by rw [← ew7]; exact (Below.refl _ _).alloc (Nat.le_refl _) _
                have q7 : wb7.heap[w4.heap.size]? = some (.cells [.string x.k, .slice p x.vs.length c, .bool x.lk, .int .i64 x.yn, .int .i64 x.yl, .int .i64 x.ys, .int .i64 x.ya, .int .i64 x.hm, .int .i64 x.sw, .int .i64 x.st, .bool x.lr, .string x.ld].toArray 75 (0, 0)) := by rw [← ew7]; exact heap_last w4 _
                have g7 := grown_transW g4 (grown_below bl7 (some R))
                have r7 := r4.keep bl7 (Nat.le_refl _)
                have o7 := o4.kept (grown_below bl7 (some R)) (show R < bsA by omega)
                rw [ew7]
                obtain ⟨G, eG7⟩ : ∃ n, w4.heap.size = n := ⟨_, rfl⟩
                try rw [eG7]
                rw [eG7] at q7
                refine hK.out _ _ (kpB_gr hz g7) (fun _ => ?_)
                clear hK K hHeld ew7
                try simp only [List.getElem_toArray, List.getElem_cons_succ, List.getElem_cons_zero, Act.put, List.setIfInBounds_toArray, List.set_cons_zero, List.set_cons_succ]
                have hHeld := kpB_gr (g := g) hz g7
                refine wpAnyH_ready (rs := [1]) (by kernel_rfl) (by simp) ?_
                refine AllReadyH.cons rfl (fun K hK => ?_) AllReadyH.nil
                try simp only [List.getElem_toArray, List.getElem_cons_succ, List.getElem_cons_zero]
                have kg := KG.out wb7 g7
                go_simp
                clear kg
                refine hK.out _ _ hHeld (fun _ => ?_)
                clear hK K
                try simp only [List.getElem_toArray, List.getElem_cons_succ, List.getElem_cons_zero, Act.put, List.setIfInBounds_toArray, List.set_cons_zero, List.set_cons_succ]
                exact hcut G p c wb7 ⟨g7, r7, q7, o7⟩
          intro G p c wL hR
          obtain ⟨gL, rL, qL, oL⟩ := hR
          have hHeld := kpB_gr (g := g) hz gL
          refine wpAnyH_ready (rs := [5]) (by kernel_rfl) (by simp) ?_; refine AllReadyH.cons rfl (fun K hK => ?_) AllReadyH.nil
          rw [if_pos (by rfl)]
          have hne : v.ownBlock = none ∨ v.ownBlock ≠ some R := by
            cases e : v.ownBlock with
            | none => exact .inl rfl
            | some y => exact .inr fun h => by have := (HO.out.lt y e).1; simp only [Option.some.injEq] at h; omega
          have hoL := HO.out.kept gL hne
          refine wp_append_one _ _ 30 (by rfl) bsA 75 i0 _ 12 128 Try.underlying30 hi hz0 hz1 hz2 rfl (by decide) v L.length (ceR L) (by rfl) hoL G [.string x.k, .slice p x.vs.length c, .bool x.lk, .int .i64 x.yn, .int .i64 x.yl, .int .i64 x.ys, .int .i64 x.ya, .int .i64 x.hm, .int .i64 x.sw, .int .i64 x.st, .bool x.lr, .string x.ld] 75 (by rfl) qL rfl (by intro u hu; simp only [List.mem_cons, List.not_mem_nil, or_false] at hu; rcases hu with rfl | rfl | rfl | rfl | rfl | rfl | rfl | rfl | rfl | rfl | rfl | rfl <;> rfl) (by unfold maxLen; omega) (by omega) (Nat.le_trans hz gL.size) ?_
          intro v2 wA ho2 hg2 hat
          obtain ⟨g2, cap2, hv2⟩ : ∃ g2 cap2, v2 = .slice (some ⟨g2, 0, none⟩) (L.length + 1) cap2 := by
            rcases ho2.2 with ⟨-, h⟩ | ⟨g2, cap2, cur2, e, -⟩
            · omega
            · exact ⟨g2, cap2, e⟩
          subst hv2
          have rB : ∀ k, v.ownBlock = some k → bsA ≤ k := fun k hk => (HO.out.lt k hk).1
          have hGL := rd_stays gL HG.out (by omega)
          have hBl : Below bsA wL wA := (Below.refl _ _).grown hg2 (Nat.le_trans hz gL.size) rB
          have rA := rL.keepR hBl (by omega)
          have hGA := (hg2.block g (block_lt hGL) (fun e => by have := rB g e.symm; omega)).trans hGL
          have hBA : W.grownBy wA (some R) := grown_row (grown_transW HB.out gL) hg2 (fun k hk => by have := rB k hk; omega)
          have hzA : bsA ≤ wA.heap.size := Nat.le_trans hz (Nat.le_trans gL.size hg2.size)
          have hVA : ∀ z ∈ L, VeO bsA wA z := fun z hz' => ((HV2.out z hz').kept gL (by omega)).keptRow hg2 hoL
          have hXA : VeO bsA wA (x, p, c) := oL.keptRow hg2 hoL
          have hSA : KpB bsA R g wk wA := fun k hk hr hgk => (hg2.block k (by have := gL.size; omega) (fun e => by have := rB k e.symm; omega)).trans (hHeld k hk hr hgk)
          refine hK.out _ _ hSA (fun _ => ?_)
          clear hK K hHeld gL rL qL hoL hg2 hat hGL KG hBl oL
          try simp only [List.getElem_toArray, List.getElem_cons_succ, List.getElem_cons_zero, Act.put, List.setIfInBounds_toArray, List.set_cons_zero, List.set_cons_succ]
          have hHeld := hSA
          refine wpAnyH_take (i := 6) (v := ?_) rfl (by kernel_rfl) (by kernel_rfl) (by kernel_rfl) (fun _ _ _ h => h) (Or.inl ⟨by rfl, ?_⟩) hHeld ?_
          rotate_left
          · (intro wz hSw; (try dsimp only at hSw); (try simp only [List.getElem_toArray, List.getElem_cons_succ, List.getElem_cons_zero]); go_simp; try with_reducible rfl)
          try simp only [List.getElem_toArray, List.getElem_cons_succ, List.getElem_cons_zero, Act.put, List.setIfInBounds_toArray, List.set_cons_zero, List.set_cons_succ]
          have kg := block_cells hGA
          have fg := block_free hGA
          refine wpAnyH_ready (rs := [7]) (by kernel_rfl) (by simp) ?_; refine AllReadyH.cons rfl (fun K hK => ?_) AllReadyH.nil; (try simp only [List.getElem_toArray, List.getElem_cons_succ, List.getElem_cons_zero]); go_simp
          have hGB := (cells_setW hGA 6 (Value.slice (some ⟨g2, 0, none⟩) (L.length + 1) cap2)).trans rfl
          have rC : RfW B (wA.setCell ⟨g, 6, none⟩ (Value.slice (some ⟨g2, 0, none⟩) (L.length + 1) cap2)) R Xx1 bx1 := ⟨rA.r.setFar rg (Value.slice (some ⟨g2, 0, none⟩) (L.length + 1) cap2), rA.o, rA.l⟩
          have hBB := grown_setFar (j := 6) (v := (Value.slice (some ⟨g2, 0, none⟩) (L.length + 1) cap2)) hBA ng
          have hgs := grown_set wA g 6 (Value.slice (some ⟨g2, 0, none⟩) (L.length + 1) cap2)
          have hoB := ho2.kept hgs (by
            cases e : ((Value.slice (some ⟨g2, 0, none⟩) (L.length + 1) cap2)).ownBlock with
            | none => exact .inl rfl
            | some y => exact .inr fun h => by have := (ho2.lt y e).1; simp only [Option.some.injEq] at h; omega)
          have hVB : ∀ z ∈ L ++ [(x, p, c)], VeO bsA (wA.setCell ⟨g, 6, none⟩ (Value.slice (some ⟨g2, 0, none⟩) (L.length + 1) cap2)) z := fun z hz' => by
            rcases List.mem_append.1 hz' with h | h
            · exact (hVA z h).kept hgs gb
            · rw [List.mem_singleton] at h; rw [h]; exact hXA.kept hgs gb
          have hSB : KpB bsA R g wk (wA.setCell ⟨g, 6, none⟩ (Value.slice (some ⟨g2, 0, none⟩) (L.length + 1) cap2)) := fun k hk hr hgk => (Below.heap_setCell wA ⟨g, 6, none⟩ (Value.slice (some ⟨g2, 0, none⟩) (L.length + 1) cap2) k hgk).trans (hSA k hk hr hgk)
          refine hK.out _ _ hSB (fun _ => ?_)
          clear hK K hHeld kg fg
          try simp only [List.getElem_toArray, List.getElem_cons_succ, List.getElem_cons_zero, Act.put, List.setIfInBounds_toArray, List.set_cons_zero, List.set_cons_succ]
          refine wpAnyH_done (by kernel_rfl) ?_ _
          have HO2 : Hid (∃ M : List CeL, M.map (·.1) = (itF rfCe (k + 1) YA b0A).1 ∧ LsF R g bsA W wSA (fun v => #[.int .i64 n1, .int .i64 n2, .int .i64 s1, .int .i64 s2, .int .i64 n4, .int .i64 n5, v, .slice none 0 0, .slice none 0 0]) 33 75 12 ceR M (wA.setCell ⟨g, 6, none⟩ (Value.slice (some ⟨g2, 0, none⟩) (L.length + 1) cap2)) ∧ (∀ x ∈ M, VeO bsA (wA.setCell ⟨g, 6, none⟩ (Value.slice (some ⟨g2, 0, none⟩) (L.length + 1) cap2)) x) ∧ RfW B (wA.setCell ⟨g, 6, none⟩ (Value.slice (some ⟨g2, 0, none⟩) (L.length + 1) cap2)) R (itF rfCe (k + 1) YA b0A).2.1 (itF rfCe (k + 1) YA b0A).2.2) := by
            show ∃ _, _
            rw [HNX.out]
            refine ⟨L ++ [(x, p, c)], by rw [List.map_append, HEL.out]; rfl, ⟨⟨(Value.slice (some ⟨g2, 0, none⟩) (L.length + 1) cap2), hGB, ?_⟩, hBB, by simpa [World.setCell] using hzA, HKP.out.trans hSB⟩, hVB, rC⟩
            have e1 : ceR (L ++ [(x, p, c)]) = ceR L ++ [.string x.k, .slice p x.vs.length c, .bool x.lk, .int .i64 x.yn, .int .i64 x.yl, .int .i64 x.ys, .int .i64 x.ya, .int .i64 x.hm, .int .i64 x.sw, .int .i64 x.st, .bool x.lr, .string x.ld] := by simp [ceR]
            rw [e1, List.length_append]; exact hoB
          clear hoB hGB hBB hSB rC hzA hSA hBA rA hGA ho2 HKP HNX HO HB H0 HG hVA hVB hXA HV2 HEL hgs
          go_wp2_with fail
          go_roundw
          case rel => exact ⟨m - 1, k + 1, by omega, by go_num, HO2⟩
          case measure => simp [intOf]; omega
    obtain ⟨w4, rfl⟩ : ∃ x : World, x = wc := ⟨_, rfl⟩
    obtain ⟨L, eL, ⟨⟨v1, hg4, ho4⟩, hb4, hz4, -⟩, hv4, r4'⟩ := hcut.out
    obtain ⟨q1, c1, rfl⟩ := own_formF ho4
    have HEL := Lib.hid eL
    have HG4 := Lib.hid hb4; have HW4 := Lib.hid r4'; have HQ4 := Lib.hid hg4; have HO4 := Lib.hid ho4; have HV4 := Lib.hid hv4
    have hWg : W.heap.size ≤ g := hWc
    clear r4' hg4 ho4 hb4 eL hv4 hcut HOA HLA HG6 GB6 H6 HR6
    go_wp2_with fail
    refine (C7.out _ HW4.out).mono ?_; rintro e w5 ⟨v5, rfl, ho5, r5', k5⟩
    dsimp only at ho5 r5' ⊢
    obtain ⟨q2, c2, rfl⟩ := own_formF ho5
    have hG5 := rd_stays k5 HQ4.out (by omega)
    have HQ5 := Lib.hid hG5
    have HG5 := Lib.hid (grown_transW HG4.out k5); have HW5 := Lib.hid r5'
    have HO5 := Lib.hid (show w5.ownsRow bsA 83 7 (.slice q2 l2.length c2) l2.length (ouR l2) from ho5.mono hz4)
    have hz5 := Nat.le_trans hz4 k5.size
    have HKx := Lib.hid k5
    clear ho5 r5' k5 hG5 C7
    have HO5a := Lib.hid (HO4.out.kept HKx.out (by
      cases e : (Value.slice q1 L.length c1).ownBlock with
      | none => exact .inl rfl
      | some y => exact .inr fun h => by have := (HO4.out.lt y e).1; simp only [Option.some.injEq] at h; omega))
    have HV5 : Hid (∀ x ∈ L, VeO bsA w5 x) := fun x hx => (HV4.out x hx).kept HKx.out (by omega)
    have kg := block_cells HQ5.out
    have fg := block_free HQ5.out
    clear HKx HQ4 HG4 HW4 HO4 HV4
    go_upto_region 10 with fail
    obtain ⟨w6, ew⟩ : ∃ x : World, w5.setCell ⟨g, 7, none⟩ (.slice q2 l2.length c2) = x := ⟨_, rfl⟩
    have hgs : w5.grownBy w6 (some g) := by rw [← ew]; exact grown_set w5 g 7 _
    have HQ6 : Hid (w6.heap[g]? = some (.cells #[.int .i64 n1, .int .i64 n2, .int .i64 s1, .int .i64 s2, .int .i64 n4, .int .i64 n5, .slice q1 L.length c1, .slice q2 l2.length c2, .slice none 0 0] 33 (0, 0))) := by show _ = _; rw [← ew]; exact (cells_setW HQ5.out 7 (.slice q2 l2.length c2)).trans rfl
    have HG6 : Hid (W.grownBy w6 (some R)) := by show World.grownBy _ _ _; rw [← ew]; exact grown_setFar HG5.out hWg
    have HW6 : Hid (RfW B w6 R X8 b8) := by show RfW _ _ _ _ _; rw [← ew]; exact ⟨HW5.out.r.setFar (by omega) _, HW5.out.o, HW5.out.l⟩
    have hz6 := Nat.le_trans hz5 hgs.size
    have HO6a := Lib.hid (HO5a.out.kept hgs (by
      cases e : (Value.slice q1 L.length c1).ownBlock with
      | none => exact .inl rfl
      | some y => exact .inr fun h => by have := (HO5a.out.lt y e).1; simp only [Option.some.injEq] at h; omega))
    have HO6b := Lib.hid (HO5.out.kept hgs (by
      cases e : (Value.slice q2 l2.length c2).ownBlock with
      | none => exact .inl rfl
      | some y => exact .inr fun h => by have := (HO5.out.lt y e).1; simp only [Option.some.injEq] at h; omega))
    have HV6 : Hid (∀ x ∈ L, VeO bsA w6 x) := fun x hx => (HV5.out x hx).kept hgs (by omega)
    rw [ew]
    clear ew hgs kg fg HQ5 HG5 HW5 HO5 HO5a HV5
    go_wp2_with fail
    refine (C8.out _ HW6.out).mono ?_; rintro e w7 ⟨v7, rfl, ho7, r7', k7⟩
    dsimp only at ho7 r7' ⊢
    obtain ⟨q3, c3, rfl⟩ := own_formF ho7
    have hG7 := rd_stays k7 HQ6.out (by omega)
    have HQ7 := Lib.hid hG7
    have HG7 := Lib.hid (grown_transW HG6.out k7); have HW7 := Lib.hid r7'
    have HO7 := Lib.hid (show w7.ownsRow bsA 83 7 (.slice q3 l3.length c3) l3.length (ouR l3) from ho7.mono hz6)
    have hz7 := Nat.le_trans hz6 k7.size
    have HKx := Lib.hid k7
    clear ho7 r7' k7 hG7 C8
    have HO7a := Lib.hid (HO6a.out.kept HKx.out (by
      cases e : (Value.slice q1 L.length c1).ownBlock with
      | none => exact .inl rfl
      | some y => exact .inr fun h => by have := (HO6a.out.lt y e).1; simp only [Option.some.injEq] at h; omega))
    have HO7b := Lib.hid (HO6b.out.kept HKx.out (by
      cases e : (Value.slice q2 l2.length c2).ownBlock with
      | none => exact .inl rfl
      | some y => exact .inr fun h => by have := (HO6b.out.lt y e).1; simp only [Option.some.injEq] at h; omega))
    have HV7 : Hid (∀ x ∈ L, VeO bsA w7 x) := fun x hx => (HV6.out x hx).kept HKx.out (by omega)
    have kg := block_cells HQ7.out
    have fg := block_free HQ7.out
    clear HKx HQ6 HG6 HW6 HO6a HO6b HV6
    go_upto_region 11 with fail
    obtain ⟨w8, ew⟩ : ∃ x : World, w7.setCell ⟨g, 8, none⟩ (.slice q3 l3.length c3) = x := ⟨_, rfl⟩
    have hgs : w7.grownBy w8 (some g) := by rw [← ew]; exact grown_set w7 g 8 _
    have HQ8 : Hid (w8.heap[g]? = some (.cells #[.int .i64 n1, .int .i64 n2, .int .i64 s1, .int .i64 s2, .int .i64 n4, .int .i64 n5, .slice q1 L.length c1, .slice q2 l2.length c2, .slice q3 l3.length c3] 33 (0, 0))) := by show _ = _; rw [← ew]; exact (cells_setW HQ7.out 8 (.slice q3 l3.length c3)).trans rfl
    have HG8 : Hid (W.grownBy w8 (some R)) := by show World.grownBy _ _ _; rw [← ew]; exact grown_setFar HG7.out hWg
    have HW8 : Hid (RfW B w8 R X9 b9) := by show RfW _ _ _ _ _; rw [← ew]; exact ⟨HW7.out.r.setFar (by omega) _, HW7.out.o, HW7.out.l⟩
    have hz8 := Nat.le_trans hz7 hgs.size
    have HO8a := Lib.hid (HO7a.out.kept hgs (by
      cases e : (Value.slice q1 L.length c1).ownBlock with
      | none => exact .inl rfl
      | some y => exact .inr fun h => by have := (HO7a.out.lt y e).1; simp only [Option.some.injEq] at h; omega))
    have HO8b := Lib.hid (HO7b.out.kept hgs (by
      cases e : (Value.slice q2 l2.length c2).ownBlock with
      | none => exact .inl rfl
      | some y => exact .inr fun h => by have := (HO7b.out.lt y e).1; simp only [Option.some.injEq] at h; omega))
    have HO8c := Lib.hid (HO7.out.kept hgs (by
      cases e : (Value.slice q3 l3.length c3).ownBlock with
      | none => exact .inl rfl
      | some y => exact .inr fun h => by have := (HO7.out.lt y e).1; simp only [Option.some.injEq] at h; omega))
    have HV8 : Hid (∀ x ∈ L, VeO bsA w8 x) := fun x hx => (HV7.out x hx).kept hgs (by omega)
    rw [ew]
    clear ew hgs kg fg HQ7 HG7 HW7 HO7 HO7a HO7b HV7
    obtain ⟨-, pr, cr, hRr, -⟩ := HW8.out.r
    have HRE := Lib.hid hRr
    have HZE := Lib.hid (rd_stays HG8.out HZ.out (by omega))
    have hBw : Below B w w8 := HB1.out.grown HG8.out (by have := HB1.out.size; have := HEB.out; omega) (fun k hk => by cases hk; omega)
    have HBE := Lib.hid hBw
    clear hRr hBw
    have hu : undef = Value.tuple #[] := rfl
    cases b9 with
    | true =>
      have HNO := Lib.hid (fun a' (ha : PaV a') => tkf_no rfPa_ok (m := 2) (a' := a') ⟨by omega, by omega⟩ HRD.out (by simp) ha)
      have h0 : Below w8.heap.size w8 w8.drew := (Below.refl _ _).drew
      refine wp_region_held_drew (S := fun w' => Below w8.heap.size w8 w') (by kernel_rfl) h0 (fun hHeld => ?_)
      obtain ⟨wd, ewd⟩ : ∃ x, w8.drew = x := ⟨_, rfl⟩
      rw [ewd] at h0 hHeld ⊢
      clear ewd
      have kR : ∀ w', Below w8.heap.size w8 w' → ∀ j, w'.cell? ⟨R, j, none⟩ = #[.slice pr X9.length cr, .bool true][j]? := fun w' h => block_cells (below_block h (block_lt HRE.out) HRE.out)
      refine wpAnyH_take (i := 0) (v := ?_) rfl (by kernel_rfl) (by kernel_rfl) (by kernel_rfl) (fun _ _ _ h => h) (Or.inl ⟨by rfl, ?_⟩) hHeld ?_
      rotate_left
      · (intro wz hSw; (try dsimp only at hSw); (try simp only [List.getElem_toArray, List.getElem_cons_zero]); go_simp; try with_reducible rfl)
      try simp only [List.getElem_toArray, List.getElem_cons_zero, Act.put, List.setIfInBounds_toArray, List.set_cons_zero, List.set_cons_succ]
      refine wpAnyH_take (i := 1) (v := ?_) rfl (by kernel_rfl) (by kernel_rfl) (by kernel_rfl) (fun _ _ _ h => h) (Or.inl ⟨by rfl, ?_⟩) hHeld ?_
      rotate_left
      · (intro wz hSw; (try dsimp only at hSw); (try simp only [List.getElem_toArray, List.getElem_cons_succ, List.getElem_cons_zero]); go_simp; try with_reducible rfl)
      try simp only [List.getElem_toArray, List.getElem_cons_succ, List.getElem_cons_zero, Act.put, List.setIfInBounds_toArray, List.set_cons_zero, List.set_cons_succ]
      refine wpAnyH_take (i := 2) (v := ?_) rfl (by kernel_rfl) (by kernel_rfl) (by kernel_rfl) (fun _ _ _ h => h) (Or.inl ⟨by rfl, ?_⟩) hHeld ?_
      rotate_left
      · (intro wz hSw; (try dsimp only at hSw); (try simp only [List.getElem_toArray, List.getElem_cons_succ, List.getElem_cons_zero]); go_simp; try with_reducible rfl)
      try simp only [List.getElem_toArray, List.getElem_cons_succ, List.getElem_cons_zero, Act.put, List.setIfInBounds_toArray, List.set_cons_zero, List.set_cons_succ]
      refine wpAnyH_take (i := 3) (v := ?_) rfl (by kernel_rfl) (by kernel_rfl) (by kernel_rfl) (fun _ _ _ h => h) (Or.inl ⟨by rfl, ?_⟩) hHeld ?_
      rotate_left
      · (intro wz hSw; (try dsimp only at hSw); (try simp only [List.getElem_toArray, List.getElem_cons_succ, List.getElem_cons_zero]); go_simp; try with_reducible rfl)
      try simp only [List.getElem_toArray, List.getElem_cons_succ, List.getElem_cons_zero, Act.put, List.setIfInBounds_toArray, List.set_cons_zero, List.set_cons_succ]
      refine wpAnyH_take (i := 4) (v := ?_) rfl (by kernel_rfl) (by kernel_rfl) (by kernel_rfl) (fun _ _ _ h => h) (Or.inl ⟨by rfl, ?_⟩) hHeld ?_
      rotate_left
      · (intro wz hSw; (try dsimp only at hSw); (try simp only [List.getElem_toArray, List.getElem_cons_succ, List.getElem_cons_zero]); go_simp; try with_reducible rfl)
      try simp only [List.getElem_toArray, List.getElem_cons_succ, List.getElem_cons_zero, Act.put, List.setIfInBounds_toArray, List.set_cons_zero, List.set_cons_succ]
      refine wpAnyH_take (i := 5) (v := undef) rfl (by kernel_rfl) (by kernel_rfl) (by kernel_rfl) (fun _ _ _ h => h) (Or.inr ⟨by rfl, rfl⟩) hHeld ?_
      try simp only [List.getElem_toArray, List.getElem_cons_succ, List.getElem_cons_zero, Act.put, List.setIfInBounds_toArray, List.set_cons_zero, List.set_cons_succ]
      refine wpAnyH_take (i := 6) (v := undef) rfl (by kernel_rfl) (by kernel_rfl) (by kernel_rfl) (fun _ _ _ h => h) (Or.inr ⟨by rfl, rfl⟩) hHeld ?_
      try simp only [List.getElem_toArray, List.getElem_cons_succ, List.getElem_cons_zero, Act.put, List.setIfInBounds_toArray, List.set_cons_zero, List.set_cons_succ]
      refine wpAnyH_take (i := 7) (v := undef) rfl (by kernel_rfl) (by kernel_rfl) (by kernel_rfl) (fun _ _ _ h => h) (Or.inr ⟨by rfl, rfl⟩) hHeld ?_
      try simp only [List.getElem_toArray, List.getElem_cons_succ, List.getElem_cons_zero, Act.put, List.setIfInBounds_toArray, List.set_cons_zero, List.set_cons_succ]
      refine wpAnyH_take (i := 8) (v := undef) rfl (by kernel_rfl) (by kernel_rfl) (by kernel_rfl) (fun _ _ _ h => h) (Or.inr ⟨by rfl, rfl⟩) hHeld ?_
      try simp only [List.getElem_toArray, List.getElem_cons_succ, List.getElem_cons_zero, Act.put, List.setIfInBounds_toArray, List.set_cons_zero, List.set_cons_succ]
      refine wpAnyH_take (i := 9) (v := undef) rfl (by kernel_rfl) (by kernel_rfl) (by kernel_rfl) (fun _ _ _ h => h) (Or.inr ⟨by rfl, rfl⟩) hHeld ?_
      try simp only [List.getElem_toArray, List.getElem_cons_succ, List.getElem_cons_zero, Act.put, List.setIfInBounds_toArray, List.set_cons_zero, List.set_cons_succ]
      refine wpAnyH_take (i := 10) (v := undef) rfl (by kernel_rfl) (by kernel_rfl) (by kernel_rfl) (fun _ _ _ h => h) (Or.inr ⟨by rfl, rfl⟩) hHeld ?_
      try simp only [List.getElem_toArray, List.getElem_cons_succ, List.getElem_cons_zero, Act.put, List.setIfInBounds_toArray, List.set_cons_zero, List.set_cons_succ]
      refine wpAnyH_take (i := 11) (v := ?_) rfl (by kernel_rfl) (by kernel_rfl) (by kernel_rfl) (fun _ _ _ h => h) (Or.inl ⟨by rfl, ?_⟩) hHeld ?_
      rotate_left
      · (intro wz hSw; (try dsimp only at hSw); (try simp only [List.getElem_toArray, List.getElem_cons_succ, List.getElem_cons_zero]); go_simp; try with_reducible rfl)
      try simp only [List.getElem_toArray, List.getElem_cons_succ, List.getElem_cons_zero, Act.put, List.setIfInBounds_toArray, List.set_cons_zero, List.set_cons_succ]
      refine wpAnyH_take (i := 12) (v := ?_) rfl (by kernel_rfl) (by kernel_rfl) (by kernel_rfl) (fun _ _ _ h => h) (Or.inl ⟨by rfl, ?_⟩) hHeld ?_
      rotate_left
      · (intro wz hSw; (try dsimp only at hSw); (try simp only [List.getElem_toArray, List.getElem_cons_succ, List.getElem_cons_zero]); go_simp; try with_reducible rfl)
      try simp only [List.getElem_toArray, List.getElem_cons_succ, List.getElem_cons_zero, Act.put, List.setIfInBounds_toArray, List.set_cons_zero, List.set_cons_succ]
      refine wpAnyH_take (i := 13) (v := undef) rfl (by kernel_rfl) (by kernel_rfl) (by kernel_rfl) (fun _ _ _ h => h) (Or.inr ⟨by rfl, rfl⟩) hHeld ?_
      try simp only [List.getElem_toArray, List.getElem_cons_succ, List.getElem_cons_zero, Act.put, List.setIfInBounds_toArray, List.set_cons_zero, List.set_cons_succ]
      refine wpAnyH_take (i := 14) (v := undef) rfl (by kernel_rfl) (by kernel_rfl) (by kernel_rfl) (fun _ _ _ h => h) (Or.inr ⟨by rfl, rfl⟩) hHeld ?_
      try simp only [List.getElem_toArray, List.getElem_cons_succ, List.getElem_cons_zero, Act.put, List.setIfInBounds_toArray, List.set_cons_zero, List.set_cons_succ]
      refine wpAnyH_take (i := 15) (v := undef) rfl (by kernel_rfl) (by kernel_rfl) (by kernel_rfl) (fun _ _ _ h => h) (Or.inr ⟨by rfl, rfl⟩) hHeld ?_
      try simp only [List.getElem_toArray, List.getElem_cons_succ, List.getElem_cons_zero, Act.put, List.setIfInBounds_toArray, List.set_cons_zero, List.set_cons_succ]
      refine wpAnyH_take (i := 16) (v := undef) rfl (by kernel_rfl) (by kernel_rfl) (by kernel_rfl) (fun _ _ _ h => h) (Or.inr ⟨by rfl, rfl⟩) hHeld ?_
      try simp only [List.getElem_toArray, List.getElem_cons_succ, List.getElem_cons_zero, Act.put, List.setIfInBounds_toArray, List.set_cons_zero, List.set_cons_succ]
      refine wpAnyH_take (i := 17) (v := undef) rfl (by kernel_rfl) (by kernel_rfl) (by kernel_rfl) (fun _ _ _ h => h) (Or.inr ⟨by rfl, rfl⟩) hHeld ?_
      try simp only [List.getElem_toArray, List.getElem_cons_succ, List.getElem_cons_zero, Act.put, List.setIfInBounds_toArray, List.set_cons_zero, List.set_cons_succ]
      refine wpAnyH_take (i := 18) (v := undef) rfl (by kernel_rfl) (by kernel_rfl) (by kernel_rfl) (fun _ _ _ h => h) (Or.inr ⟨by rfl, rfl⟩) hHeld ?_
      try simp only [List.getElem_toArray, List.getElem_cons_succ, List.getElem_cons_zero, Act.put, List.setIfInBounds_toArray, List.set_cons_zero, List.set_cons_succ]
      refine wpAnyH_take (i := 19) (v := ?_) rfl (by kernel_rfl) (by kernel_rfl) (by kernel_rfl) (fun _ _ _ h => h) (Or.inl ⟨by rfl, ?_⟩) hHeld ?_
      rotate_left
      · (intro wz hSw; (try dsimp only at hSw); (try simp only [List.getElem_toArray, List.getElem_cons_succ, List.getElem_cons_zero]); go_simp; try with_reducible rfl)
      try simp only [List.getElem_toArray, List.getElem_cons_succ, List.getElem_cons_zero, Act.put, List.setIfInBounds_toArray, List.set_cons_zero, List.set_cons_succ]
      refine wpAnyH_done (by kernel_rfl) ?_ _
      clear kR
      have HZd := Lib.hid (below_block h0 (block_lt HZE.out) HZE.out)
      have HBd := Lib.hid (HBE.out.trans (h0.mono (by have := HBE.out.size; have := HEB.out; omega)))
      have kz := block_cells HZd.out
      have fz := block_free HZd.out
      clear hHeld
      go_wp2_with fail
      have hzF := putL_at HZd.out [.int .i64 0, .int .i64 0, .int .i64 0, .int .i64 0, .int .i64 0, .int .i64 0, .slice none 0 0, .slice none 0 0, .slice none 0 0] rfl
      have hbF := putL_bel (g := B) (Nat.le_refl B) [.int .i64 0, .int .i64 0, .int .i64 0, .int .i64 0, .int .i64 0, .int .i64 0, .slice none 0 0, .slice none 0 0, .slice none 0 0] 0 HBd.out
      simp only [putL, Nat.reduceAdd, Nat.zero_add] at hzF hbF
      have kF := block_cells hzF
      refine bodyPost_ret (v := .tuple #[.agg #[.int .i64 0, .int .i64 0, .int .i64 0, .int .i64 0, .int .i64 0, .int .i64 0, .slice none 0 0, .slice none 0 0, .slice none 0 0], .int .i64 9]) ?_ rfl ⟨by rw [HEB.out]; exact hbF, .inr ⟨fun a' ha => by rw [encPa_body]; exact HNO.out a' ha, rfl⟩⟩
      simp [results, Try.results25, go_sem, kF]
    | false =>
      by_cases hx : X9 = []
      · subst hx
        have HY := Lib.hid (tkf_yes rfPa_ok HOC.out HRD.out)
        subst hn
        have HPX : Hid (PaL.x ⟨n1, n2, s1, s2, n4, n5, L, l2, l3⟩ = ⟨n1, n2, s1, s2, n4, n5, l1, l2, l3⟩) := by show PaX.mk _ _ _ _ _ _ _ _ _ = _; rw [HEL.out]
        have hPV : PaV (PaL.x ⟨n1, n2, s1, s2, n4, n5, L, l2, l3⟩) := by rw [HPX.out]; exact HY.out.2
        have hEq : encPa (PaL.x ⟨n1, n2, s1, s2, n4, n5, L, l2, l3⟩) = X0 := by rw [HPX.out, encPa_body]; exact HY.out.1
        obtain ⟨st, hst⟩ : ∃ s, strOfNums X0 = s := ⟨_, rfl⟩
        have hK1 : ∀ w', Below w8.heap.size w8 w' → (convert 46 9 (.slice p X0.length cap)).run Try.prog w' = .ok (.string st) w' := fun w' h => by
          have hsl := (HV.out.keep (HBE.out.mono (by have := HEB.out; omega))).keep (h.mono (by have := HBE.out.size; have := HEB.out; omega))
          have := run_convert_sl (P := Try.prog) hsl 46 5 Try.underlying46 Try.underlying5 9 Try.underlying9
          rw [hst] at this; exact this
        have K2 : Hid (∀ (w' : World) (v : Value), w'.ownsRow w8.heap.size 5 1 v X0.length (byt X0) → (convert 46 9 v).run Try.prog w' = .ok (.string st) w') := fun w' v h => by
          have := run_convert_sl (P := Try.prog) (Sl.of_own h) 46 5 Try.underlying46 Try.underlying5 9 Try.underlying9
          rw [hst] at this; exact this
        have CC : Hid (∀ w', Below w8.heap.size w8 w' → Calls Try.prog 18 #[.agg #[.int .i64 n1, .int .i64 n2, .int .i64 s1, .int .i64 s2, .int .i64 n4, .int .i64 n5, .slice q1 L.length c1, .slice q2 l2.length c2, .slice q3 l3.length c3]] w' (WEnd w'.heap.size w'.heap.size w' X0)) := fun w' h => by
          have hce := cesAt_own (own_kept0 HO8a.out h) (fun x hx => vesAt_own (own_kept0 (HV8.out x hx) h))
          have := rpartB_any ⟨n1, n2, s1, s2, n4, n5, L, l2, l3⟩ q1 q2 q3 c1 c2 c3 w' (pav_paf hPV) hce ((ousAt_own HO8b.out).keep h (Nat.le_refl _)) ((ousAt_own HO8c.out).keep h (Nat.le_refl _)) (by rw [hEq]; have := HLN.out; omega) (by have h7 : (L.map (·.1)).length ≤ 65536 := hPV.2.2.2.2.2.1.1; rw [List.length_map] at h7; show L.length ≤ 1000000; omega) (fun x hx => by have := (hPV.2.2.2.2.2.1.2 x.1 (List.mem_map_of_mem hx)).n; omega) (by have h7 : l2.length ≤ 65536 := hPV.2.2.2.2.2.2.1.1; show l2.length ≤ 1000000; omega) (by have h7 : l3.length ≤ 65536 := hPV.2.2.2.2.2.2.2.1; show l3.length ≤ 1000000; omega)
          rw [hEq] at this; exact this
        have HEQ := Lib.hid hEq; have HPV := Lib.hid hPV
        clear hst hEq hPV
        have h0 : Below w8.heap.size w8 w8.drew := (Below.refl _ _).drew
        refine wp_region_held_drew (S := fun w' => Below w8.heap.size w8 w') (by kernel_rfl) h0 (fun hHeld => ?_)
        obtain ⟨wd, ewd⟩ : ∃ x, w8.drew = x := ⟨_, rfl⟩
        rw [ewd] at h0 hHeld ⊢
        clear ewd
        have kR : ∀ w', Below w8.heap.size w8 w' → ∀ j, w'.cell? ⟨R, j, none⟩ = #[.slice pr 0 cr, .bool false][j]? := fun w' h => block_cells (below_block h (block_lt HRE.out) HRE.out)
        refine wpAnyH_take (i := 0) (v := ?_) rfl (by kernel_rfl) (by kernel_rfl) (by kernel_rfl) (fun _ _ _ h => h) (Or.inl ⟨by rfl, ?_⟩) hHeld ?_
        rotate_left
        · (intro wz hSw; (try dsimp only at hSw); (try simp only [List.getElem_toArray, List.getElem_cons_zero]); go_simp; try with_reducible rfl)
        try simp only [List.getElem_toArray, List.getElem_cons_zero, Act.put, List.setIfInBounds_toArray, List.set_cons_zero, List.set_cons_succ]
        refine wpAnyH_take (i := 1) (v := ?_) rfl (by kernel_rfl) (by kernel_rfl) (by kernel_rfl) (fun _ _ _ h => h) (Or.inl ⟨by rfl, ?_⟩) hHeld ?_
        rotate_left
        · (intro wz hSw; (try dsimp only at hSw); (try simp only [List.getElem_toArray, List.getElem_cons_succ, List.getElem_cons_zero]); go_simp; try with_reducible rfl)
        try simp only [List.getElem_toArray, List.getElem_cons_succ, List.getElem_cons_zero, Act.put, List.setIfInBounds_toArray, List.set_cons_zero, List.set_cons_succ]
        refine wpAnyH_take (i := 2) (v := ?_) rfl (by kernel_rfl) (by kernel_rfl) (by kernel_rfl) (fun _ _ _ h => h) (Or.inl ⟨by rfl, ?_⟩) hHeld ?_
        rotate_left
        · (intro wz hSw; (try dsimp only at hSw); (try simp only [List.getElem_toArray, List.getElem_cons_succ, List.getElem_cons_zero]); go_simp; try with_reducible rfl)
        try simp only [List.getElem_toArray, List.getElem_cons_succ, List.getElem_cons_zero, Act.put, List.setIfInBounds_toArray, List.set_cons_zero, List.set_cons_succ]
        refine wpAnyH_take (i := 3) (v := ?_) rfl (by kernel_rfl) (by kernel_rfl) (by kernel_rfl) (fun _ _ _ h => h) (Or.inl ⟨by rfl, ?_⟩) hHeld ?_
        rotate_left
        · (intro wz hSw; (try dsimp only at hSw); (try simp only [List.getElem_toArray, List.getElem_cons_succ, List.getElem_cons_zero]); go_simp; try with_reducible rfl)
        try simp only [List.getElem_toArray, List.getElem_cons_succ, List.getElem_cons_zero, Act.put, List.setIfInBounds_toArray, List.set_cons_zero, List.set_cons_succ]
        refine wpAnyH_take (i := 4) (v := ?_) rfl (by kernel_rfl) (by kernel_rfl) (by kernel_rfl) (fun _ _ _ h => h) (Or.inl ⟨by rfl, ?_⟩) hHeld ?_
        rotate_left
        · (intro wz hSw; (try dsimp only at hSw); (try simp only [List.getElem_toArray, List.getElem_cons_succ, List.getElem_cons_zero]); go_simp; try with_reducible rfl)
        try simp only [List.getElem_toArray, List.getElem_cons_succ, List.getElem_cons_zero, Act.put, List.setIfInBounds_toArray, List.set_cons_zero, List.set_cons_succ]
        refine wpAnyH_take (i := 5) (v := ?_) rfl (by kernel_rfl) (by kernel_rfl) (by kernel_rfl) (fun _ _ _ h => h) (Or.inl ⟨by rfl, ?_⟩) hHeld ?_
        rotate_left
        · (intro wz hSw; (try dsimp only at hSw); (try simp only [List.getElem_toArray, List.getElem_cons_succ, List.getElem_cons_zero]); go_simp; try with_reducible rfl)
        try simp only [List.getElem_toArray, List.getElem_cons_succ, List.getElem_cons_zero, Act.put, List.setIfInBounds_toArray, List.set_cons_zero, List.set_cons_succ]
        refine wpAnyH_take (i := 6) (v := ?_) rfl (by kernel_rfl) (by kernel_rfl) (by kernel_rfl) (fun _ _ _ h => h) (Or.inl ⟨by rfl, ?_⟩) hHeld ?_
        rotate_left
        · (intro wz hSw; (try dsimp only at hSw); (try simp only [List.getElem_toArray, List.getElem_cons_succ, List.getElem_cons_zero]); go_simp; try with_reducible rfl)
        try simp only [List.getElem_toArray, List.getElem_cons_succ, List.getElem_cons_zero, Act.put, List.setIfInBounds_toArray, List.set_cons_zero, List.set_cons_succ]
        refine wpAnyH_take (i := 7) (v := ?_) rfl (by kernel_rfl) (by kernel_rfl) (by kernel_rfl) (fun _ _ _ h => h) (Or.inl ⟨by rfl, ?_⟩) hHeld ?_
        rotate_left
        · (intro wz hSw; (try dsimp only at hSw); (try simp only [List.getElem_toArray, List.getElem_cons_succ, List.getElem_cons_zero]); go_simp; try with_reducible rfl)
        try simp only [List.getElem_toArray, List.getElem_cons_succ, List.getElem_cons_zero, Act.put, List.setIfInBounds_toArray, List.set_cons_zero, List.set_cons_succ]
        refine wpAnyH_take (i := 8) (v := ?_) rfl (by kernel_rfl) (by kernel_rfl) (by kernel_rfl) (fun _ _ _ h => h) (Or.inl ⟨by rfl, ?_⟩) hHeld ?_
        rotate_left
        · (intro wz hSw; (try dsimp only at hSw); (try simp only [List.getElem_toArray, List.getElem_cons_succ, List.getElem_cons_zero]); go_simp; try with_reducible rfl)
        try simp only [List.getElem_toArray, List.getElem_cons_succ, List.getElem_cons_zero, Act.put, List.setIfInBounds_toArray, List.set_cons_zero, List.set_cons_succ]
        refine wpAnyH_take (i := 9) (v := ?_) rfl (by kernel_rfl) (by kernel_rfl) (by kernel_rfl) (fun _ _ _ h => h) (Or.inl ⟨by rfl, ?_⟩) hHeld ?_
        rotate_left
        · (intro wz hSw; (try dsimp only at hSw); (try simp only [List.getElem_toArray, List.getElem_cons_succ, List.getElem_cons_zero]); go_simp; try with_reducible rfl)
        try simp only [List.getElem_toArray, List.getElem_cons_succ, List.getElem_cons_zero, Act.put, List.setIfInBounds_toArray, List.set_cons_zero, List.set_cons_succ]
        refine wpAnyH_take (i := 10) (v := ?_) rfl (by kernel_rfl) (by kernel_rfl) (by kernel_rfl) (fun _ _ _ h => h) (Or.inl ⟨by rfl, ?_⟩) hHeld ?_
        rotate_left
        · (intro wz hSw; (try dsimp only at hSw); (try simp only [List.getElem_toArray, List.getElem_cons_succ, List.getElem_cons_zero]); go_simp; try with_reducible rfl)
        try simp only [List.getElem_toArray, List.getElem_cons_succ, List.getElem_cons_zero, Act.put, List.setIfInBounds_toArray, List.set_cons_zero, List.set_cons_succ]
        refine wpAnyH_take (i := 11) (v := ?_) rfl (by kernel_rfl) (by kernel_rfl) (by kernel_rfl) (fun _ _ _ h => h) (Or.inl ⟨by rfl, ?_⟩) hHeld ?_
        rotate_left
        · (intro wz hSw; (try dsimp only at hSw); (try simp only [List.getElem_toArray, List.getElem_cons_succ, List.getElem_cons_zero]); go_simp; try with_reducible rfl)
        try simp only [List.getElem_toArray, List.getElem_cons_succ, List.getElem_cons_zero, Act.put, List.setIfInBounds_toArray, List.set_cons_zero, List.set_cons_succ]
        refine wpAnyH_take (i := 12) (v := ?_) rfl (by kernel_rfl) (by kernel_rfl) (by kernel_rfl) (fun _ _ _ h => h) (Or.inl ⟨by rfl, ?_⟩) hHeld ?_
        rotate_left
        · (intro wz hSw; (try dsimp only at hSw); (try simp only [List.getElem_toArray, List.getElem_cons_succ, List.getElem_cons_zero]); go_simp; try with_reducible rfl)
        try simp only [List.getElem_toArray, List.getElem_cons_succ, List.getElem_cons_zero, Act.put, List.setIfInBounds_toArray, List.set_cons_zero, List.set_cons_succ]
        have kg : ∀ w', Below w8.heap.size w8 w' → ∀ j, w'.cell? ⟨g, j, none⟩ = #[.int .i64 n1, .int .i64 n2, .int .i64 s1, .int .i64 s2, .int .i64 n4, .int .i64 n5, .slice q1 L.length c1, .slice q2 l2.length c2, .slice q3 l3.length c3][j]? := fun w' h => block_cells (below_block h (block_lt HQ8.out) HQ8.out)
        refine wpAnyH_take (i := 13) (v := ?_) rfl (by kernel_rfl) (by kernel_rfl) (by kernel_rfl) (fun _ _ _ h => h) (Or.inl ⟨by rfl, ?_⟩) hHeld ?_
        rotate_left
        · (intro wz hSw; (try dsimp only at hSw); (try simp only [List.getElem_toArray, List.getElem_cons_succ, List.getElem_cons_zero]); go_simp; try with_reducible rfl)
        try simp only [List.getElem_toArray, List.getElem_cons_succ, List.getElem_cons_zero, Act.put, List.setIfInBounds_toArray, List.set_cons_zero, List.set_cons_succ]
        refine wpAnyH_take (i := 16) (v := ?_) rfl (by kernel_rfl) (by kernel_rfl) (by kernel_rfl) (fun _ _ _ h => h) (Or.inl ⟨by rfl, ?_⟩) hHeld ?_
        rotate_left
        · (intro wz hSw; (try dsimp only at hSw); (try simp only [List.getElem_toArray, List.getElem_cons_succ, List.getElem_cons_zero]); go_simp; try with_reducible rfl)
        try simp only [List.getElem_toArray, List.getElem_cons_succ, List.getElem_cons_zero, Act.put, List.setIfInBounds_toArray, List.set_cons_zero, List.set_cons_succ]
        refine wpAnyH_take (i := 17) (v := ?_) rfl (by kernel_rfl) (by kernel_rfl) (by kernel_rfl) (fun _ _ _ h => h) (Or.inl ⟨by rfl, ?_⟩) hHeld ?_
        rotate_left
        · (intro wz hSw; (try dsimp only at hSw); (try simp only [List.getElem_toArray, List.getElem_cons_succ, List.getElem_cons_zero]); go_simp; try with_reducible rfl)
        try simp only [List.getElem_toArray, List.getElem_cons_succ, List.getElem_cons_zero, Act.put, List.setIfInBounds_toArray, List.set_cons_zero, List.set_cons_succ]
        refine wpAnyH_ready (rs := [14]) (by kernel_rfl) (by simp) ?_; refine AllReadyH.cons rfl (fun K hK => ?_) AllReadyH.nil; (try simp only [List.getElem_toArray, List.getElem_cons_succ, List.getElem_cons_zero]); go_simp
        refine (CC.out _ h0).mono ?_; rintro r w9 ⟨vv, rfl, hov, hb1⟩
        have hS := h0.trans (hb1.mono h0.size)
        refine hK.out _ _ hS (fun _ => ?_)
        clear hK K hHeld
        try simp only [List.getElem_toArray, List.getElem_cons_succ, List.getElem_cons_zero, Act.put, List.setIfInBounds_toArray, List.set_cons_zero, List.set_cons_succ]
        have hHeld := hS
        have hcv := K2.out _ _ (hov.mono h0.size)
        refine wpAnyH_ready (rs := [15]) (by kernel_rfl) (by simp) ?_; refine AllReadyH.cons rfl (fun K hK => ?_) AllReadyH.nil; (try simp only [List.getElem_toArray, List.getElem_cons_succ, List.getElem_cons_zero]); go_simp
        refine hK.out _ _ hS (fun _ => ?_)
        clear hK K hHeld hcv hK1
        try simp only [List.getElem_toArray, List.getElem_cons_succ, List.getElem_cons_zero, Act.put, List.setIfInBounds_toArray, List.set_cons_zero, List.set_cons_succ]
        have hHeld := hS
        refine wpAnyH_take (i := 18) (v := ?_) rfl (by kernel_rfl) (by kernel_rfl) (by kernel_rfl) (fun _ _ _ h => h) (Or.inl ⟨by rfl, ?_⟩) hHeld ?_
        rotate_left
        · (intro wz hSw; (try dsimp only at hSw); (try simp only [List.getElem_toArray, List.getElem_cons_succ, List.getElem_cons_zero]); go_simp; try with_reducible rfl)
        try simp only [List.getElem_toArray, List.getElem_cons_succ, List.getElem_cons_zero, Act.put, List.setIfInBounds_toArray, List.set_cons_zero, List.set_cons_succ]
        refine wpAnyH_take (i := 19) (v := ?_) rfl (by kernel_rfl) (by kernel_rfl) (by kernel_rfl) (fun _ _ _ h => h) (Or.inl ⟨by rfl, ?_⟩) hHeld ?_
        rotate_left
        · (intro wz hSw; (try dsimp only at hSw); (try simp only [List.getElem_toArray, List.getElem_cons_succ, List.getElem_cons_zero]); go_simp; try with_reducible rfl)
        try simp only [List.getElem_toArray, List.getElem_cons_succ, List.getElem_cons_zero, Act.put, List.setIfInBounds_toArray, List.set_cons_zero, List.set_cons_succ]
        refine wpAnyH_done (by kernel_rfl) ?_ _
        clear kR kg hHeld
        have HZd := Lib.hid (below_block hS (block_lt HZE.out) HZE.out)
        have HGd := Lib.hid (below_block hS (block_lt HQ8.out) HQ8.out)
        have HBd := Lib.hid (HBE.out.trans (hS.mono (by have := HBE.out.size; have := HEB.out; omega)))
        have HS := Lib.hid hS
        have kz := block_cells HZd.out
        have fz := block_free HZd.out
        have kg := block_cells HGd.out
        clear hS h0 hov hb1 CC K2
        go_wp2_with fail
        have hzF := putL_at HZd.out [.int .i64 n1, .int .i64 n2, .int .i64 s1, .int .i64 s2, .int .i64 n4, .int .i64 n5, .slice q1 L.length c1, .slice q2 l2.length c2, .slice q3 l3.length c3] rfl
        have hbF := putL_bel (g := B) (Nat.le_refl B) [.int .i64 n1, .int .i64 n2, .int .i64 s1, .int .i64 s2, .int .i64 n4, .int .i64 n5, .slice q1 L.length c1, .slice q2 l2.length c2, .slice q3 l3.length c3] 0 HBd.out
        have hgF := putL_gr' B [.int .i64 n1, .int .i64 n2, .int .i64 s1, .int .i64 s2, .int .i64 n4, .int .i64 n5, .slice q1 L.length c1, .slice q2 l2.length c2, .slice q3 l3.length c3] 0 w9
        simp only [putL, Nat.reduceAdd, Nat.zero_add] at hzF hbF hgF
        have kF := block_cells hzF
        have ho1 := (own_kept0 HO8a.out HS.out).kept hgF (by
          cases e : (Value.slice q1 L.length c1).ownBlock with
          | none => exact .inl rfl
          | some y => exact .inr fun h => by have := (HO8a.out.lt y e).1; simp only [Option.some.injEq] at h; omega)
        have ho2 := (own_kept0 HO8b.out HS.out).kept hgF (by
          cases e : (Value.slice q2 l2.length c2).ownBlock with
          | none => exact .inl rfl
          | some y => exact .inr fun h => by have := (HO8b.out.lt y e).1; simp only [Option.some.injEq] at h; omega)
        have ho3 := (own_kept0 HO8c.out HS.out).kept hgF (by
          cases e : (Value.slice q3 l3.length c3).ownBlock with
          | none => exact .inl rfl
          | some y => exact .inr fun h => by have := (HO8c.out.lt y e).1; simp only [Option.some.injEq] at h; omega)
        have hv := fun x hx => vesAt_own (VeO.kept (own_kept0 (HV8.out x hx) HS.out) hgF (by omega))
        refine bodyPost_ret (v := .tuple #[.agg #[.int .i64 n1, .int .i64 n2, .int .i64 s1, .int .i64 s2, .int .i64 n4, .int .i64 n5, .slice q1 L.length c1, .slice q2 l2.length c2, .slice q3 l3.length c3], .int .i64 0]) ?_ rfl ⟨by rw [HEB.out]; exact hbF, .inl ⟨⟨n1, n2, s1, s2, n4, n5, L, l2, l3⟩, q1, q2, q3, c1, c2, c3, HEQ.out, HPV.out, cesAt_own ho1 hv, ousAt_own ho2, ousAt_own ho3, rfl⟩⟩
        simp [results, Try.results25, go_sem, kF]
      · have hxl : decide (0 < (X9.length : Int)) = true := by
          have : 0 < X9.length := List.length_pos_iff.2 hx
          simp; omega
        have hx0 : 0 < X9.length := List.length_pos_iff.2 hx
        have hx1 : 0 < (X9.length : Int) := by omega
        have HNO := Lib.hid (fun a' (ha : PaV a') => tkf_no rfPa_ok (m := 2) (a' := a') ⟨by omega, by omega⟩ HRD.out (by simp; exact fun _ => hx) ha)
        clear hx
        have h0 : Below w8.heap.size w8 w8.drew := (Below.refl _ _).drew
        refine wp_region_held_drew (S := fun w' => Below w8.heap.size w8 w') (by kernel_rfl) h0 (fun hHeld => ?_)
        obtain ⟨wd, ewd⟩ : ∃ x, w8.drew = x := ⟨_, rfl⟩
        rw [ewd] at h0 hHeld ⊢
        clear ewd
        have kR : ∀ w', Below w8.heap.size w8 w' → ∀ j, w'.cell? ⟨R, j, none⟩ = #[.slice pr X9.length cr, .bool false][j]? := fun w' h => block_cells (below_block h (block_lt HRE.out) HRE.out)
        refine wpAnyH_take (i := 0) (v := ?_) rfl (by kernel_rfl) (by kernel_rfl) (by kernel_rfl) (fun _ _ _ h => h) (Or.inl ⟨by rfl, ?_⟩) hHeld ?_
        rotate_left
        · (intro wz hSw; (try dsimp only at hSw); (try simp only [List.getElem_toArray, List.getElem_cons_zero]); go_simp; try with_reducible rfl)
        try simp only [List.getElem_toArray, List.getElem_cons_zero, Act.put, List.setIfInBounds_toArray, List.set_cons_zero, List.set_cons_succ]
        refine wpAnyH_take (i := 1) (v := ?_) rfl (by kernel_rfl) (by kernel_rfl) (by kernel_rfl) (fun _ _ _ h => h) (Or.inl ⟨by rfl, ?_⟩) hHeld ?_
        rotate_left
        · (intro wz hSw; (try dsimp only at hSw); (try simp only [List.getElem_toArray, List.getElem_cons_succ, List.getElem_cons_zero]); go_simp; try with_reducible rfl)
        try simp only [List.getElem_toArray, List.getElem_cons_succ, List.getElem_cons_zero, Act.put, List.setIfInBounds_toArray, List.set_cons_zero, List.set_cons_succ]
        refine wpAnyH_take (i := 2) (v := ?_) rfl (by kernel_rfl) (by kernel_rfl) (by kernel_rfl) (fun _ _ _ h => h) (Or.inl ⟨by rfl, ?_⟩) hHeld ?_
        rotate_left
        · (intro wz hSw; (try dsimp only at hSw); (try simp only [List.getElem_toArray, List.getElem_cons_succ, List.getElem_cons_zero]); go_simp; try with_reducible rfl)
        try simp only [List.getElem_toArray, List.getElem_cons_succ, List.getElem_cons_zero, Act.put, List.setIfInBounds_toArray, List.set_cons_zero, List.set_cons_succ]
        refine wpAnyH_take (i := 3) (v := ?_) rfl (by kernel_rfl) (by kernel_rfl) (by kernel_rfl) (fun _ _ _ h => h) (Or.inl ⟨by rfl, ?_⟩) hHeld ?_
        rotate_left
        · (intro wz hSw; (try dsimp only at hSw); (try simp only [List.getElem_toArray, List.getElem_cons_succ, List.getElem_cons_zero]); go_simp; try with_reducible rfl)
        try simp only [List.getElem_toArray, List.getElem_cons_succ, List.getElem_cons_zero, Act.put, List.setIfInBounds_toArray, List.set_cons_zero, List.set_cons_succ]
        refine wpAnyH_take (i := 4) (v := ?_) rfl (by kernel_rfl) (by kernel_rfl) (by kernel_rfl) (fun _ _ _ h => h) (Or.inl ⟨by rfl, ?_⟩) hHeld ?_
        rotate_left
        · (intro wz hSw; (try dsimp only at hSw); (try simp only [List.getElem_toArray, List.getElem_cons_succ, List.getElem_cons_zero]); go_simp; try with_reducible rfl)
        try simp only [List.getElem_toArray, List.getElem_cons_succ, List.getElem_cons_zero, Act.put, List.setIfInBounds_toArray, List.set_cons_zero, List.set_cons_succ]
        refine wpAnyH_take (i := 5) (v := ?_) rfl (by kernel_rfl) (by kernel_rfl) (by kernel_rfl) (fun _ _ _ h => h) (Or.inl ⟨by rfl, ?_⟩) hHeld ?_
        rotate_left
        · (intro wz hSw; (try dsimp only at hSw); (try simp only [List.getElem_toArray, List.getElem_cons_succ, List.getElem_cons_zero]); go_simp; try with_reducible rfl)
        try simp only [List.getElem_toArray, List.getElem_cons_succ, List.getElem_cons_zero, Act.put, List.setIfInBounds_toArray, List.set_cons_zero, List.set_cons_succ]
        refine wpAnyH_take (i := 6) (v := ?_) rfl (by kernel_rfl) (by kernel_rfl) (by kernel_rfl) (fun _ _ _ h => h) (Or.inl ⟨by rfl, ?_⟩) hHeld ?_
        rotate_left
        · (intro wz hSw; (try dsimp only at hSw); (try simp only [List.getElem_toArray, List.getElem_cons_succ, List.getElem_cons_zero]); go_simp; try with_reducible rfl)
        try simp only [List.getElem_toArray, List.getElem_cons_succ, List.getElem_cons_zero, Act.put, List.setIfInBounds_toArray, List.set_cons_zero, List.set_cons_succ]
        refine wpAnyH_take (i := 7) (v := ?_) rfl (by kernel_rfl) (by kernel_rfl) (by kernel_rfl) (fun _ _ _ h => h) (Or.inl ⟨by rfl, ?_⟩) hHeld ?_
        rotate_left
        · (intro wz hSw; (try dsimp only at hSw); (try simp only [List.getElem_toArray, List.getElem_cons_succ, List.getElem_cons_zero]); go_simp; try with_reducible rfl)
        try simp only [List.getElem_toArray, List.getElem_cons_succ, List.getElem_cons_zero, Act.put, List.setIfInBounds_toArray, List.set_cons_zero, List.set_cons_succ]
        refine wpAnyH_take (i := 8) (v := ?_) rfl (by kernel_rfl) (by kernel_rfl) (by kernel_rfl) (fun _ _ _ h => h) (Or.inl ⟨by rfl, ?_⟩) hHeld ?_
        rotate_left
        · (intro wz hSw; (try dsimp only at hSw); (try simp only [List.getElem_toArray, List.getElem_cons_succ, List.getElem_cons_zero]); go_simp; try with_reducible rfl)
        try simp only [List.getElem_toArray, List.getElem_cons_succ, List.getElem_cons_zero, Act.put, List.setIfInBounds_toArray, List.set_cons_zero, List.set_cons_succ]
        refine wpAnyH_take (i := 9) (v := ?_) rfl (by kernel_rfl) (by kernel_rfl) (by kernel_rfl) (fun _ _ _ h => h) (Or.inl ⟨by rfl, ?_⟩) hHeld ?_
        rotate_left
        · (intro wz hSw; (try dsimp only at hSw); (try simp only [List.getElem_toArray, List.getElem_cons_succ, List.getElem_cons_zero]); go_simp; try with_reducible rfl)
        try simp only [List.getElem_toArray, List.getElem_cons_succ, List.getElem_cons_zero, Act.put, List.setIfInBounds_toArray, List.set_cons_zero, List.set_cons_succ]
        refine wpAnyH_take (i := 10) (v := ?_) rfl (by kernel_rfl) (by kernel_rfl) (by kernel_rfl) (fun _ _ _ h => h) (Or.inl ⟨by rfl, ?_⟩) hHeld ?_
        rotate_left
        · (intro wz hSw; (try dsimp only at hSw); (try simp only [List.getElem_toArray, List.getElem_cons_succ, List.getElem_cons_zero]); go_simp; try with_reducible rfl)
        try simp only [List.getElem_toArray, List.getElem_cons_succ, List.getElem_cons_zero, Act.put, List.setIfInBounds_toArray, List.set_cons_zero, List.set_cons_succ]
        refine wpAnyH_take (i := 11) (v := ?_) rfl (by kernel_rfl) (by kernel_rfl) (by kernel_rfl) (fun _ _ _ h => h) (Or.inl ⟨by rfl, ?_⟩) hHeld ?_
        rotate_left
        · (intro wz hSw; (try dsimp only at hSw); (try simp only [List.getElem_toArray, List.getElem_cons_succ, List.getElem_cons_zero]); go_simp; try with_reducible rfl)
        try simp only [List.getElem_toArray, List.getElem_cons_succ, List.getElem_cons_zero, Act.put, List.setIfInBounds_toArray, List.set_cons_zero, List.set_cons_succ]
        refine wpAnyH_take (i := 12) (v := ?_) rfl (by kernel_rfl) (by kernel_rfl) (by kernel_rfl) (fun _ _ _ h => h) (Or.inl ⟨by rfl, ?_⟩) hHeld ?_
        rotate_left
        · (intro wz hSw; (try dsimp only at hSw); (try simp only [List.getElem_toArray, List.getElem_cons_succ, List.getElem_cons_zero]); go_simp; try with_reducible rfl)
        try simp only [List.getElem_toArray, List.getElem_cons_succ, List.getElem_cons_zero, Act.put, List.setIfInBounds_toArray, List.set_cons_zero, List.set_cons_succ]
        refine wpAnyH_take (i := 13) (v := undef) rfl (by kernel_rfl) (by kernel_rfl) (by kernel_rfl) (fun _ _ _ h => h) (Or.inr ⟨by rfl, rfl⟩) hHeld ?_
        try simp only [List.getElem_toArray, List.getElem_cons_succ, List.getElem_cons_zero, Act.put, List.setIfInBounds_toArray, List.set_cons_zero, List.set_cons_succ]
        refine wpAnyH_take (i := 14) (v := undef) rfl (by kernel_rfl) (by kernel_rfl) (by kernel_rfl) (fun _ _ _ h => h) (Or.inr ⟨by rfl, rfl⟩) hHeld ?_
        try simp only [List.getElem_toArray, List.getElem_cons_succ, List.getElem_cons_zero, Act.put, List.setIfInBounds_toArray, List.set_cons_zero, List.set_cons_succ]
        refine wpAnyH_take (i := 15) (v := undef) rfl (by kernel_rfl) (by kernel_rfl) (by kernel_rfl) (fun _ _ _ h => h) (Or.inr ⟨by rfl, rfl⟩) hHeld ?_
        try simp only [List.getElem_toArray, List.getElem_cons_succ, List.getElem_cons_zero, Act.put, List.setIfInBounds_toArray, List.set_cons_zero, List.set_cons_succ]
        refine wpAnyH_take (i := 16) (v := undef) rfl (by kernel_rfl) (by kernel_rfl) (by kernel_rfl) (fun _ _ _ h => h) (Or.inr ⟨by rfl, rfl⟩) hHeld ?_
        try simp only [List.getElem_toArray, List.getElem_cons_succ, List.getElem_cons_zero, Act.put, List.setIfInBounds_toArray, List.set_cons_zero, List.set_cons_succ]
        refine wpAnyH_take (i := 17) (v := undef) rfl (by kernel_rfl) (by kernel_rfl) (by kernel_rfl) (fun _ _ _ h => h) (Or.inr ⟨by rfl, rfl⟩) hHeld ?_
        try simp only [List.getElem_toArray, List.getElem_cons_succ, List.getElem_cons_zero, Act.put, List.setIfInBounds_toArray, List.set_cons_zero, List.set_cons_succ]
        refine wpAnyH_take (i := 18) (v := undef) rfl (by kernel_rfl) (by kernel_rfl) (by kernel_rfl) (fun _ _ _ h => h) (Or.inr ⟨by rfl, rfl⟩) hHeld ?_
        try simp only [List.getElem_toArray, List.getElem_cons_succ, List.getElem_cons_zero, Act.put, List.setIfInBounds_toArray, List.set_cons_zero, List.set_cons_succ]
        refine wpAnyH_take (i := 19) (v := ?_) rfl (by kernel_rfl) (by kernel_rfl) (by kernel_rfl) (fun _ _ _ h => h) (Or.inl ⟨by rfl, ?_⟩) hHeld ?_
        rotate_left
        · (intro wz hSw; (try dsimp only at hSw); (try simp only [List.getElem_toArray, List.getElem_cons_succ, List.getElem_cons_zero]); go_simp; try with_reducible rfl)
        try simp only [List.getElem_toArray, List.getElem_cons_succ, List.getElem_cons_zero, Act.put, List.setIfInBounds_toArray, List.set_cons_zero, List.set_cons_succ]
        refine wpAnyH_done (by kernel_rfl) ?_ _
        clear kR
        have HZd := Lib.hid (below_block h0 (block_lt HZE.out) HZE.out)
        have HBd := Lib.hid (HBE.out.trans (h0.mono (by have := HBE.out.size; have := HEB.out; omega)))
        have kz := block_cells HZd.out
        have fz := block_free HZd.out
        clear hHeld
        go_wp2_with fail
        have hzF := putL_at HZd.out [.int .i64 0, .int .i64 0, .int .i64 0, .int .i64 0, .int .i64 0, .int .i64 0, .slice none 0 0, .slice none 0 0, .slice none 0 0] rfl
        have hbF := putL_bel (g := B) (Nat.le_refl B) [.int .i64 0, .int .i64 0, .int .i64 0, .int .i64 0, .int .i64 0, .int .i64 0, .slice none 0 0, .slice none 0 0, .slice none 0 0] 0 HBd.out
        simp only [putL, Nat.reduceAdd, Nat.zero_add] at hzF hbF
        have kF := block_cells hzF
        refine bodyPost_ret (v := .tuple #[.agg #[.int .i64 0, .int .i64 0, .int .i64 0, .int .i64 0, .int .i64 0, .int .i64 0, .slice none 0 0, .slice none 0 0, .slice none 0 0], .int .i64 9]) ?_ rfl ⟨by rw [HEB.out]; exact hbF, .inr ⟨fun a' ha => by rw [encPa_body]; exact HNO.out a' ha, rfl⟩⟩
        simp [results, Try.results25, go_sem, kF]
  · have hq : (n0 != 2) = true := by simpa using hn
    have kz := block_cells HZ1.out
    have fz := block_free HZ1.out
    have HNO := Lib.hid (fun a' (ha : PaV a') => tkf_no rfPa_ok (m := 2) (a' := a') ⟨by omega, by omega⟩ HRD.out (fun h => hn h.2.1) ha)
    have hBw : Below B w w1 := HB1.out.grown G1.out (by have := HB1.out.size; have := HEB.out; omega) (fun k hk => by cases hk; omega)
    have HBd := Lib.hid hBw
    have HZd := HZ1
    clear hBw
    go_wp2_with fail
    have hzF := putL_at HZd.out [.int .i64 0, .int .i64 0, .int .i64 0, .int .i64 0, .int .i64 0, .int .i64 0, .slice none 0 0, .slice none 0 0, .slice none 0 0] rfl
    have hbF := putL_bel (g := B) (Nat.le_refl B) [.int .i64 0, .int .i64 0, .int .i64 0, .int .i64 0, .int .i64 0, .int .i64 0, .slice none 0 0, .slice none 0 0, .slice none 0 0] 0 HBd.out
    simp only [putL, Nat.reduceAdd, Nat.zero_add] at hzF hbF
    have kF := block_cells hzF
    refine bodyPost_ret (v := .tuple #[.agg #[.int .i64 0, .int .i64 0, .int .i64 0, .int .i64 0, .int .i64 0, .int .i64 0, .slice none 0 0, .slice none 0 0, .slice none 0 0], .int .i64 9]) ?_ rfl ⟨by rw [HEB.out]; exact hbF, .inr ⟨fun a' ha => by rw [encPa_body]; exact HNO.out a' ha, rfl⟩⟩
    simp [results, Try.results25, go_sem, kF]
end Go.Proofs.Ytmhmlpfkdpjlaaa
