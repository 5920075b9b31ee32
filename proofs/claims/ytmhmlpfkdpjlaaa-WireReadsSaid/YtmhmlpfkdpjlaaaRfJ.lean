/- Wire: the reference's TakeCmd. -/
import Derived.Test.YtmhmlpfkdpjlaaaRfH
import Derived.Test.YtmhmlpfkdpjlaaaReadA
import Derived.Deep.CutBlock
namespace Go.Proofs.Ytmhmlpfkdpjlaaa
open Go.ChangeShapes Go.WideShapes Go.ChangeAt Go.RowKit

theorem putL_mid {g : Nat} {t : TypeId} : ∀ (vs cur pre rest : List Value) {w : World}, w.heap[g]? = some (.cells (pre ++ (cur ++ rest)).toArray t (0, 0)) → vs.length = cur.length → (putL g pre.length vs w).heap[g]? = some (.cells (pre ++ (vs ++ rest)).toArray t (0, 0))
  | [], cur, pre, rest, w, h, e => by
    cases cur with
    | nil => exact h
    | cons a b => simp at e
  | v :: vs, cur, pre, rest, w, h, e => by
    cases cur with
    | nil => simp at e
    | cons a b =>
      have h2 : (w.setCell ⟨g, pre.length, none⟩ v).heap[g]? = some (.cells ((pre ++ [v]) ++ (b ++ rest)).toArray t (0, 0)) := by
        rw [cells_setW h]; simp
      have := putL_mid vs b (pre ++ [v]) rest h2 (by simpa using e)
      simpa [putL] using this
theorem own_kept0 {w w' : World} {b : Nat} {e : TypeId} {size n : Nat} {v : Value} {xs : List Value} (h : w.ownsRow b e size v n xs) (hb : Below w.heap.size w w') : w'.ownsRow b e size v n xs := h.kept (row := none) ⟨hb.os, hb.tape, hb.output, hb.size, fun k hk _ => hb.block k hk⟩ (by cases v.ownBlock <;> simp)
set_option maxRecDepth 100000 in
set_option maxHeartbeats 16000000 in
theorem rtakeCmd_any (X0 : List Int) (v : Value) (w : World) (hv : Sl w.heap.size w v 1 X0.length (byt X0)) (hoct : Oct X0) (hlen : (X0.length : Int) ≤ 140737488300000) :
    Calls Try.prog 23 #[v] w (TkCmd w X0) := by
  obtain ⟨p, cap, rfl, hc1, hc2, -, -⟩ := hv.form
  have HV := Lib.hid hv; have HOC := Lib.hid hoct; have HLN := Lib.hid hlen
  obtain ⟨B, eB⟩ : ∃ n, w.heap.size = n := ⟨_, rfl⟩
  have HEB := Lib.hid eB
  clear hv hoct hlen hc1 hc2
  go_enter Try.func23, Try.ntmps23
  go_upto_region 2 with fail
  obtain ⟨Wa, hWa⟩ : ∃ x : World, w.alloc (.cells #[.int .i64 0, .int .i64 0, .int .i64 0, .int .i64 0, .int .i64 0, .int .i64 0, .int .i64 0, .int .i64 0, .int .i64 0, .int .i64 0, .int .i64 0, .bool false, .slice none 0 0, .slice none 0 0] 29) = x := ⟨_, rfl⟩
  obtain ⟨W, hW⟩ : ∃ x : World, Wa.alloc (.cells #[.slice p X0.length cap, .bool false] 110) = x := ⟨_, rfl⟩
  have sa : Wa.heap.size = B + 1 := by rw [← hWa]; simp; omega
  have sw : W.heap.size = B + 1 + 1 := by rw [← hW]; simp; omega
  have ba : Below B w Wa := by rw [← hWa]; exact (Below.refl _ _).alloc (by omega) _
  have bb : Below Wa.heap.size Wa W := by rw [← hW]; exact (Below.refl _ _).alloc (Nat.le_refl _) _
  have hR : W.heap[B + 1]? = some (.cells #[.slice p X0.length cap, .bool false] 110 (0, 0)) := by rw [← hW, ← sa]; exact heap_last _ _
  have hZa : Wa.heap[B]? = some (.cells #[.int .i64 0, .int .i64 0, .int .i64 0, .int .i64 0, .int .i64 0, .int .i64 0, .int .i64 0, .int .i64 0, .int .i64 0, .int .i64 0, .int .i64 0, .bool false, .slice none 0 0, .slice none 0 0] 29 (0, 0)) := by rw [← hWa, ← eB]; exact heap_last _ _
  have hZ := below_block bb (block_lt hZa) hZa
  have hB1 : Below B w W := ba.trans (bb.mono (by omega))
  have hr : RfW B W (B + 1) X0 false := ⟨⟨by omega, p, cap, hR, by have := HV.out; rw [eB] at this; exact this.keep hB1⟩, HOC.out, HLN.out⟩
  rw [hWa, hW]
  obtain ⟨R, eR⟩ : ∃ n, B + 1 = n := ⟨_, rfl⟩
  rw [eR] at hr sw ⊢
  have hBR : B < R := by omega
  have H0 := Lib.hid hr; have HB1 := Lib.hid hB1; have HZ := Lib.hid hZ
  clear hWa hW sa ba bb hR hZa hZ hB1 hr eR eB
  have hk0 := rfBy_oct 1 X0 false HOC.out
  obtain ⟨⟨L0, X1, b1⟩, hr0⟩ : ∃ r, rfBy 1 X0 false = r := ⟨_, rfl⟩
  have C0 := Lib.hid (rfby1_any B R X0 false W H0.out)
  rw [hr0] at C0 hk0
  dsimp only at hk0
  obtain ⟨n0, rfl⟩ : ∃ v, L0 = [v] := by
    match L0, hk0.2.2 with
    | [v], _ => exact ⟨v, rfl⟩
  have hrb : rfB X0 false = (n0, X1, b1) := by unfold rfB; rw [hr0]; rfl
  obtain ⟨⟨n1, X2, b2⟩, hr1⟩ : ∃ r, rfN X1 b1 = r := ⟨_, rfl⟩
  have C1 := Lib.hid (fun w' => rfn_any B R X1 b1 w')
  rw [hr1] at C1
  obtain ⟨⟨n2, X3, b3⟩, hr2⟩ : ∃ r, rfN X2 b2 = r := ⟨_, rfl⟩
  have C2 := Lib.hid (fun w' => rfn_any B R X2 b2 w')
  rw [hr2] at C2
  obtain ⟨⟨n3, X4, b4⟩, hr3⟩ : ∃ r, rfN X3 b3 = r := ⟨_, rfl⟩
  have C3 := Lib.hid (fun w' => rfn_any B R X3 b3 w')
  rw [hr3] at C3
  obtain ⟨⟨n4, X5, b5⟩, hr4⟩ : ∃ r, rfN X4 b4 = r := ⟨_, rfl⟩
  have C4 := Lib.hid (fun w' => rfn_any B R X4 b4 w')
  rw [hr4] at C4
  obtain ⟨⟨⟨y1, y2, y3, y4⟩, X6, b6⟩, hr5⟩ : ∃ r, rfY X5 b5 = r := ⟨_, rfl⟩
  have C5 := Lib.hid (fun w' => rfy_any B R X5 b5 w')
  rw [hr5] at C5
  obtain ⟨⟨⟨s1, s2⟩, X7, b7⟩, hr6⟩ : ∃ r, rfS X6 b6 = r := ⟨_, rfl⟩
  have C6 := Lib.hid (fun w' => rfs_any B R X6 b6 w')
  rw [hr6] at C6
  obtain ⟨⟨n7, X8, b8⟩, hr7⟩ : ∃ r, rfN X7 b7 = r := ⟨_, rfl⟩
  have C7 := Lib.hid (fun w' => rfn_any B R X7 b7 w')
  rw [hr7] at C7
  obtain ⟨⟨n8, X9, b9⟩, hr8⟩ : ∃ r, rfF X8 b8 = r := ⟨_, rfl⟩
  have C8 := Lib.hid (fun w' => rff_any B R X8 b8 w')
  rw [hr8] at C8
  obtain ⟨⟨l1, X10, b10⟩, hr9⟩ : ∃ r, rfL rfSp X9 b9 = r := ⟨_, rfl⟩
  obtain ⟨⟨l2, X11, b11⟩, hr10⟩ : ∃ r, rfL rfWr X10 b10 = r := ⟨_, rfl⟩
  have HRD : Hid (rd2 rfB rfCm X0 false = ((n0, ⟨n1, n2, n3, n4, y1, y2, y3, y4, s1, s2, n7, n8, l1, l2⟩), X11, b11)) := rd2_is hrb (rdMap_is (rd2_is hr1 (rd2_is hr2 (rd2_is hr3 (rd2_is hr4 (rd2_is hr5 (rd2_is hr6 (rd2_is hr7 (rd2_is hr8 (rd2_is hr9 hr10))))))))))
  have HR9 := Lib.hid hr9; have HR10 := Lib.hid hr10
  clear hr0 hrb hk0 hr1 hr2 hr3 hr4 hr5 hr6 hr7 hr8 hr9 hr10
  go_wp2_with fail
  refine C0.out.mono ?_; rintro e w1 ⟨p1, cap1, rfl, hs, hcap, h1, g1⟩
  dsimp only at hs h1 ⊢
  have H1 := Lib.hid h1; have G1 := Lib.hid g1
  obtain ⟨pa, ca, hv, -, -, -, hc⟩ := hs.form
  obtain ⟨rfl, -, rfl⟩ : pa = p1 ∧ _ ∧ ca = cap1 := by simp only [Value.slice.injEq] at hv; exact ⟨hv.1.symm, hv.2.1, hv.2.2.symm⟩
  obtain ⟨gq, oq, rfl, -, hcell⟩ := hc 0 (by omega)
  have hcell' : w1.cell? ⟨gq, oq, none⟩ = some (.int .u8 n0) := by rw [Nat.add_zero] at hcell; rw [hcell]; rfl
  have HZ1 := Lib.hid (rd_stays G1.out HZ.out (by omega))
  clear g1 h1 hs hv hc hcell C0 H0
  by_cases hn : n0 = 1
  · have hq : (n0 != 1) = false := by simpa using hn
    go_wp2_with fail
    refine (C1.out _ H1.out).mono ?_; rintro r wc1 ⟨rfl, rc1, kc1⟩
    have qc1 := kc1
    dsimp only at rc1 ⊢
    go_wp2_with fail
    refine (C2.out _ rc1).mono ?_; rintro r wc2 ⟨rfl, rc2, kc2⟩
    have qc2 := grown_transW qc1 kc2
    dsimp only at rc2 ⊢
    go_wp2_with fail
    refine (C3.out _ rc2).mono ?_; rintro r wc3 ⟨rfl, rc3, kc3⟩
    have qc3 := grown_transW qc2 kc3
    dsimp only at rc3 ⊢
    go_wp2_with fail
    refine (C4.out _ rc3).mono ?_; rintro r wc4 ⟨rfl, rc4, kc4⟩
    have qc4 := grown_transW qc3 kc4
    dsimp only at rc4 ⊢
    go_upto_region 5 with fail
    obtain ⟨V, hV⟩ : ∃ x : World, wc4.alloc (.cells #[.int .i64 n1, .int .i64 n2, .int .i64 n3, .int .i64 n4, .int .i64 0, .int .i64 0, .int .i64 0, .int .i64 0, .int .i64 0, .int .i64 0, .int .i64 0, .bool false, .slice none 0 0, .slice none 0 0] 29) = x := ⟨_, rfl⟩
    have bV : Below wc4.heap.size wc4 V := by rw [← hV]; exact (Below.refl _ _).alloc (Nat.le_refl _) _
    have hG : V.heap[wc4.heap.size]? = some (.cells #[.int .i64 n1, .int .i64 n2, .int .i64 n3, .int .i64 n4, .int .i64 0, .int .i64 0, .int .i64 0, .int .i64 0, .int .i64 0, .int .i64 0, .int .i64 0, .bool false, .slice none 0 0, .slice none 0 0] 29 (0, 0)) := by rw [← hV]; exact heap_last wc4 _
    have sV : V.heap.size = wc4.heap.size + 1 := by rw [← hV]; simp
    have rV := rc4.keep bV (Nat.le_refl _)
    have gV := grown_transW G1.out (grown_transW qc4 (grown_belowW bV (grown_refl _ (some R))))
    rw [hV]
    obtain ⟨g, ec⟩ : ∃ n, wc4.heap.size = n := ⟨_, rfl⟩
    have hRc : R < g := by have := rc4.lt; omega
    have hWc : W.heap.size ≤ g := by have := G1.out.size; have := qc4.size; omega
    rw [ec] at hG sV ⊢
    have HG := Lib.hid hG; have GV := Lib.hid gV; have RV := Lib.hid rV
    clear hV bV hG gV rV ec kc1 kc2 kc3 kc4 qc1 qc2 qc3 qc4 rc1 rc2 rc3 rc4
    go_wp2_with fail
    refine (C5.out _ RV.out).mono ?_; rintro r wc5 ⟨rfl, rc5, kc5⟩
    have qc5 := kc5
    dsimp only at rc5 ⊢
    go_wp2_with fail
    refine (C6.out _ rc5).mono ?_; rintro r wc6 ⟨rfl, rc6, kc6⟩
    have qc6 := grown_transW qc5 kc6
    dsimp only at rc6 ⊢
    go_wp2_with fail
    refine (C7.out _ rc6).mono ?_; rintro r wc7 ⟨rfl, rc7, kc7⟩
    have qc7 := grown_transW qc6 kc7
    dsimp only at rc7 ⊢
    go_wp2_with fail
    refine (C8.out _ rc7).mono ?_; rintro r wc8 ⟨rfl, rc8, kc8⟩
    have qc8 := grown_transW qc7 kc8
    dsimp only at rc8 ⊢
    have hG8 := rd_stays qc8 HG.out (by omega)
    have kg := block_cells hG8
    have fg := block_free hG8
    go_upto_region 6 with fail
    have hG9 := putL_mid [.int .i64 y1, .int .i64 y2, .int .i64 y3, .int .i64 y4, .int .i64 s1, .int .i64 s2, .int .i64 n7, .bool n8] [.int .i64 0, .int .i64 0, .int .i64 0, .int .i64 0, .int .i64 0, .int .i64 0, .int .i64 0, .bool false] [.int .i64 n1, .int .i64 n2, .int .i64 n3, .int .i64 n4] [.slice none 0 0, .slice none 0 0] hG8 rfl
    have hB9 := putL_gr (g := g) (w0 := W) hWc [.int .i64 y1, .int .i64 y2, .int .i64 y3, .int .i64 y4, .int .i64 s1, .int .i64 s2, .int .i64 n7, .bool n8] 4 (grown_transW GV.out qc8)
    have hr9 := putL_rf (g := g) (R := R) hRc [.int .i64 y1, .int .i64 y2, .int .i64 y3, .int .i64 y4, .int .i64 s1, .int .i64 s2, .int .i64 n7, .bool n8] 4 rc8.r
    have hW9 : (putL g 4 [.int .i64 y1, .int .i64 y2, .int .i64 y3, .int .i64 y4, .int .i64 s1, .int .i64 s2, .int .i64 n7, .bool n8] wc8).heap.size = wc8.heap.size := by simp [putL, World.setCell]
    obtain ⟨w6, ew6⟩ : ∃ x : World, putL g 4 [.int .i64 y1, .int .i64 y2, .int .i64 y3, .int .i64 y4, .int .i64 s1, .int .i64 s2, .int .i64 n7, .bool n8] wc8 = x := ⟨_, rfl⟩
    have hG6 : w6.heap[g]? = some (.cells #[.int .i64 n1, .int .i64 n2, .int .i64 n3, .int .i64 n4, .int .i64 y1, .int .i64 y2, .int .i64 y3, .int .i64 y4, .int .i64 s1, .int .i64 s2, .int .i64 n7, .bool n8, .slice none 0 0, .slice none 0 0] 29 (0, 0)) := by rw [← ew6]; exact hG9
    rw [ew6] at hB9 hr9 hW9
    simp only [putL, Nat.reduceAdd] at ew6
    rw [ew6]
    have H6 : Hid (RfW B w6 R X9 b9) := ⟨hr9, rc8.o, rc8.l⟩
    have HG6 := Lib.hid hG6; have GB6 := Lib.hid hB9
    have hc6 : g + 1 ≤ w6.heap.size := by have := qc8.size; omega
    clear hr9 hG6 hB9 hG9 ew6 kg fg hG8 hW9 rc5 rc6 rc7 rc8 kc5 kc6 kc7 kc8 qc5 qc6 qc7 qc8 HG RV C1 C2 C3 C4 C5 C6 C7 C8
    have HCA := Lib.hid (fun w' => rfc_any B R X9 b9 w')
    have hnr := rfC_range X9 b9
    have hL : rfL rfSp X9 b9 = itF rfSp (rfC X9 b9).1.toNat (rfC X9 b9).2.1 (rfC X9 b9).2.2 := rfl
    obtain ⟨⟨NA, YA, b0A⟩, hr⟩ : ∃ r, rfC X9 b9 = r := ⟨_, rfl⟩
    rw [hr] at HCA hnr hL
    dsimp only at HCA hnr hL
    obtain ⟨nA, rfl⟩ := Int.eq_ofNat_of_zero_le hnr.1
    rw [Int.toNat_natCast] at hL
    have hn2A : nA ≤ 65536 := by omega
    have HLA := Lib.hid (hL.symm.trans HR9.out)
    clear hr hnr hL
    go_wp2_with fail
    refine (HCA.out _ H6.out).mono ?_; rintro e wSA ⟨rfl, ha, ga⟩
    dsimp only at ha ⊢
    go_upto_block 0 with fail
    have hGs := rd_stays ga HG6.out (by omega)
    obtain ⟨bsA, hbsA⟩ : ∃ b, g + 1 = b := ⟨_, rfl⟩
    have hgbA : g < bsA := by have := block_lt hGs; omega
    have hbzA : g + 1 ≤ bsA := by omega
    have hzS : bsA ≤ wSA.heap.size := by have := ga.size; omega
    have HOA : Hid (LsF R g bsA W wSA (fun v => #[.int .i64 n1, .int .i64 n2, .int .i64 n3, .int .i64 n4, .int .i64 y1, .int .i64 y2, .int .i64 y3, .int .i64 y4, .int .i64 s1, .int .i64 s2, .int .i64 n7, .bool n8, v, .slice none 0 0]) 29 65 2 spR (itF rfSp 0 YA b0A).1 wSA ∧ RfW B wSA R (itF rfSp 0 YA b0A).2.1 (itF rfSp 0 YA b0A).2.2) := ⟨⟨⟨.slice none 0 0, hGs, ⟨rfl, .inl ⟨rfl, rfl⟩⟩⟩, grown_transW GB6.out ga, hzS, fun _ _ _ _ => rfl⟩, ha⟩
    have HGAA := Lib.hid ga
    have hSzA : w6.heap.size ≤ wSA.heap.size := ga.size
    clear ha ga HCA hGs hzS hbsA
    go_cut [] from 40 to 60 (fun wx => Hid (LsF R g bsA W wSA (fun v => #[.int .i64 n1, .int .i64 n2, .int .i64 n3, .int .i64 n4, .int .i64 y1, .int .i64 y2, .int .i64 y3, .int .i64 y4, .int .i64 s1, .int .i64 s2, .int .i64 n7, .bool n8, v, .slice none 0 0]) 29 65 2 spR l1 wx ∧ RfW B wx R X10 b10))
    case first =>
      obtain ⟨i0, hi, hz0, hz1, hz2⟩ := info_parts Try.infoSp
      go_wp2_with fail
      go_loopw [6] (fun i wr => ∃ m k : Nat, k + m = nA ∧ i = .int .i64 m ∧ Hid (LsF R g bsA W wSA (fun v => #[.int .i64 n1, .int .i64 n2, .int .i64 n3, .int .i64 n4, .int .i64 y1, .int .i64 y2, .int .i64 y3, .int .i64 y4, .int .i64 s1, .int .i64 s2, .int .i64 n7, .bool n8, v, .slice none 0 0]) 29 65 2 spR (itF rfSp k YA b0A).1 wr ∧ RfW B wr R (itF rfSp k YA b0A).2.1 (itF rfSp k YA b0A).2.2)) (fun i _ => (intOf i).toNat)
      case atStart => exact ⟨nA, 0, by omega, rfl, HOA⟩
      case round =>
        clear HOA
        obtain ⟨m, k, hkm, rfl, HJ⟩ := hrel
        obtain ⟨wk, rfl⟩ : ∃ wk : World, wk = wr := ⟨_, rfl⟩
        have hil := itF_len rfSp YA b0A k
        obtain ⟨⟨acc, ys, bb⟩, hr⟩ : ∃ r, itF rfSp k YA b0A = r := ⟨_, rfl⟩
        rw [hr] at HJ hil
        dsimp only at HJ hil
        have HRR := Lib.hid hr
        obtain ⟨⟨⟨v, hg, ho⟩, hB, hz, hkp⟩, hw⟩ := HJ.out
        have hB0 := hw.r
        obtain ⟨-, pk, capk, hR, -⟩ := hB0
        have kR := block_cells hR
        have H0 := Lib.hid hw; have HG := Lib.hid hg; have HO := Lib.hid ho; have HB := Lib.hid hB; have HKP := Lib.hid hkp
        clear hr hR hg ho hB hw hkp HJ
        by_cases hm : m = 0
        · subst hm
          have hd : decide ((0 : Int) < ((0 : Nat) : Int)) = false := by simp
          have HE := Lib.hid (show itF rfSp nA YA b0A = (acc, ys, bb) by rw [show nA = k by omega]; exact HRR.out)
          have HX : Hid (LsF R g bsA W wSA (fun v => #[.int .i64 n1, .int .i64 n2, .int .i64 n3, .int .i64 n4, .int .i64 y1, .int .i64 y2, .int .i64 y3, .int .i64 y4, .int .i64 s1, .int .i64 s2, .int .i64 n7, .bool n8, v, .slice none 0 0]) 29 65 2 spR l1 wk ∧ RfW B wk R X10 b10) := by
            show _ ∧ _
            have e3 := HLA.out.symm.trans HE.out
            simp only [Prod.mk.injEq] at e3
            rw [e3.1, e3.2.1, e3.2.2]
            exact ⟨⟨⟨v, HG.out, HO.out⟩, HB.out, hz, HKP.out⟩, H0.out⟩
          clear HG HO HB HKP H0 HE HRR
          go_wp2_with fail
          go_meet
          case rel => exact HX
        have hd : decide ((0 : Int) < (m : Int)) = true := by simp; omega
        cases bb with
        | true =>
          have HE := Lib.hid (show itF rfSp nA YA b0A = (acc, ys, true) by rw [← hkm, itF_stop (by rw [HRR.out]) m]; exact HRR.out)
          have HX : Hid (LsF R g bsA W wSA (fun v => #[.int .i64 n1, .int .i64 n2, .int .i64 n3, .int .i64 n4, .int .i64 y1, .int .i64 y2, .int .i64 y3, .int .i64 y4, .int .i64 s1, .int .i64 s2, .int .i64 n7, .bool n8, v, .slice none 0 0]) 29 65 2 spR l1 wk ∧ RfW B wk R X10 b10) := by
            show _ ∧ _
            have e3 := HLA.out.symm.trans HE.out
            simp only [Prod.mk.injEq] at e3
            rw [e3.1, e3.2.1, e3.2.2]
            exact ⟨⟨⟨v, HG.out, HO.out⟩, HB.out, hz, HKP.out⟩, H0.out⟩
          clear HG HO HB HKP H0 HE HRR
          go_wp2_with fail
          go_meet
          case rel => exact HX
        | false =>
          obtain ⟨⟨t1, X1, b1⟩, hr1⟩ : ∃ r, rfT ys false = r := ⟨_, rfl⟩
          obtain ⟨⟨t2, X2, b2⟩, hr2⟩ : ∃ r, rfT X1 b1 = r := ⟨_, rfl⟩
          have hx : rfSp ys false = (⟨t1, t2⟩, X2, b2) := rdMap_is (rd2_is hr1 hr2)
          have HNX := Lib.hid (itF_next HRR.out hx)
          have C1 := Lib.hid (fun w' => rft_any B R ys false w')
          have C2 := Lib.hid (fun w' => rft_any B R X1 b1 w')
          rw [hr1] at C1; rw [hr2] at C2
          have KG : Hid (∀ w', wk.grownBy w' (some R) → ∀ j, w'.cell? ⟨g, j, none⟩ = #[.int .i64 n1, .int .i64 n2, .int .i64 n3, .int .i64 n4, .int .i64 y1, .int .i64 y2, .int .i64 y3, .int .i64 y4, .int .i64 s1, .int .i64 s2, .int .i64 n7, .bool n8, v, .slice none 0 0][j]?) := fun w' h => block_cells (rd_stays h HG.out (by omega))
          have hkl : acc.length ≤ 65536 := by omega
          have rg : R < g := by omega
          have ng : W.heap.size ≤ g := by omega
          have hbase : g < bsA := by omega
          have hRb : R < bsA := by omega
          clear hr1 hr2 hx
          go_upto_region 9 with fail
          have g0 : wk.grownBy wk.drew (some R) := grown_drewW (grown_refl wk _)
          have r0 := H0.out.drew
          refine wp_region_held_drew (S := fun w' => KpB bsA R g wk w') (by kernel_rfl) (kpB_gr hz g0) (fun hHeld => ?_)
          obtain ⟨wd, ewd⟩ : ∃ x, wk.drew = x := ⟨_, rfl⟩
          rw [ewd] at g0 r0 hHeld ⊢
          clear ewd
          refine wpAnyH_take (i := 0) (v := ?_) rfl (by kernel_rfl) (by kernel_rfl) (by kernel_rfl) (fun _ _ _ h => h) (Or.inl ⟨by rfl, ?_⟩) hHeld ?_
          rotate_left
          · (intro wz hSw; (try dsimp only at hSw); (try simp only [List.getElem_toArray, List.getElem_cons_zero]); go_simp; try with_reducible rfl)
          try simp only [List.getElem_toArray, List.getElem_cons_zero, Act.put, List.setIfInBounds_toArray, List.set_cons_zero, List.set_cons_succ]
          refine wpAnyH_take (i := 2) (v := ?_) rfl (by kernel_rfl) (by kernel_rfl) (by kernel_rfl) (fun _ _ _ h => h) (Or.inl ⟨by rfl, ?_⟩) hHeld ?_
          rotate_left
          · (intro wz hSw; (try dsimp only at hSw); (try simp only [List.getElem_toArray, List.getElem_cons_succ, List.getElem_cons_zero]); go_simp; try with_reducible rfl)
          try simp only [List.getElem_toArray, List.getElem_cons_succ, List.getElem_cons_zero, Act.put, List.setIfInBounds_toArray, List.set_cons_zero, List.set_cons_succ]
          refine wpAnyH_take (i := 4) (v := ?_) rfl (by kernel_rfl) (by kernel_rfl) (by kernel_rfl) (fun _ _ _ h => h) (Or.inl ⟨by rfl, ?_⟩) hHeld ?_
          rotate_left
          · (intro wz hSw; (try dsimp only at hSw); (try simp only [List.getElem_toArray, List.getElem_cons_succ, List.getElem_cons_zero]); go_simp; try with_reducible rfl)
          try simp only [List.getElem_toArray, List.getElem_cons_succ, List.getElem_cons_zero, Act.put, List.setIfInBounds_toArray, List.set_cons_zero, List.set_cons_succ]
          clear hHeld
          apply cutG (R := fun G w' => wk.grownBy w' (some R) ∧ RfW B w' R X2 b2 ∧ w'.heap[G]? = some (.cells [.string t1, .string t2].toArray 65 (0, 0)))
          · intro hcut
            have hHeld := kpB_gr (g := g) hz g0
            refine wpAnyH_ready (rs := [1, 3]) (by kernel_rfl) (by simp) ?_
            refine AllReadyH.cons rfl (fun K hK => ?_) (AllReadyH.cons rfl (fun K hK => ?_) AllReadyH.nil)
            · skip
              try simp only [List.getElem_toArray, List.getElem_cons_succ, List.getElem_cons_zero]
              have kg := KG.out wd g0
              go_simp
              clear kg
              refine hK.out _ _ hHeld (fun _ => ?_)
              clear hK K
              try simp only [List.getElem_toArray, List.getElem_cons_succ, List.getElem_cons_zero, Act.put, List.setIfInBounds_toArray, List.set_cons_zero, List.set_cons_succ]
              refine wpAnyH_ready (rs := [3]) (by kernel_rfl) (by simp) ?_
              refine AllReadyH.cons rfl (fun K hK => ?_) AllReadyH.nil
              try simp only [List.getElem_toArray, List.getElem_cons_succ, List.getElem_cons_zero]
              go_simp
              refine (C1.out _ r0).mono ?_; rintro r w2 ⟨rfl, r2, k2⟩
              dsimp only at r2 ⊢
              have g2 := grown_transW g0 k2
              refine hK.out _ _ (kpB_gr hz g2) (fun _ => ?_)
              clear hK K hHeld
              try simp only [List.getElem_toArray, List.getElem_cons_succ, List.getElem_cons_zero, Act.put, List.setIfInBounds_toArray, List.set_cons_zero, List.set_cons_succ]
              have hHeld := kpB_gr (g := g) hz g2
              refine wpAnyH_ready (rs := [5]) (by kernel_rfl) (by simp) ?_
              refine AllReadyH.cons rfl (fun K hK => ?_) AllReadyH.nil
              try simp only [List.getElem_toArray, List.getElem_cons_succ, List.getElem_cons_zero]
              go_simp
              refine (C2.out _ r2).mono ?_; rintro r w3 ⟨rfl, r3, k3⟩
              dsimp only at r3 ⊢
              have g3 := grown_transW g2 k3
              refine hK.out _ _ (kpB_gr hz g3) (fun _ => ?_)
              clear hK K hHeld
              try simp only [List.getElem_toArray, List.getElem_cons_succ, List.getElem_cons_zero, Act.put, List.setIfInBounds_toArray, List.set_cons_zero, List.set_cons_succ]
              have hHeld := kpB_gr (g := g) hz g3
              refine wpAnyH_take (i := 6) (v := ?_) rfl (by kernel_rfl) (by kernel_rfl) (by kernel_rfl) (fun _ _ _ h => h) (Or.inl ⟨by rfl, ?_⟩) hHeld ?_
              rotate_left
              · (intro wz hSw; (try dsimp only at hSw); (try simp only [List.getElem_toArray, List.getElem_cons_succ, List.getElem_cons_zero]); go_simp; try with_reducible rfl)
              try simp only [List.getElem_toArray, List.getElem_cons_succ, List.getElem_cons_zero, Act.put, List.setIfInBounds_toArray, List.set_cons_zero, List.set_cons_succ]
              refine wpAnyH_ready (rs := [7]) (by kernel_rfl) (by simp) ?_
              refine AllReadyH.cons rfl (fun K hK => ?_) AllReadyH.nil
              try simp only [List.getElem_toArray, List.getElem_cons_succ, List.getElem_cons_zero]
              go_simp
              obtain ⟨wb4, ew4⟩ : ∃ x : World, w3.alloc (.cells #[.string t1, .string t2] 65) = x := ⟨_, rfl⟩
              have bl4 : Below w3.heap.size w3 wb4 := by rw [← ew4]; exact (Below.refl _ _).alloc (Nat.le_refl _) _
              have q4 : wb4.heap[w3.heap.size]? = some (.cells [.string t1, .string t2].toArray 65 (0, 0)) := by rw [← ew4]; exact heap_last w3 _
              have g4 := grown_transW g3 (grown_below bl4 (some R))
              have r4 := r3.keep bl4 (Nat.le_refl _)
              rw [ew4]
              obtain ⟨G, eG4⟩ : ∃ n, w3.heap.size = n := ⟨_, rfl⟩
              try rw [eG4]
              rw [eG4] at q4
              refine hK.out _ _ (kpB_gr hz g4) (fun _ => ?_)
              clear hK K hHeld ew4
              try simp only [List.getElem_toArray, List.getElem_cons_succ, List.getElem_cons_zero, Act.put, List.setIfInBounds_toArray, List.set_cons_zero, List.set_cons_succ]
              have hHeld := kpB_gr (g := g) hz g4
              exact hcut G wb4 ⟨g4, r4, q4⟩
            · skip
              try simp only [List.getElem_toArray, List.getElem_cons_succ, List.getElem_cons_zero]
              go_simp
              refine (C1.out _ r0).mono ?_; rintro r w5 ⟨rfl, r5, k5⟩
              dsimp only at r5 ⊢
              have g5 := grown_transW g0 k5
              refine hK.out _ _ (kpB_gr hz g5) (fun _ => ?_)
              clear hK K hHeld
              try simp only [List.getElem_toArray, List.getElem_cons_succ, List.getElem_cons_zero, Act.put, List.setIfInBounds_toArray, List.set_cons_zero, List.set_cons_succ]
              have hHeld := kpB_gr (g := g) hz g5
              refine wpAnyH_ready (rs := [1, 5]) (by kernel_rfl) (by simp) ?_
              refine AllReadyH.cons rfl (fun K hK => ?_) (AllReadyH.cons rfl (fun K hK => ?_) AllReadyH.nil)
              · skip
                try simp only [List.getElem_toArray, List.getElem_cons_succ, List.getElem_cons_zero]
                have kg := KG.out w5 g5
                go_simp
                clear kg
                refine hK.out _ _ hHeld (fun _ => ?_)
                clear hK K
                try simp only [List.getElem_toArray, List.getElem_cons_succ, List.getElem_cons_zero, Act.put, List.setIfInBounds_toArray, List.set_cons_zero, List.set_cons_succ]
                refine wpAnyH_ready (rs := [5]) (by kernel_rfl) (by simp) ?_
                refine AllReadyH.cons rfl (fun K hK => ?_) AllReadyH.nil
                try simp only [List.getElem_toArray, List.getElem_cons_succ, List.getElem_cons_zero]
                go_simp
                refine (C2.out _ r5).mono ?_; rintro r w7 ⟨rfl, r7, k7⟩
                dsimp only at r7 ⊢
                have g7 := grown_transW g5 k7
                refine hK.out _ _ (kpB_gr hz g7) (fun _ => ?_)
                clear hK K hHeld
                try simp only [List.getElem_toArray, List.getElem_cons_succ, List.getElem_cons_zero, Act.put, List.setIfInBounds_toArray, List.set_cons_zero, List.set_cons_succ]
                have hHeld := kpB_gr (g := g) hz g7
                refine wpAnyH_take (i := 6) (v := ?_) rfl (by kernel_rfl) (by kernel_rfl) (by kernel_rfl) (fun _ _ _ h => h) (Or.inl ⟨by rfl, ?_⟩) hHeld ?_
                rotate_left
                · (intro wz hSw; (try dsimp only at hSw); (try simp only [List.getElem_toArray, List.getElem_cons_succ, List.getElem_cons_zero]); go_simp; try with_reducible rfl)
                try simp only [List.getElem_toArray, List.getElem_cons_succ, List.getElem_cons_zero, Act.put, List.setIfInBounds_toArray, List.set_cons_zero, List.set_cons_succ]
                refine wpAnyH_ready (rs := [7]) (by kernel_rfl) (by simp) ?_
                refine AllReadyH.cons rfl (fun K hK => ?_) AllReadyH.nil
                try simp only [List.getElem_toArray, List.getElem_cons_succ, List.getElem_cons_zero]
                go_simp
                obtain ⟨wb8, ew8⟩ : ∃ x : World, w7.alloc (.cells #[.string t1, .string t2] 65) = x := ⟨_, rfl⟩
                have bl8 : Below w7.heap.size w7 wb8 := by rw [← ew8]; exact (Below.refl _ _).alloc (Nat.le_refl _) _
                have q8 : wb8.heap[w7.heap.size]? = some (.cells [.string t1, .string t2].toArray 65 (0, 0)) := by rw [← ew8]; exact heap_last w7 _
                have g8 := grown_transW g7 (grown_below bl8 (some R))
                have r8 := r7.keep bl8 (Nat.le_refl _)
                rw [ew8]
                obtain ⟨G, eG8⟩ : ∃ n, w7.heap.size = n := ⟨_, rfl⟩
                try rw [eG8]
                rw [eG8] at q8
                refine hK.out _ _ (kpB_gr hz g8) (fun _ => ?_)
                clear hK K hHeld ew8
                try simp only [List.getElem_toArray, List.getElem_cons_succ, List.getElem_cons_zero, Act.put, List.setIfInBounds_toArray, List.set_cons_zero, List.set_cons_succ]
                have hHeld := kpB_gr (g := g) hz g8
                exact hcut G wb8 ⟨g8, r8, q8⟩
              · skip
                try simp only [List.getElem_toArray, List.getElem_cons_succ, List.getElem_cons_zero]
                go_simp
                refine (C2.out _ r5).mono ?_; rintro r w9 ⟨rfl, r9, k9⟩
                dsimp only at r9 ⊢
                have g9 := grown_transW g5 k9
                refine hK.out _ _ (kpB_gr hz g9) (fun _ => ?_)
                clear hK K hHeld
                try simp only [List.getElem_toArray, List.getElem_cons_succ, List.getElem_cons_zero, Act.put, List.setIfInBounds_toArray, List.set_cons_zero, List.set_cons_succ]
                have hHeld := kpB_gr (g := g) hz g9
                refine wpAnyH_take (i := 6) (v := ?_) rfl (by kernel_rfl) (by kernel_rfl) (by kernel_rfl) (fun _ _ _ h => h) (Or.inl ⟨by rfl, ?_⟩) hHeld ?_
                rotate_left
                · (intro wz hSw; (try dsimp only at hSw); (try simp only [List.getElem_toArray, List.getElem_cons_succ, List.getElem_cons_zero]); go_simp; try with_reducible rfl)
                try simp only [List.getElem_toArray, List.getElem_cons_succ, List.getElem_cons_zero, Act.put, List.setIfInBounds_toArray, List.set_cons_zero, List.set_cons_succ]
                refine wpAnyH_ready (rs := [1, 7]) (by kernel_rfl) (by simp) ?_
                refine AllReadyH.cons rfl (fun K hK => ?_) (AllReadyH.cons rfl (fun K hK => ?_) AllReadyH.nil)
                · skip
                  try simp only [List.getElem_toArray, List.getElem_cons_succ, List.getElem_cons_zero]
                  have kg := KG.out w9 g9
                  go_simp
                  clear kg
                  refine hK.out _ _ hHeld (fun _ => ?_)
                  clear hK K
                  try simp only [List.getElem_toArray, List.getElem_cons_succ, List.getElem_cons_zero, Act.put, List.setIfInBounds_toArray, List.set_cons_zero, List.set_cons_succ]
                  refine wpAnyH_ready (rs := [7]) (by kernel_rfl) (by simp) ?_
                  refine AllReadyH.cons rfl (fun K hK => ?_) AllReadyH.nil
                  try simp only [List.getElem_toArray, List.getElem_cons_succ, List.getElem_cons_zero]
                  go_simp
                  obtain ⟨wb11, ew11⟩ : ∃ x : World, w9.alloc (.cells #[.string t1, .string t2] 65) = x := ⟨_, rfl⟩
                  have bl11 : Below w9.heap.size w9 wb11 := by rw [← ew11]; exact (Below.refl _ _).alloc (Nat.le_refl _) _
                  have q11 : wb11.heap[w9.heap.size]? = some (.cells [.string t1, .string t2].toArray 65 (0, 0)) := by rw [← ew11]; exact heap_last w9 _
                  have g11 := grown_transW g9 (grown_below bl11 (some R))
                  have r11 := r9.keep bl11 (Nat.le_refl _)
                  rw [ew11]
                  obtain ⟨G, eG11⟩ : ∃ n, w9.heap.size = n := ⟨_, rfl⟩
                  try rw [eG11]
                  rw [eG11] at q11
                  refine hK.out _ _ (kpB_gr hz g11) (fun _ => ?_)
                  clear hK K hHeld ew11
                  try simp only [List.getElem_toArray, List.getElem_cons_succ, List.getElem_cons_zero, Act.put, List.setIfInBounds_toArray, List.set_cons_zero, List.set_cons_succ]
                  have hHeld := kpB_gr (g := g) hz g11
                  exact hcut G wb11 ⟨g11, r11, q11⟩
                · skip
                  try simp only [List.getElem_toArray, List.getElem_cons_succ, List.getElem_cons_zero]
                  go_simp
                  obtain ⟨wb12, ew12⟩ : ∃ x : World, w9.alloc (.cells #[.string t1, .string t2] 65) = x := ⟨_, rfl⟩
                  have bl12 : Below w9.heap.size w9 wb12 := by rw [← ew12]; exact (Below.refl _ _).alloc (Nat.le_refl _) _
                  have q12 : wb12.heap[w9.heap.size]? = some (.cells [.string t1, .string t2].toArray 65 (0, 0)) := by rw [← ew12]; exact heap_last w9 _
                  have g12 := grown_transW g9 (grown_below bl12 (some R))
                  have r12 := r9.keep bl12 (Nat.le_refl _)
                  rw [ew12]
                  obtain ⟨G, eG12⟩ : ∃ n, w9.heap.size = n := ⟨_, rfl⟩
                  try rw [eG12]
                  rw [eG12] at q12
                  refine hK.out _ _ (kpB_gr hz g12) (fun _ => ?_)
                  clear hK K hHeld ew12
                  try simp only [List.getElem_toArray, List.getElem_cons_succ, List.getElem_cons_zero, Act.put, List.setIfInBounds_toArray, List.set_cons_zero, List.set_cons_succ]
                  have hHeld := kpB_gr (g := g) hz g12
                  refine wpAnyH_ready (rs := [1]) (by kernel_rfl) (by simp) ?_
                  refine AllReadyH.cons rfl (fun K hK => ?_) AllReadyH.nil
                  try simp only [List.getElem_toArray, List.getElem_cons_succ, List.getElem_cons_zero]
                  have kg := KG.out wb12 g12
                  go_simp
                  clear kg
                  refine hK.out _ _ hHeld (fun _ => ?_)
                  clear hK K
                  try simp only [List.getElem_toArray, List.getElem_cons_succ, List.getElem_cons_zero, Act.put, List.setIfInBounds_toArray, List.set_cons_zero, List.set_cons_succ]
                  exact hcut G wb12 ⟨g12, r12, q12⟩
          intro G wL hRL
          obtain ⟨gL, rL, qL⟩ := hRL
          have hHeld := kpB_gr (g := g) hz gL
          refine wpAnyH_ready (rs := [8]) (by kernel_rfl) (by simp) ?_; refine AllReadyH.cons rfl (fun K hK => ?_) AllReadyH.nil
          rw [if_pos (by rfl)]
          have hne : v.ownBlock = none ∨ v.ownBlock ≠ some R := by
            cases e : v.ownBlock with
            | none => exact .inl rfl
            | some x => exact .inr fun h => by have := (HO.out.lt x e).1; simp only [Option.some.injEq] at h; omega
          have hoL := HO.out.kept gL hne
          refine wp_append_one _ _ 26 (by rfl) bsA 65 i0 _ 2 32 Try.underlying26 hi hz0 hz1 hz2 rfl (by decide) v acc.length (spR acc) (by rfl) hoL G [.string t1, .string t2] 65 (by rfl) qL rfl (by intro u hu; simp only [List.mem_cons, List.not_mem_nil, or_false] at hu; rcases hu with rfl | rfl <;> rfl) (by unfold maxLen; omega) (by omega) (Nat.le_trans hz gL.size) ?_
          intro v2 wA ho2 hg2 hat
          obtain ⟨g2, cap2, hv2⟩ : ∃ g2 cap2, v2 = .slice (some ⟨g2, 0, none⟩) (acc.length + 1) cap2 := by
            rcases ho2.2 with ⟨-, h⟩ | ⟨g2, cap2, cur2, e, -⟩
            · omega
            · exact ⟨g2, cap2, e⟩
          subst hv2
          have rB : ∀ k, v.ownBlock = some k → bsA ≤ k := fun k hk => (HO.out.lt k hk).1
          have hGL := rd_stays gL HG.out (by omega)
          have hBl : Below bsA wL wA := (Below.refl _ _).grown hg2 (Nat.le_trans hz gL.size) rB
          have rA := rL.keepR hBl (by omega)
          have hGA := (hg2.block g (block_lt hGL) (fun e => by have := rB g e.symm; omega)).trans hGL
          have hBA : W.grownBy wA (some R) := grown_row (grown_transW HB.out gL) hg2 (fun k hk => by have := rB k hk; omega)
          have hzA : bsA ≤ wA.heap.size := Nat.le_trans hz (Nat.le_trans gL.size hg2.size)
          have hSA : KpB bsA R g wk wA := fun k hk hr hgk => (hg2.block k (by have := gL.size; omega) (fun e => by have := rB k e.symm; omega)).trans (hHeld k hk hr hgk)
          refine hK.out _ _ hSA (fun _ => ?_)
          clear hK K hHeld gL rL qL hoL hg2 hat hGL KG hBl
          try simp only [List.getElem_toArray, List.getElem_cons_succ, List.getElem_cons_zero, Act.put, List.setIfInBounds_toArray, List.set_cons_zero, List.set_cons_succ]
          have hHeld := hSA
          refine wpAnyH_take (i := 9) (v := ?_) rfl (by kernel_rfl) (by kernel_rfl) (by kernel_rfl) (fun _ _ _ h => h) (Or.inl ⟨by rfl, ?_⟩) hHeld ?_
          rotate_left
          · (intro wz hSw; (try dsimp only at hSw); (try simp only [List.getElem_toArray, List.getElem_cons_succ, List.getElem_cons_zero]); go_simp; try with_reducible rfl)
          try simp only [List.getElem_toArray, List.getElem_cons_succ, List.getElem_cons_zero, Act.put, List.setIfInBounds_toArray, List.set_cons_zero, List.set_cons_succ]
          have kg := block_cells hGA
          have fg := block_free hGA
          refine wpAnyH_ready (rs := [10]) (by kernel_rfl) (by simp) ?_; refine AllReadyH.cons rfl (fun K hK => ?_) AllReadyH.nil; (try simp only [List.getElem_toArray, List.getElem_cons_succ, List.getElem_cons_zero]); go_simp
          have hGB := (cells_setW hGA 12 (Value.slice (some ⟨g2, 0, none⟩) (acc.length + 1) cap2)).trans rfl
          have rC : RfW B (wA.setCell ⟨g, 12, none⟩ (Value.slice (some ⟨g2, 0, none⟩) (acc.length + 1) cap2)) R X2 b2 := rA.setFar rg (Value.slice (some ⟨g2, 0, none⟩) (acc.length + 1) cap2)
          have hBB := grown_setFar (j := 12) (v := (Value.slice (some ⟨g2, 0, none⟩) (acc.length + 1) cap2)) hBA ng
          have hoB := ho2.kept (grown_set wA g 12 (Value.slice (some ⟨g2, 0, none⟩) (acc.length + 1) cap2)) (by
            cases e : ((Value.slice (some ⟨g2, 0, none⟩) (acc.length + 1) cap2)).ownBlock with
            | none => exact .inl rfl
            | some x => exact .inr fun h => by have := (ho2.lt x e).1; simp only [Option.some.injEq] at h; omega)
          have hSB : KpB bsA R g wk (wA.setCell ⟨g, 12, none⟩ (Value.slice (some ⟨g2, 0, none⟩) (acc.length + 1) cap2)) := fun k hk hr hgk => (Below.heap_setCell wA ⟨g, 12, none⟩ (Value.slice (some ⟨g2, 0, none⟩) (acc.length + 1) cap2) k hgk).trans (hSA k hk hr hgk)
          refine hK.out _ _ hSB (fun _ => ?_)
          clear hK K hHeld kg fg
          try simp only [List.getElem_toArray, List.getElem_cons_succ, List.getElem_cons_zero, Act.put, List.setIfInBounds_toArray, List.set_cons_zero, List.set_cons_succ]
          refine wpAnyH_done (by kernel_rfl) ?_ _
          have e1 : spR (acc ++ [⟨t1, t2⟩]) = spR acc ++ [.string t1, .string t2] := by simp [spR]
          rw [← e1] at hoB
          have hzB : bsA ≤ (wA.setCell ⟨g, 12, none⟩ (Value.slice (some ⟨g2, 0, none⟩) (acc.length + 1) cap2)).heap.size := by simpa [World.setCell] using hzA
          have HO2 : Hid (LsF R g bsA W wSA (fun v => #[.int .i64 n1, .int .i64 n2, .int .i64 n3, .int .i64 n4, .int .i64 y1, .int .i64 y2, .int .i64 y3, .int .i64 y4, .int .i64 s1, .int .i64 s2, .int .i64 n7, .bool n8, v, .slice none 0 0]) 29 65 2 spR (itF rfSp (k + 1) YA b0A).1 (wA.setCell ⟨g, 12, none⟩ (Value.slice (some ⟨g2, 0, none⟩) (acc.length + 1) cap2)) ∧ RfW B (wA.setCell ⟨g, 12, none⟩ (Value.slice (some ⟨g2, 0, none⟩) (acc.length + 1) cap2)) R (itF rfSp (k + 1) YA b0A).2.1 (itF rfSp (k + 1) YA b0A).2.2) := by
            show _ ∧ _
            rw [HNX.out]
            refine ⟨⟨⟨(Value.slice (some ⟨g2, 0, none⟩) (acc.length + 1) cap2), hGB, ?_⟩, hBB, hzB, HKP.out.trans hSB⟩, rC⟩
            rw [List.length_append]; exact hoB
          clear hoB hGB hBB hSB rC hzB hSA hBA rA hGA ho2 HKP HNX HO HB H0 HG
          go_wp2_with fail
          go_roundw
          case rel => exact ⟨m - 1, k + 1, by omega, by go_num, HO2⟩
          case measure => simp [intOf]; omega
    obtain ⟨w7, rfl⟩ : ∃ x : World, x = wc := ⟨_, rfl⟩
    obtain ⟨⟨⟨v1, hg1, ho1⟩, hB7, -, -⟩, hw7⟩ := hcut.out
    obtain ⟨q1, c1, rfl⟩ := own_formF ho1
    have H7 := Lib.hid hw7; have HG7 := Lib.hid hg1; have GB7 := Lib.hid hB7; have HO1 := Lib.hid ho1
    have hc7 : g < w7.heap.size := block_lt hg1
    clear hg1 ho1 hB7 hw7 hcut HOA HLA HGAA
    have HCB := Lib.hid (fun w' => rfc_any B R X10 b10 w')
    have hnr := rfC_range X10 b10
    have hL : rfL rfWr X10 b10 = itF rfWr (rfC X10 b10).1.toNat (rfC X10 b10).2.1 (rfC X10 b10).2.2 := rfl
    obtain ⟨⟨NB, YB, b0B⟩, hr⟩ : ∃ r, rfC X10 b10 = r := ⟨_, rfl⟩
    rw [hr] at HCB hnr hL
    dsimp only at HCB hnr hL
    obtain ⟨nB, rfl⟩ := Int.eq_ofNat_of_zero_le hnr.1
    rw [Int.toNat_natCast] at hL
    have hn2B : nB ≤ 65536 := by omega
    have HLB := Lib.hid (hL.symm.trans HR10.out)
    clear hr hnr hL
    go_wp2_with fail
    refine (HCB.out _ H7.out).mono ?_; rintro e wSB ⟨rfl, ha, ga⟩
    dsimp only at ha ⊢
    go_upto_block 2 with fail
    have hGs := rd_stays ga HG7.out (by omega)
    obtain ⟨bsB, hbsB⟩ : ∃ b, wSB.heap.size = b := ⟨_, rfl⟩
    have hgbB : g < bsB := by have := block_lt hGs; omega
    have hbzB : wSB.heap.size ≤ bsB := by omega
    have hzS : bsB ≤ wSB.heap.size := by have := ga.size; omega
    have HOB : Hid (LsF R g bsB W wSB (fun v => #[.int .i64 n1, .int .i64 n2, .int .i64 n3, .int .i64 n4, .int .i64 y1, .int .i64 y2, .int .i64 y3, .int .i64 y4, .int .i64 s1, .int .i64 s2, .int .i64 n7, .bool n8, .slice q1 l1.length c1, v]) 29 67 3 wrR (itF rfWr 0 YB b0B).1 wSB ∧ RfW B wSB R (itF rfWr 0 YB b0B).2.1 (itF rfWr 0 YB b0B).2.2) := ⟨⟨⟨.slice none 0 0, hGs, ⟨rfl, .inl ⟨rfl, rfl⟩⟩⟩, grown_transW GB7.out ga, hzS, fun _ _ _ _ => rfl⟩, ha⟩
    have HGAB := Lib.hid ga
    have hSzB : w7.heap.size ≤ wSB.heap.size := ga.size
    clear ha ga HCB hGs hzS hbsB
    go_cut [] from 63 to 85 (fun wx => Hid (LsF R g bsB W wSB (fun v => #[.int .i64 n1, .int .i64 n2, .int .i64 n3, .int .i64 n4, .int .i64 y1, .int .i64 y2, .int .i64 y3, .int .i64 y4, .int .i64 s1, .int .i64 s2, .int .i64 n7, .bool n8, .slice q1 l1.length c1, v]) 29 67 3 wrR l2 wx ∧ RfW B wx R X11 b11))
    case first =>
      obtain ⟨i0, hi, hz0, hz1, hz2⟩ := info_parts Try.infoWr
      go_wp2_with fail
      go_loopw [7] (fun i wr => ∃ m k : Nat, k + m = nB ∧ i = .int .i64 m ∧ Hid (LsF R g bsB W wSB (fun v => #[.int .i64 n1, .int .i64 n2, .int .i64 n3, .int .i64 n4, .int .i64 y1, .int .i64 y2, .int .i64 y3, .int .i64 y4, .int .i64 s1, .int .i64 s2, .int .i64 n7, .bool n8, .slice q1 l1.length c1, v]) 29 67 3 wrR (itF rfWr k YB b0B).1 wr ∧ RfW B wr R (itF rfWr k YB b0B).2.1 (itF rfWr k YB b0B).2.2)) (fun i _ => (intOf i).toNat)
      case atStart => exact ⟨nB, 0, by omega, rfl, HOB⟩
      case round =>
        clear HOB
        obtain ⟨m, k, hkm, rfl, HJ⟩ := hrel
        obtain ⟨wk, rfl⟩ : ∃ wk : World, wk = wr := ⟨_, rfl⟩
        have hil := itF_len rfWr YB b0B k
        obtain ⟨⟨acc, ys, bb⟩, hr⟩ : ∃ r, itF rfWr k YB b0B = r := ⟨_, rfl⟩
        rw [hr] at HJ hil
        dsimp only at HJ hil
        have HRR := Lib.hid hr
        obtain ⟨⟨⟨v, hg, ho⟩, hB, hz, hkp⟩, hw⟩ := HJ.out
        have hB0 := hw.r
        obtain ⟨-, pk, capk, hR, -⟩ := hB0
        have kR := block_cells hR
        have H0 := Lib.hid hw; have HG := Lib.hid hg; have HO := Lib.hid ho; have HB := Lib.hid hB; have HKP := Lib.hid hkp
        clear hr hR hg ho hB hw hkp HJ
        by_cases hm : m = 0
        · subst hm
          have hd : decide ((0 : Int) < ((0 : Nat) : Int)) = false := by simp
          have HE := Lib.hid (show itF rfWr nB YB b0B = (acc, ys, bb) by rw [show nB = k by omega]; exact HRR.out)
          have HX : Hid (LsF R g bsB W wSB (fun v => #[.int .i64 n1, .int .i64 n2, .int .i64 n3, .int .i64 n4, .int .i64 y1, .int .i64 y2, .int .i64 y3, .int .i64 y4, .int .i64 s1, .int .i64 s2, .int .i64 n7, .bool n8, .slice q1 l1.length c1, v]) 29 67 3 wrR l2 wk ∧ RfW B wk R X11 b11) := by
            show _ ∧ _
            have e3 := HLB.out.symm.trans HE.out
            simp only [Prod.mk.injEq] at e3
            rw [e3.1, e3.2.1, e3.2.2]
            exact ⟨⟨⟨v, HG.out, HO.out⟩, HB.out, hz, HKP.out⟩, H0.out⟩
          clear HG HO HB HKP H0 HE HRR
          go_wp2_with fail
          go_meet
          case rel => exact HX
        have hd : decide ((0 : Int) < (m : Int)) = true := by simp; omega
        cases bb with
        | true =>
          have HE := Lib.hid (show itF rfWr nB YB b0B = (acc, ys, true) by rw [← hkm, itF_stop (by rw [HRR.out]) m]; exact HRR.out)
          have HX : Hid (LsF R g bsB W wSB (fun v => #[.int .i64 n1, .int .i64 n2, .int .i64 n3, .int .i64 n4, .int .i64 y1, .int .i64 y2, .int .i64 y3, .int .i64 y4, .int .i64 s1, .int .i64 s2, .int .i64 n7, .bool n8, .slice q1 l1.length c1, v]) 29 67 3 wrR l2 wk ∧ RfW B wk R X11 b11) := by
            show _ ∧ _
            have e3 := HLB.out.symm.trans HE.out
            simp only [Prod.mk.injEq] at e3
            rw [e3.1, e3.2.1, e3.2.2]
            exact ⟨⟨⟨v, HG.out, HO.out⟩, HB.out, hz, HKP.out⟩, H0.out⟩
          clear HG HO HB HKP H0 HE HRR
          go_wp2_with fail
          go_meet
          case rel => exact HX
        | false =>
          obtain ⟨⟨t1, X1, b1⟩, hr1⟩ : ∃ r, rfT ys false = r := ⟨_, rfl⟩
          obtain ⟨⟨f1, X2, b2⟩, hr2⟩ : ∃ r, rfF X1 b1 = r := ⟨_, rfl⟩
          obtain ⟨⟨t2, X3, b3⟩, hr3⟩ : ∃ r, rfT X2 b2 = r := ⟨_, rfl⟩
          have hx : rfWr ys false = (⟨t1, f1, t2⟩, X3, b3) := rdMap_is (rd2_is hr1 (rd2_is hr2 hr3))
          have HNX := Lib.hid (itF_next HRR.out hx)
          have C1 := Lib.hid (fun w' => rft_any B R ys false w')
          have C2 := Lib.hid (fun w' => rff_any B R X1 b1 w')
          have C3 := Lib.hid (fun w' => rft_any B R X2 b2 w')
          rw [hr1] at C1; rw [hr2] at C2; rw [hr3] at C3
          have KG : Hid (∀ w', wk.grownBy w' (some R) → ∀ j, w'.cell? ⟨g, j, none⟩ = #[.int .i64 n1, .int .i64 n2, .int .i64 n3, .int .i64 n4, .int .i64 y1, .int .i64 y2, .int .i64 y3, .int .i64 y4, .int .i64 s1, .int .i64 s2, .int .i64 n7, .bool n8, .slice q1 l1.length c1, v][j]?) := fun w' h => block_cells (rd_stays h HG.out (by omega))
          have hkl : acc.length ≤ 65536 := by omega
          have rg : R < g := by omega
          have ng : W.heap.size ≤ g := by omega
          have hbase : g < bsB := by omega
          have hRb : R < bsB := by omega
          clear hr1 hr2 hr3 hx
          go_upto_region 13 with fail
          have g0 : wk.grownBy wk.drew (some R) := grown_drewW (grown_refl wk _)
          have r0 := H0.out.drew
          refine wp_region_held_drew (S := fun w' => KpB bsB R g wk w') (by kernel_rfl) (kpB_gr hz g0) (fun hHeld => ?_)
          obtain ⟨wd, ewd⟩ : ∃ x, wk.drew = x := ⟨_, rfl⟩
          rw [ewd] at g0 r0 hHeld ⊢
          clear ewd
          refine wpAnyH_take (i := 0) (v := ?_) rfl (by kernel_rfl) (by kernel_rfl) (by kernel_rfl) (fun _ _ _ h => h) (Or.inl ⟨by rfl, ?_⟩) hHeld ?_
          rotate_left
          · (intro wz hSw; (try dsimp only at hSw); (try simp only [List.getElem_toArray, List.getElem_cons_zero]); go_simp; try with_reducible rfl)
          try simp only [List.getElem_toArray, List.getElem_cons_zero, Act.put, List.setIfInBounds_toArray, List.set_cons_zero, List.set_cons_succ]
          refine wpAnyH_take (i := 2) (v := ?_) rfl (by kernel_rfl) (by kernel_rfl) (by kernel_rfl) (fun _ _ _ h => h) (Or.inl ⟨by rfl, ?_⟩) hHeld ?_
          rotate_left
          · (intro wz hSw; (try dsimp only at hSw); (try simp only [List.getElem_toArray, List.getElem_cons_succ, List.getElem_cons_zero]); go_simp; try with_reducible rfl)
          try simp only [List.getElem_toArray, List.getElem_cons_succ, List.getElem_cons_zero, Act.put, List.setIfInBounds_toArray, List.set_cons_zero, List.set_cons_succ]
          refine wpAnyH_take (i := 4) (v := ?_) rfl (by kernel_rfl) (by kernel_rfl) (by kernel_rfl) (fun _ _ _ h => h) (Or.inl ⟨by rfl, ?_⟩) hHeld ?_
          rotate_left
          · (intro wz hSw; (try dsimp only at hSw); (try simp only [List.getElem_toArray, List.getElem_cons_succ, List.getElem_cons_zero]); go_simp; try with_reducible rfl)
          try simp only [List.getElem_toArray, List.getElem_cons_succ, List.getElem_cons_zero, Act.put, List.setIfInBounds_toArray, List.set_cons_zero, List.set_cons_succ]
          refine wpAnyH_take (i := 6) (v := ?_) rfl (by kernel_rfl) (by kernel_rfl) (by kernel_rfl) (fun _ _ _ h => h) (Or.inl ⟨by rfl, ?_⟩) hHeld ?_
          rotate_left
          · (intro wz hSw; (try dsimp only at hSw); (try simp only [List.getElem_toArray, List.getElem_cons_succ, List.getElem_cons_zero]); go_simp; try with_reducible rfl)
          try simp only [List.getElem_toArray, List.getElem_cons_succ, List.getElem_cons_zero, Act.put, List.setIfInBounds_toArray, List.set_cons_zero, List.set_cons_succ]
          clear hHeld
          apply cutG (R := fun G w' => wk.grownBy w' (some R) ∧ RfW B w' R X3 b3 ∧ w'.heap[G]? = some (.cells [.string t1, .bool f1, .string t2].toArray 67 (0, 0)))
          · intro hcut
            have hHeld := kpB_gr (g := g) hz g0
            refine wpAnyH_ready (rs := [1, 3]) (by kernel_rfl) (by simp) ?_
            refine AllReadyH.cons rfl (fun K hK => ?_) (AllReadyH.cons rfl (fun K hK => ?_) AllReadyH.nil)
            · skip
              try simp only [List.getElem_toArray, List.getElem_cons_succ, List.getElem_cons_zero]
              have kg := KG.out wd g0
              go_simp
              clear kg
              refine hK.out _ _ hHeld (fun _ => ?_)
              clear hK K
              try simp only [List.getElem_toArray, List.getElem_cons_succ, List.getElem_cons_zero, Act.put, List.setIfInBounds_toArray, List.set_cons_zero, List.set_cons_succ]
              refine wpAnyH_ready (rs := [3]) (by kernel_rfl) (by simp) ?_
              refine AllReadyH.cons rfl (fun K hK => ?_) AllReadyH.nil
              try simp only [List.getElem_toArray, List.getElem_cons_succ, List.getElem_cons_zero]
              go_simp
              refine (C1.out _ r0).mono ?_; rintro r w2 ⟨rfl, r2, k2⟩
              dsimp only at r2 ⊢
              have g2 := grown_transW g0 k2
              refine hK.out _ _ (kpB_gr hz g2) (fun _ => ?_)
              clear hK K hHeld
              try simp only [List.getElem_toArray, List.getElem_cons_succ, List.getElem_cons_zero, Act.put, List.setIfInBounds_toArray, List.set_cons_zero, List.set_cons_succ]
              have hHeld := kpB_gr (g := g) hz g2
              refine wpAnyH_ready (rs := [5]) (by kernel_rfl) (by simp) ?_
              refine AllReadyH.cons rfl (fun K hK => ?_) AllReadyH.nil
              try simp only [List.getElem_toArray, List.getElem_cons_succ, List.getElem_cons_zero]
              go_simp
              refine (C2.out _ r2).mono ?_; rintro r w3 ⟨rfl, r3, k3⟩
              dsimp only at r3 ⊢
              have g3 := grown_transW g2 k3
              refine hK.out _ _ (kpB_gr hz g3) (fun _ => ?_)
              clear hK K hHeld
              try simp only [List.getElem_toArray, List.getElem_cons_succ, List.getElem_cons_zero, Act.put, List.setIfInBounds_toArray, List.set_cons_zero, List.set_cons_succ]
              have hHeld := kpB_gr (g := g) hz g3
              refine wpAnyH_ready (rs := [7]) (by kernel_rfl) (by simp) ?_
              refine AllReadyH.cons rfl (fun K hK => ?_) AllReadyH.nil
              try simp only [List.getElem_toArray, List.getElem_cons_succ, List.getElem_cons_zero]
              go_simp
              refine (C3.out _ r3).mono ?_; rintro r w4 ⟨rfl, r4, k4⟩
              dsimp only at r4 ⊢
              have g4 := grown_transW g3 k4
              refine hK.out _ _ (kpB_gr hz g4) (fun _ => ?_)
              clear hK K hHeld
              try simp only [List.getElem_toArray, List.getElem_cons_succ, List.getElem_cons_zero, Act.put, List.setIfInBounds_toArray, List.set_cons_zero, List.set_cons_succ]
              have hHeld := kpB_gr (g := g) hz g4
              refine wpAnyH_take (i := 8) (v := ?_) rfl (by kernel_rfl) (by kernel_rfl) (by kernel_rfl) (fun _ _ _ h => h) (Or.inl ⟨by rfl, ?_⟩) hHeld ?_
              rotate_left
              · (intro wz hSw; (try dsimp only at hSw); (try simp only [List.getElem_toArray, List.getElem_cons_succ, List.getElem_cons_zero]); go_simp; try with_reducible rfl)
              try simp only [List.getElem_toArray, List.getElem_cons_succ, List.getElem_cons_zero, Act.put, List.setIfInBounds_toArray, List.set_cons_zero, List.set_cons_succ]
              refine wpAnyH_ready (rs := [9]) (by kernel_rfl) (by simp) ?_
              refine AllReadyH.cons rfl (fun K hK => ?_) AllReadyH.nil
              try simp only [List.getElem_toArray, List.getElem_cons_succ, List.getElem_cons_zero]
              go_simp
              obtain ⟨wb5, ew5⟩ : ∃ x : World, w4.alloc (.cells #[.string t1, .bool f1, .string t2] 67) = x := ⟨_, rfl⟩
              have bl5 : Below w4.heap.size w4 wb5 := by rw [← ew5]; exact (Below.refl _ _).alloc (Nat.le_refl _) _
              have q5 : wb5.heap[w4.heap.size]? = some (.cells [.string t1, .bool f1, .string t2].toArray 67 (0, 0)) := by rw [← ew5]; exact heap_last w4 _
              have g5 := grown_transW g4 (grown_below bl5 (some R))
              have r5 := r4.keep bl5 (Nat.le_refl _)
              rw [ew5]
              obtain ⟨G, eG5⟩ : ∃ n, w4.heap.size = n := ⟨_, rfl⟩
              try rw [eG5]
              rw [eG5] at q5
              refine hK.out _ _ (kpB_gr hz g5) (fun _ => ?_)
              clear hK K hHeld ew5
              try simp only [List.getElem_toArray, List.getElem_cons_succ, List.getElem_cons_zero, Act.put, List.setIfInBounds_toArray, List.set_cons_zero, List.set_cons_succ]
              have hHeld := kpB_gr (g := g) hz g5
              exact hcut G wb5 ⟨g5, r5, q5⟩
            · skip
              try simp only [List.getElem_toArray, List.getElem_cons_succ, List.getElem_cons_zero]
              go_simp
              refine (C1.out _ r0).mono ?_; rintro r w6 ⟨rfl, r6, k6⟩
              dsimp only at r6 ⊢
              have g6 := grown_transW g0 k6
              refine hK.out _ _ (kpB_gr hz g6) (fun _ => ?_)
              clear hK K hHeld
              try simp only [List.getElem_toArray, List.getElem_cons_succ, List.getElem_cons_zero, Act.put, List.setIfInBounds_toArray, List.set_cons_zero, List.set_cons_succ]
              have hHeld := kpB_gr (g := g) hz g6
              refine wpAnyH_ready (rs := [1, 5]) (by kernel_rfl) (by simp) ?_
              refine AllReadyH.cons rfl (fun K hK => ?_) (AllReadyH.cons rfl (fun K hK => ?_) AllReadyH.nil)
              · skip
                try simp only [List.getElem_toArray, List.getElem_cons_succ, List.getElem_cons_zero]
                have kg := KG.out w6 g6
                go_simp
                clear kg
                refine hK.out _ _ hHeld (fun _ => ?_)
                clear hK K
                try simp only [List.getElem_toArray, List.getElem_cons_succ, List.getElem_cons_zero, Act.put, List.setIfInBounds_toArray, List.set_cons_zero, List.set_cons_succ]
                refine wpAnyH_ready (rs := [5]) (by kernel_rfl) (by simp) ?_
                refine AllReadyH.cons rfl (fun K hK => ?_) AllReadyH.nil
                try simp only [List.getElem_toArray, List.getElem_cons_succ, List.getElem_cons_zero]
                go_simp
                refine (C2.out _ r6).mono ?_; rintro r w8 ⟨rfl, r8, k8⟩
                dsimp only at r8 ⊢
                have g8 := grown_transW g6 k8
                refine hK.out _ _ (kpB_gr hz g8) (fun _ => ?_)
                clear hK K hHeld
                try simp only [List.getElem_toArray, List.getElem_cons_succ, List.getElem_cons_zero, Act.put, List.setIfInBounds_toArray, List.set_cons_zero, List.set_cons_succ]
                have hHeld := kpB_gr (g := g) hz g8
                refine wpAnyH_ready (rs := [7]) (by kernel_rfl) (by simp) ?_
                refine AllReadyH.cons rfl (fun K hK => ?_) AllReadyH.nil
                try simp only [List.getElem_toArray, List.getElem_cons_succ, List.getElem_cons_zero]
                go_simp
                refine (C3.out _ r8).mono ?_; rintro r w9 ⟨rfl, r9, k9⟩
                dsimp only at r9 ⊢
                have g9 := grown_transW g8 k9
                refine hK.out _ _ (kpB_gr hz g9) (fun _ => ?_)
                clear hK K hHeld
                try simp only [List.getElem_toArray, List.getElem_cons_succ, List.getElem_cons_zero, Act.put, List.setIfInBounds_toArray, List.set_cons_zero, List.set_cons_succ]
                have hHeld := kpB_gr (g := g) hz g9
                refine wpAnyH_take (i := 8) (v := ?_) rfl (by kernel_rfl) (by kernel_rfl) (by kernel_rfl) (fun _ _ _ h => h) (Or.inl ⟨by rfl, ?_⟩) hHeld ?_
                rotate_left
                · (intro wz hSw; (try dsimp only at hSw); (try simp only [List.getElem_toArray, List.getElem_cons_succ, List.getElem_cons_zero]); go_simp; try with_reducible rfl)
                try simp only [List.getElem_toArray, List.getElem_cons_succ, List.getElem_cons_zero, Act.put, List.setIfInBounds_toArray, List.set_cons_zero, List.set_cons_succ]
                refine wpAnyH_ready (rs := [9]) (by kernel_rfl) (by simp) ?_
                refine AllReadyH.cons rfl (fun K hK => ?_) AllReadyH.nil
                try simp only [List.getElem_toArray, List.getElem_cons_succ, List.getElem_cons_zero]
                go_simp
                obtain ⟨wb10, ew10⟩ : ∃ x : World, w9.alloc (.cells #[.string t1, .bool f1, .string t2] 67) = x := ⟨_, rfl⟩
                have bl10 : Below w9.heap.size w9 wb10 := by rw [← ew10]; exact (Below.refl _ _).alloc (Nat.le_refl _) _
                have q10 : wb10.heap[w9.heap.size]? = some (.cells [.string t1, .bool f1, .string t2].toArray 67 (0, 0)) := by rw [← ew10]; exact heap_last w9 _
                have g10 := grown_transW g9 (grown_below bl10 (some R))
                have r10 := r9.keep bl10 (Nat.le_refl _)
                rw [ew10]
                obtain ⟨G, eG10⟩ : ∃ n, w9.heap.size = n := ⟨_, rfl⟩
                try rw [eG10]
                rw [eG10] at q10
                refine hK.out _ _ (kpB_gr hz g10) (fun _ => ?_)
                clear hK K hHeld ew10
                try simp only [List.getElem_toArray, List.getElem_cons_succ, List.getElem_cons_zero, Act.put, List.setIfInBounds_toArray, List.set_cons_zero, List.set_cons_succ]
                have hHeld := kpB_gr (g := g) hz g10
                exact hcut G wb10 ⟨g10, r10, q10⟩
              · skip
                try simp only [List.getElem_toArray, List.getElem_cons_succ, List.getElem_cons_zero]
                go_simp
                refine (C2.out _ r6).mono ?_; rintro r w11 ⟨rfl, r11, k11⟩
                dsimp only at r11 ⊢
                have g11 := grown_transW g6 k11
                refine hK.out _ _ (kpB_gr hz g11) (fun _ => ?_)
                clear hK K hHeld
                try simp only [List.getElem_toArray, List.getElem_cons_succ, List.getElem_cons_zero, Act.put, List.setIfInBounds_toArray, List.set_cons_zero, List.set_cons_succ]
                have hHeld := kpB_gr (g := g) hz g11
                refine wpAnyH_ready (rs := [1, 7]) (by kernel_rfl) (by simp) ?_
                refine AllReadyH.cons rfl (fun K hK => ?_) (AllReadyH.cons rfl (fun K hK => ?_) AllReadyH.nil)
                · skip
                  try simp only [List.getElem_toArray, List.getElem_cons_succ, List.getElem_cons_zero]
                  have kg := KG.out w11 g11
                  go_simp
                  clear kg
                  refine hK.out _ _ hHeld (fun _ => ?_)
                  clear hK K
                  try simp only [List.getElem_toArray, List.getElem_cons_succ, List.getElem_cons_zero, Act.put, List.setIfInBounds_toArray, List.set_cons_zero, List.set_cons_succ]
                  refine wpAnyH_ready (rs := [7]) (by kernel_rfl) (by simp) ?_
                  refine AllReadyH.cons rfl (fun K hK => ?_) AllReadyH.nil
                  try simp only [List.getElem_toArray, List.getElem_cons_succ, List.getElem_cons_zero]
                  go_simp
                  refine (C3.out _ r11).mono ?_; rintro r w13 ⟨rfl, r13, k13⟩
                  dsimp only at r13 ⊢
                  have g13 := grown_transW g11 k13
                  refine hK.out _ _ (kpB_gr hz g13) (fun _ => ?_)
                  clear hK K hHeld
                  try simp only [List.getElem_toArray, List.getElem_cons_succ, List.getElem_cons_zero, Act.put, List.setIfInBounds_toArray, List.set_cons_zero, List.set_cons_succ]
                  have hHeld := kpB_gr (g := g) hz g13
                  refine wpAnyH_take (i := 8) (v := ?_) rfl (by kernel_rfl) (by kernel_rfl) (by kernel_rfl) (fun _ _ _ h => h) (Or.inl ⟨by rfl, ?_⟩) hHeld ?_
                  rotate_left
                  · (intro wz hSw; (try dsimp only at hSw); (try simp only [List.getElem_toArray, List.getElem_cons_succ, List.getElem_cons_zero]); go_simp; try with_reducible rfl)
                  try simp only [List.getElem_toArray, List.getElem_cons_succ, List.getElem_cons_zero, Act.put, List.setIfInBounds_toArray, List.set_cons_zero, List.set_cons_succ]
                  refine wpAnyH_ready (rs := [9]) (by kernel_rfl) (by simp) ?_
                  refine AllReadyH.cons rfl (fun K hK => ?_) AllReadyH.nil
                  try simp only [List.getElem_toArray, List.getElem_cons_succ, List.getElem_cons_zero]
                  go_simp
                  obtain ⟨wb14, ew14⟩ : ∃ x : World, w13.alloc (.cells #[.string t1, .bool f1, .string t2] 67) = x := ⟨_, rfl⟩
                  have bl14 : Below w13.heap.size w13 wb14 := by rw [← ew14]; exact (Below.refl _ _).alloc (Nat.le_refl _) _
                  have q14 : wb14.heap[w13.heap.size]? = some (.cells [.string t1, .bool f1, .string t2].toArray 67 (0, 0)) := by rw [← ew14]; exact heap_last w13 _
                  have g14 := grown_transW g13 (grown_below bl14 (some R))
                  have r14 := r13.keep bl14 (Nat.le_refl _)
                  rw [ew14]
                  obtain ⟨G, eG14⟩ : ∃ n, w13.heap.size = n := ⟨_, rfl⟩
                  try rw [eG14]
                  rw [eG14] at q14
                  refine hK.out _ _ (kpB_gr hz g14) (fun _ => ?_)
                  clear hK K hHeld ew14
                  try simp only [List.getElem_toArray, List.getElem_cons_succ, List.getElem_cons_zero, Act.put, List.setIfInBounds_toArray, List.set_cons_zero, List.set_cons_succ]
                  have hHeld := kpB_gr (g := g) hz g14
                  exact hcut G wb14 ⟨g14, r14, q14⟩
                · skip
                  try simp only [List.getElem_toArray, List.getElem_cons_succ, List.getElem_cons_zero]
                  go_simp
                  refine (C3.out _ r11).mono ?_; rintro r w15 ⟨rfl, r15, k15⟩
                  dsimp only at r15 ⊢
                  have g15 := grown_transW g11 k15
                  refine hK.out _ _ (kpB_gr hz g15) (fun _ => ?_)
                  clear hK K hHeld
                  try simp only [List.getElem_toArray, List.getElem_cons_succ, List.getElem_cons_zero, Act.put, List.setIfInBounds_toArray, List.set_cons_zero, List.set_cons_succ]
                  have hHeld := kpB_gr (g := g) hz g15
                  refine wpAnyH_take (i := 8) (v := ?_) rfl (by kernel_rfl) (by kernel_rfl) (by kernel_rfl) (fun _ _ _ h => h) (Or.inl ⟨by rfl, ?_⟩) hHeld ?_
                  rotate_left
                  · (intro wz hSw; (try dsimp only at hSw); (try simp only [List.getElem_toArray, List.getElem_cons_succ, List.getElem_cons_zero]); go_simp; try with_reducible rfl)
                  try simp only [List.getElem_toArray, List.getElem_cons_succ, List.getElem_cons_zero, Act.put, List.setIfInBounds_toArray, List.set_cons_zero, List.set_cons_succ]
                  refine wpAnyH_ready (rs := [1, 9]) (by kernel_rfl) (by simp) ?_
                  refine AllReadyH.cons rfl (fun K hK => ?_) (AllReadyH.cons rfl (fun K hK => ?_) AllReadyH.nil)
                  · skip
                    try simp only [List.getElem_toArray, List.getElem_cons_succ, List.getElem_cons_zero]
                    have kg := KG.out w15 g15
                    go_simp
                    clear kg
                    refine hK.out _ _ hHeld (fun _ => ?_)
                    clear hK K
                    try simp only [List.getElem_toArray, List.getElem_cons_succ, List.getElem_cons_zero, Act.put, List.setIfInBounds_toArray, List.set_cons_zero, List.set_cons_succ]
                    refine wpAnyH_ready (rs := [9]) (by kernel_rfl) (by simp) ?_
                    refine AllReadyH.cons rfl (fun K hK => ?_) AllReadyH.nil
                    try simp only [List.getElem_toArray, List.getElem_cons_succ, List.getElem_cons_zero]
                    go_simp
                    obtain ⟨wb17, ew17⟩ : ∃ x : World, w15.alloc (.cells #[.string t1, .bool f1, .string t2] 67) = x := ⟨_, rfl⟩
                    have bl17 : Below w15.heap.size w15 wb17 := by rw [← ew17]; exact (Below.refl _ _).alloc (Nat.le_refl _) _
                    have q17 : wb17.heap[w15.heap.size]? = some (.cells [.string t1, .bool f1, .string t2].toArray 67 (0, 0)) := by rw [← ew17]; exact heap_last w15 _
                    have g17 := grown_transW g15 (grown_below bl17 (some R))
                    have r17 := r15.keep bl17 (Nat.le_refl _)
                    rw [ew17]
                    obtain ⟨G, eG17⟩ : ∃ n, w15.heap.size = n := ⟨_, rfl⟩
                    try rw [eG17]
                    rw [eG17] at q17
                    refine hK.out _ _ (kpB_gr hz g17) (fun _ => ?_)
                    clear hK K hHeld ew17
                    try simp only [List.getElem_toArray, List.getElem_cons_succ, List.getElem_cons_zero, Act.put, List.setIfInBounds_toArray, List.set_cons_zero, List.set_cons_succ]
                    have hHeld := kpB_gr (g := g) hz g17
                    exact hcut G wb17 ⟨g17, r17, q17⟩
                  · skip
                    try simp only [List.getElem_toArray, List.getElem_cons_succ, List.getElem_cons_zero]
                    go_simp
                    obtain ⟨wb18, ew18⟩ : ∃ x : World, w15.alloc (.cells #[.string t1, .bool f1, .string t2] 67) = x := ⟨_, rfl⟩
                    have bl18 : Below w15.heap.size w15 wb18 := by rw [← ew18]; exact (Below.refl _ _).alloc (Nat.le_refl _) _
                    have q18 : wb18.heap[w15.heap.size]? = some (.cells [.string t1, .bool f1, .string t2].toArray 67 (0, 0)) := by rw [← ew18]; exact heap_last w15 _
                    have g18 := grown_transW g15 (grown_below bl18 (some R))
                    have r18 := r15.keep bl18 (Nat.le_refl _)
                    rw [ew18]
                    obtain ⟨G, eG18⟩ : ∃ n, w15.heap.size = n := ⟨_, rfl⟩
                    try rw [eG18]
                    rw [eG18] at q18
                    refine hK.out _ _ (kpB_gr hz g18) (fun _ => ?_)
                    clear hK K hHeld ew18
                    try simp only [List.getElem_toArray, List.getElem_cons_succ, List.getElem_cons_zero, Act.put, List.setIfInBounds_toArray, List.set_cons_zero, List.set_cons_succ]
                    have hHeld := kpB_gr (g := g) hz g18
                    refine wpAnyH_ready (rs := [1]) (by kernel_rfl) (by simp) ?_
                    refine AllReadyH.cons rfl (fun K hK => ?_) AllReadyH.nil
                    try simp only [List.getElem_toArray, List.getElem_cons_succ, List.getElem_cons_zero]
                    have kg := KG.out wb18 g18
                    go_simp
                    clear kg
                    refine hK.out _ _ hHeld (fun _ => ?_)
                    clear hK K
                    try simp only [List.getElem_toArray, List.getElem_cons_succ, List.getElem_cons_zero, Act.put, List.setIfInBounds_toArray, List.set_cons_zero, List.set_cons_succ]
                    exact hcut G wb18 ⟨g18, r18, q18⟩
          intro G wL hRL
          obtain ⟨gL, rL, qL⟩ := hRL
          have hHeld := kpB_gr (g := g) hz gL
          refine wpAnyH_ready (rs := [10]) (by kernel_rfl) (by simp) ?_; refine AllReadyH.cons rfl (fun K hK => ?_) AllReadyH.nil
          rw [if_pos (by rfl)]
          have hne : v.ownBlock = none ∨ v.ownBlock ≠ some R := by
            cases e : v.ownBlock with
            | none => exact .inl rfl
            | some x => exact .inr fun h => by have := (HO.out.lt x e).1; simp only [Option.some.injEq] at h; omega
          have hoL := HO.out.kept gL hne
          refine wp_append_one _ _ 27 (by rfl) bsB 67 i0 _ 3 40 Try.underlying27 hi hz0 hz1 hz2 rfl (by decide) v acc.length (wrR acc) (by rfl) hoL G [.string t1, .bool f1, .string t2] 67 (by rfl) qL rfl (by intro u hu; simp only [List.mem_cons, List.not_mem_nil, or_false] at hu; rcases hu with rfl | rfl | rfl <;> rfl) (by unfold maxLen; omega) (by omega) (Nat.le_trans hz gL.size) ?_
          intro v2 wA ho2 hg2 hat
          obtain ⟨g2, cap2, hv2⟩ : ∃ g2 cap2, v2 = .slice (some ⟨g2, 0, none⟩) (acc.length + 1) cap2 := by
            rcases ho2.2 with ⟨-, h⟩ | ⟨g2, cap2, cur2, e, -⟩
            · omega
            · exact ⟨g2, cap2, e⟩
          subst hv2
          have rB : ∀ k, v.ownBlock = some k → bsB ≤ k := fun k hk => (HO.out.lt k hk).1
          have hGL := rd_stays gL HG.out (by omega)
          have hBl : Below bsB wL wA := (Below.refl _ _).grown hg2 (Nat.le_trans hz gL.size) rB
          have rA := rL.keepR hBl (by omega)
          have hGA := (hg2.block g (block_lt hGL) (fun e => by have := rB g e.symm; omega)).trans hGL
          have hBA : W.grownBy wA (some R) := grown_row (grown_transW HB.out gL) hg2 (fun k hk => by have := rB k hk; omega)
          have hzA : bsB ≤ wA.heap.size := Nat.le_trans hz (Nat.le_trans gL.size hg2.size)
          have hSA : KpB bsB R g wk wA := fun k hk hr hgk => (hg2.block k (by have := gL.size; omega) (fun e => by have := rB k e.symm; omega)).trans (hHeld k hk hr hgk)
          refine hK.out _ _ hSA (fun _ => ?_)
          clear hK K hHeld gL rL qL hoL hg2 hat hGL KG hBl
          try simp only [List.getElem_toArray, List.getElem_cons_succ, List.getElem_cons_zero, Act.put, List.setIfInBounds_toArray, List.set_cons_zero, List.set_cons_succ]
          have hHeld := hSA
          refine wpAnyH_take (i := 11) (v := ?_) rfl (by kernel_rfl) (by kernel_rfl) (by kernel_rfl) (fun _ _ _ h => h) (Or.inl ⟨by rfl, ?_⟩) hHeld ?_
          rotate_left
          · (intro wz hSw; (try dsimp only at hSw); (try simp only [List.getElem_toArray, List.getElem_cons_succ, List.getElem_cons_zero]); go_simp; try with_reducible rfl)
          try simp only [List.getElem_toArray, List.getElem_cons_succ, List.getElem_cons_zero, Act.put, List.setIfInBounds_toArray, List.set_cons_zero, List.set_cons_succ]
          have kg := block_cells hGA
          have fg := block_free hGA
          refine wpAnyH_ready (rs := [12]) (by kernel_rfl) (by simp) ?_; refine AllReadyH.cons rfl (fun K hK => ?_) AllReadyH.nil; (try simp only [List.getElem_toArray, List.getElem_cons_succ, List.getElem_cons_zero]); go_simp
          have hGB := (cells_setW hGA 13 (Value.slice (some ⟨g2, 0, none⟩) (acc.length + 1) cap2)).trans rfl
          have rC : RfW B (wA.setCell ⟨g, 13, none⟩ (Value.slice (some ⟨g2, 0, none⟩) (acc.length + 1) cap2)) R X3 b3 := rA.setFar rg (Value.slice (some ⟨g2, 0, none⟩) (acc.length + 1) cap2)
          have hBB := grown_setFar (j := 13) (v := (Value.slice (some ⟨g2, 0, none⟩) (acc.length + 1) cap2)) hBA ng
          have hoB := ho2.kept (grown_set wA g 13 (Value.slice (some ⟨g2, 0, none⟩) (acc.length + 1) cap2)) (by
            cases e : ((Value.slice (some ⟨g2, 0, none⟩) (acc.length + 1) cap2)).ownBlock with
            | none => exact .inl rfl
            | some x => exact .inr fun h => by have := (ho2.lt x e).1; simp only [Option.some.injEq] at h; omega)
          have hSB : KpB bsB R g wk (wA.setCell ⟨g, 13, none⟩ (Value.slice (some ⟨g2, 0, none⟩) (acc.length + 1) cap2)) := fun k hk hr hgk => (Below.heap_setCell wA ⟨g, 13, none⟩ (Value.slice (some ⟨g2, 0, none⟩) (acc.length + 1) cap2) k hgk).trans (hSA k hk hr hgk)
          refine hK.out _ _ hSB (fun _ => ?_)
          clear hK K hHeld kg fg
          try simp only [List.getElem_toArray, List.getElem_cons_succ, List.getElem_cons_zero, Act.put, List.setIfInBounds_toArray, List.set_cons_zero, List.set_cons_succ]
          refine wpAnyH_done (by kernel_rfl) ?_ _
          have e1 : wrR (acc ++ [⟨t1, f1, t2⟩]) = wrR acc ++ [.string t1, .bool f1, .string t2] := by simp [wrR]
          rw [← e1] at hoB
          have hzB : bsB ≤ (wA.setCell ⟨g, 13, none⟩ (Value.slice (some ⟨g2, 0, none⟩) (acc.length + 1) cap2)).heap.size := by simpa [World.setCell] using hzA
          have HO2 : Hid (LsF R g bsB W wSB (fun v => #[.int .i64 n1, .int .i64 n2, .int .i64 n3, .int .i64 n4, .int .i64 y1, .int .i64 y2, .int .i64 y3, .int .i64 y4, .int .i64 s1, .int .i64 s2, .int .i64 n7, .bool n8, .slice q1 l1.length c1, v]) 29 67 3 wrR (itF rfWr (k + 1) YB b0B).1 (wA.setCell ⟨g, 13, none⟩ (Value.slice (some ⟨g2, 0, none⟩) (acc.length + 1) cap2)) ∧ RfW B (wA.setCell ⟨g, 13, none⟩ (Value.slice (some ⟨g2, 0, none⟩) (acc.length + 1) cap2)) R (itF rfWr (k + 1) YB b0B).2.1 (itF rfWr (k + 1) YB b0B).2.2) := by
            show _ ∧ _
            rw [HNX.out]
            refine ⟨⟨⟨(Value.slice (some ⟨g2, 0, none⟩) (acc.length + 1) cap2), hGB, ?_⟩, hBB, hzB, HKP.out.trans hSB⟩, rC⟩
            rw [List.length_append]; exact hoB
          clear hoB hGB hBB hSB rC hzB hSA hBA rA hGA ho2 HKP HNX HO HB H0 HG
          go_wp2_with fail
          go_roundw
          case rel => exact ⟨m - 1, k + 1, by omega, by go_num, HO2⟩
          case measure => simp [intOf]; omega
    obtain ⟨wE, rfl⟩ : ∃ x : World, x = wc := ⟨_, rfl⟩
    obtain ⟨⟨⟨v2, hg2, ho2⟩, hB9, hz9, hk9⟩, hw9⟩ := hcut.out
    obtain ⟨q2, c2, rfl⟩ := own_formF ho2
    have ho1 := HO1.out.kept HGAB.out (by
      cases e : (Value.slice q1 l1.length c1).ownBlock with
      | none => exact .inl rfl
      | some y => exact .inr fun h => by have := (HO1.out.lt y e).1; simp only [Option.some.injEq] at h; omega)
    have HO1E := Lib.hid (own_kp ho1 hk9 (by omega) (by omega) (by omega))
    have HO2E := Lib.hid ho2
    have HGE := Lib.hid hg2
    have hw9' := hw9.r
    obtain ⟨-, pr, cr, hRr, -⟩ := hw9'
    have HRE := Lib.hid hRr
    have HZE := Lib.hid (rd_stays hB9 HZ.out (by omega))
    have hBw : Below B w wE := HB1.out.grown hB9 (by have := HB1.out.size; have := HEB.out; omega) (fun k hk => by cases hk; omega)
    have HBE := Lib.hid hBw
    clear hcut hg2 ho2 hB9 hz9 hk9 hw9 hRr hBw HOB HLB HGAB HO1 ho1 HG7 GB7 H7 H6 HG6 GB6
    have hu : undef = Value.tuple #[] := rfl
    go_upto_region 14 with fail
    cases b11 with
    | true =>
      have HNO := Lib.hid (fun a' (ha : CmV a') => tkf_no rfCm_ok (m := 1) (a' := a') ⟨by omega, by omega⟩ HRD.out (by simp) ha)
      have h0 : Below wE.heap.size wE wE.drew := (Below.refl _ _).drew
      refine wp_region_held_drew (S := fun w' => Below wE.heap.size wE w') (by kernel_rfl) h0 (fun hHeld => ?_)
      obtain ⟨wd, ewd⟩ : ∃ x, wE.drew = x := ⟨_, rfl⟩
      rw [ewd] at h0 hHeld ⊢
      clear ewd
      have kR : ∀ w', Below wE.heap.size wE w' → ∀ j, w'.cell? ⟨R, j, none⟩ = #[.slice pr X11.length cr, .bool true][j]? := fun w' h => block_cells (below_block h (block_lt HRE.out) HRE.out)
      refine wpAnyH_take (i := 0) (v := ?_) rfl (by kernel_rfl) (by kernel_rfl) (by kernel_rfl) (fun _ _ _ h => h) (Or.inl ⟨by rfl, ?_⟩) hHeld ?_
      rotate_left
      · (intro wz hSw; (try dsimp only at hSw); (try simp only [List.getElem_toArray, List.getElem_cons_zero]); go_simp; try with_reducible rfl)
      try simp only [List.getElem_toArray, List.getElem_cons_zero, Act.put, List.setIfInBounds_toArray, List.set_cons_zero, List.set_cons_succ]
      refine wpAnyH_take (i := 1) (v := ?_) rfl (by kernel_rfl) (by kernel_rfl) (by kernel_rfl) (fun _ _ _ h => h) (Or.inl ⟨by rfl, ?_⟩) hHeld ?_
      rotate_left
      · (intro wz hSw; (try dsimp only at hSw); (try simp only [List.getElem_toArray, List.getElem_cons_succ, List.getElem_cons_zero]); go_simp; try with_reducible rfl)
      try simp only [List.getElem_toArray, List.getElem_cons_succ, List.getElem_cons_zero, Act.put, List.setIfInBounds_toArray, List.set_cons_zero, List.set_cons_succ]
      refine wpAnyH_take (i := 2) (v := ?_) rfl (by kernel_rfl) (by kernel_rfl) (by kernel_rfl) (fun _ _ _ h => h) (Or.inl ⟨by rfl, ?_⟩) hHeld ?_
      rotate_left
      · (intro wz hSw; (try dsimp only at hSw); (try simp only [List.getElem_toArray, List.getElem_cons_succ, List.getElem_cons_zero]); go_simp; try with_reducible rfl)
      try simp only [List.getElem_toArray, List.getElem_cons_succ, List.getElem_cons_zero, Act.put, List.setIfInBounds_toArray, List.set_cons_zero, List.set_cons_succ]
      refine wpAnyH_take (i := 3) (v := ?_) rfl (by kernel_rfl) (by kernel_rfl) (by kernel_rfl) (fun _ _ _ h => h) (Or.inl ⟨by rfl, ?_⟩) hHeld ?_
      rotate_left
      · (intro wz hSw; (try dsimp only at hSw); (try simp only [List.getElem_toArray, List.getElem_cons_succ, List.getElem_cons_zero]); go_simp; try with_reducible rfl)
      try simp only [List.getElem_toArray, List.getElem_cons_succ, List.getElem_cons_zero, Act.put, List.setIfInBounds_toArray, List.set_cons_zero, List.set_cons_succ]
      refine wpAnyH_take (i := 4) (v := ?_) rfl (by kernel_rfl) (by kernel_rfl) (by kernel_rfl) (fun _ _ _ h => h) (Or.inl ⟨by rfl, ?_⟩) hHeld ?_
      rotate_left
      · (intro wz hSw; (try dsimp only at hSw); (try simp only [List.getElem_toArray, List.getElem_cons_succ, List.getElem_cons_zero]); go_simp; try with_reducible rfl)
      try simp only [List.getElem_toArray, List.getElem_cons_succ, List.getElem_cons_zero, Act.put, List.setIfInBounds_toArray, List.set_cons_zero, List.set_cons_succ]
      refine wpAnyH_take (i := 5) (v := undef) rfl (by kernel_rfl) (by kernel_rfl) (by kernel_rfl) (fun _ _ _ h => h) (Or.inr ⟨by rfl, rfl⟩) hHeld ?_
      try simp only [List.getElem_toArray, List.getElem_cons_succ, List.getElem_cons_zero, Act.put, List.setIfInBounds_toArray, List.set_cons_zero, List.set_cons_succ]
      refine wpAnyH_take (i := 6) (v := undef) rfl (by kernel_rfl) (by kernel_rfl) (by kernel_rfl) (fun _ _ _ h => h) (Or.inr ⟨by rfl, rfl⟩) hHeld ?_
      try simp only [List.getElem_toArray, List.getElem_cons_succ, List.getElem_cons_zero, Act.put, List.setIfInBounds_toArray, List.set_cons_zero, List.set_cons_succ]
      refine wpAnyH_take (i := 7) (v := undef) rfl (by kernel_rfl) (by kernel_rfl) (by kernel_rfl) (fun _ _ _ h => h) (Or.inr ⟨by rfl, rfl⟩) hHeld ?_
      try simp only [List.getElem_toArray, List.getElem_cons_succ, List.getElem_cons_zero, Act.put, List.setIfInBounds_toArray, List.set_cons_zero, List.set_cons_succ]
      refine wpAnyH_take (i := 8) (v := undef) rfl (by kernel_rfl) (by kernel_rfl) (by kernel_rfl) (fun _ _ _ h => h) (Or.inr ⟨by rfl, rfl⟩) hHeld ?_
      try simp only [List.getElem_toArray, List.getElem_cons_succ, List.getElem_cons_zero, Act.put, List.setIfInBounds_toArray, List.set_cons_zero, List.set_cons_succ]
      refine wpAnyH_take (i := 9) (v := undef) rfl (by kernel_rfl) (by kernel_rfl) (by kernel_rfl) (fun _ _ _ h => h) (Or.inr ⟨by rfl, rfl⟩) hHeld ?_
      try simp only [List.getElem_toArray, List.getElem_cons_succ, List.getElem_cons_zero, Act.put, List.setIfInBounds_toArray, List.set_cons_zero, List.set_cons_succ]
      refine wpAnyH_take (i := 10) (v := undef) rfl (by kernel_rfl) (by kernel_rfl) (by kernel_rfl) (fun _ _ _ h => h) (Or.inr ⟨by rfl, rfl⟩) hHeld ?_
      try simp only [List.getElem_toArray, List.getElem_cons_succ, List.getElem_cons_zero, Act.put, List.setIfInBounds_toArray, List.set_cons_zero, List.set_cons_succ]
      refine wpAnyH_take (i := 11) (v := ?_) rfl (by kernel_rfl) (by kernel_rfl) (by kernel_rfl) (fun _ _ _ h => h) (Or.inl ⟨by rfl, ?_⟩) hHeld ?_
      rotate_left
      · (intro wz hSw; (try dsimp only at hSw); (try simp only [List.getElem_toArray, List.getElem_cons_succ, List.getElem_cons_zero]); go_simp; try with_reducible rfl)
      try simp only [List.getElem_toArray, List.getElem_cons_succ, List.getElem_cons_zero, Act.put, List.setIfInBounds_toArray, List.set_cons_zero, List.set_cons_succ]
      refine wpAnyH_take (i := 12) (v := ?_) rfl (by kernel_rfl) (by kernel_rfl) (by kernel_rfl) (fun _ _ _ h => h) (Or.inl ⟨by rfl, ?_⟩) hHeld ?_
      rotate_left
      · (intro wz hSw; (try dsimp only at hSw); (try simp only [List.getElem_toArray, List.getElem_cons_succ, List.getElem_cons_zero]); go_simp; try with_reducible rfl)
      try simp only [List.getElem_toArray, List.getElem_cons_succ, List.getElem_cons_zero, Act.put, List.setIfInBounds_toArray, List.set_cons_zero, List.set_cons_succ]
      refine wpAnyH_take (i := 13) (v := undef) rfl (by kernel_rfl) (by kernel_rfl) (by kernel_rfl) (fun _ _ _ h => h) (Or.inr ⟨by rfl, rfl⟩) hHeld ?_
      try simp only [List.getElem_toArray, List.getElem_cons_succ, List.getElem_cons_zero, Act.put, List.setIfInBounds_toArray, List.set_cons_zero, List.set_cons_succ]
      refine wpAnyH_take (i := 14) (v := undef) rfl (by kernel_rfl) (by kernel_rfl) (by kernel_rfl) (fun _ _ _ h => h) (Or.inr ⟨by rfl, rfl⟩) hHeld ?_
      try simp only [List.getElem_toArray, List.getElem_cons_succ, List.getElem_cons_zero, Act.put, List.setIfInBounds_toArray, List.set_cons_zero, List.set_cons_succ]
      refine wpAnyH_take (i := 15) (v := undef) rfl (by kernel_rfl) (by kernel_rfl) (by kernel_rfl) (fun _ _ _ h => h) (Or.inr ⟨by rfl, rfl⟩) hHeld ?_
      try simp only [List.getElem_toArray, List.getElem_cons_succ, List.getElem_cons_zero, Act.put, List.setIfInBounds_toArray, List.set_cons_zero, List.set_cons_succ]
      refine wpAnyH_take (i := 16) (v := undef) rfl (by kernel_rfl) (by kernel_rfl) (by kernel_rfl) (fun _ _ _ h => h) (Or.inr ⟨by rfl, rfl⟩) hHeld ?_
      try simp only [List.getElem_toArray, List.getElem_cons_succ, List.getElem_cons_zero, Act.put, List.setIfInBounds_toArray, List.set_cons_zero, List.set_cons_succ]
      refine wpAnyH_take (i := 17) (v := undef) rfl (by kernel_rfl) (by kernel_rfl) (by kernel_rfl) (fun _ _ _ h => h) (Or.inr ⟨by rfl, rfl⟩) hHeld ?_
      try simp only [List.getElem_toArray, List.getElem_cons_succ, List.getElem_cons_zero, Act.put, List.setIfInBounds_toArray, List.set_cons_zero, List.set_cons_succ]
      refine wpAnyH_take (i := 18) (v := undef) rfl (by kernel_rfl) (by kernel_rfl) (by kernel_rfl) (fun _ _ _ h => h) (Or.inr ⟨by rfl, rfl⟩) hHeld ?_
      try simp only [List.getElem_toArray, List.getElem_cons_succ, List.getElem_cons_zero, Act.put, List.setIfInBounds_toArray, List.set_cons_zero, List.set_cons_succ]
      refine wpAnyH_take (i := 19) (v := ?_) rfl (by kernel_rfl) (by kernel_rfl) (by kernel_rfl) (fun _ _ _ h => h) (Or.inl ⟨by rfl, ?_⟩) hHeld ?_
      rotate_left
      · (intro wz hSw; (try dsimp only at hSw); (try simp only [List.getElem_toArray, List.getElem_cons_succ, List.getElem_cons_zero]); go_simp; try with_reducible rfl)
      try simp only [List.getElem_toArray, List.getElem_cons_succ, List.getElem_cons_zero, Act.put, List.setIfInBounds_toArray, List.set_cons_zero, List.set_cons_succ]
      refine wpAnyH_done (by kernel_rfl) ?_ _
      clear kR
      have HZd := Lib.hid (below_block h0 (block_lt HZE.out) HZE.out)
      have HBd := Lib.hid (HBE.out.trans (h0.mono (by have := HBE.out.size; have := HEB.out; omega)))
      have kz := block_cells HZd.out
      have fz := block_free HZd.out
      clear hHeld
      go_wp2_with fail
      have hzF := putL_at HZd.out [.int .i64 0, .int .i64 0, .int .i64 0, .int .i64 0, .int .i64 0, .int .i64 0, .int .i64 0, .int .i64 0, .int .i64 0, .int .i64 0, .int .i64 0, .bool false, .slice none 0 0, .slice none 0 0] rfl
      have hbF := putL_bel (g := B) (Nat.le_refl B) [.int .i64 0, .int .i64 0, .int .i64 0, .int .i64 0, .int .i64 0, .int .i64 0, .int .i64 0, .int .i64 0, .int .i64 0, .int .i64 0, .int .i64 0, .bool false, .slice none 0 0, .slice none 0 0] 0 HBd.out
      simp only [putL, Nat.reduceAdd, Nat.zero_add] at hzF hbF
      have kF := block_cells hzF
      refine bodyPost_ret (v := .tuple #[.agg #[.int .i64 0, .int .i64 0, .int .i64 0, .int .i64 0, .int .i64 0, .int .i64 0, .int .i64 0, .int .i64 0, .int .i64 0, .int .i64 0, .int .i64 0, .bool false, .slice none 0 0, .slice none 0 0], .int .i64 9]) ?_ rfl ⟨by rw [HEB.out]; exact hbF, .inr ⟨fun a' ha => by rw [encCm_body]; exact HNO.out a' ha, rfl⟩⟩
      simp [results, Try.results23, go_sem, kF]
    | false =>
      by_cases hx : X11 = []
      · subst hx
        have HY := Lib.hid (tkf_yes rfCm_ok HOC.out HRD.out)
        subst hn
        have hEq : encCm ⟨n1, n2, n3, n4, y1, y2, y3, y4, s1, s2, n7, n8, l1, l2⟩ = X0 := by rw [encCm_body]; exact HY.out.1
        obtain ⟨st, hst⟩ : ∃ s, strOfNums X0 = s := ⟨_, rfl⟩
        have hK1 : ∀ w', Below wE.heap.size wE w' → (convert 46 9 (.slice p X0.length cap)).run Try.prog w' = .ok (.string st) w' := fun w' h => by
          have hsl := (HV.out.keep (HBE.out.mono (by have := HEB.out; omega))).keep (h.mono (by have := HBE.out.size; have := HEB.out; omega))
          have := run_convert_sl (P := Try.prog) hsl 46 5 Try.underlying46 Try.underlying5 9 Try.underlying9
          rw [hst] at this; exact this
        have K2 : Hid (∀ (w' : World) (v : Value), w'.ownsRow wE.heap.size 5 1 v X0.length (byt X0) → (convert 46 9 v).run Try.prog w' = .ok (.string st) w') := fun w' v h => by
          have := run_convert_sl (P := Try.prog) (Sl.of_own h) 46 5 Try.underlying46 Try.underlying5 9 Try.underlying9
          rw [hst] at this; exact this
        have CC : Hid (∀ w', Below wE.heap.size wE w' → Calls Try.prog 17 #[.agg #[.int .i64 n1, .int .i64 n2, .int .i64 n3, .int .i64 n4, .int .i64 y1, .int .i64 y2, .int .i64 y3, .int .i64 y4, .int .i64 s1, .int .i64 s2, .int .i64 n7, .bool n8, .slice q1 l1.length c1, .slice q2 l2.length c2]] w' (WEnd w'.heap.size w'.heap.size w' X0)) := fun w' h => by
          have := rcmd_any ⟨n1, n2, n3, n4, y1, y2, y3, y4, s1, s2, n7, n8, l1, l2⟩ q1 q2 c1 c2 w' (cmv_cmf HY.out.2) ((spsAt_own HO1E.out).keep h (Nat.le_refl _)) ((wrsAt_own HO2E.out).keep h (Nat.le_refl _)) (by rw [hEq]; have := HLN.out; omega) (by have := HY.out.2.2.2.2.2.2.2.2.2.1.1; omega) (by have := HY.out.2.2.2.2.2.2.2.2.2.2.1; omega)
          rw [hEq] at this; exact this
        have HEQ := Lib.hid hEq
        clear hst hEq
        have h0 : Below wE.heap.size wE wE.drew := (Below.refl _ _).drew
        refine wp_region_held_drew (S := fun w' => Below wE.heap.size wE w') (by kernel_rfl) h0 (fun hHeld => ?_)
        obtain ⟨wd, ewd⟩ : ∃ x, wE.drew = x := ⟨_, rfl⟩
        rw [ewd] at h0 hHeld ⊢
        clear ewd
        have kR : ∀ w', Below wE.heap.size wE w' → ∀ j, w'.cell? ⟨R, j, none⟩ = #[.slice pr 0 cr, .bool false][j]? := fun w' h => block_cells (below_block h (block_lt HRE.out) HRE.out)
        refine wpAnyH_take (i := 0) (v := ?_) rfl (by kernel_rfl) (by kernel_rfl) (by kernel_rfl) (fun _ _ _ h => h) (Or.inl ⟨by rfl, ?_⟩) hHeld ?_
        rotate_left
        · (intro wz hSw; (try dsimp only at hSw); (try simp only [List.getElem_toArray, List.getElem_cons_zero]); go_simp; try with_reducible rfl)
        try simp only [List.getElem_toArray, List.getElem_cons_zero, Act.put, List.setIfInBounds_toArray, List.set_cons_zero, List.set_cons_succ]
        refine wpAnyH_take (i := 1) (v := ?_) rfl (by kernel_rfl) (by kernel_rfl) (by kernel_rfl) (fun _ _ _ h => h) (Or.inl ⟨by rfl, ?_⟩) hHeld ?_
        rotate_left
        · (intro wz hSw; (try dsimp only at hSw); (try simp only [List.getElem_toArray, List.getElem_cons_succ, List.getElem_cons_zero]); go_simp; try with_reducible rfl)
        try simp only [List.getElem_toArray, List.getElem_cons_succ, List.getElem_cons_zero, Act.put, List.setIfInBounds_toArray, List.set_cons_zero, List.set_cons_succ]
        refine wpAnyH_take (i := 2) (v := ?_) rfl (by kernel_rfl) (by kernel_rfl) (by kernel_rfl) (fun _ _ _ h => h) (Or.inl ⟨by rfl, ?_⟩) hHeld ?_
        rotate_left
        · (intro wz hSw; (try dsimp only at hSw); (try simp only [List.getElem_toArray, List.getElem_cons_succ, List.getElem_cons_zero]); go_simp; try with_reducible rfl)
        try simp only [List.getElem_toArray, List.getElem_cons_succ, List.getElem_cons_zero, Act.put, List.setIfInBounds_toArray, List.set_cons_zero, List.set_cons_succ]
        refine wpAnyH_take (i := 3) (v := ?_) rfl (by kernel_rfl) (by kernel_rfl) (by kernel_rfl) (fun _ _ _ h => h) (Or.inl ⟨by rfl, ?_⟩) hHeld ?_
        rotate_left
        · (intro wz hSw; (try dsimp only at hSw); (try simp only [List.getElem_toArray, List.getElem_cons_succ, List.getElem_cons_zero]); go_simp; try with_reducible rfl)
        try simp only [List.getElem_toArray, List.getElem_cons_succ, List.getElem_cons_zero, Act.put, List.setIfInBounds_toArray, List.set_cons_zero, List.set_cons_succ]
        refine wpAnyH_take (i := 4) (v := ?_) rfl (by kernel_rfl) (by kernel_rfl) (by kernel_rfl) (fun _ _ _ h => h) (Or.inl ⟨by rfl, ?_⟩) hHeld ?_
        rotate_left
        · (intro wz hSw; (try dsimp only at hSw); (try simp only [List.getElem_toArray, List.getElem_cons_succ, List.getElem_cons_zero]); go_simp; try with_reducible rfl)
        try simp only [List.getElem_toArray, List.getElem_cons_succ, List.getElem_cons_zero, Act.put, List.setIfInBounds_toArray, List.set_cons_zero, List.set_cons_succ]
        refine wpAnyH_take (i := 5) (v := ?_) rfl (by kernel_rfl) (by kernel_rfl) (by kernel_rfl) (fun _ _ _ h => h) (Or.inl ⟨by rfl, ?_⟩) hHeld ?_
        rotate_left
        · (intro wz hSw; (try dsimp only at hSw); (try simp only [List.getElem_toArray, List.getElem_cons_succ, List.getElem_cons_zero]); go_simp; try with_reducible rfl)
        try simp only [List.getElem_toArray, List.getElem_cons_succ, List.getElem_cons_zero, Act.put, List.setIfInBounds_toArray, List.set_cons_zero, List.set_cons_succ]
        refine wpAnyH_take (i := 6) (v := ?_) rfl (by kernel_rfl) (by kernel_rfl) (by kernel_rfl) (fun _ _ _ h => h) (Or.inl ⟨by rfl, ?_⟩) hHeld ?_
        rotate_left
        · (intro wz hSw; (try dsimp only at hSw); (try simp only [List.getElem_toArray, List.getElem_cons_succ, List.getElem_cons_zero]); go_simp; try with_reducible rfl)
        try simp only [List.getElem_toArray, List.getElem_cons_succ, List.getElem_cons_zero, Act.put, List.setIfInBounds_toArray, List.set_cons_zero, List.set_cons_succ]
        refine wpAnyH_take (i := 7) (v := ?_) rfl (by kernel_rfl) (by kernel_rfl) (by kernel_rfl) (fun _ _ _ h => h) (Or.inl ⟨by rfl, ?_⟩) hHeld ?_
        rotate_left
        · (intro wz hSw; (try dsimp only at hSw); (try simp only [List.getElem_toArray, List.getElem_cons_succ, List.getElem_cons_zero]); go_simp; try with_reducible rfl)
        try simp only [List.getElem_toArray, List.getElem_cons_succ, List.getElem_cons_zero, Act.put, List.setIfInBounds_toArray, List.set_cons_zero, List.set_cons_succ]
        refine wpAnyH_take (i := 8) (v := ?_) rfl (by kernel_rfl) (by kernel_rfl) (by kernel_rfl) (fun _ _ _ h => h) (Or.inl ⟨by rfl, ?_⟩) hHeld ?_
        rotate_left
        · (intro wz hSw; (try dsimp only at hSw); (try simp only [List.getElem_toArray, List.getElem_cons_succ, List.getElem_cons_zero]); go_simp; try with_reducible rfl)
        try simp only [List.getElem_toArray, List.getElem_cons_succ, List.getElem_cons_zero, Act.put, List.setIfInBounds_toArray, List.set_cons_zero, List.set_cons_succ]
        refine wpAnyH_take (i := 9) (v := ?_) rfl (by kernel_rfl) (by kernel_rfl) (by kernel_rfl) (fun _ _ _ h => h) (Or.inl ⟨by rfl, ?_⟩) hHeld ?_
        rotate_left
        · (intro wz hSw; (try dsimp only at hSw); (try simp only [List.getElem_toArray, List.getElem_cons_succ, List.getElem_cons_zero]); go_simp; try with_reducible rfl)
        try simp only [List.getElem_toArray, List.getElem_cons_succ, List.getElem_cons_zero, Act.put, List.setIfInBounds_toArray, List.set_cons_zero, List.set_cons_succ]
        refine wpAnyH_take (i := 10) (v := ?_) rfl (by kernel_rfl) (by kernel_rfl) (by kernel_rfl) (fun _ _ _ h => h) (Or.inl ⟨by rfl, ?_⟩) hHeld ?_
        rotate_left
        · (intro wz hSw; (try dsimp only at hSw); (try simp only [List.getElem_toArray, List.getElem_cons_succ, List.getElem_cons_zero]); go_simp; try with_reducible rfl)
        try simp only [List.getElem_toArray, List.getElem_cons_succ, List.getElem_cons_zero, Act.put, List.setIfInBounds_toArray, List.set_cons_zero, List.set_cons_succ]
        refine wpAnyH_take (i := 11) (v := ?_) rfl (by kernel_rfl) (by kernel_rfl) (by kernel_rfl) (fun _ _ _ h => h) (Or.inl ⟨by rfl, ?_⟩) hHeld ?_
        rotate_left
        · (intro wz hSw; (try dsimp only at hSw); (try simp only [List.getElem_toArray, List.getElem_cons_succ, List.getElem_cons_zero]); go_simp; try with_reducible rfl)
        try simp only [List.getElem_toArray, List.getElem_cons_succ, List.getElem_cons_zero, Act.put, List.setIfInBounds_toArray, List.set_cons_zero, List.set_cons_succ]
        refine wpAnyH_take (i := 12) (v := ?_) rfl (by kernel_rfl) (by kernel_rfl) (by kernel_rfl) (fun _ _ _ h => h) (Or.inl ⟨by rfl, ?_⟩) hHeld ?_
        rotate_left
        · (intro wz hSw; (try dsimp only at hSw); (try simp only [List.getElem_toArray, List.getElem_cons_succ, List.getElem_cons_zero]); go_simp; try with_reducible rfl)
        try simp only [List.getElem_toArray, List.getElem_cons_succ, List.getElem_cons_zero, Act.put, List.setIfInBounds_toArray, List.set_cons_zero, List.set_cons_succ]
        have kg : ∀ w', Below wE.heap.size wE w' → ∀ j, w'.cell? ⟨g, j, none⟩ = #[.int .i64 n1, .int .i64 n2, .int .i64 n3, .int .i64 n4, .int .i64 y1, .int .i64 y2, .int .i64 y3, .int .i64 y4, .int .i64 s1, .int .i64 s2, .int .i64 n7, .bool n8, .slice q1 l1.length c1, .slice q2 l2.length c2][j]? := fun w' h => block_cells (below_block h (block_lt HGE.out) HGE.out)
        refine wpAnyH_take (i := 13) (v := ?_) rfl (by kernel_rfl) (by kernel_rfl) (by kernel_rfl) (fun _ _ _ h => h) (Or.inl ⟨by rfl, ?_⟩) hHeld ?_
        rotate_left
        · (intro wz hSw; (try dsimp only at hSw); (try simp only [List.getElem_toArray, List.getElem_cons_succ, List.getElem_cons_zero]); go_simp; try with_reducible rfl)
        try simp only [List.getElem_toArray, List.getElem_cons_succ, List.getElem_cons_zero, Act.put, List.setIfInBounds_toArray, List.set_cons_zero, List.set_cons_succ]
        refine wpAnyH_take (i := 16) (v := ?_) rfl (by kernel_rfl) (by kernel_rfl) (by kernel_rfl) (fun _ _ _ h => h) (Or.inl ⟨by rfl, ?_⟩) hHeld ?_
        rotate_left
        · (intro wz hSw; (try dsimp only at hSw); (try simp only [List.getElem_toArray, List.getElem_cons_succ, List.getElem_cons_zero]); go_simp; try with_reducible rfl)
        try simp only [List.getElem_toArray, List.getElem_cons_succ, List.getElem_cons_zero, Act.put, List.setIfInBounds_toArray, List.set_cons_zero, List.set_cons_succ]
        refine wpAnyH_take (i := 17) (v := ?_) rfl (by kernel_rfl) (by kernel_rfl) (by kernel_rfl) (fun _ _ _ h => h) (Or.inl ⟨by rfl, ?_⟩) hHeld ?_
        rotate_left
        · (intro wz hSw; (try dsimp only at hSw); (try simp only [List.getElem_toArray, List.getElem_cons_succ, List.getElem_cons_zero]); go_simp; try with_reducible rfl)
        try simp only [List.getElem_toArray, List.getElem_cons_succ, List.getElem_cons_zero, Act.put, List.setIfInBounds_toArray, List.set_cons_zero, List.set_cons_succ]
        refine wpAnyH_ready (rs := [14]) (by kernel_rfl) (by simp) ?_; refine AllReadyH.cons rfl (fun K hK => ?_) AllReadyH.nil; (try simp only [List.getElem_toArray, List.getElem_cons_succ, List.getElem_cons_zero]); go_simp
        refine (CC.out _ h0).mono ?_; rintro r w1 ⟨vv, rfl, hov, hb1⟩
        have hS := h0.trans (hb1.mono h0.size)
        refine hK.out _ _ hS (fun _ => ?_)
        clear hK K hHeld
        try simp only [List.getElem_toArray, List.getElem_cons_succ, List.getElem_cons_zero, Act.put, List.setIfInBounds_toArray, List.set_cons_zero, List.set_cons_succ]
        have hHeld := hS
        have hcv := K2.out _ _ (hov.mono h0.size)
        refine wpAnyH_ready (rs := [15]) (by kernel_rfl) (by simp) ?_; refine AllReadyH.cons rfl (fun K hK => ?_) AllReadyH.nil; (try simp only [List.getElem_toArray, List.getElem_cons_succ, List.getElem_cons_zero]); go_simp
        refine hK.out _ _ hS (fun _ => ?_)
        clear hK K hHeld hcv hK1
        try simp only [List.getElem_toArray, List.getElem_cons_succ, List.getElem_cons_zero, Act.put, List.setIfInBounds_toArray, List.set_cons_zero, List.set_cons_succ]
        have hHeld := hS
        refine wpAnyH_take (i := 18) (v := ?_) rfl (by kernel_rfl) (by kernel_rfl) (by kernel_rfl) (fun _ _ _ h => h) (Or.inl ⟨by rfl, ?_⟩) hHeld ?_
        rotate_left
        · (intro wz hSw; (try dsimp only at hSw); (try simp only [List.getElem_toArray, List.getElem_cons_succ, List.getElem_cons_zero]); go_simp; try with_reducible rfl)
        try simp only [List.getElem_toArray, List.getElem_cons_succ, List.getElem_cons_zero, Act.put, List.setIfInBounds_toArray, List.set_cons_zero, List.set_cons_succ]
        refine wpAnyH_take (i := 19) (v := ?_) rfl (by kernel_rfl) (by kernel_rfl) (by kernel_rfl) (fun _ _ _ h => h) (Or.inl ⟨by rfl, ?_⟩) hHeld ?_
        rotate_left
        · (intro wz hSw; (try dsimp only at hSw); (try simp only [List.getElem_toArray, List.getElem_cons_succ, List.getElem_cons_zero]); go_simp; try with_reducible rfl)
        try simp only [List.getElem_toArray, List.getElem_cons_succ, List.getElem_cons_zero, Act.put, List.setIfInBounds_toArray, List.set_cons_zero, List.set_cons_succ]
        refine wpAnyH_done (by kernel_rfl) ?_ _
        clear kR kg hHeld
        have HZd := Lib.hid (below_block hS (block_lt HZE.out) HZE.out)
        have HGd := Lib.hid (below_block hS (block_lt HGE.out) HGE.out)
        have HBd := Lib.hid (HBE.out.trans (hS.mono (by have := HBE.out.size; have := HEB.out; omega)))
        have HS := Lib.hid hS
        have kz := block_cells HZd.out
        have fz := block_free HZd.out
        have kg := block_cells HGd.out
        clear hS h0 hov hb1 CC K2
        go_wp2_with fail
        have hzF := putL_at HZd.out [.int .i64 n1, .int .i64 n2, .int .i64 n3, .int .i64 n4, .int .i64 y1, .int .i64 y2, .int .i64 y3, .int .i64 y4, .int .i64 s1, .int .i64 s2, .int .i64 n7, .bool n8, .slice q1 l1.length c1, .slice q2 l2.length c2] rfl
        have hbF := putL_bel (g := B) (Nat.le_refl B) [.int .i64 n1, .int .i64 n2, .int .i64 n3, .int .i64 n4, .int .i64 y1, .int .i64 y2, .int .i64 y3, .int .i64 y4, .int .i64 s1, .int .i64 s2, .int .i64 n7, .bool n8, .slice q1 l1.length c1, .slice q2 l2.length c2] 0 HBd.out
        have hgF := putL_gr' B [.int .i64 n1, .int .i64 n2, .int .i64 n3, .int .i64 n4, .int .i64 y1, .int .i64 y2, .int .i64 y3, .int .i64 y4, .int .i64 s1, .int .i64 s2, .int .i64 n7, .bool n8, .slice q1 l1.length c1, .slice q2 l2.length c2] 0 w1
        simp only [putL, Nat.reduceAdd, Nat.zero_add] at hzF hbF hgF
        have kF := block_cells hzF
        have hsp := (spsAt_own ((own_kept0 HO1E.out HS.out).kept hgF (by
          cases e : (Value.slice q1 l1.length c1).ownBlock with
          | none => exact .inl rfl
          | some y => exact .inr fun h => by have := (HO1E.out.lt y e).1; simp only [Option.some.injEq] at h; omega)))
        have hwr := (wrsAt_own ((own_kept0 HO2E.out HS.out).kept hgF (by
          cases e : (Value.slice q2 l2.length c2).ownBlock with
          | none => exact .inl rfl
          | some y => exact .inr fun h => by have := (HO2E.out.lt y e).1; simp only [Option.some.injEq] at h; omega)))
        refine bodyPost_ret (v := .tuple #[.agg #[.int .i64 n1, .int .i64 n2, .int .i64 n3, .int .i64 n4, .int .i64 y1, .int .i64 y2, .int .i64 y3, .int .i64 y4, .int .i64 s1, .int .i64 s2, .int .i64 n7, .bool n8, .slice q1 l1.length c1, .slice q2 l2.length c2], .int .i64 0]) ?_ rfl ⟨by rw [HEB.out]; exact hbF, .inl ⟨⟨n1, n2, n3, n4, y1, y2, y3, y4, s1, s2, n7, n8, l1, l2⟩, q1, q2, c1, c2, HEQ.out, HY.out.2, hsp, hwr, rfl⟩⟩
        simp [results, Try.results23, go_sem, kF]
      · have hxl : decide (0 < (X11.length : Int)) = true := by
          have : 0 < X11.length := List.length_pos_iff.2 hx
          simp; omega
        have hx0 : 0 < X11.length := List.length_pos_iff.2 hx
        have hx1 : 0 < (X11.length : Int) := by omega
        have HNO := Lib.hid (fun a' (ha : CmV a') => tkf_no rfCm_ok (m := 1) (a' := a') ⟨by omega, by omega⟩ HRD.out (by simp; exact fun _ => hx) ha)
        clear hx
        have h0 : Below wE.heap.size wE wE.drew := (Below.refl _ _).drew
        refine wp_region_held_drew (S := fun w' => Below wE.heap.size wE w') (by kernel_rfl) h0 (fun hHeld => ?_)
        obtain ⟨wd, ewd⟩ : ∃ x, wE.drew = x := ⟨_, rfl⟩
        rw [ewd] at h0 hHeld ⊢
        clear ewd
        have kR : ∀ w', Below wE.heap.size wE w' → ∀ j, w'.cell? ⟨R, j, none⟩ = #[.slice pr X11.length cr, .bool false][j]? := fun w' h => block_cells (below_block h (block_lt HRE.out) HRE.out)
        refine wpAnyH_take (i := 0) (v := ?_) rfl (by kernel_rfl) (by kernel_rfl) (by kernel_rfl) (fun _ _ _ h => h) (Or.inl ⟨by rfl, ?_⟩) hHeld ?_
        rotate_left
        · (intro wz hSw; (try dsimp only at hSw); (try simp only [List.getElem_toArray, List.getElem_cons_zero]); go_simp; try with_reducible rfl)
        try simp only [List.getElem_toArray, List.getElem_cons_zero, Act.put, List.setIfInBounds_toArray, List.set_cons_zero, List.set_cons_succ]
        refine wpAnyH_take (i := 1) (v := ?_) rfl (by kernel_rfl) (by kernel_rfl) (by kernel_rfl) (fun _ _ _ h => h) (Or.inl ⟨by rfl, ?_⟩) hHeld ?_
        rotate_left
        · (intro wz hSw; (try dsimp only at hSw); (try simp only [List.getElem_toArray, List.getElem_cons_succ, List.getElem_cons_zero]); go_simp; try with_reducible rfl)
        try simp only [List.getElem_toArray, List.getElem_cons_succ, List.getElem_cons_zero, Act.put, List.setIfInBounds_toArray, List.set_cons_zero, List.set_cons_succ]
        refine wpAnyH_take (i := 2) (v := ?_) rfl (by kernel_rfl) (by kernel_rfl) (by kernel_rfl) (fun _ _ _ h => h) (Or.inl ⟨by rfl, ?_⟩) hHeld ?_
        rotate_left
        · (intro wz hSw; (try dsimp only at hSw); (try simp only [List.getElem_toArray, List.getElem_cons_succ, List.getElem_cons_zero]); go_simp; try with_reducible rfl)
        try simp only [List.getElem_toArray, List.getElem_cons_succ, List.getElem_cons_zero, Act.put, List.setIfInBounds_toArray, List.set_cons_zero, List.set_cons_succ]
        refine wpAnyH_take (i := 3) (v := ?_) rfl (by kernel_rfl) (by kernel_rfl) (by kernel_rfl) (fun _ _ _ h => h) (Or.inl ⟨by rfl, ?_⟩) hHeld ?_
        rotate_left
        · (intro wz hSw; (try dsimp only at hSw); (try simp only [List.getElem_toArray, List.getElem_cons_succ, List.getElem_cons_zero]); go_simp; try with_reducible rfl)
        try simp only [List.getElem_toArray, List.getElem_cons_succ, List.getElem_cons_zero, Act.put, List.setIfInBounds_toArray, List.set_cons_zero, List.set_cons_succ]
        refine wpAnyH_take (i := 4) (v := ?_) rfl (by kernel_rfl) (by kernel_rfl) (by kernel_rfl) (fun _ _ _ h => h) (Or.inl ⟨by rfl, ?_⟩) hHeld ?_
        rotate_left
        · (intro wz hSw; (try dsimp only at hSw); (try simp only [List.getElem_toArray, List.getElem_cons_succ, List.getElem_cons_zero]); go_simp; try with_reducible rfl)
        try simp only [List.getElem_toArray, List.getElem_cons_succ, List.getElem_cons_zero, Act.put, List.setIfInBounds_toArray, List.set_cons_zero, List.set_cons_succ]
        refine wpAnyH_take (i := 5) (v := ?_) rfl (by kernel_rfl) (by kernel_rfl) (by kernel_rfl) (fun _ _ _ h => h) (Or.inl ⟨by rfl, ?_⟩) hHeld ?_
        rotate_left
        · (intro wz hSw; (try dsimp only at hSw); (try simp only [List.getElem_toArray, List.getElem_cons_succ, List.getElem_cons_zero]); go_simp; try with_reducible rfl)
        try simp only [List.getElem_toArray, List.getElem_cons_succ, List.getElem_cons_zero, Act.put, List.setIfInBounds_toArray, List.set_cons_zero, List.set_cons_succ]
        refine wpAnyH_take (i := 6) (v := ?_) rfl (by kernel_rfl) (by kernel_rfl) (by kernel_rfl) (fun _ _ _ h => h) (Or.inl ⟨by rfl, ?_⟩) hHeld ?_
        rotate_left
        · (intro wz hSw; (try dsimp only at hSw); (try simp only [List.getElem_toArray, List.getElem_cons_succ, List.getElem_cons_zero]); go_simp; try with_reducible rfl)
        try simp only [List.getElem_toArray, List.getElem_cons_succ, List.getElem_cons_zero, Act.put, List.setIfInBounds_toArray, List.set_cons_zero, List.set_cons_succ]
        refine wpAnyH_take (i := 7) (v := ?_) rfl (by kernel_rfl) (by kernel_rfl) (by kernel_rfl) (fun _ _ _ h => h) (Or.inl ⟨by rfl, ?_⟩) hHeld ?_
        rotate_left
        · (intro wz hSw; (try dsimp only at hSw); (try simp only [List.getElem_toArray, List.getElem_cons_succ, List.getElem_cons_zero]); go_simp; try with_reducible rfl)
        try simp only [List.getElem_toArray, List.getElem_cons_succ, List.getElem_cons_zero, Act.put, List.setIfInBounds_toArray, List.set_cons_zero, List.set_cons_succ]
        refine wpAnyH_take (i := 8) (v := ?_) rfl (by kernel_rfl) (by kernel_rfl) (by kernel_rfl) (fun _ _ _ h => h) (Or.inl ⟨by rfl, ?_⟩) hHeld ?_
        rotate_left
        · (intro wz hSw; (try dsimp only at hSw); (try simp only [List.getElem_toArray, List.getElem_cons_succ, List.getElem_cons_zero]); go_simp; try with_reducible rfl)
        try simp only [List.getElem_toArray, List.getElem_cons_succ, List.getElem_cons_zero, Act.put, List.setIfInBounds_toArray, List.set_cons_zero, List.set_cons_succ]
        refine wpAnyH_take (i := 9) (v := ?_) rfl (by kernel_rfl) (by kernel_rfl) (by kernel_rfl) (fun _ _ _ h => h) (Or.inl ⟨by rfl, ?_⟩) hHeld ?_
        rotate_left
        · (intro wz hSw; (try dsimp only at hSw); (try simp only [List.getElem_toArray, List.getElem_cons_succ, List.getElem_cons_zero]); go_simp; try with_reducible rfl)
        try simp only [List.getElem_toArray, List.getElem_cons_succ, List.getElem_cons_zero, Act.put, List.setIfInBounds_toArray, List.set_cons_zero, List.set_cons_succ]
        refine wpAnyH_take (i := 10) (v := ?_) rfl (by kernel_rfl) (by kernel_rfl) (by kernel_rfl) (fun _ _ _ h => h) (Or.inl ⟨by rfl, ?_⟩) hHeld ?_
        rotate_left
        · (intro wz hSw; (try dsimp only at hSw); (try simp only [List.getElem_toArray, List.getElem_cons_succ, List.getElem_cons_zero]); go_simp; try with_reducible rfl)
        try simp only [List.getElem_toArray, List.getElem_cons_succ, List.getElem_cons_zero, Act.put, List.setIfInBounds_toArray, List.set_cons_zero, List.set_cons_succ]
        refine wpAnyH_take (i := 11) (v := ?_) rfl (by kernel_rfl) (by kernel_rfl) (by kernel_rfl) (fun _ _ _ h => h) (Or.inl ⟨by rfl, ?_⟩) hHeld ?_
        rotate_left
        · (intro wz hSw; (try dsimp only at hSw); (try simp only [List.getElem_toArray, List.getElem_cons_succ, List.getElem_cons_zero]); go_simp; try with_reducible rfl)
        try simp only [List.getElem_toArray, List.getElem_cons_succ, List.getElem_cons_zero, Act.put, List.setIfInBounds_toArray, List.set_cons_zero, List.set_cons_succ]
        refine wpAnyH_take (i := 12) (v := ?_) rfl (by kernel_rfl) (by kernel_rfl) (by kernel_rfl) (fun _ _ _ h => h) (Or.inl ⟨by rfl, ?_⟩) hHeld ?_
        rotate_left
        · (intro wz hSw; (try dsimp only at hSw); (try simp only [List.getElem_toArray, List.getElem_cons_succ, List.getElem_cons_zero]); go_simp; try with_reducible rfl)
        try simp only [List.getElem_toArray, List.getElem_cons_succ, List.getElem_cons_zero, Act.put, List.setIfInBounds_toArray, List.set_cons_zero, List.set_cons_succ]
        refine wpAnyH_take (i := 13) (v := undef) rfl (by kernel_rfl) (by kernel_rfl) (by kernel_rfl) (fun _ _ _ h => h) (Or.inr ⟨by rfl, rfl⟩) hHeld ?_
        try simp only [List.getElem_toArray, List.getElem_cons_succ, List.getElem_cons_zero, Act.put, List.setIfInBounds_toArray, List.set_cons_zero, List.set_cons_succ]
        refine wpAnyH_take (i := 14) (v := undef) rfl (by kernel_rfl) (by kernel_rfl) (by kernel_rfl) (fun _ _ _ h => h) (Or.inr ⟨by rfl, rfl⟩) hHeld ?_
        try simp only [List.getElem_toArray, List.getElem_cons_succ, List.getElem_cons_zero, Act.put, List.setIfInBounds_toArray, List.set_cons_zero, List.set_cons_succ]
        refine wpAnyH_take (i := 15) (v := undef) rfl (by kernel_rfl) (by kernel_rfl) (by kernel_rfl) (fun _ _ _ h => h) (Or.inr ⟨by rfl, rfl⟩) hHeld ?_
        try simp only [List.getElem_toArray, List.getElem_cons_succ, List.getElem_cons_zero, Act.put, List.setIfInBounds_toArray, List.set_cons_zero, List.set_cons_succ]
        refine wpAnyH_take (i := 16) (v := undef) rfl (by kernel_rfl) (by kernel_rfl) (by kernel_rfl) (fun _ _ _ h => h) (Or.inr ⟨by rfl, rfl⟩) hHeld ?_
        try simp only [List.getElem_toArray, List.getElem_cons_succ, List.getElem_cons_zero, Act.put, List.setIfInBounds_toArray, List.set_cons_zero, List.set_cons_succ]
        refine wpAnyH_take (i := 17) (v := undef) rfl (by kernel_rfl) (by kernel_rfl) (by kernel_rfl) (fun _ _ _ h => h) (Or.inr ⟨by rfl, rfl⟩) hHeld ?_
        try simp only [List.getElem_toArray, List.getElem_cons_succ, List.getElem_cons_zero, Act.put, List.setIfInBounds_toArray, List.set_cons_zero, List.set_cons_succ]
        refine wpAnyH_take (i := 18) (v := undef) rfl (by kernel_rfl) (by kernel_rfl) (by kernel_rfl) (fun _ _ _ h => h) (Or.inr ⟨by rfl, rfl⟩) hHeld ?_
        try simp only [List.getElem_toArray, List.getElem_cons_succ, List.getElem_cons_zero, Act.put, List.setIfInBounds_toArray, List.set_cons_zero, List.set_cons_succ]
        refine wpAnyH_take (i := 19) (v := ?_) rfl (by kernel_rfl) (by kernel_rfl) (by kernel_rfl) (fun _ _ _ h => h) (Or.inl ⟨by rfl, ?_⟩) hHeld ?_
        rotate_left
        · (intro wz hSw; (try dsimp only at hSw); (try simp only [List.getElem_toArray, List.getElem_cons_succ, List.getElem_cons_zero]); go_simp; try with_reducible rfl)
        try simp only [List.getElem_toArray, List.getElem_cons_succ, List.getElem_cons_zero, Act.put, List.setIfInBounds_toArray, List.set_cons_zero, List.set_cons_succ]
        refine wpAnyH_done (by kernel_rfl) ?_ _
        clear kR
        have HZd := Lib.hid (below_block h0 (block_lt HZE.out) HZE.out)
        have HBd := Lib.hid (HBE.out.trans (h0.mono (by have := HBE.out.size; have := HEB.out; omega)))
        have kz := block_cells HZd.out
        have fz := block_free HZd.out
        clear hHeld
        go_wp2_with fail
        have hzF := putL_at HZd.out [.int .i64 0, .int .i64 0, .int .i64 0, .int .i64 0, .int .i64 0, .int .i64 0, .int .i64 0, .int .i64 0, .int .i64 0, .int .i64 0, .int .i64 0, .bool false, .slice none 0 0, .slice none 0 0] rfl
        have hbF := putL_bel (g := B) (Nat.le_refl B) [.int .i64 0, .int .i64 0, .int .i64 0, .int .i64 0, .int .i64 0, .int .i64 0, .int .i64 0, .int .i64 0, .int .i64 0, .int .i64 0, .int .i64 0, .bool false, .slice none 0 0, .slice none 0 0] 0 HBd.out
        simp only [putL, Nat.reduceAdd, Nat.zero_add] at hzF hbF
        have kF := block_cells hzF
        refine bodyPost_ret (v := .tuple #[.agg #[.int .i64 0, .int .i64 0, .int .i64 0, .int .i64 0, .int .i64 0, .int .i64 0, .int .i64 0, .int .i64 0, .int .i64 0, .int .i64 0, .int .i64 0, .bool false, .slice none 0 0, .slice none 0 0], .int .i64 9]) ?_ rfl ⟨by rw [HEB.out]; exact hbF, .inr ⟨fun a' ha => by rw [encCm_body]; exact HNO.out a' ha, rfl⟩⟩
        simp [results, Try.results23, go_sem, kF]

  · have hq : (n0 != 1) = true := by simpa using hn
    have kz := block_cells HZ1.out
    have fz := block_free HZ1.out
    have HNO := Lib.hid (fun a' (ha : CmV a') => tkf_no rfCm_ok (m := 1) (a' := a') ⟨by omega, by omega⟩ HRD.out (fun h => hn h.2.1) ha)
    have hBw : Below B w w1 := HB1.out.grown G1.out (by have := HB1.out.size; have := HEB.out; omega) (fun k hk => by cases hk; omega)
    have HBw := Lib.hid hBw
    clear hBw
    go_wp2_with fail
    have hzF := putL_at HZ1.out [.int .i64 0, .int .i64 0, .int .i64 0, .int .i64 0, .int .i64 0, .int .i64 0, .int .i64 0, .int .i64 0, .int .i64 0, .int .i64 0, .int .i64 0, .bool false, .slice none 0 0, .slice none 0 0] rfl
    have hbF := putL_bel (g := B) (Nat.le_refl B) [.int .i64 0, .int .i64 0, .int .i64 0, .int .i64 0, .int .i64 0, .int .i64 0, .int .i64 0, .int .i64 0, .int .i64 0, .int .i64 0, .int .i64 0, .bool false, .slice none 0 0, .slice none 0 0] 0 HBw.out
    simp only [putL, Nat.reduceAdd, Nat.zero_add] at hzF hbF
    have kF := block_cells hzF
    refine bodyPost_ret (v := .tuple #[.agg #[.int .i64 0, .int .i64 0, .int .i64 0, .int .i64 0, .int .i64 0, .int .i64 0, .int .i64 0, .int .i64 0, .int .i64 0, .int .i64 0, .int .i64 0, .bool false, .slice none 0 0, .slice none 0 0], .int .i64 9]) ?_ rfl ⟨by rw [HEB.out]; exact hbF, .inr ⟨fun a' ha => by rw [encCm_body]; exact HNO.out a' ha, rfl⟩⟩
    simp [results, Try.results23, go_sem, kF]
end Go.Proofs.Ytmhmlpfkdpjlaaa
