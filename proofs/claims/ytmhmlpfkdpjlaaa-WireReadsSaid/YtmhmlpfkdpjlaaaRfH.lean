/- Wire: the reference's reader: cells. -/
import Derived.Test.YtmhmlpfkdpjlaaaRfB
import Derived.Test.YtmhmlpfkdpjlaaaRfG
namespace Go.Proofs.Ytmhmlpfkdpjlaaa
open Go.ChangeShapes Go.WideShapes Go.ChangeAt Go.RowKit

theorem putL_rf {B R g : Nat} {xs : List Int} {bad : Bool} (hg : R < g) : ∀ (vs : List Value) (i : Nat) {w : World}, RfS B w R xs bad → RfS B (putL g i vs w) R xs bad
  | [], _, _, h => h
  | v :: vs, i, _, h => putL_rf hg vs (i + 1) (h.setFar hg v)
theorem rfOpt_no {α : Type} {f : List Int → Bool → α × List Int × Bool} {xs ys : List Int} {b b1 : Bool} (h : rfF xs b = (false, ys, b1)) : rfOpt f xs b = (none, ys, b1) := by unfold rfOpt; rw [h]; rfl
theorem rfOpt_yes {α : Type} {f : List Int → Bool → α × List Int × Bool} {xs ys zs : List Int} {b b1 b2 : Bool} {a : α} (h : rfF xs b = (true, ys, b1)) (h2 : f ys b1 = (a, zs, b2)) : rfOpt f xs b = (some a, zs, b2) := by unfold rfOpt; rw [h]; simp only [if_true, h2]
/-- A list as it is read: in the cell of a block, in a row of the call's own. -/
structure LsF {α : Type} (R g base : Nat) (w0 wS : World) (cs : Value → Array Value) (tc te : TypeId) (size : Nat) (row : List α → List Value) (acc : List α) (w : World) : Prop where
  ex : ∃ v, w.heap[g]? = some (.cells (cs v) tc (0, 0)) ∧ w.ownsRow base te size v acc.length (row acc)
  b : w0.grownBy w (some R)
  z : base ≤ w.heap.size
  k : KpB base R g wS w
set_option maxRecDepth 100000 in
set_option maxHeartbeats 16000000 in
theorem rfcell_any (B R : Nat) (xs : List Int) (bad : Bool) (w : World) (h : RfW B w R xs bad) :
    Calls Try.prog 75 #[.pointer (some ⟨R, 0, none⟩)] w fun e w' => ∃ p c, e = .returned (.agg #[.string (rfCe xs bad).1.k, .slice p (rfCe xs bad).1.vs.length c, .bool (rfCe xs bad).1.lk, .int .i64 (rfCe xs bad).1.yn, .int .i64 (rfCe xs bad).1.yl, .int .i64 (rfCe xs bad).1.ys, .int .i64 (rfCe xs bad).1.ya, .int .i64 (rfCe xs bad).1.hm, .int .i64 (rfCe xs bad).1.sw, .int .i64 (rfCe xs bad).1.st, .bool (rfCe xs bad).1.lr, .string (rfCe xs bad).1.ld]) ∧ w'.ownsRow w.heap.size 78 4 (.slice p (rfCe xs bad).1.vs.length c) (rfCe xs bad).1.vs.length (veR (rfCe xs bad).1.vs) ∧ RfW B w' R (rfCe xs bad).2.1 (rfCe xs bad).2.2 ∧ w.grownBy w' (some R) := by
  obtain ⟨⟨ky, Y1, d1⟩, hk1⟩ : ∃ r, rfT xs bad = r := ⟨_, rfl⟩
  have CT := Lib.hid (fun w' => rft_any B R xs bad w')
  rw [hk1] at CT
  have HC := Lib.hid (fun w' => rfc_any B R Y1 d1 w')
  have hn := rfC_range Y1 d1
  have hL : rfL rfVe Y1 d1 = itF rfVe (rfC Y1 d1).1.toNat (rfC Y1 d1).2.1 (rfC Y1 d1).2.2 := rfl
  obtain ⟨⟨N, Y, b0⟩, hr⟩ : ∃ r, rfC Y1 d1 = r := ⟨_, rfl⟩
  rw [hr] at HC hn hL
  dsimp only at HC hn hL
  obtain ⟨n, rfl⟩ := Int.eq_ofNat_of_zero_le hn.1
  rw [Int.toNat_natCast] at hL
  have hn2 : n ≤ 65536 := by omega
  have HKY := Lib.hid hk1; have HLL := Lib.hid hL
  obtain ⟨i0, hi, hz0, hz1, hz2⟩ := info_parts Try.infoVe
  have hRl := h.lt
  have H := Lib.hid h
  clear hr hn hL hk1 h
  go_enter Try.func75, Try.ntmps75
  go_upto_region 1 with fail
  obtain ⟨W, hW⟩ : ∃ W, w.alloc (.cells #[.string ⟨#[]⟩, .slice none 0 0, .bool false, .int .i64 0, .int .i64 0, .int .i64 0, .int .i64 0, .int .i64 0, .int .i64 0, .int .i64 0, .bool false, .string ⟨#[]⟩] 75) = W := ⟨_, rfl⟩
  have hQ : W.heap[w.heap.size]? = some (.cells #[.string ⟨#[]⟩, .slice none 0 0, .bool false, .int .i64 0, .int .i64 0, .int .i64 0, .int .i64 0, .int .i64 0, .int .i64 0, .int .i64 0, .bool false, .string ⟨#[]⟩] 75 (0, 0)) := by rw [← hW]; exact heap_last w _
  have HB1 : Hid (Below w.heap.size w W) := by show Below _ _ _; rw [← hW]; exact (Below.refl _ _).alloc (Nat.le_refl _) _
  have H1 := Lib.hid (H.out.keep HB1.out (Nat.le_refl _))
  rw [hW]
  obtain ⟨Z, eZ⟩ : ∃ Z, w.heap.size = Z := ⟨_, rfl⟩
  have HEZ := Lib.hid eZ
  rw [eZ] at hQ hRl ⊢
  have HQ := Lib.hid hQ
  clear hW hQ eZ H
  go_wp2_with fail
  refine (CT.out _ H1.out).mono ?_; rintro e wa ⟨rfl, ha, ga⟩
  dsimp only at ha ⊢
  have HA := Lib.hid ha; have GA := Lib.hid ga
  clear ha ga
  go_upto_region 2 with fail
  obtain ⟨V, hV⟩ : ∃ V, wa.alloc (.cells #[.string ky, .slice none 0 0, .bool false, .int .i64 0, .int .i64 0, .int .i64 0, .int .i64 0, .int .i64 0, .int .i64 0, .int .i64 0, .bool false, .string ⟨#[]⟩] 75) = V := ⟨_, rfl⟩
  have hqg : V.heap[wa.heap.size]? = some (.cells #[.string ky, .slice none 0 0, .bool false, .int .i64 0, .int .i64 0, .int .i64 0, .int .i64 0, .int .i64 0, .int .i64 0, .int .i64 0, .bool false, .string ⟨#[]⟩] 75 (0, 0)) := by rw [← hV]; exact heap_last wa _
  have bV : Below wa.heap.size wa V := by rw [← hV]; exact (Below.refl _ _).alloc (Nat.le_refl _) _
  have sV : V.heap.size = wa.heap.size + 1 := by rw [← hV]; simp
  have HV := Lib.hid (HA.out.keep bV (Nat.le_refl _))
  have GV := Lib.hid (grown_belowW HB1.out (grown_transW GA.out (grown_belowW bV (grown_refl _ (some R)))))
  have hZa := rd_stays GA.out HQ.out (by omega)
  have hZV := below_block bV (block_lt hZa) hZa
  have hZl := block_lt hZa
  rw [hV]
  obtain ⟨g, eg⟩ : ∃ n, wa.heap.size = n := ⟨_, rfl⟩
  rw [eg] at hqg sV hZl ⊢
  have HZV := Lib.hid hZV; have HQG := Lib.hid hqg
  clear hV hqg bV eg hZa hZV GA HA
  go_wp2_with fail
  refine (HC.out _ HV.out).mono ?_; rintro e wS ⟨rfl, ha, ga⟩
  dsimp only at ha ⊢
  obtain ⟨base, hbase⟩ : ∃ b, g + 1 = b := ⟨_, rfl⟩
  have rg : R < g := by omega
  have ng : w.heap.size ≤ g := by rw [HEZ.out]; omega
  have hzS : base ≤ wS.heap.size := by have := ga.size; omega
  have HO : Hid (LsF R g base w wS (fun v => #[.string ky, v, .bool false, .int .i64 0, .int .i64 0, .int .i64 0, .int .i64 0, .int .i64 0, .int .i64 0, .int .i64 0, .bool false, .string ⟨#[]⟩]) 75 78 4 veR (itF rfVe 0 Y b0).1 wS ∧ RfW B wS R (itF rfVe 0 Y b0).2.1 (itF rfVe 0 Y b0).2.2) := ⟨⟨⟨.slice none 0 0, rd_stays ga HQG.out (by omega), ⟨rfl, .inl ⟨rfl, rfl⟩⟩⟩, grown_transW GV.out ga, hzS, fun _ _ _ _ => rfl⟩, ha⟩
  have HZS := Lib.hid (rd_stays ga HZV.out (by omega))
  clear ha ga HC CT HV GV HZV HQG
  go_wp2_with fail
  go_loopw [4] (fun i wr => ∃ m k : Nat, k + m = n ∧ i = .int .i64 m ∧ Hid (LsF R g base w wS (fun v => #[.string ky, v, .bool false, .int .i64 0, .int .i64 0, .int .i64 0, .int .i64 0, .int .i64 0, .int .i64 0, .int .i64 0, .bool false, .string ⟨#[]⟩]) 75 78 4 veR (itF rfVe k Y b0).1 wr ∧ RfW B wr R (itF rfVe k Y b0).2.1 (itF rfVe k Y b0).2.2)) (fun i _ => (intOf i).toNat)
  case atStart => exact ⟨n, 0, by omega, rfl, HO⟩
  case round =>
    clear HO
    obtain ⟨m, k, hkm, rfl, HJ⟩ := hrel
    obtain ⟨wk, rfl⟩ : ∃ wk : World, wk = wr := ⟨_, rfl⟩
    have hil := itF_len rfVe Y b0 k
    obtain ⟨⟨acc, ys, bb⟩, hr⟩ : ∃ r, itF rfVe k Y b0 = r := ⟨_, rfl⟩
    rw [hr] at HJ hil
    dsimp only at HJ hil
    have HRR := Lib.hid hr
    obtain ⟨⟨⟨v, hg, ho⟩, hB, hz, hkp⟩, hw⟩ := HJ.out
    have hB0 := hw.r
    obtain ⟨hBR, p, cap, hR, hS⟩ := hB0
    have kR := block_cells hR
    have H0 := Lib.hid hw; have HG := Lib.hid hg; have HO := Lib.hid ho; have HB := Lib.hid hB; have HKP := Lib.hid hkp
    clear hr hBR hR hS hg ho hB hw hkp HJ
    by_cases hm : m = 0
    · subst hm
      have hd : decide ((0 : Int) < ((0 : Nat) : Int)) = false := by simp
      have HE := Lib.hid (show itF rfVe n Y b0 = (acc, ys, bb) by rw [show n = k by omega]; exact HRR.out)
      obtain ⟨q, c, rfl⟩ := own_formF HO.out
      obtain ⟨⟨f, X3, b3⟩, hr3⟩ : ∃ r, rfF ys bb = r := ⟨_, rfl⟩
      have C3 := Lib.hid (rff_any B R ys bb wk H0.out)
      rw [hr3] at C3
      have HR3 := Lib.hid hr3
      have HL2 := Lib.hid (HLL.out.trans HE.out)
      have HZk := (HKP.out Z (by omega) (by omega) (by omega)).trans HZS.out
      have HN := Lib.hid HEZ.out
      have hgN : g ≠ R := by omega
      clear hr3
      go_wp2_with fail
      refine C3.out.mono ?_; rintro e w3 ⟨rfl, r3, k3⟩
      dsimp only at r3 ⊢
      have HG3 := Lib.hid (rd_stays k3 HG.out (by omega))
      have HZ3 := Lib.hid (rd_stays k3 HZk (by omega))
      have HO3 := Lib.hid (HO.out.kept k3 (by
        cases e : (Value.slice q acc.length c).ownBlock with
        | none => exact .inl rfl
        | some x => exact .inr fun h => by have := (HO.out.lt x e).1; simp only [Option.some.injEq] at h; omega))
      have HB3 := Lib.hid (grown_transW HB.out k3); have HW3 := Lib.hid r3
      have kg := block_cells HG3.out
      have fg := block_free HG3.out
      clear r3 k3 HZk C3 kR HG HO H0 HB HKP HE HRR HLL
      cases f with
      | false =>
        have HRD : Hid (rfCe xs bad = (⟨ky, acc, false, 0, 0, 0, 0, 0, 0, 0, false, ⟨#[]⟩⟩, X3, b3)) := rdMap_is (rd2_is HKY.out (rd2_is HL2.out (rfOpt_no HR3.out)))
        go_upto_region 9 with fail
        obtain ⟨w4, ew4⟩ : ∃ x : World, w3.setCell ⟨g, 2, none⟩ (.bool false) = x := ⟨_, rfl⟩
        have hG4 : w4.heap[g]? = some (.cells #[.string ky, .slice q acc.length c, .bool false, .int .i64 0, .int .i64 0, .int .i64 0, .int .i64 0, .int .i64 0, .int .i64 0, .int .i64 0, .bool false, .string ⟨#[]⟩] 75 (0, 0)) := by rw [← ew4]; exact (cells_setW HG3.out 2 (.bool false)).trans rfl
        have HZ4 := Lib.hid (show w4.heap[Z]? = some (.cells #[.string ⟨#[]⟩, .slice none 0 0, .bool false, .int .i64 0, .int .i64 0, .int .i64 0, .int .i64 0, .int .i64 0, .int .i64 0, .int .i64 0, .bool false, .string ⟨#[]⟩] 75 (0, 0)) from by rw [← ew4]; exact (Below.heap_setCell w3 ⟨g, 2, none⟩ (.bool false) (Z) (by show Z ≠ g; omega)).trans HZ3.out)
        have HB4 : Hid (w.grownBy w4 (some R)) := by
          show World.grownBy _ _ _; rw [← ew4]; exact grown_setFar (HB3.out) (by rw [HN.out]; omega)
        have HW4 : Hid (RfW B w4 R X3 b3) := by
          show RfW _ _ _ _ _; rw [← ew4]; exact ⟨HW3.out.r.setFar (by omega) _, HW3.out.o, HW3.out.l⟩
        have HO4 : Hid (w4.ownsRow base 78 4 (.slice q acc.length c) acc.length (veR acc)) := by
          show World.ownsRow _ _ _ _ _ _ _; rw [← ew4]; exact HO3.out.kept (grown_set w3 g 2 (.bool false)) (by
            cases e : (Value.slice q acc.length c).ownBlock with
            | none => exact .inl rfl
            | some x => exact .inr fun h => by have := (HO3.out.lt x e).1; simp only [Option.some.injEq] at h; omega)
        rw [ew4]
        have HG4 := Lib.hid hG4
        clear ew4 hG4 kg fg HB3 HW3 HO3 HG3
        have kg := block_cells HG4.out
        have kz := block_cells HZ4.out
        have fz := block_free HZ4.out
        go_wp2_with fail
        have hRN := hRl
        have hzF := putL_at HZ4.out [.string ky, .slice q acc.length c, .bool false, .int .i64 0, .int .i64 0, .int .i64 0, .int .i64 0, .int .i64 0, .int .i64 0, .int .i64 0, .bool false, .string ⟨#[]⟩] rfl
        have hbF := putL_gr (g := Z) (w0 := w) (by rw [HN.out]; omega) [.string ky, .slice q acc.length c, .bool false, .int .i64 0, .int .i64 0, .int .i64 0, .int .i64 0, .int .i64 0, .int .i64 0, .int .i64 0, .bool false, .string ⟨#[]⟩] 0 HB4.out
        have hrF := putL_rf (g := Z) (by omega) [.string ky, .slice q acc.length c, .bool false, .int .i64 0, .int .i64 0, .int .i64 0, .int .i64 0, .int .i64 0, .int .i64 0, .int .i64 0, .bool false, .string ⟨#[]⟩] 0 HW4.out.r
        have hoF := HO4.out.kept (row := some (Z)) (putL_gr' (Z) [.string ky, .slice q acc.length c, .bool false, .int .i64 0, .int .i64 0, .int .i64 0, .int .i64 0, .int .i64 0, .int .i64 0, .int .i64 0, .bool false, .string ⟨#[]⟩] 0 w4) (by
          cases e : (Value.slice q acc.length c).ownBlock with
          | none => exact .inl rfl
          | some x => exact .inr fun h => by have := (HO4.out.lt x e).1; simp only [Option.some.injEq] at h; omega)
        simp only [putL, Nat.reduceAdd, Nat.zero_add] at hzF hbF hrF hoF
        have kF := block_cells hzF
        refine bodyPost_ret (v := .agg #[.string ky, .slice q acc.length c, .bool false, .int .i64 0, .int .i64 0, .int .i64 0, .int .i64 0, .int .i64 0, .int .i64 0, .int .i64 0, .bool false, .string ⟨#[]⟩]) ?_ rfl ⟨q, c, by rw [HRD.out], ?_, ?_, hbF⟩
        · simp [results, Try.results75, go_sem, kF]
        · rw [HRD.out]; exact hoF.mono (by rw [HN.out]; omega)
        · rw [HRD.out]; exact ⟨hrF, HW4.out.o, HW4.out.l⟩
      | true =>
        obtain ⟨⟨⟨l1, l2, l3, l4⟩, X4, b4⟩, hr4⟩ : ∃ r, rfY X3 b3 = r := ⟨_, rfl⟩
        obtain ⟨⟨l5, X5, b5⟩, hr5⟩ : ∃ r, rfN X4 b4 = r := ⟨_, rfl⟩
        obtain ⟨⟨⟨l6, l7⟩, X6, b6⟩, hr6⟩ : ∃ r, rfS X5 b5 = r := ⟨_, rfl⟩
        obtain ⟨⟨l8, X7, b7⟩, hr7⟩ : ∃ r, rfF X6 b6 = r := ⟨_, rfl⟩
        obtain ⟨⟨l9, X8, b8⟩, hr8⟩ : ∃ r, rfT X7 b7 = r := ⟨_, rfl⟩
        have C4 : Hid (∀ w', RfW B w' R X3 b3 → Calls Try.prog 67 #[.pointer (some ⟨R, 0, none⟩)] w' fun e w'' => e = .returned (.agg #[.int .i64 l1, .int .i64 l2, .int .i64 l3, .int .i64 l4]) ∧ RfW B w'' R X4 b4 ∧ w'.grownBy w'' (some R)) := fun w' h => by
          have := rfy_any B R X3 b3 w' h; rw [hr4] at this; exact this
        have C5 : Hid (∀ w', RfW B w' R X4 b4 → Calls Try.prog 66 #[.pointer (some ⟨R, 0, none⟩)] w' fun e w'' => e = .returned (.int .i64 l5) ∧ RfW B w'' R X5 b5 ∧ w'.grownBy w'' (some R)) := fun w' h => by
          have := rfn_any B R X4 b4 w' h; rw [hr5] at this; exact this
        have C6 : Hid (∀ w', RfW B w' R X5 b5 → Calls Try.prog 68 #[.pointer (some ⟨R, 0, none⟩)] w' fun e w'' => e = .returned (.agg #[.int .i64 l6, .int .i64 l7]) ∧ RfW B w'' R X6 b6 ∧ w'.grownBy w'' (some R)) := fun w' h => by
          have := rfs_any B R X5 b5 w' h; rw [hr6] at this; exact this
        have C7 : Hid (∀ w', RfW B w' R X6 b6 → Calls Try.prog 69 #[.pointer (some ⟨R, 0, none⟩)] w' fun e w'' => e = .returned (.bool l8) ∧ RfW B w'' R X7 b7 ∧ w'.grownBy w'' (some R)) := fun w' h => by
          have := rff_any B R X6 b6 w' h; rw [hr7] at this; exact this
        have C8 : Hid (∀ w', RfW B w' R X7 b7 → Calls Try.prog 71 #[.pointer (some ⟨R, 0, none⟩)] w' fun e w'' => e = .returned (.string l9) ∧ RfW B w'' R X8 b8 ∧ w'.grownBy w'' (some R)) := fun w' h => by
          have := rft_any B R X7 b7 w' h; rw [hr8] at this; exact this
        have HRD : Hid (rfCe xs bad = (⟨ky, acc, true, l1, l2, l3, l4, l5, l6, l7, l8, l9⟩, X8, b8)) := rdMap_is (rd2_is HKY.out (rd2_is HL2.out (rfOpt_yes HR3.out (rd2_is hr4 (rd2_is hr5 (rd2_is hr6 (rd2_is hr7 hr8)))))))
        clear hr4 hr5 hr6 hr7 hr8
        go_upto_region 8 with fail
        obtain ⟨wt, ewt⟩ : ∃ x : World, w3.setCell ⟨g, 2, none⟩ (.bool true) = x := ⟨_, rfl⟩
        have hGt : wt.heap[g]? = some (.cells #[.string ky, .slice q acc.length c, .bool true, .int .i64 0, .int .i64 0, .int .i64 0, .int .i64 0, .int .i64 0, .int .i64 0, .int .i64 0, .bool false, .string ⟨#[]⟩] 75 (0, 0)) := by rw [← ewt]; exact (cells_setW HG3.out 2 (.bool true)).trans rfl
        have hgt : w3.grownBy wt (some g) := by rw [← ewt]; exact grown_set w3 g 2 (.bool true)
        have hZt : wt.heap[Z]? = some (.cells #[.string ⟨#[]⟩, .slice none 0 0, .bool false, .int .i64 0, .int .i64 0, .int .i64 0, .int .i64 0, .int .i64 0, .int .i64 0, .int .i64 0, .bool false, .string ⟨#[]⟩] 75 (0, 0)) := rd_stays hgt HZ3.out (by omega)
        have hBt : w.grownBy wt (some R) := by rw [← ewt]; exact grown_setFar (HB3.out) (by rw [HN.out]; omega)
        have hWt : RfW B wt R X3 b3 := by rw [← ewt]; exact ⟨HW3.out.r.setFar (by omega) _, HW3.out.o, HW3.out.l⟩
        have hOt : wt.ownsRow base 78 4 (.slice q acc.length c) acc.length (veR acc) := HO3.out.kept hgt (by
          cases e : (Value.slice q acc.length c).ownBlock with
          | none => exact .inl rfl
          | some x => exact .inr fun h => by have := (HO3.out.lt x e).1; simp only [Option.some.injEq] at h; omega)
        rw [ewt]
        have HGt := Lib.hid hGt; have HZt := Lib.hid hZt; have HBt := Lib.hid hBt; have HOt := Lib.hid hOt
        clear ewt hGt kg fg HB3 HW3 HO3 HG3 hZt hBt hOt hgt
        go_wp2_with fail
        refine (C4.out _ hWt).mono ?_; rintro r wc4 ⟨rfl, rc4, kc4⟩
        have qc4 := kc4
        go_wp2_with fail
        refine (C5.out _ rc4).mono ?_; rintro r wc5 ⟨rfl, rc5, kc5⟩
        have qc5 := grown_transW qc4 kc5
        go_wp2_with fail
        refine (C6.out _ rc5).mono ?_; rintro r wc6 ⟨rfl, rc6, kc6⟩
        have qc6 := grown_transW qc5 kc6
        go_wp2_with fail
        refine (C7.out _ rc6).mono ?_; rintro r wc7 ⟨rfl, rc7, kc7⟩
        have qc7 := grown_transW qc6 kc7
        go_wp2_with fail
        refine (C8.out _ rc7).mono ?_; rintro r wc8 ⟨rfl, rc8, kc8⟩
        have qc8 := grown_transW qc7 kc8
        have hG8 := rd_stays qc8 HGt.out hgN
        have kg := block_cells hG8
        have fg := block_free hG8
        go_upto_region 9 with fail
        have hG9 := putL_aux [.int .i64 l1, .int .i64 l2, .int .i64 l3, .int .i64 l4, .int .i64 l5, .int .i64 l6, .int .i64 l7, .bool l8, .string l9] [.int .i64 0, .int .i64 0, .int .i64 0, .int .i64 0, .int .i64 0, .int .i64 0, .int .i64 0, .bool false, .string ⟨#[]⟩] [.string ky, .slice q acc.length c, .bool true] hG8 rfl
        have hZ9 := (putL_far (g := g) (k := Z) (by omega) [.int .i64 l1, .int .i64 l2, .int .i64 l3, .int .i64 l4, .int .i64 l5, .int .i64 l6, .int .i64 l7, .bool l8, .string l9] 3 wc8).trans (rd_stays qc8 HZt.out (by omega))
        have hB9 := putL_gr (g := g) (w0 := w) (by rw [HN.out]; omega) [.int .i64 l1, .int .i64 l2, .int .i64 l3, .int .i64 l4, .int .i64 l5, .int .i64 l6, .int .i64 l7, .bool l8, .string l9] 3 (grown_transW HBt.out qc8)
        have hr9 := putL_rf (g := g) (R := R) (by omega) [.int .i64 l1, .int .i64 l2, .int .i64 l3, .int .i64 l4, .int .i64 l5, .int .i64 l6, .int .i64 l7, .bool l8, .string l9] 3 rc8.r
        have hO8 := HOt.out.kept qc8 (by
          cases e : (Value.slice q acc.length c).ownBlock with
          | none => exact .inl rfl
          | some x => exact .inr fun h => by have := (HOt.out.lt x e).1; simp only [Option.some.injEq] at h; omega)
        have hO9 := hO8.kept (putL_gr' g [.int .i64 l1, .int .i64 l2, .int .i64 l3, .int .i64 l4, .int .i64 l5, .int .i64 l6, .int .i64 l7, .bool l8, .string l9] 3 wc8) (by
          cases e : (Value.slice q acc.length c).ownBlock with
          | none => exact .inl rfl
          | some x => exact .inr fun h => by have := (HOt.out.lt x e).1; simp only [Option.some.injEq] at h; omega)
        obtain ⟨w4, ew4⟩ : ∃ w4 : World, putL g 3 [.int .i64 l1, .int .i64 l2, .int .i64 l3, .int .i64 l4, .int .i64 l5, .int .i64 l6, .int .i64 l7, .bool l8, .string l9] wc8 = w4 := ⟨_, rfl⟩
        have hG9' : w4.heap[g]? = some (.cells #[.string ky, .slice q acc.length c, .bool true, .int .i64 l1, .int .i64 l2, .int .i64 l3, .int .i64 l4, .int .i64 l5, .int .i64 l6, .int .i64 l7, .bool l8, .string l9] 75 (0, 0)) := by rw [← ew4]; exact hG9
        rw [ew4] at hZ9 hB9 hr9 hO9
        simp only [putL, Nat.reduceAdd] at ew4
        rw [ew4]
        clear kg fg hG9 hG8
        have HG4 := Lib.hid hG9'; have HZ4 := Lib.hid hZ9; have HB4 := Lib.hid hB9; have HO4 := Lib.hid hO9
        have HW4 : Hid (RfW B w4 R X8 b8) := ⟨hr9, rc8.o, rc8.l⟩
        clear hG9' hZ9 hB9 hO9 ew4 hO8
        have kg := block_cells HG4.out
        have kz := block_cells HZ4.out
        have fz := block_free HZ4.out
        go_wp2_with fail
        have hRN := hRl
        have hzF := putL_at HZ4.out [.string ky, .slice q acc.length c, .bool true, .int .i64 l1, .int .i64 l2, .int .i64 l3, .int .i64 l4, .int .i64 l5, .int .i64 l6, .int .i64 l7, .bool l8, .string l9] rfl
        have hbF := putL_gr (g := Z) (w0 := w) (by rw [HN.out]; omega) [.string ky, .slice q acc.length c, .bool true, .int .i64 l1, .int .i64 l2, .int .i64 l3, .int .i64 l4, .int .i64 l5, .int .i64 l6, .int .i64 l7, .bool l8, .string l9] 0 HB4.out
        have hrF := putL_rf (g := Z) (by omega) [.string ky, .slice q acc.length c, .bool true, .int .i64 l1, .int .i64 l2, .int .i64 l3, .int .i64 l4, .int .i64 l5, .int .i64 l6, .int .i64 l7, .bool l8, .string l9] 0 HW4.out.r
        have hoF := HO4.out.kept (row := some (Z)) (putL_gr' (Z) [.string ky, .slice q acc.length c, .bool true, .int .i64 l1, .int .i64 l2, .int .i64 l3, .int .i64 l4, .int .i64 l5, .int .i64 l6, .int .i64 l7, .bool l8, .string l9] 0 w4) (by
          cases e : (Value.slice q acc.length c).ownBlock with
          | none => exact .inl rfl
          | some x => exact .inr fun h => by have := (HO4.out.lt x e).1; simp only [Option.some.injEq] at h; omega)
        simp only [putL, Nat.reduceAdd, Nat.zero_add] at hzF hbF hrF hoF
        have kF := block_cells hzF
        refine bodyPost_ret (v := .agg #[.string ky, .slice q acc.length c, .bool true, .int .i64 l1, .int .i64 l2, .int .i64 l3, .int .i64 l4, .int .i64 l5, .int .i64 l6, .int .i64 l7, .bool l8, .string l9]) ?_ rfl ⟨q, c, by rw [HRD.out], ?_, ?_, hbF⟩
        · simp [results, Try.results75, go_sem, kF]
        · rw [HRD.out]; exact hoF.mono (by rw [HN.out]; omega)
        · rw [HRD.out]; exact ⟨hrF, HW4.out.o, HW4.out.l⟩
    have hd : decide ((0 : Int) < (m : Int)) = true := by simp; omega
    cases bb with
    | true =>
      have HE := Lib.hid (show itF rfVe n Y b0 = (acc, ys, true) by rw [← hkm, itF_stop (by rw [HRR.out]) m]; exact HRR.out)
      obtain ⟨q, c, rfl⟩ := own_formF HO.out
      obtain ⟨⟨f, X3, b3⟩, hr3⟩ : ∃ r, rfF ys true = r := ⟨_, rfl⟩
      have C3 := Lib.hid (rff_any B R ys true wk H0.out)
      rw [hr3] at C3
      have HR3 := Lib.hid hr3
      have HL2 := Lib.hid (HLL.out.trans HE.out)
      have HZk := (HKP.out Z (by omega) (by omega) (by omega)).trans HZS.out
      have HN := Lib.hid HEZ.out
      have hgN : g ≠ R := by omega
      clear hr3
      go_wp2_with fail
      refine C3.out.mono ?_; rintro e w3 ⟨rfl, r3, k3⟩
      dsimp only at r3 ⊢
      have HG3 := Lib.hid (rd_stays k3 HG.out (by omega))
      have HZ3 := Lib.hid (rd_stays k3 HZk (by omega))
      have HO3 := Lib.hid (HO.out.kept k3 (by
        cases e : (Value.slice q acc.length c).ownBlock with
        | none => exact .inl rfl
        | some x => exact .inr fun h => by have := (HO.out.lt x e).1; simp only [Option.some.injEq] at h; omega))
      have HB3 := Lib.hid (grown_transW HB.out k3); have HW3 := Lib.hid r3
      have kg := block_cells HG3.out
      have fg := block_free HG3.out
      clear r3 k3 HZk C3 kR HG HO H0 HB HKP HE HRR HLL
      cases f with
      | false =>
        have HRD : Hid (rfCe xs bad = (⟨ky, acc, false, 0, 0, 0, 0, 0, 0, 0, false, ⟨#[]⟩⟩, X3, b3)) := rdMap_is (rd2_is HKY.out (rd2_is HL2.out (rfOpt_no HR3.out)))
        go_upto_region 9 with fail
        obtain ⟨w4, ew4⟩ : ∃ x : World, w3.setCell ⟨g, 2, none⟩ (.bool false) = x := ⟨_, rfl⟩
        have hG4 : w4.heap[g]? = some (.cells #[.string ky, .slice q acc.length c, .bool false, .int .i64 0, .int .i64 0, .int .i64 0, .int .i64 0, .int .i64 0, .int .i64 0, .int .i64 0, .bool false, .string ⟨#[]⟩] 75 (0, 0)) := by rw [← ew4]; exact (cells_setW HG3.out 2 (.bool false)).trans rfl
        have HZ4 := Lib.hid (show w4.heap[Z]? = some (.cells #[.string ⟨#[]⟩, .slice none 0 0, .bool false, .int .i64 0, .int .i64 0, .int .i64 0, .int .i64 0, .int .i64 0, .int .i64 0, .int .i64 0, .bool false, .string ⟨#[]⟩] 75 (0, 0)) from by rw [← ew4]; exact (Below.heap_setCell w3 ⟨g, 2, none⟩ (.bool false) (Z) (by show Z ≠ g; omega)).trans HZ3.out)
        have HB4 : Hid (w.grownBy w4 (some R)) := by
          show World.grownBy _ _ _; rw [← ew4]; exact grown_setFar (HB3.out) (by rw [HN.out]; omega)
        have HW4 : Hid (RfW B w4 R X3 b3) := by
          show RfW _ _ _ _ _; rw [← ew4]; exact ⟨HW3.out.r.setFar (by omega) _, HW3.out.o, HW3.out.l⟩
        have HO4 : Hid (w4.ownsRow base 78 4 (.slice q acc.length c) acc.length (veR acc)) := by
          show World.ownsRow _ _ _ _ _ _ _; rw [← ew4]; exact HO3.out.kept (grown_set w3 g 2 (.bool false)) (by
            cases e : (Value.slice q acc.length c).ownBlock with
            | none => exact .inl rfl
            | some x => exact .inr fun h => by have := (HO3.out.lt x e).1; simp only [Option.some.injEq] at h; omega)
        rw [ew4]
        have HG4 := Lib.hid hG4
        clear ew4 hG4 kg fg HB3 HW3 HO3 HG3
        have kg := block_cells HG4.out
        have kz := block_cells HZ4.out
        have fz := block_free HZ4.out
        go_wp2_with fail
        have hRN := hRl
        have hzF := putL_at HZ4.out [.string ky, .slice q acc.length c, .bool false, .int .i64 0, .int .i64 0, .int .i64 0, .int .i64 0, .int .i64 0, .int .i64 0, .int .i64 0, .bool false, .string ⟨#[]⟩] rfl
        have hbF := putL_gr (g := Z) (w0 := w) (by rw [HN.out]; omega) [.string ky, .slice q acc.length c, .bool false, .int .i64 0, .int .i64 0, .int .i64 0, .int .i64 0, .int .i64 0, .int .i64 0, .int .i64 0, .bool false, .string ⟨#[]⟩] 0 HB4.out
        have hrF := putL_rf (g := Z) (by omega) [.string ky, .slice q acc.length c, .bool false, .int .i64 0, .int .i64 0, .int .i64 0, .int .i64 0, .int .i64 0, .int .i64 0, .int .i64 0, .bool false, .string ⟨#[]⟩] 0 HW4.out.r
        have hoF := HO4.out.kept (row := some (Z)) (putL_gr' (Z) [.string ky, .slice q acc.length c, .bool false, .int .i64 0, .int .i64 0, .int .i64 0, .int .i64 0, .int .i64 0, .int .i64 0, .int .i64 0, .bool false, .string ⟨#[]⟩] 0 w4) (by
          cases e : (Value.slice q acc.length c).ownBlock with
          | none => exact .inl rfl
          | some x => exact .inr fun h => by have := (HO4.out.lt x e).1; simp only [Option.some.injEq] at h; omega)
        simp only [putL, Nat.reduceAdd, Nat.zero_add] at hzF hbF hrF hoF
        have kF := block_cells hzF
        refine bodyPost_ret (v := .agg #[.string ky, .slice q acc.length c, .bool false, .int .i64 0, .int .i64 0, .int .i64 0, .int .i64 0, .int .i64 0, .int .i64 0, .int .i64 0, .bool false, .string ⟨#[]⟩]) ?_ rfl ⟨q, c, by rw [HRD.out], ?_, ?_, hbF⟩
        · simp [results, Try.results75, go_sem, kF]
        · rw [HRD.out]; exact hoF.mono (by rw [HN.out]; omega)
        · rw [HRD.out]; exact ⟨hrF, HW4.out.o, HW4.out.l⟩
      | true =>
        obtain ⟨⟨⟨l1, l2, l3, l4⟩, X4, b4⟩, hr4⟩ : ∃ r, rfY X3 b3 = r := ⟨_, rfl⟩
        obtain ⟨⟨l5, X5, b5⟩, hr5⟩ : ∃ r, rfN X4 b4 = r := ⟨_, rfl⟩
        obtain ⟨⟨⟨l6, l7⟩, X6, b6⟩, hr6⟩ : ∃ r, rfS X5 b5 = r := ⟨_, rfl⟩
        obtain ⟨⟨l8, X7, b7⟩, hr7⟩ : ∃ r, rfF X6 b6 = r := ⟨_, rfl⟩
        obtain ⟨⟨l9, X8, b8⟩, hr8⟩ : ∃ r, rfT X7 b7 = r := ⟨_, rfl⟩
        have C4 : Hid (∀ w', RfW B w' R X3 b3 → Calls Try.prog 67 #[.pointer (some ⟨R, 0, none⟩)] w' fun e w'' => e = .returned (.agg #[.int .i64 l1, .int .i64 l2, .int .i64 l3, .int .i64 l4]) ∧ RfW B w'' R X4 b4 ∧ w'.grownBy w'' (some R)) := fun w' h => by
          have := rfy_any B R X3 b3 w' h; rw [hr4] at this; exact this
        have C5 : Hid (∀ w', RfW B w' R X4 b4 → Calls Try.prog 66 #[.pointer (some ⟨R, 0, none⟩)] w' fun e w'' => e = .returned (.int .i64 l5) ∧ RfW B w'' R X5 b5 ∧ w'.grownBy w'' (some R)) := fun w' h => by
          have := rfn_any B R X4 b4 w' h; rw [hr5] at this; exact this
        have C6 : Hid (∀ w', RfW B w' R X5 b5 → Calls Try.prog 68 #[.pointer (some ⟨R, 0, none⟩)] w' fun e w'' => e = .returned (.agg #[.int .i64 l6, .int .i64 l7]) ∧ RfW B w'' R X6 b6 ∧ w'.grownBy w'' (some R)) := fun w' h => by
          have := rfs_any B R X5 b5 w' h; rw [hr6] at this; exact this
        have C7 : Hid (∀ w', RfW B w' R X6 b6 → Calls Try.prog 69 #[.pointer (some ⟨R, 0, none⟩)] w' fun e w'' => e = .returned (.bool l8) ∧ RfW B w'' R X7 b7 ∧ w'.grownBy w'' (some R)) := fun w' h => by
          have := rff_any B R X6 b6 w' h; rw [hr7] at this; exact this
        have C8 : Hid (∀ w', RfW B w' R X7 b7 → Calls Try.prog 71 #[.pointer (some ⟨R, 0, none⟩)] w' fun e w'' => e = .returned (.string l9) ∧ RfW B w'' R X8 b8 ∧ w'.grownBy w'' (some R)) := fun w' h => by
          have := rft_any B R X7 b7 w' h; rw [hr8] at this; exact this
        have HRD : Hid (rfCe xs bad = (⟨ky, acc, true, l1, l2, l3, l4, l5, l6, l7, l8, l9⟩, X8, b8)) := rdMap_is (rd2_is HKY.out (rd2_is HL2.out (rfOpt_yes HR3.out (rd2_is hr4 (rd2_is hr5 (rd2_is hr6 (rd2_is hr7 hr8)))))))
        clear hr4 hr5 hr6 hr7 hr8
        go_upto_region 8 with fail
        obtain ⟨wt, ewt⟩ : ∃ x : World, w3.setCell ⟨g, 2, none⟩ (.bool true) = x := ⟨_, rfl⟩
        have hGt : wt.heap[g]? = some (.cells #[.string ky, .slice q acc.length c, .bool true, .int .i64 0, .int .i64 0, .int .i64 0, .int .i64 0, .int .i64 0, .int .i64 0, .int .i64 0, .bool false, .string ⟨#[]⟩] 75 (0, 0)) := by rw [← ewt]; exact (cells_setW HG3.out 2 (.bool true)).trans rfl
        have hgt : w3.grownBy wt (some g) := by rw [← ewt]; exact grown_set w3 g 2 (.bool true)
        have hZt : wt.heap[Z]? = some (.cells #[.string ⟨#[]⟩, .slice none 0 0, .bool false, .int .i64 0, .int .i64 0, .int .i64 0, .int .i64 0, .int .i64 0, .int .i64 0, .int .i64 0, .bool false, .string ⟨#[]⟩] 75 (0, 0)) := rd_stays hgt HZ3.out (by omega)
        have hBt : w.grownBy wt (some R) := by rw [← ewt]; exact grown_setFar (HB3.out) (by rw [HN.out]; omega)
        have hWt : RfW B wt R X3 b3 := by rw [← ewt]; exact ⟨HW3.out.r.setFar (by omega) _, HW3.out.o, HW3.out.l⟩
        have hOt : wt.ownsRow base 78 4 (.slice q acc.length c) acc.length (veR acc) := HO3.out.kept hgt (by
          cases e : (Value.slice q acc.length c).ownBlock with
          | none => exact .inl rfl
          | some x => exact .inr fun h => by have := (HO3.out.lt x e).1; simp only [Option.some.injEq] at h; omega)
        rw [ewt]
        have HGt := Lib.hid hGt; have HZt := Lib.hid hZt; have HBt := Lib.hid hBt; have HOt := Lib.hid hOt
        clear ewt hGt kg fg HB3 HW3 HO3 HG3 hZt hBt hOt hgt
        go_wp2_with fail
        refine (C4.out _ hWt).mono ?_; rintro r wc4 ⟨rfl, rc4, kc4⟩
        have qc4 := kc4
        go_wp2_with fail
        refine (C5.out _ rc4).mono ?_; rintro r wc5 ⟨rfl, rc5, kc5⟩
        have qc5 := grown_transW qc4 kc5
        go_wp2_with fail
        refine (C6.out _ rc5).mono ?_; rintro r wc6 ⟨rfl, rc6, kc6⟩
        have qc6 := grown_transW qc5 kc6
        go_wp2_with fail
        refine (C7.out _ rc6).mono ?_; rintro r wc7 ⟨rfl, rc7, kc7⟩
        have qc7 := grown_transW qc6 kc7
        go_wp2_with fail
        refine (C8.out _ rc7).mono ?_; rintro r wc8 ⟨rfl, rc8, kc8⟩
        have qc8 := grown_transW qc7 kc8
        have hG8 := rd_stays qc8 HGt.out hgN
        have kg := block_cells hG8
        have fg := block_free hG8
        go_upto_region 9 with fail
        have hG9 := putL_aux [.int .i64 l1, .int .i64 l2, .int .i64 l3, .int .i64 l4, .int .i64 l5, .int .i64 l6, .int .i64 l7, .bool l8, .string l9] [.int .i64 0, .int .i64 0, .int .i64 0, .int .i64 0, .int .i64 0, .int .i64 0, .int .i64 0, .bool false, .string ⟨#[]⟩] [.string ky, .slice q acc.length c, .bool true] hG8 rfl
        have hZ9 := (putL_far (g := g) (k := Z) (by omega) [.int .i64 l1, .int .i64 l2, .int .i64 l3, .int .i64 l4, .int .i64 l5, .int .i64 l6, .int .i64 l7, .bool l8, .string l9] 3 wc8).trans (rd_stays qc8 HZt.out (by omega))
        have hB9 := putL_gr (g := g) (w0 := w) (by rw [HN.out]; omega) [.int .i64 l1, .int .i64 l2, .int .i64 l3, .int .i64 l4, .int .i64 l5, .int .i64 l6, .int .i64 l7, .bool l8, .string l9] 3 (grown_transW HBt.out qc8)
        have hr9 := putL_rf (g := g) (R := R) (by omega) [.int .i64 l1, .int .i64 l2, .int .i64 l3, .int .i64 l4, .int .i64 l5, .int .i64 l6, .int .i64 l7, .bool l8, .string l9] 3 rc8.r
        have hO8 := HOt.out.kept qc8 (by
          cases e : (Value.slice q acc.length c).ownBlock with
          | none => exact .inl rfl
          | some x => exact .inr fun h => by have := (HOt.out.lt x e).1; simp only [Option.some.injEq] at h; omega)
        have hO9 := hO8.kept (putL_gr' g [.int .i64 l1, .int .i64 l2, .int .i64 l3, .int .i64 l4, .int .i64 l5, .int .i64 l6, .int .i64 l7, .bool l8, .string l9] 3 wc8) (by
          cases e : (Value.slice q acc.length c).ownBlock with
          | none => exact .inl rfl
          | some x => exact .inr fun h => by have := (HOt.out.lt x e).1; simp only [Option.some.injEq] at h; omega)
        obtain ⟨w4, ew4⟩ : ∃ w4 : World, putL g 3 [.int .i64 l1, .int .i64 l2, .int .i64 l3, .int .i64 l4, .int .i64 l5, .int .i64 l6, .int .i64 l7, .bool l8, .string l9] wc8 = w4 := ⟨_, rfl⟩
        have hG9' : w4.heap[g]? = some (.cells #[.string ky, .slice q acc.length c, .bool true, .int .i64 l1, .int .i64 l2, .int .i64 l3, .int .i64 l4, .int .i64 l5, .int .i64 l6, .int .i64 l7, .bool l8, .string l9] 75 (0, 0)) := by rw [← ew4]; exact hG9
        rw [ew4] at hZ9 hB9 hr9 hO9
        simp only [putL, Nat.reduceAdd] at ew4
        rw [ew4]
        clear kg fg hG9 hG8
        have HG4 := Lib.hid hG9'; have HZ4 := Lib.hid hZ9; have HB4 := Lib.hid hB9; have HO4 := Lib.hid hO9
        have HW4 : Hid (RfW B w4 R X8 b8) := ⟨hr9, rc8.o, rc8.l⟩
        clear hG9' hZ9 hB9 hO9 ew4 hO8
        have kg := block_cells HG4.out
        have kz := block_cells HZ4.out
        have fz := block_free HZ4.out
        go_wp2_with fail
        have hRN := hRl
        have hzF := putL_at HZ4.out [.string ky, .slice q acc.length c, .bool true, .int .i64 l1, .int .i64 l2, .int .i64 l3, .int .i64 l4, .int .i64 l5, .int .i64 l6, .int .i64 l7, .bool l8, .string l9] rfl
        have hbF := putL_gr (g := Z) (w0 := w) (by rw [HN.out]; omega) [.string ky, .slice q acc.length c, .bool true, .int .i64 l1, .int .i64 l2, .int .i64 l3, .int .i64 l4, .int .i64 l5, .int .i64 l6, .int .i64 l7, .bool l8, .string l9] 0 HB4.out
        have hrF := putL_rf (g := Z) (by omega) [.string ky, .slice q acc.length c, .bool true, .int .i64 l1, .int .i64 l2, .int .i64 l3, .int .i64 l4, .int .i64 l5, .int .i64 l6, .int .i64 l7, .bool l8, .string l9] 0 HW4.out.r
        have hoF := HO4.out.kept (row := some (Z)) (putL_gr' (Z) [.string ky, .slice q acc.length c, .bool true, .int .i64 l1, .int .i64 l2, .int .i64 l3, .int .i64 l4, .int .i64 l5, .int .i64 l6, .int .i64 l7, .bool l8, .string l9] 0 w4) (by
          cases e : (Value.slice q acc.length c).ownBlock with
          | none => exact .inl rfl
          | some x => exact .inr fun h => by have := (HO4.out.lt x e).1; simp only [Option.some.injEq] at h; omega)
        simp only [putL, Nat.reduceAdd, Nat.zero_add] at hzF hbF hrF hoF
        have kF := block_cells hzF
        refine bodyPost_ret (v := .agg #[.string ky, .slice q acc.length c, .bool true, .int .i64 l1, .int .i64 l2, .int .i64 l3, .int .i64 l4, .int .i64 l5, .int .i64 l6, .int .i64 l7, .bool l8, .string l9]) ?_ rfl ⟨q, c, by rw [HRD.out], ?_, ?_, hbF⟩
        · simp [results, Try.results75, go_sem, kF]
        · rw [HRD.out]; exact hoF.mono (by rw [HN.out]; omega)
        · rw [HRD.out]; exact ⟨hrF, HW4.out.o, HW4.out.l⟩
    | false =>
      obtain ⟨⟨⟨s1, s2⟩, X1, b1⟩, hr1⟩ : ∃ r, rfS ys false = r := ⟨_, rfl⟩
      obtain ⟨⟨f1, X2, b2⟩, hr2⟩ : ∃ r, rfF X1 b1 = r := ⟨_, rfl⟩
      obtain ⟨⟨t1, X3, b3⟩, hr3⟩ : ∃ r, rfT X2 b2 = r := ⟨_, rfl⟩
      have hx : rfVe ys false = (⟨s1, s2, f1, t1⟩, X3, b3) := rdMap_is (rd2_is hr1 (rd2_is hr2 hr3))
      have HNX := Lib.hid (itF_next HRR.out hx)
      have C1 := Lib.hid (fun w' => rfs_any B R ys false w')
      have C2 := Lib.hid (fun w' => rff_any B R X1 b1 w')
      have C3 := Lib.hid (fun w' => rft_any B R X2 b2 w')
      rw [hr1] at C1; rw [hr2] at C2; rw [hr3] at C3
      have KG : Hid (∀ w', wk.grownBy w' (some R) → ∀ j, w'.cell? ⟨g, j, none⟩ = #[.string ky, v, .bool false, .int .i64 0, .int .i64 0, .int .i64 0, .int .i64 0, .int .i64 0, .int .i64 0, .int .i64 0, .bool false, .string ⟨#[]⟩][j]?) := fun w' h => block_cells (rd_stays h HG.out (by omega))
      have hkl : acc.length ≤ 65536 := by omega
      clear hr1 hr2 hr3 hx
      go_upto_region 5 with fail
      have g0 : wk.grownBy wk.drew (some R) := grown_drewW (grown_refl wk _)
      have r0 := H0.out.drew
      refine wp_region_held_drew (S := fun w' => KpB base R g wk w') (by kernel_rfl) (kpB_gr hz g0) (fun hHeld => ?_)
      obtain ⟨wd, ewd⟩ : ∃ x, wk.drew = x := ⟨_, rfl⟩
      rw [ewd] at g0 r0 hHeld ⊢
      clear ewd
      refine wpAnyH_take (i := 0) (v := ?_) rfl (by kernel_rfl) (by kernel_rfl) (by kernel_rfl) (fun _ _ _ h => h) (Or.inl ⟨by rfl, ?_⟩) hHeld ?_
      rotate_left
      · (intro wz hSw; (try dsimp only at hSw); (try simp only [List.getElem_toArray, List.getElem_cons_zero]); go_simp; try with_reducible rfl)
      try simp only [List.getElem_toArray, List.getElem_cons_zero, Act.put, List.setIfInBounds_toArray, List.set_cons_zero, List.set_cons_succ]
      refine wpAnyH_take (i := 2) (v := ?_) rfl (by kernel_rfl) (by kernel_rfl) (by kernel_rfl) (fun _ _ _ h => h) (Or.inl ⟨by rfl, ?_⟩) hHeld ?_
      rotate_left
      · (intro wz hSw; (try dsimp only at hSw); (try simp only [List.getElem_toArray, List.getElem_cons_succ, List.getElem_cons_zero]); go_simp; try with_reducible rfl)
      try simp only [List.getElem_toArray, List.getElem_cons_succ, List.getElem_cons_zero, Act.put, List.setIfInBounds_toArray, List.set_cons_zero, List.set_cons_succ]
      refine wpAnyH_take (i := 4) (v := ?_) rfl (by kernel_rfl) (by kernel_rfl) (by kernel_rfl) (fun _ _ _ h => h) (Or.inl ⟨by rfl, ?_⟩) hHeld ?_
      rotate_left
      · (intro wz hSw; (try dsimp only at hSw); (try simp only [List.getElem_toArray, List.getElem_cons_succ, List.getElem_cons_zero]); go_simp; try with_reducible rfl)
      try simp only [List.getElem_toArray, List.getElem_cons_succ, List.getElem_cons_zero, Act.put, List.setIfInBounds_toArray, List.set_cons_zero, List.set_cons_succ]
      refine wpAnyH_take (i := 6) (v := ?_) rfl (by kernel_rfl) (by kernel_rfl) (by kernel_rfl) (fun _ _ _ h => h) (Or.inl ⟨by rfl, ?_⟩) hHeld ?_
      rotate_left
      · (intro wz hSw; (try dsimp only at hSw); (try simp only [List.getElem_toArray, List.getElem_cons_succ, List.getElem_cons_zero]); go_simp; try with_reducible rfl)
      try simp only [List.getElem_toArray, List.getElem_cons_succ, List.getElem_cons_zero, Act.put, List.setIfInBounds_toArray, List.set_cons_zero, List.set_cons_succ]
      clear hHeld
      apply cutG (R := fun G w' => wk.grownBy w' (some R) ∧ RfW B w' R X3 b3 ∧ w'.heap[G]? = some (.cells [.int .i64 s1, .int .i64 s2, .bool f1, .string t1].toArray 78 (0, 0)))
      · intro hcut
        have hHeld := kpB_gr (g := g) hz g0
        refine wpAnyH_ready (rs := [1, 3]) (by kernel_rfl) (by simp) ?_
        refine AllReadyH.cons rfl (fun K hK => ?_) (AllReadyH.cons rfl (fun K hK => ?_) AllReadyH.nil)
        · skip
          try simp only [List.getElem_toArray, List.getElem_cons_succ, List.getElem_cons_zero]
          have kg := KG.out wd g0
          go_simp
          clear kg
          refine hK.out _ _ hHeld (fun _ => ?_)
          clear hK K
          try simp only [List.getElem_toArray, List.getElem_cons_succ, List.getElem_cons_zero, Act.put, List.setIfInBounds_toArray, List.set_cons_zero, List.set_cons_succ]
          refine wpAnyH_ready (rs := [3]) (by kernel_rfl) (by simp) ?_
          refine AllReadyH.cons rfl (fun K hK => ?_) AllReadyH.nil
          try simp only [List.getElem_toArray, List.getElem_cons_succ, List.getElem_cons_zero]
          go_simp
          refine (C1.out _ r0).mono ?_; rintro r w2 ⟨rfl, r2, k2⟩
          dsimp only at r2 ⊢
          have g2 := grown_transW g0 k2
          refine hK.out _ _ (kpB_gr hz g2) (fun _ => ?_)
          clear hK K hHeld
          try simp only [List.getElem_toArray, List.getElem_cons_succ, List.getElem_cons_zero, Act.put, List.setIfInBounds_toArray, List.set_cons_zero, List.set_cons_succ]
          have hHeld := kpB_gr (g := g) hz g2
          refine wpAnyH_ready (rs := [5]) (by kernel_rfl) (by simp) ?_
          refine AllReadyH.cons rfl (fun K hK => ?_) AllReadyH.nil
          try simp only [List.getElem_toArray, List.getElem_cons_succ, List.getElem_cons_zero]
          go_simp
          refine (C2.out _ r2).mono ?_; rintro r w3 ⟨rfl, r3, k3⟩
          dsimp only at r3 ⊢
          have g3 := grown_transW g2 k3
          refine hK.out _ _ (kpB_gr hz g3) (fun _ => ?_)
          clear hK K hHeld
          try simp only [List.getElem_toArray, List.getElem_cons_succ, List.getElem_cons_zero, Act.put, List.setIfInBounds_toArray, List.set_cons_zero, List.set_cons_succ]
          have hHeld := kpB_gr (g := g) hz g3
          refine wpAnyH_ready (rs := [7]) (by kernel_rfl) (by simp) ?_
          refine AllReadyH.cons rfl (fun K hK => ?_) AllReadyH.nil
          try simp only [List.getElem_toArray, List.getElem_cons_succ, List.getElem_cons_zero]
          go_simp
          refine (C3.out _ r3).mono ?_; rintro r w4 ⟨rfl, r4, k4⟩
          dsimp only at r4 ⊢
          have g4 := grown_transW g3 k4
          refine hK.out _ _ (kpB_gr hz g4) (fun _ => ?_)
          clear hK K hHeld
          try simp only [List.getElem_toArray, List.getElem_cons_succ, List.getElem_cons_zero, Act.put, List.setIfInBounds_toArray, List.set_cons_zero, List.set_cons_succ]
          have hHeld := kpB_gr (g := g) hz g4
          refine wpAnyH_take (i := 8) (v := ?_) rfl (by kernel_rfl) (by kernel_rfl) (by kernel_rfl) (fun _ _ _ h => h) (Or.inl ⟨by rfl, ?_⟩) hHeld ?_
          rotate_left
          · (intro wz hSw; (try dsimp only at hSw); (try simp only [List.getElem_toArray, List.getElem_cons_succ, List.getElem_cons_zero]); go_simp; try with_reducible rfl)
          try simp only [List.getElem_toArray, List.getElem_cons_succ, List.getElem_cons_zero, Act.put, List.setIfInBounds_toArray, List.set_cons_zero, List.set_cons_succ]
          refine wpAnyH_ready (rs := [9]) (by kernel_rfl) (by simp) ?_
          refine AllReadyH.cons rfl (fun K hK => ?_) AllReadyH.nil
          try simp only [List.getElem_toArray, List.getElem_cons_succ, List.getElem_cons_zero]
          go_simp
          obtain ⟨wb5, ew5⟩ : ∃ x : World, w4.alloc (.cells #[.int .i64 s1, .int .i64 s2, .bool f1, .string t1] 78) = x := ⟨_, rfl⟩
          have bl5 : Below w4.heap.size w4 wb5 := by rw [← ew5]; exact (Below.refl _ _).alloc (Nat.le_refl _) _
          have q5 : wb5.heap[w4.heap.size]? = some (.cells [.int .i64 s1, .int .i64 s2, .bool f1, .string t1].toArray 78 (0, 0)) := by rw [← ew5]; exact heap_last w4 _
          have g5 := grown_transW g4 (grown_below bl5 (some R))
          have r5 := r4.keep bl5 (Nat.le_refl _)
          rw [ew5]
          obtain ⟨G, eG5⟩ : ∃ n, w4.heap.size = n := ⟨_, rfl⟩
          try rw [eG5]
          rw [eG5] at q5
          refine hK.out _ _ (kpB_gr hz g5) (fun _ => ?_)
          clear hK K hHeld ew5
          try simp only [List.getElem_toArray, List.getElem_cons_succ, List.getElem_cons_zero, Act.put, List.setIfInBounds_toArray, List.set_cons_zero, List.set_cons_succ]
          have hHeld := kpB_gr (g := g) hz g5
          exact hcut G wb5 ⟨g5, r5, q5⟩
        · skip
          try simp only [List.getElem_toArray, List.getElem_cons_succ, List.getElem_cons_zero]
          go_simp
          refine (C1.out _ r0).mono ?_; rintro r w6 ⟨rfl, r6, k6⟩
          dsimp only at r6 ⊢
          have g6 := grown_transW g0 k6
          refine hK.out _ _ (kpB_gr hz g6) (fun _ => ?_)
          clear hK K hHeld
          try simp only [List.getElem_toArray, List.getElem_cons_succ, List.getElem_cons_zero, Act.put, List.setIfInBounds_toArray, List.set_cons_zero, List.set_cons_succ]
          have hHeld := kpB_gr (g := g) hz g6
          refine wpAnyH_ready (rs := [1, 5]) (by kernel_rfl) (by simp) ?_
          refine AllReadyH.cons rfl (fun K hK => ?_) (AllReadyH.cons rfl (fun K hK => ?_) AllReadyH.nil)
          · skip
            try simp only [List.getElem_toArray, List.getElem_cons_succ, List.getElem_cons_zero]
            have kg := KG.out w6 g6
            go_simp
            clear kg
            refine hK.out _ _ hHeld (fun _ => ?_)
            clear hK K
            try simp only [List.getElem_toArray, List.getElem_cons_succ, List.getElem_cons_zero, Act.put, List.setIfInBounds_toArray, List.set_cons_zero, List.set_cons_succ]
            refine wpAnyH_ready (rs := [5]) (by kernel_rfl) (by simp) ?_
            refine AllReadyH.cons rfl (fun K hK => ?_) AllReadyH.nil
            try simp only [List.getElem_toArray, List.getElem_cons_succ, List.getElem_cons_zero]
            go_simp
            refine (C2.out _ r6).mono ?_; rintro r w8 ⟨rfl, r8, k8⟩
            dsimp only at r8 ⊢
            have g8 := grown_transW g6 k8
            refine hK.out _ _ (kpB_gr hz g8) (fun _ => ?_)
            clear hK K hHeld
            try simp only [List.getElem_toArray, List.getElem_cons_succ, List.getElem_cons_zero, Act.put, List.setIfInBounds_toArray, List.set_cons_zero, List.set_cons_succ]
            have hHeld := kpB_gr (g := g) hz g8
            refine wpAnyH_ready (rs := [7]) (by kernel_rfl) (by simp) ?_
            refine AllReadyH.cons rfl (fun K hK => ?_) AllReadyH.nil
            try simp only [List.getElem_toArray, List.getElem_cons_succ, List.getElem_cons_zero]
            go_simp
            refine (C3.out _ r8).mono ?_; rintro r w9 ⟨rfl, r9, k9⟩
            dsimp only at r9 ⊢
            have g9 := grown_transW g8 k9
            refine hK.out _ _ (kpB_gr hz g9) (fun _ => ?_)
            clear hK K hHeld
            try simp only [List.getElem_toArray, List.getElem_cons_succ, List.getElem_cons_zero, Act.put, List.setIfInBounds_toArray, List.set_cons_zero, List.set_cons_succ]
            have hHeld := kpB_gr (g := g) hz g9
            refine wpAnyH_take (i := 8) (v := ?_) rfl (by kernel_rfl) (by kernel_rfl) (by kernel_rfl) (fun _ _ _ h => h) (Or.inl ⟨by rfl, ?_⟩) hHeld ?_
            rotate_left
            · (intro wz hSw; (try dsimp only at hSw); (try simp only [List.getElem_toArray, List.getElem_cons_succ, List.getElem_cons_zero]); go_simp; try with_reducible rfl)
            try simp only [List.getElem_toArray, List.getElem_cons_succ, List.getElem_cons_zero, Act.put, List.setIfInBounds_toArray, List.set_cons_zero, List.set_cons_succ]
            refine wpAnyH_ready (rs := [9]) (by kernel_rfl) (by simp) ?_
            refine AllReadyH.cons rfl (fun K hK => ?_) AllReadyH.nil
            try simp only [List.getElem_toArray, List.getElem_cons_succ, List.getElem_cons_zero]
            go_simp
            obtain ⟨wb10, ew10⟩ : ∃ x : World, w9.alloc (.cells #[.int .i64 s1, .int .i64 s2, .bool f1, .string t1] 78) = x := ⟨_, rfl⟩
            have bl10 : Below w9.heap.size w9 wb10 := by rw [← ew10]; exact (Below.refl _ _).alloc (Nat.le_refl _) _
            have q10 : wb10.heap[w9.heap.size]? = some (.cells [.int .i64 s1, .int .i64 s2, .bool f1, .string t1].toArray 78 (0, 0)) := by rw [← ew10]; exact heap_last w9 _
            have g10 := grown_transW g9 (grown_below bl10 (some R))
            have r10 := r9.keep bl10 (Nat.le_refl _)
            rw [ew10]
            obtain ⟨G, eG10⟩ : ∃ n, w9.heap.size = n := ⟨_, rfl⟩
            try rw [eG10]
            rw [eG10] at q10
            refine hK.out _ _ (kpB_gr hz g10) (fun _ => ?_)
            clear hK K hHeld ew10
            try simp only [List.getElem_toArray, List.getElem_cons_succ, List.getElem_cons_zero, Act.put, List.setIfInBounds_toArray, List.set_cons_zero, List.set_cons_succ]
            have hHeld := kpB_gr (g := g) hz g10
            exact hcut G wb10 ⟨g10, r10, q10⟩
          · skip
            try simp only [List.getElem_toArray, List.getElem_cons_succ, List.getElem_cons_zero]
            go_simp
            refine (C2.out _ r6).mono ?_; rintro r w11 ⟨rfl, r11, k11⟩
            dsimp only at r11 ⊢
            have g11 := grown_transW g6 k11
            refine hK.out _ _ (kpB_gr hz g11) (fun _ => ?_)
            clear hK K hHeld
            try simp only [List.getElem_toArray, List.getElem_cons_succ, List.getElem_cons_zero, Act.put, List.setIfInBounds_toArray, List.set_cons_zero, List.set_cons_succ]
            have hHeld := kpB_gr (g := g) hz g11
            refine wpAnyH_ready (rs := [1, 7]) (by kernel_rfl) (by simp) ?_
            refine AllReadyH.cons rfl (fun K hK => ?_) (AllReadyH.cons rfl (fun K hK => ?_) AllReadyH.nil)
            · skip
              try simp only [List.getElem_toArray, List.getElem_cons_succ, List.getElem_cons_zero]
              have kg := KG.out w11 g11
              go_simp
              clear kg
              refine hK.out _ _ hHeld (fun _ => ?_)
              clear hK K
              try simp only [List.getElem_toArray, List.getElem_cons_succ, List.getElem_cons_zero, Act.put, List.setIfInBounds_toArray, List.set_cons_zero, List.set_cons_succ]
              refine wpAnyH_ready (rs := [7]) (by kernel_rfl) (by simp) ?_
              refine AllReadyH.cons rfl (fun K hK => ?_) AllReadyH.nil
              try simp only [List.getElem_toArray, List.getElem_cons_succ, List.getElem_cons_zero]
              go_simp
              refine (C3.out _ r11).mono ?_; rintro r w13 ⟨rfl, r13, k13⟩
              dsimp only at r13 ⊢
              have g13 := grown_transW g11 k13
              refine hK.out _ _ (kpB_gr hz g13) (fun _ => ?_)
              clear hK K hHeld
              try simp only [List.getElem_toArray, List.getElem_cons_succ, List.getElem_cons_zero, Act.put, List.setIfInBounds_toArray, List.set_cons_zero, List.set_cons_succ]
              have hHeld := kpB_gr (g := g) hz g13
              refine wpAnyH_take (i := 8) (v := ?_) rfl (by kernel_rfl) (by kernel_rfl) (by kernel_rfl) (fun _ _ _ h => h) (Or.inl ⟨by rfl, ?_⟩) hHeld ?_
              rotate_left
              · (intro wz hSw; (try dsimp only at hSw); (try simp only [List.getElem_toArray, List.getElem_cons_succ, List.getElem_cons_zero]); go_simp; try with_reducible rfl)
              try simp only [List.getElem_toArray, List.getElem_cons_succ, List.getElem_cons_zero, Act.put, List.setIfInBounds_toArray, List.set_cons_zero, List.set_cons_succ]
              refine wpAnyH_ready (rs := [9]) (by kernel_rfl) (by simp) ?_
              refine AllReadyH.cons rfl (fun K hK => ?_) AllReadyH.nil
              try simp only [List.getElem_toArray, List.getElem_cons_succ, List.getElem_cons_zero]
              go_simp
              obtain ⟨wb14, ew14⟩ : ∃ x : World, w13.alloc (.cells #[.int .i64 s1, .int .i64 s2, .bool f1, .string t1] 78) = x := ⟨_, rfl⟩
              have bl14 : Below w13.heap.size w13 wb14 := by rw [← ew14]; exact (Below.refl _ _).alloc (Nat.le_refl _) _
              have q14 : wb14.heap[w13.heap.size]? = some (.cells [.int .i64 s1, .int .i64 s2, .bool f1, .string t1].toArray 78 (0, 0)) := by rw [← ew14]; exact heap_last w13 _
              have g14 := grown_transW g13 (grown_below bl14 (some R))
              have r14 := r13.keep bl14 (Nat.le_refl _)
              rw [ew14]
              obtain ⟨G, eG14⟩ : ∃ n, w13.heap.size = n := ⟨_, rfl⟩
              try rw [eG14]
              rw [eG14] at q14
              refine hK.out _ _ (kpB_gr hz g14) (fun _ => ?_)
              clear hK K hHeld ew14
              try simp only [List.getElem_toArray, List.getElem_cons_succ, List.getElem_cons_zero, Act.put, List.setIfInBounds_toArray, List.set_cons_zero, List.set_cons_succ]
              have hHeld := kpB_gr (g := g) hz g14
              exact hcut G wb14 ⟨g14, r14, q14⟩
            · skip
              try simp only [List.getElem_toArray, List.getElem_cons_succ, List.getElem_cons_zero]
              go_simp
              refine (C3.out _ r11).mono ?_; rintro r w15 ⟨rfl, r15, k15⟩
              dsimp only at r15 ⊢
              have g15 := grown_transW g11 k15
              refine hK.out _ _ (kpB_gr hz g15) (fun _ => ?_)
              clear hK K hHeld
              try simp only [List.getElem_toArray, List.getElem_cons_succ, List.getElem_cons_zero, Act.put, List.setIfInBounds_toArray, List.set_cons_zero, List.set_cons_succ]
              have hHeld := kpB_gr (g := g) hz g15
              refine wpAnyH_take (i := 8) (v := ?_) rfl (by kernel_rfl) (by kernel_rfl) (by kernel_rfl) (fun _ _ _ h => h) (Or.inl ⟨by rfl, ?_⟩) hHeld ?_
              rotate_left
              · (intro wz hSw; (try dsimp only at hSw); (try simp only [List.getElem_toArray, List.getElem_cons_succ, List.getElem_cons_zero]); go_simp; try with_reducible rfl)
              try simp only [List.getElem_toArray, List.getElem_cons_succ, List.getElem_cons_zero, Act.put, List.setIfInBounds_toArray, List.set_cons_zero, List.set_cons_succ]
              refine wpAnyH_ready (rs := [1, 9]) (by kernel_rfl) (by simp) ?_
              refine AllReadyH.cons rfl (fun K hK => ?_) (AllReadyH.cons rfl (fun K hK => ?_) AllReadyH.nil)
              · skip
                try simp only [List.getElem_toArray, List.getElem_cons_succ, List.getElem_cons_zero]
                have kg := KG.out w15 g15
                go_simp
                clear kg
                refine hK.out _ _ hHeld (fun _ => ?_)
                clear hK K
                try simp only [List.getElem_toArray, List.getElem_cons_succ, List.getElem_cons_zero, Act.put, List.setIfInBounds_toArray, List.set_cons_zero, List.set_cons_succ]
                refine wpAnyH_ready (rs := [9]) (by kernel_rfl) (by simp) ?_
                refine AllReadyH.cons rfl (fun K hK => ?_) AllReadyH.nil
                try simp only [List.getElem_toArray, List.getElem_cons_succ, List.getElem_cons_zero]
                go_simp
                obtain ⟨wb17, ew17⟩ : ∃ x : World, w15.alloc (.cells #[.int .i64 s1, .int .i64 s2, .bool f1, .string t1] 78) = x := ⟨_, rfl⟩
                have bl17 : Below w15.heap.size w15 wb17 := by rw [← ew17]; exact (Below.refl _ _).alloc (Nat.le_refl _) _
                have q17 : wb17.heap[w15.heap.size]? = some (.cells [.int .i64 s1, .int .i64 s2, .bool f1, .string t1].toArray 78 (0, 0)) := by rw [← ew17]; exact heap_last w15 _
                have g17 := grown_transW g15 (grown_below bl17 (some R))
                have r17 := r15.keep bl17 (Nat.le_refl _)
                rw [ew17]
                obtain ⟨G, eG17⟩ : ∃ n, w15.heap.size = n := ⟨_, rfl⟩
                try rw [eG17]
                rw [eG17] at q17
                refine hK.out _ _ (kpB_gr hz g17) (fun _ => ?_)
                clear hK K hHeld ew17
                try simp only [List.getElem_toArray, List.getElem_cons_succ, List.getElem_cons_zero, Act.put, List.setIfInBounds_toArray, List.set_cons_zero, List.set_cons_succ]
                have hHeld := kpB_gr (g := g) hz g17
                exact hcut G wb17 ⟨g17, r17, q17⟩
              · skip
                try simp only [List.getElem_toArray, List.getElem_cons_succ, List.getElem_cons_zero]
                go_simp
                obtain ⟨wb18, ew18⟩ : ∃ x : World, w15.alloc (.cells #[.int .i64 s1, .int .i64 s2, .bool f1, .string t1] 78) = x := ⟨_, rfl⟩
                have bl18 : Below w15.heap.size w15 wb18 := by rw [← ew18]; exact (Below.refl _ _).alloc (Nat.le_refl _) _
                have q18 : wb18.heap[w15.heap.size]? = some (.cells [.int .i64 s1, .int .i64 s2, .bool f1, .string t1].toArray 78 (0, 0)) := by rw [← ew18]; exact heap_last w15 _
                have g18 := grown_transW g15 (grown_below bl18 (some R))
                have r18 := r15.keep bl18 (Nat.le_refl _)
                rw [ew18]
                obtain ⟨G, eG18⟩ : ∃ n, w15.heap.size = n := ⟨_, rfl⟩
                try rw [eG18]
                rw [eG18] at q18
                refine hK.out _ _ (kpB_gr hz g18) (fun _ => ?_)
                clear hK K hHeld ew18
                try simp only [List.getElem_toArray, List.getElem_cons_succ, List.getElem_cons_zero, Act.put, List.setIfInBounds_toArray, List.set_cons_zero, List.set_cons_succ]
                have hHeld := kpB_gr (g := g) hz g18
                refine wpAnyH_ready (rs := [1]) (by kernel_rfl) (by simp) ?_
                refine AllReadyH.cons rfl (fun K hK => ?_) AllReadyH.nil
                try simp only [List.getElem_toArray, List.getElem_cons_succ, List.getElem_cons_zero]
                have kg := KG.out wb18 g18
                go_simp
                clear kg
                refine hK.out _ _ hHeld (fun _ => ?_)
                clear hK K
                try simp only [List.getElem_toArray, List.getElem_cons_succ, List.getElem_cons_zero, Act.put, List.setIfInBounds_toArray, List.set_cons_zero, List.set_cons_succ]
                exact hcut G wb18 ⟨g18, r18, q18⟩
      intro G wL hRL
      obtain ⟨gL, rL, qL⟩ := hRL
      have hHeld := kpB_gr (g := g) hz gL
      refine wpAnyH_ready (rs := [10]) (by kernel_rfl) (by simp) ?_; refine AllReadyH.cons rfl (fun K hK => ?_) AllReadyH.nil
      rw [if_pos (by rfl)]
      have hne : v.ownBlock = none ∨ v.ownBlock ≠ some R := by
        cases e : v.ownBlock with
        | none => exact .inl rfl
        | some x => exact .inr fun h => by have := (HO.out.lt x e).1; simp only [Option.some.injEq] at h; omega
      have hoL := HO.out.kept gL hne
      refine wp_append_one _ _ 71 (by rfl) base 78 i0 _ 4 40 Try.underlying71 hi hz0 hz1 hz2 rfl (by decide) v acc.length (veR acc) (by rfl) hoL G [.int .i64 s1, .int .i64 s2, .bool f1, .string t1] 78 (by rfl) qL rfl (by intro u hu; simp only [List.mem_cons, List.not_mem_nil, or_false] at hu; rcases hu with rfl | rfl | rfl | rfl <;> rfl) (by unfold maxLen; omega) (by omega) (Nat.le_trans hz gL.size) ?_
      intro v2 wA ho2 hg2 hat
      obtain ⟨g2, cap2, hv2⟩ : ∃ g2 cap2, v2 = .slice (some ⟨g2, 0, none⟩) (acc.length + 1) cap2 := by
        rcases ho2.2 with ⟨-, h⟩ | ⟨g2, cap2, cur2, e, -⟩
        · omega
        · exact ⟨g2, cap2, e⟩
      subst hv2
      have rB : ∀ k, v.ownBlock = some k → base ≤ k := fun k hk => (HO.out.lt k hk).1
      have hGL := rd_stays gL HG.out (by omega)
      have hBl : Below base wL wA := (Below.refl _ _).grown hg2 (Nat.le_trans hz gL.size) rB
      have rA := rL.keepR hBl (by omega)
      have hGA := (hg2.block g (block_lt hGL) (fun e => by have := rB g e.symm; omega)).trans hGL
      have hBA : w.grownBy wA (some R) := grown_row (grown_transW HB.out gL) hg2 (fun k hk => by have := rB k hk; omega)
      have hzA : base ≤ wA.heap.size := Nat.le_trans hz (Nat.le_trans gL.size hg2.size)
      have hSA : KpB base R g wk wA := fun k hk hr hgk => (hg2.block k (by have := gL.size; omega) (fun e => by have := rB k e.symm; omega)).trans (hHeld k hk hr hgk)
      refine hK.out _ _ hSA (fun _ => ?_)
      clear hK K hHeld gL rL qL hoL hg2 hat hGL KG hBl
      try simp only [List.getElem_toArray, List.getElem_cons_succ, List.getElem_cons_zero, Act.put, List.setIfInBounds_toArray, List.set_cons_zero, List.set_cons_succ]
      have hHeld := hSA
      refine wpAnyH_take (i := 11) (v := ?_) rfl (by kernel_rfl) (by kernel_rfl) (by kernel_rfl) (fun _ _ _ h => h) (Or.inl ⟨by rfl, ?_⟩) hHeld ?_
      rotate_left
      · (intro wz hSw; (try dsimp only at hSw); (try simp only [List.getElem_toArray, List.getElem_cons_succ, List.getElem_cons_zero]); go_simp; try with_reducible rfl)
      try simp only [List.getElem_toArray, List.getElem_cons_succ, List.getElem_cons_zero, Act.put, List.setIfInBounds_toArray, List.set_cons_zero, List.set_cons_succ]
      have kg := block_cells hGA
      have fg := block_free hGA
      refine wpAnyH_ready (rs := [12]) (by kernel_rfl) (by simp) ?_; refine AllReadyH.cons rfl (fun K hK => ?_) AllReadyH.nil; (try simp only [List.getElem_toArray, List.getElem_cons_succ, List.getElem_cons_zero]); go_simp
      have hGB := (cells_setW hGA 1 (Value.slice (some ⟨g2, 0, none⟩) (acc.length + 1) cap2)).trans rfl
      have rC : RfW B (wA.setCell ⟨g, 1, none⟩ (Value.slice (some ⟨g2, 0, none⟩) (acc.length + 1) cap2)) R X3 b3 := rA.setFar rg (Value.slice (some ⟨g2, 0, none⟩) (acc.length + 1) cap2)
      have hBB := grown_setFar (j := 1) (v := (Value.slice (some ⟨g2, 0, none⟩) (acc.length + 1) cap2)) hBA ng
      have hoB := ho2.kept (grown_set wA g 1 (Value.slice (some ⟨g2, 0, none⟩) (acc.length + 1) cap2)) (by
        cases e : ((Value.slice (some ⟨g2, 0, none⟩) (acc.length + 1) cap2)).ownBlock with
        | none => exact .inl rfl
        | some x => exact .inr fun h => by have := (ho2.lt x e).1; simp only [Option.some.injEq] at h; omega)
      have hSB : KpB base R g wk (wA.setCell ⟨g, 1, none⟩ (Value.slice (some ⟨g2, 0, none⟩) (acc.length + 1) cap2)) := fun k hk hr hgk => (Below.heap_setCell wA ⟨g, 1, none⟩ (Value.slice (some ⟨g2, 0, none⟩) (acc.length + 1) cap2) k hgk).trans (hSA k hk hr hgk)
      refine hK.out _ _ hSB (fun _ => ?_)
      clear hK K hHeld kg fg
      try simp only [List.getElem_toArray, List.getElem_cons_succ, List.getElem_cons_zero, Act.put, List.setIfInBounds_toArray, List.set_cons_zero, List.set_cons_succ]
      refine wpAnyH_done (by kernel_rfl) ?_ _
      have e1 : veR (acc ++ [⟨s1, s2, f1, t1⟩]) = veR acc ++ [.int .i64 s1, .int .i64 s2, .bool f1, .string t1] := by simp [veR]
      rw [← e1] at hoB
      have hzB : base ≤ (wA.setCell ⟨g, 1, none⟩ (Value.slice (some ⟨g2, 0, none⟩) (acc.length + 1) cap2)).heap.size := by simpa [World.setCell] using hzA
      have HO2 : Hid (LsF R g base w wS (fun v => #[.string ky, v, .bool false, .int .i64 0, .int .i64 0, .int .i64 0, .int .i64 0, .int .i64 0, .int .i64 0, .int .i64 0, .bool false, .string ⟨#[]⟩]) 75 78 4 veR (itF rfVe (k + 1) Y b0).1 (wA.setCell ⟨g, 1, none⟩ (Value.slice (some ⟨g2, 0, none⟩) (acc.length + 1) cap2)) ∧ RfW B (wA.setCell ⟨g, 1, none⟩ (Value.slice (some ⟨g2, 0, none⟩) (acc.length + 1) cap2)) R (itF rfVe (k + 1) Y b0).2.1 (itF rfVe (k + 1) Y b0).2.2) := by
        show _ ∧ _
        rw [HNX.out]
        refine ⟨⟨⟨(Value.slice (some ⟨g2, 0, none⟩) (acc.length + 1) cap2), hGB, ?_⟩, hBB, hzB, HKP.out.trans hSB⟩, rC⟩
        rw [List.length_append]; exact hoB
      clear hoB hGB hBB hSB rC hzB hSA hBA rA hGA ho2 HKP HNX HO HB H0 HG
      go_wp2_with fail
      go_roundw
      case rel => exact ⟨m - 1, k + 1, by omega, by go_num, HO2⟩
      case measure => simp [intOf]; omega
end Go.Proofs.Ytmhmlpfkdpjlaaa
