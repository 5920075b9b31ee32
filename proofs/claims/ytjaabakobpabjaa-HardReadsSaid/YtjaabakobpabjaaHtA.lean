/- Hard: the reference's steps of reading; entries up to a number. -/
import Derived.Test.YtjaabakobpabjaaHrA
import Derived.Test.YtjaabakobpabjaaRfL
import Derived.Test.YtjaabakobpabjaaHsA
namespace Go.Proofs.Ytjaabakobpabjaa
open Go.ChangeShapes Go.WideShapes Go.ChangeAt Go.RowKit

set_option maxRecDepth 100000 in
set_option maxHeartbeats 8000000 in
theorem rhnum_any (B R : Nat) (xs : List Int) (bad : Bool) (w : World) (h : RfW B w R xs bad) :
    Calls Try.prog 63 #[.pointer (some ⟨R, 0, none⟩)] w (RfE B R w (Value.int .i64) (rfNm xs bad)) := by
  have HN := Lib.hid (rfn_any B R xs bad w h)
  have hC : rfNm xs bad = if (rfN xs bad).1 < 0 ∨ 1125899906842624 < (rfN xs bad).1 then (0, (rfN xs bad).2.1, true) else rfN xs bad := rfl
  obtain ⟨⟨v, ys, b⟩, hr⟩ : ∃ r, rfN xs bad = r := ⟨_, rfl⟩
  rw [hr] at HN hC
  dsimp only at hC
  clear hr h
  have hcs : v < 0 ∨ (¬ v < 0 ∧ 1125899906842624 < v) ∨ (¬ v < 0 ∧ ¬ 1125899906842624 < v) := by omega
  rcases hcs with hl | ⟨hl, hg⟩ | ⟨hl, hg⟩
  · have hd : decide (v < 0) = true := by simpa using hl
    rw [hC, if_pos (.inl hl)]
    clear hC hl
    go_enter Try.func63, Try.ntmps63
    go_wp2_with fail
    refine HN.out.mono ?_; rintro e w1 ⟨rfl, h1, g1⟩
    dsimp only at h1 ⊢
    have H1 := Lib.hid h1; have G1 := Lib.hid g1
    obtain ⟨hB, p, cap, hR, hS⟩ := h1.r
    have kR := block_cells hR
    have fR := block_free hR
    clear hR hS h1 g1
    go_wp2_with fail
    go_ret
    exact ⟨rfl, H1.out.setBad _, grown_transW G1.out (grown_setW _ _ _ _)⟩
  · have hd : decide (v < 0) = false := by simpa using hl
    have hd2 : decide (1125899906842624 < v) = true := by simpa using hg
    rw [hC, if_pos (.inr hg)]
    clear hC hl hg
    go_enter Try.func63, Try.ntmps63
    go_wp2_with fail
    refine HN.out.mono ?_; rintro e w1 ⟨rfl, h1, g1⟩
    dsimp only at h1 ⊢
    have H1 := Lib.hid h1; have G1 := Lib.hid g1
    obtain ⟨hB, p, cap, hR, hS⟩ := h1.r
    have kR := block_cells hR
    have fR := block_free hR
    clear hR hS h1 g1
    go_wp2_with fail
    go_ret
    exact ⟨rfl, H1.out.setBad _, grown_transW G1.out (grown_setW _ _ _ _)⟩
  · have hd : decide (v < 0) = false := by simpa using hl
    have hd2 : decide (1125899906842624 < v) = false := by simpa using hg
    rw [hC, if_neg (by omega)]
    clear hC hl hg
    go_enter Try.func63, Try.ntmps63
    go_wp2_with fail
    refine HN.out.mono ?_; rintro e w1 ⟨rfl, h1, g1⟩
    dsimp only at h1 ⊢
    have H1 := Lib.hid h1; have G1 := Lib.hid g1
    clear h1 g1
    go_wp2_with fail
    go_ret
    exact ⟨rfl, H1.out, G1.out⟩
theorem RfW.far {B R A : Nat} {w w' : World} {xs : List Int} {bad : Bool} (h : RfW B w R xs bad) (g : w.grownBy w' (some A)) (hn : R ≠ A) (hA : B ≤ A) : RfW B w' R xs bad := by
  obtain ⟨⟨hB, p, cap, hR, hS⟩, o, l⟩ := h
  have hl := block_lt hR
  exact ⟨⟨hB, p, cap, (g.block R hl (by simpa using hn)).trans hR, hS.keep ((Below.refl B w).grown g (by omega) (fun k e => by cases e; exact hA))⟩, o, l⟩
set_option maxRecDepth 100000 in
set_option maxHeartbeats 16000000 in
theorem rhjoint_any (B R : Nat) (xs : List Int) (bad : Bool) (w : World) (h : RfW B w R xs bad) :
    Calls Try.prog 65 #[.pointer (some ⟨R, 0, none⟩)] w (RfE B R w joV (hrJ xs bad)) := by
  have HN : hrJ xs bad = ((stJ xs).1, (stJ xs).2.1, bad || (stJ xs).2.2) := rfl
  have hbA : Below w.heap.size w (w.alloc (.cells #[.int .u16 0, .int .u16 0, .int .u16 0, .int .i64 0, .int .i64 0, .int .u16 0, .int .u16 0, .int .u16 0, .int .i64 0, .int .i64 0, .bool false] 42)) := (Below.refl _ _).alloc (Nat.le_refl _) _
  have hR0 := h.lt
  have h0 := h.keep hbA (Nat.le_refl _)
  obtain ⟨hB, p, cap, hR, hS⟩ := h0.r
  have HT := Lib.hid (rtakeJoint_any xs (.slice p xs.length cap) _ (hS.mono (by have := hbA.size; omega)) h.o h.l)
  have HOC := Lib.hid h.o
  have HX := Lib.hid hbA
  have H0 := Lib.hid h0; have HS0 := Lib.hid hS; have HB1 := Lib.hid hB; have HR0 := Lib.hid hR
  obtain ⟨pa, ca, hv, h1, h2, -, -⟩ := hS.form
  obtain ⟨rfl, -, rfl⟩ : pa = p ∧ _ ∧ ca = cap := by simp only [Value.slice.injEq] at hv; exact ⟨hv.1.symm, hv.2.1, hv.2.2.symm⟩
  unfold maxLen at h2
  have kR := block_cells hR
  have hA := heap_last w (.cells #[.int .u16 0, .int .u16 0, .int .u16 0, .int .i64 0, .int .i64 0, .int .u16 0, .int .u16 0, .int .u16 0, .int .i64 0, .int .i64 0, .bool false] 42)
  have HA := Lib.hid hA
  clear hR hS hv hB h h0 hbA hA
  go_enter Try.func65, Try.ntmps65
  go_wp2_with fail
  refine HT.out.mono ?_; rintro e w1 ht
  obtain ⟨hb, k, hmx, hdr, hjf, rfl⟩ := tkJ_st HOC.out ht
  clear ht HT
  have hmi : (k : Int) ≤ (xs.length : Int) := by omega
  obtain ⟨⟨j, ys, b⟩, hr⟩ : ∃ r, stJ xs = r := ⟨_, rfl⟩
  rw [hr] at HN hdr ⊢
  dsimp only at HN hdr ⊢
  obtain ⟨W1, hW1⟩ : ∃ x : World, w1.alloc (.cells #[.int .u16 j.o.v, .int .u16 j.o.x, .int .u16 j.o.l, .int .i64 j.o.e, .int .i64 j.o.k, .int .u16 j.n.v, .int .u16 j.n.x, .int .u16 j.n.l, .int .i64 j.n.e, .int .i64 j.n.k, .bool j.two] 42) = x := ⟨_, rfl⟩
  have hb1 := hb.trans ((show Below w1.heap.size w1 W1 by rw [← hW1]; exact (Below.refl _ _).alloc (Nat.le_refl _) _).mono hb.size)
  have hJ1 : W1.heap[w1.heap.size]? = some (.cells #[.int .u16 j.o.v, .int .u16 j.o.x, .int .u16 j.o.l, .int .i64 j.o.e, .int .i64 j.o.k, .int .u16 j.n.v, .int .u16 j.n.x, .int .u16 j.n.l, .int .i64 j.n.e, .int .i64 j.n.k, .bool j.two] 42 (0, 0)) := by rw [← hW1]; exact heap_last w1 _
  have hA1 := below_block hb1 (by simp) HA.out
  have hR1 := below_block hb1 (by have := HX.out.size; omega) HR0.out
  have H1 := Lib.hid (H0.out.keep hb1 (Nat.le_refl _)); have HS1 := Lib.hid (HS0.out.keep (hb1.mono (by have := HX.out.size; have := HB1.out; omega)))
  have HW1 := Lib.hid (HX.out.trans (hb1.mono HX.out.size))
  have hJl : w.heap.size < w1.heap.size := by have := hb.size; simp at this; omega
  obtain ⟨J, eJ⟩ : ∃ n, w1.heap.size = n := ⟨_, rfl⟩
  obtain ⟨A, eA⟩ : ∃ n, w.heap.size = n := ⟨_, rfl⟩
  have kR1 := block_cells hR1
  have fR1 := block_free hR1
  rw [eJ] at hJ1
  have HJ1 := Lib.hid hJ1
  have hHN : hrJ xs bad = (j, ys, bad || b) := HN
  have HN2 := Lib.hid hHN
  have HDR := Lib.hid hdr
  have hstk : b = true → ys = xs := fun e => by
    have h9 : stJ xs = (jo0, xs, true) := by
      cases hb2 : (rdJo xs false).2.2 with
      | true => exact stick_bad hb2
      | false =>
        have := stick_good (a0 := jo0) hb2
        have h8 : (stJ xs).2.2 = false := by show (stick rdJo jo0 xs false).2.2 = false; rw [this]; exact hb2
        rw [hr] at h8; rw [e] at h8; cases h8
    rw [hr] at h9
    exact (congrArg (·.2.1) h9)
  have HST := Lib.hid hstk
  clear HN hr kR hb hb1 hR1 hJ1 hjf hstk hHN hdr
  go_upto_region 2 with fail
  (try rw [hW1]); (try rw [eJ]); (try rw [eA])
  have hneJ : J ≠ R := by omega
  have hneA : A ≠ R := by omega
  have hAB : B ≤ A := by have := HB1.out; omega
  have hA1' := hA1
  rw [eA] at hA1'
  have HAA := Lib.hid hA1'
  have hAle : w.heap.size ≤ A := by omega
  clear hW1 eJ hA1 hA1' hJl eA
  cases b with
  | true =>
    have hys := HST.out rfl
    subst hys
    have HN3 : Hid (hrJ ys bad = (j, ys, true)) := by show _ = _; rw [HN2.out, Bool.or_true]
    clear HN2
    have HN2 := HN3
    go_upto_region 4 with fail
    obtain ⟨W2, hW2⟩ : ∃ x : World, W1.setCell ⟨R, 1, none⟩ (.bool true) = x := ⟨_, rfl⟩
    have X2 := Lib.hid (show RfW B W2 R ys true by rw [← hW2]; exact H1.out.setBad _)
    have G2 : W1.grownBy W2 (some R) := by rw [← hW2]; exact grown_setW _ _ _ _
    have hJ2 := stays_at G2 HJ1.out hneJ
    have hA2 := stays_at G2 HAA.out hneA
    have GG := Lib.hid (grown_belowW HW1.out G2)
    have HA2 := Lib.hid hA2
    rw [hW2]
    have kJ := block_cells hJ2
    have kA := block_cells hA2
    have fA := block_free hA2
    clear hW2 G2 hJ2 hA2 kR1 fR1
    go_wp2_with fail
    have F := putJ_ok HA2.out (.int .u16 j.o.v) (.int .u16 j.o.x) (.int .u16 j.o.l) (.int .i64 j.o.e) (.int .i64 j.o.k) (.int .u16 j.n.v) (.int .u16 j.n.x) (.int .u16 j.n.l) (.int .i64 j.n.e) (.int .i64 j.n.k) (.bool j.two)
    unfold putJ at F
    have kF := block_cells F.1
    refine bodyPost_ret (v := joV j) ?_ rfl ?_
    · simp [results, Try.results65, go_sem, kF]
    · unfold RfE
      rw [HN2.out]
      exact ⟨rfl, X2.out.far F.2 (Ne.symm hneA) hAB, grown_far GG.out F.2 hAle⟩
  | false =>
    have HN3 : Hid (hrJ xs bad = (j, ys, bad)) := by show _ = _; rw [HN2.out, Bool.or_false]
    clear HN2
    have HN2 := HN3
    have hys := HDR.out
    subst hys
    by_cases hc : ca = k
    · have HC := Lib.hid hc
      have hc' : ¬ k < ca := by omega
      clear hc
      go_upto_region 6 with fail
      obtain ⟨W2, hW2⟩ : ∃ x : World, W1.setCell ⟨R, 0, none⟩ (.slice pa (xs.length - k) (ca - k)) = x := ⟨_, rfl⟩
      have X2 := Lib.hid (show RfW B W2 R (xs.drop k) bad by rw [← hW2]; exact RfS.on0 H1.out HS1.out hmx HC.out)
      have G2 : W1.grownBy W2 (some R) := by rw [← hW2]; exact grown_setW _ _ _ _
      have hJ2 := stays_at G2 HJ1.out hneJ
      have hA2 := stays_at G2 HAA.out hneA
      have GG := Lib.hid (grown_belowW HW1.out G2)
      have HA2 := Lib.hid hA2
      try simp only [if_pos HC.out]
      rw [hW2]
      have kJ := block_cells hJ2
      have kA := block_cells hA2
      have fA := block_free hA2
      clear hW2 G2 hJ2 hA2 kR1 fR1
      go_wp2_with fail
      have F := putJ_ok HA2.out (.int .u16 j.o.v) (.int .u16 j.o.x) (.int .u16 j.o.l) (.int .i64 j.o.e) (.int .i64 j.o.k) (.int .u16 j.n.v) (.int .u16 j.n.x) (.int .u16 j.n.l) (.int .i64 j.n.e) (.int .i64 j.n.k) (.bool j.two)
      unfold putJ at F
      have kF := block_cells F.1
      refine bodyPost_ret (v := joV j) ?_ rfl ?_
      · simp [results, Try.results65, go_sem, kF]
      · unfold RfE
        rw [HN2.out]
        exact ⟨rfl, X2.out.far F.2 (Ne.symm hneA) hAB, grown_far GG.out F.2 hAle⟩
    · have HC := Lib.hid hc
      have hc' : k < ca := by omega
      clear hc
      go_upto_region 6 with fail
      obtain ⟨W2, hW2⟩ : ∃ x : World, W1.setCell ⟨R, 0, none⟩ (.slice (Option.map (fun x => x.add k) pa) (xs.length - k) (ca - k)) = x := ⟨_, rfl⟩
      have X2 := Lib.hid (show RfW B W2 R (xs.drop k) bad by rw [← hW2]; exact RfS.on H1.out HS1.out hmx HC.out)
      have G2 : W1.grownBy W2 (some R) := by rw [← hW2]; exact grown_setW _ _ _ _
      have hJ2 := stays_at G2 HJ1.out hneJ
      have hA2 := stays_at G2 HAA.out hneA
      have GG := Lib.hid (grown_belowW HW1.out G2)
      have HA2 := Lib.hid hA2
      try simp only [if_neg HC.out]
      rw [hW2]
      have kJ := block_cells hJ2
      have kA := block_cells hA2
      have fA := block_free hA2
      clear hW2 G2 hJ2 hA2 kR1 fR1
      go_wp2_with fail
      have F := putJ_ok HA2.out (.int .u16 j.o.v) (.int .u16 j.o.x) (.int .u16 j.o.l) (.int .i64 j.o.e) (.int .i64 j.o.k) (.int .u16 j.n.v) (.int .u16 j.n.x) (.int .u16 j.n.l) (.int .i64 j.n.e) (.int .i64 j.n.k) (.bool j.two)
      unfold putJ at F
      have kF := block_cells F.1
      refine bodyPost_ret (v := joV j) ?_ rfl ?_
      · simp [results, Try.results65, go_sem, kF]
      · unfold RfE
        rw [HN2.out]
        exact ⟨rfl, X2.out.far F.2 (Ne.symm hneA) hAB, grown_far GG.out F.2 hAle⟩
end Go.Proofs.Ytjaabakobpabjaa
