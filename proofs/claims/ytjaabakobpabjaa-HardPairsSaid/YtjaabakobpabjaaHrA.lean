/- Hard: package hard's reader: its steps. -/
import Derived.Test.YtjaabakobpabjaaRdE
import Derived.Test.YtjaabakobpabjaaRdH
import Derived.Test.YtjaabakobpabjaaLogL
namespace Go.Proofs.Ytjaabakobpabjaa
open Go.ChangeShapes Go.WideShapes Go.ChangeAt Go.RowKit

set_option maxRecDepth 100000 in
set_option maxHeartbeats 8000000 in
theorem hrnum_any (B R : Nat) (xs : List Int) (bad : Bool) (w : World) (h : HrW B w R xs bad) :
    Calls Try.prog 29 #[.pointer (some ⟨R, 0, none⟩)] w (HrE B R w (Value.int .i64) (rdNw xs bad)) := by
  have HN : rdNw xs bad = (zagI (takeV xs).1, xs.drop (takeV xs).2.1.toNat, bad || decide ((takeV xs).2.2 ≠ 0)) := rfl
  have hbd := takeGo_ok xs 0 0 1 (by omega) h.o (by omega) (by omega) (by simp)
  have htv : takeGo xs 0 0 1 = takeV xs := rfl
  rw [htv] at hbd
  obtain ⟨hB, p, cap, hR, hS⟩ := h.r
  have HT := Lib.hid (takeVar_any B _ xs h.o w hS)
  obtain ⟨⟨u, n, er⟩, ht⟩ : ∃ t, takeV xs = t := ⟨_, rfl⟩
  rw [ht] at HT HN hbd
  dsimp only at HT HN hbd
  obtain ⟨u0, u1, n0, n1, -, -⟩ := hbd
  obtain ⟨k, rfl⟩ := Int.eq_ofNat_of_zero_le n0
  rw [Int.toNat_natCast] at HN
  have hmx : k ≤ xs.length := by omega
  have hmi : (k : Int) ≤ (xs.length : Int) := by omega
  have HZ := Lib.hid (fun w => zag_any u w u0 u1)
  have H1 := Lib.hid h; have HS1 := Lib.hid hS; have HB1 := Lib.hid hB
  obtain ⟨pa, ca, hv, h1, h2, -, -⟩ := hS.form
  obtain ⟨rfl, -, rfl⟩ : pa = p ∧ _ ∧ ca = cap := by simp only [Value.slice.injEq] at hv; exact ⟨hv.1.symm, hv.2.1, hv.2.2.symm⟩
  unfold maxLen at h2
  have kR := block_cells hR
  have fR := block_free hR
  clear ht htv hR hS hv n1 hB h
  have hcs : bad = true ∨ (bad = false ∧ er ≠ 0) ∨ (bad = false ∧ er = 0) := by
    cases bad
    · by_cases h0 : er = 0
      · exact .inr (.inr ⟨rfl, h0⟩)
      · exact .inr (.inl ⟨rfl, h0⟩)
    · exact .inl rfl
  rcases hcs with rfl | ⟨rfl, hb⟩ | ⟨rfl, rfl⟩
  · have hE : (true || decide (er ≠ 0)) = true := rfl
    rw [HN, hE]
    clear HN hE
    by_cases hc : ca = k
    · have HC := Lib.hid hc
      have hc' : ¬ k < ca := by omega
      clear hc
      go_enter Try.func29, Try.ntmps29
      go_wp2_with fail
      refine HT.out.mono ?_; rintro e w' ⟨rfl, rfl⟩
      go_wp2_with fail
      refine (HZ.out _).mono ?_; rintro e w3 ⟨rfl, rfl⟩
      go_wp2_with fail
      go_ret
      exact ⟨rfl, HrS.on0 (H1.out.setBad _) (sl_setW HS1.out HB1.out _) hmx HC.out, grown_transW (grown_setW _ _ _ _) (grown_setW _ _ _ _)⟩
    · have HC := Lib.hid hc
      have hc' : k < ca := by omega
      clear hc
      go_enter Try.func29, Try.ntmps29
      go_wp2_with fail
      refine HT.out.mono ?_; rintro e w' ⟨rfl, rfl⟩
      go_wp2_with fail
      refine (HZ.out _).mono ?_; rintro e w3 ⟨rfl, rfl⟩
      go_wp2_with fail
      go_ret
      exact ⟨rfl, HrS.on (H1.out.setBad _) (sl_setW HS1.out HB1.out _) hmx HC.out, grown_transW (grown_setW _ _ _ _) (grown_setW _ _ _ _)⟩
  · have hq : (er != 0) = true := by simpa using hb
    have hE : (false || decide (er ≠ 0)) = true := by simpa using hb
    rw [HN, hE]
    clear HN hE hb
    by_cases hc : ca = k
    · have HC := Lib.hid hc
      have hc' : ¬ k < ca := by omega
      clear hc
      go_enter Try.func29, Try.ntmps29
      go_wp2_with fail
      refine HT.out.mono ?_; rintro e w' ⟨rfl, rfl⟩
      go_wp2_with fail
      refine (HZ.out _).mono ?_; rintro e w3 ⟨rfl, rfl⟩
      go_wp2_with fail
      go_ret
      exact ⟨rfl, HrS.on0 (H1.out.setBad _) (sl_setW HS1.out HB1.out _) hmx HC.out, grown_transW (grown_setW _ _ _ _) (grown_setW _ _ _ _)⟩
    · have HC := Lib.hid hc
      have hc' : k < ca := by omega
      clear hc
      go_enter Try.func29, Try.ntmps29
      go_wp2_with fail
      refine HT.out.mono ?_; rintro e w' ⟨rfl, rfl⟩
      go_wp2_with fail
      refine (HZ.out _).mono ?_; rintro e w3 ⟨rfl, rfl⟩
      go_wp2_with fail
      go_ret
      exact ⟨rfl, HrS.on (H1.out.setBad _) (sl_setW HS1.out HB1.out _) hmx HC.out, grown_transW (grown_setW _ _ _ _) (grown_setW _ _ _ _)⟩
  · have hE : (false || decide ((0 : Int) ≠ 0)) = false := rfl
    rw [HN, hE]
    clear HN hE
    by_cases hc : ca = k
    · have HC := Lib.hid hc
      have hc' : ¬ k < ca := by omega
      clear hc
      go_enter Try.func29, Try.ntmps29
      go_wp2_with fail
      refine HT.out.mono ?_; rintro e w' ⟨rfl, rfl⟩
      go_wp2_with fail
      refine (HZ.out _).mono ?_; rintro e w3 ⟨rfl, rfl⟩
      go_wp2_with fail
      go_ret
      exact ⟨rfl, HrS.on0 (H1.out.setBad _) (sl_setW HS1.out HB1.out _) hmx HC.out, grown_transW (grown_setW _ _ _ _) (grown_setW _ _ _ _)⟩
    · have HC := Lib.hid hc
      have hc' : k < ca := by omega
      clear hc
      go_enter Try.func29, Try.ntmps29
      go_wp2_with fail
      refine HT.out.mono ?_; rintro e w' ⟨rfl, rfl⟩
      go_wp2_with fail
      refine (HZ.out _).mono ?_; rintro e w3 ⟨rfl, rfl⟩
      go_wp2_with fail
      go_ret
      exact ⟨rfl, HrS.on (H1.out.setBad _) (sl_setW HS1.out HB1.out _) hmx HC.out, grown_transW (grown_setW _ _ _ _) (grown_setW _ _ _ _)⟩
set_option maxRecDepth 100000 in
set_option maxHeartbeats 8000000 in
theorem hrcount_any (B R : Nat) (xs : List Int) (bad : Bool) (w : World) (h : HrW B w R xs bad) :
    Calls Try.prog 56 #[.pointer (some ⟨R, 0, none⟩)] w (HrE B R w (Value.int .i64) (hrC xs bad)) := by
  have HN := Lib.hid (hrnum_any B R xs bad w h)
  have hC : hrC xs bad = ((rdNw xs bad).1, (rdNw xs bad).2.1, (rdNw xs bad).2.2 || decide ((rdNw xs bad).1 < 0) || decide (1125899906842624 < (rdNw xs bad).1)) := rfl
  obtain ⟨⟨v, ys, b⟩, hr⟩ : ∃ r, rdNw xs bad = r := ⟨_, rfl⟩
  rw [hr] at HN hC
  dsimp only at hC
  clear hr h
  have hcs : b = true ∨ (b = false ∧ v < 0) ∨ (b = false ∧ ¬ v < 0 ∧ 1125899906842624 < v) ∨ (b = false ∧ ¬ v < 0 ∧ ¬ 1125899906842624 < v) := by
    cases b
    · right; simp only [true_and]; omega
    · exact .inl rfl
  rcases hcs with rfl | ⟨rfl, hl⟩ | ⟨rfl, hl, hg⟩ | ⟨rfl, hl, hg⟩
  · have hE : hrC xs bad = (v, ys, true) := by rw [hC]; simp
    rw [hE]
    clear hE hC
    go_enter Try.func56, Try.ntmps56
    go_wp2_with fail
    refine HN.out.mono ?_; rintro e w1 ⟨rfl, h1, g1⟩
    dsimp only at h1 ⊢
    have H1 := Lib.hid h1; have G1 := Lib.hid g1
    obtain ⟨hB, p, cap, hR, hS⟩ := h1.r
    have kR := block_cells hR
    have fR := block_free hR
    clear hR hS h1 g1
    go_wp2_with fail
    go_ret
    exact ⟨rfl, H1.out.setBad _, grown_transW G1.out (grown_setW _ _ _ _)⟩
  · have hd : decide (v < 0) = true := by simpa using hl
    have hE : hrC xs bad = (v, ys, true) := by rw [hC]; simp [hd]
    rw [hE]
    clear hE hC hl
    go_enter Try.func56, Try.ntmps56
    go_wp2_with fail
    refine HN.out.mono ?_; rintro e w1 ⟨rfl, h1, g1⟩
    dsimp only at h1 ⊢
    have H1 := Lib.hid h1; have G1 := Lib.hid g1
    obtain ⟨hB, p, cap, hR, hS⟩ := h1.r
    have kR := block_cells hR
    have fR := block_free hR
    clear hR hS h1 g1
    go_wp2_with fail
    go_ret
    exact ⟨rfl, H1.out.setBad _, grown_transW G1.out (grown_setW _ _ _ _)⟩
  · have hd : decide (v < 0) = false := by simpa using hl
    have hd2 : decide (1125899906842624 < v) = true := by simpa using hg
    have hE : hrC xs bad = (v, ys, true) := by rw [hC]; simp [hd2]
    rw [hE]
    clear hE hC hl hg
    go_enter Try.func56, Try.ntmps56
    go_wp2_with fail
    refine HN.out.mono ?_; rintro e w1 ⟨rfl, h1, g1⟩
    dsimp only at h1 ⊢
    have H1 := Lib.hid h1; have G1 := Lib.hid g1
    obtain ⟨hB, p, cap, hR, hS⟩ := h1.r
    have kR := block_cells hR
    have fR := block_free hR
    clear hR hS h1 g1
    go_wp2_with fail
    go_ret
    exact ⟨rfl, H1.out.setBad _, grown_transW G1.out (grown_setW _ _ _ _)⟩
  · have hd : decide (v < 0) = false := by simpa using hl
    have hd2 : decide (1125899906842624 < v) = false := by simpa using hg
    have hE : hrC xs bad = (v, ys, false) := by rw [hC]; simp [hd, hd2]
    rw [hE]
    clear hE hC hl hg
    go_enter Try.func56, Try.ntmps56
    go_wp2_with fail
    refine HN.out.mono ?_; rintro e w1 ⟨rfl, h1, g1⟩
    dsimp only at h1 ⊢
    have H1 := Lib.hid h1; have G1 := Lib.hid g1
    obtain ⟨hB, p, cap, hR, hS⟩ := h1.r
    have kR := block_cells hR
    have fR := block_free hR
    clear hR hS h1 g1
    go_wp2_with fail
    go_ret
    exact ⟨rfl, H1.out.setBad _, grown_transW G1.out (grown_setW _ _ _ _)⟩
theorem own_neR {w : World} {b R : Nat} {e : TypeId} {sz n : Nat} {v : Value} {xs : List Value} (ho : w.ownsRow b e sz v n xs) (h : R < b) : v.ownBlock = none ∨ v.ownBlock ≠ some R := by
  cases e1 : v.ownBlock with
  | none => exact .inl rfl
  | some x => exact .inr fun h2 => by have := (ho.lt x e1).1; simp only [Option.some.injEq] at h2; omega
set_option maxRecDepth 100000 in
set_option maxHeartbeats 8000000 in
theorem hrtext_any (B R : Nat) (xs : List Int) (bad : Bool) (w : World) (h : HrW B w R xs bad) :
    Calls Try.prog 58 #[.pointer (some ⟨R, 0, none⟩)] w (HrE B R w Value.string (rdTw xs bad)) := by
  have HN : rdTw xs bad = (strOfNums (textR xs).1, xs.drop (textR xs).2.1.toNat, bad || decide ((textR xs).2.2 ≠ 0)) := rfl
  obtain ⟨hB, p, cap, hR, hS⟩ := h.r
  have hRl := block_lt hR
  have HT := Lib.hid (takeText_any B _ xs h.o w hS (by omega) (by have := h.l; omega))
  have hn0 : 0 ≤ (textR xs).2.1 ∧ (textR xs).2.1 ≤ xs.length := by
    have hbd := takeGo_ok xs 0 0 1 (by omega) h.o (by omega) (by omega) (by simp)
    have htv : takeGo xs 0 0 1 = takeV xs := rfl
    rw [htv] at hbd
    unfold textR
    split
    · exact ⟨Int.le_refl _, by dsimp only; omega⟩
    · split
      · exact ⟨Int.le_refl _, by dsimp only; omega⟩
      · split
        · exact ⟨Int.le_refl _, by dsimp only; omega⟩
        · dsimp only; omega
  obtain ⟨⟨tx, n, er⟩, ht⟩ : ∃ t, textR xs = t := ⟨_, rfl⟩
  rw [ht] at HT HN hn0
  dsimp only at HN hn0
  obtain ⟨n0, n1⟩ := hn0
  obtain ⟨k, rfl⟩ := Int.eq_ofNat_of_zero_le n0
  rw [Int.toNat_natCast] at HN
  have hmx : k ≤ xs.length := by omega
  have hmi : (k : Int) ≤ (xs.length : Int) := by omega
  have H0 := Lib.hid h; have HS0 := Lib.hid hS; have HB1 := Lib.hid hB; have HR0 := Lib.hid hR
  obtain ⟨pa, ca, hv, h1, h2, -, -⟩ := hS.form
  obtain ⟨rfl, -, rfl⟩ : pa = p ∧ _ ∧ ca = cap := by simp only [Value.slice.injEq] at hv; exact ⟨hv.1.symm, hv.2.1, hv.2.2.symm⟩
  unfold maxLen at h2
  have kR := block_cells hR
  clear ht hR hS hv n1 n0 hB h
  have hcs : bad = true ∨ (bad = false ∧ er ≠ 0) ∨ (bad = false ∧ er = 0) := by
    cases bad
    · by_cases h0 : er = 0
      · exact .inr (.inr ⟨rfl, h0⟩)
      · exact .inr (.inl ⟨rfl, h0⟩)
    · exact .inl rfl
  rcases hcs with rfl | ⟨rfl, hb⟩ | ⟨rfl, rfl⟩
  · have hE : (true || decide (er ≠ 0)) = true := rfl
    rw [HN, hE]
    clear HN hE
    by_cases hc : ca = k
    · have HC := Lib.hid hc
      have hc' : ¬ k < ca := by omega
      clear hc
      go_enter Try.func58, Try.ntmps58
      go_wp2_with fail
      refine HT.out.mono ?_; rintro e w0 ⟨v0, rfl, ho, hb0⟩
      dsimp only at ho ⊢
      have hR1 := below_block hb0 hRl HR0.out
      have kR1 := block_cells hR1
      have fR1 := block_free hR1
      have H1 := Lib.hid (H0.out.keep hb0 (Nat.le_refl _)); have HS1 := Lib.hid (HS0.out.keep (hb0.mono (Nat.le_trans HB1.out (Nat.le_of_lt hRl))))
      have HG0 := Lib.hid hb0; have HO := Lib.hid ho
      go_upto_region 4 with fail
      have G := grown_transW (grown_setW w0 R 1 (.bool true)) (grown_setW (w0.setCell ⟨R, 1, none⟩ (.bool true)) R 0 (.slice pa (xs.length - k) (ca - k)))
      have HG := Lib.hid G
      have hcv := run_convert_sl (P := Try.prog) (Sl.of_own (HO.out.kept G (own_neR HO.out hRl))) 32 5 Try.underlying32 Try.underlying5 9 Try.underlying9
      clear G kR kR1 fR1 hR1 ho hb0 HT
      go_wp2_with fail
      go_ret
      exact ⟨rfl, HrS.on0 (H1.out.setBad _) (sl_setW HS1.out HB1.out _) hmx HC.out, grown_belowW HG0.out HG.out⟩
    · have HC := Lib.hid hc
      have hc' : k < ca := by omega
      clear hc
      go_enter Try.func58, Try.ntmps58
      go_wp2_with fail
      refine HT.out.mono ?_; rintro e w0 ⟨v0, rfl, ho, hb0⟩
      dsimp only at ho ⊢
      have hR1 := below_block hb0 hRl HR0.out
      have kR1 := block_cells hR1
      have fR1 := block_free hR1
      have H1 := Lib.hid (H0.out.keep hb0 (Nat.le_refl _)); have HS1 := Lib.hid (HS0.out.keep (hb0.mono (Nat.le_trans HB1.out (Nat.le_of_lt hRl))))
      have HG0 := Lib.hid hb0; have HO := Lib.hid ho
      go_upto_region 4 with fail
      have G := grown_transW (grown_setW w0 R 1 (.bool true)) (grown_setW (w0.setCell ⟨R, 1, none⟩ (.bool true)) R 0 (.slice (Option.map (fun x => x.add k) pa) (xs.length - k) (ca - k)))
      have HG := Lib.hid G
      have hcv := run_convert_sl (P := Try.prog) (Sl.of_own (HO.out.kept G (own_neR HO.out hRl))) 32 5 Try.underlying32 Try.underlying5 9 Try.underlying9
      clear G kR kR1 fR1 hR1 ho hb0 HT
      go_wp2_with fail
      go_ret
      exact ⟨rfl, HrS.on (H1.out.setBad _) (sl_setW HS1.out HB1.out _) hmx HC.out, grown_belowW HG0.out HG.out⟩
  · have hq : (er != 0) = true := by simpa using hb
    have hE : (false || decide (er ≠ 0)) = true := by simpa using hb
    rw [HN, hE]
    clear HN hE hb
    by_cases hc : ca = k
    · have HC := Lib.hid hc
      have hc' : ¬ k < ca := by omega
      clear hc
      go_enter Try.func58, Try.ntmps58
      go_wp2_with fail
      refine HT.out.mono ?_; rintro e w0 ⟨v0, rfl, ho, hb0⟩
      dsimp only at ho ⊢
      have hR1 := below_block hb0 hRl HR0.out
      have kR1 := block_cells hR1
      have fR1 := block_free hR1
      have H1 := Lib.hid (H0.out.keep hb0 (Nat.le_refl _)); have HS1 := Lib.hid (HS0.out.keep (hb0.mono (Nat.le_trans HB1.out (Nat.le_of_lt hRl))))
      have HG0 := Lib.hid hb0; have HO := Lib.hid ho
      go_upto_region 4 with fail
      have G := grown_transW (grown_setW w0 R 1 (.bool true)) (grown_setW (w0.setCell ⟨R, 1, none⟩ (.bool true)) R 0 (.slice pa (xs.length - k) (ca - k)))
      have HG := Lib.hid G
      have hcv := run_convert_sl (P := Try.prog) (Sl.of_own (HO.out.kept G (own_neR HO.out hRl))) 32 5 Try.underlying32 Try.underlying5 9 Try.underlying9
      clear G kR kR1 fR1 hR1 ho hb0 HT
      go_wp2_with fail
      go_ret
      exact ⟨rfl, HrS.on0 (H1.out.setBad _) (sl_setW HS1.out HB1.out _) hmx HC.out, grown_belowW HG0.out HG.out⟩
    · have HC := Lib.hid hc
      have hc' : k < ca := by omega
      clear hc
      go_enter Try.func58, Try.ntmps58
      go_wp2_with fail
      refine HT.out.mono ?_; rintro e w0 ⟨v0, rfl, ho, hb0⟩
      dsimp only at ho ⊢
      have hR1 := below_block hb0 hRl HR0.out
      have kR1 := block_cells hR1
      have fR1 := block_free hR1
      have H1 := Lib.hid (H0.out.keep hb0 (Nat.le_refl _)); have HS1 := Lib.hid (HS0.out.keep (hb0.mono (Nat.le_trans HB1.out (Nat.le_of_lt hRl))))
      have HG0 := Lib.hid hb0; have HO := Lib.hid ho
      go_upto_region 4 with fail
      have G := grown_transW (grown_setW w0 R 1 (.bool true)) (grown_setW (w0.setCell ⟨R, 1, none⟩ (.bool true)) R 0 (.slice (Option.map (fun x => x.add k) pa) (xs.length - k) (ca - k)))
      have HG := Lib.hid G
      have hcv := run_convert_sl (P := Try.prog) (Sl.of_own (HO.out.kept G (own_neR HO.out hRl))) 32 5 Try.underlying32 Try.underlying5 9 Try.underlying9
      clear G kR kR1 fR1 hR1 ho hb0 HT
      go_wp2_with fail
      go_ret
      exact ⟨rfl, HrS.on (H1.out.setBad _) (sl_setW HS1.out HB1.out _) hmx HC.out, grown_belowW HG0.out HG.out⟩
  · have hE : (false || decide ((0 : Int) ≠ 0)) = false := rfl
    rw [HN, hE]
    clear HN hE
    by_cases hc : ca = k
    · have HC := Lib.hid hc
      have hc' : ¬ k < ca := by omega
      clear hc
      go_enter Try.func58, Try.ntmps58
      go_wp2_with fail
      refine HT.out.mono ?_; rintro e w0 ⟨v0, rfl, ho, hb0⟩
      dsimp only at ho ⊢
      have hR1 := below_block hb0 hRl HR0.out
      have kR1 := block_cells hR1
      have fR1 := block_free hR1
      have H1 := Lib.hid (H0.out.keep hb0 (Nat.le_refl _)); have HS1 := Lib.hid (HS0.out.keep (hb0.mono (Nat.le_trans HB1.out (Nat.le_of_lt hRl))))
      have HG0 := Lib.hid hb0; have HO := Lib.hid ho
      go_upto_region 4 with fail
      have G := grown_transW (grown_setW w0 R 1 (.bool false)) (grown_setW (w0.setCell ⟨R, 1, none⟩ (.bool false)) R 0 (.slice pa (xs.length - k) (ca - k)))
      have HG := Lib.hid G
      have hcv := run_convert_sl (P := Try.prog) (Sl.of_own (HO.out.kept G (own_neR HO.out hRl))) 32 5 Try.underlying32 Try.underlying5 9 Try.underlying9
      clear G kR kR1 fR1 hR1 ho hb0 HT
      go_wp2_with fail
      go_ret
      exact ⟨rfl, HrS.on0 (H1.out.setBad _) (sl_setW HS1.out HB1.out _) hmx HC.out, grown_belowW HG0.out HG.out⟩
    · have HC := Lib.hid hc
      have hc' : k < ca := by omega
      clear hc
      go_enter Try.func58, Try.ntmps58
      go_wp2_with fail
      refine HT.out.mono ?_; rintro e w0 ⟨v0, rfl, ho, hb0⟩
      dsimp only at ho ⊢
      have hR1 := below_block hb0 hRl HR0.out
      have kR1 := block_cells hR1
      have fR1 := block_free hR1
      have H1 := Lib.hid (H0.out.keep hb0 (Nat.le_refl _)); have HS1 := Lib.hid (HS0.out.keep (hb0.mono (Nat.le_trans HB1.out (Nat.le_of_lt hRl))))
      have HG0 := Lib.hid hb0; have HO := Lib.hid ho
      go_upto_region 4 with fail
      have G := grown_transW (grown_setW w0 R 1 (.bool false)) (grown_setW (w0.setCell ⟨R, 1, none⟩ (.bool false)) R 0 (.slice (Option.map (fun x => x.add k) pa) (xs.length - k) (ca - k)))
      have HG := Lib.hid G
      have hcv := run_convert_sl (P := Try.prog) (Sl.of_own (HO.out.kept G (own_neR HO.out hRl))) 32 5 Try.underlying32 Try.underlying5 9 Try.underlying9
      clear G kR kR1 fR1 hR1 ho hb0 HT
      go_wp2_with fail
      go_ret
      exact ⟨rfl, HrS.on (H1.out.setBad _) (sl_setW HS1.out HB1.out _) hmx HC.out, grown_belowW HG0.out HG.out⟩
theorem jo0_ok : JoF jo0 := by
  refine ⟨⟨?_, ?_, ?_, ?_, ?_⟩, ⟨?_, ?_, ?_, ?_, ?_⟩⟩ <;> first | (show (0 : Int) ≤ 0 ∧ (0 : Int) ≤ 65535; decide) | (show -9223372036854775808 ≤ (0 : Int) ∧ (0 : Int) ≤ 9223372036854775807; decide)
/-- A joint that is taken, told by one step. -/
theorem tkJ_st {w : World} {xs : List Int} {e : Ending} {w' : World} (ho : Oct xs) (h : TkJoint w xs e w') : Below w.heap.size w w' ∧ ∃ k : Nat, k ≤ xs.length ∧ (stJ xs).2.1 = xs.drop k ∧ JoF (stJ xs).1 ∧
    e = .returned (.tuple #[.agg #[.int .u16 (stJ xs).1.o.v, .int .u16 (stJ xs).1.o.x, .int .u16 (stJ xs).1.o.l, .int .i64 (stJ xs).1.o.e, .int .i64 (stJ xs).1.o.k, .int .u16 (stJ xs).1.n.v, .int .u16 (stJ xs).1.n.x, .int .u16 (stJ xs).1.n.l, .int .i64 (stJ xs).1.n.e, .int .i64 (stJ xs).1.n.k, .bool (stJ xs).1.two], .int .i64 (k : Int), .int .i64 (if (stJ xs).2.2 = true then 9 else 0)]) := by
  obtain ⟨hb, h | h⟩ := h
  · obtain ⟨j, ys, hx, hj, he⟩ := h
    have e1 : stJ xs = (j, ys, false) := by unfold stJ; rw [← hx]; exact (stick_ok rdJo_ok jo0).compl j ys hj
    refine ⟨hb, (encJo j).length, by rw [← hx, List.length_append]; omega, ?_, ?_, ?_⟩
    · rw [e1, ← hx, List.drop_left' rfl]
    · rw [e1]; exact hj
    · rw [e1]; exact he
  · obtain ⟨hn, he⟩ := h
    have e1 : stJ xs = (jo0, xs, true) := by
      refine stick_bad ?_
      cases hb2 : (rdJo xs false).2.2 with
      | true => rfl
      | false =>
        obtain ⟨h1, h2⟩ := rdJo_ok.sound xs (rdJo xs false).1 (rdJo xs false).2.1 ho (trip rfl hb2)
        exact absurd h2.symm (hn _ _ h1)
    refine ⟨hb, 0, Nat.zero_le _, ?_, ?_, ?_⟩
    · rw [e1]; rfl
    · rw [e1]; exact jo0_ok
    · rw [e1]; exact he
abbrev joV (j : JoX) : Value := .agg #[.int .u16 j.o.v, .int .u16 j.o.x, .int .u16 j.o.l, .int .i64 j.o.e, .int .i64 j.o.k, .int .u16 j.n.v, .int .u16 j.n.x, .int .u16 j.n.l, .int .i64 j.n.e, .int .i64 j.n.k, .bool j.two]
theorem HrW.far {B R A : Nat} {w w' : World} {xs : List Int} {bad : Bool} (h : HrW B w R xs bad) (g : w.grownBy w' (some A)) (hn : R ≠ A) (hA : B ≤ A) : HrW B w' R xs bad := by
  obtain ⟨⟨hB, p, cap, hR, hS⟩, o, l⟩ := h
  have hl := block_lt hR
  exact ⟨⟨hB, p, cap, (g.block R hl (by simpa using hn)).trans hR, hS.keep ((Below.refl B w).grown g (by omega) (fun k e => by cases e; exact hA))⟩, o, l⟩
theorem grown_far {w a b : World} {R A : Nat} (h : w.grownBy a (some R)) (g : a.grownBy b (some A)) (hA : w.heap.size ≤ A) : w.grownBy b (some R) :=
  ⟨g.os.trans h.os, g.tape.trans h.tape, g.output.trans h.output, Nat.le_trans h.size g.size, fun i hi hn => (g.block i (Nat.lt_of_lt_of_le hi h.size) (by simp; omega)).trans (h.block i hi hn)⟩
theorem stays_at {w w' : World} {R g : Nat} {o : Obj} (h : w.grownBy w' (some R)) (hq : w.heap[g]? = some o) (hn : g ≠ R) : w'.heap[g]? = some o := (h.block g (block_lt hq) (by simpa using hn)).trans hq
set_option maxRecDepth 100000 in
set_option maxHeartbeats 16000000 in
theorem hrjoint_any (B R : Nat) (xs : List Int) (bad : Bool) (w : World) (h : HrW B w R xs bad) :
    Calls Try.prog 57 #[.pointer (some ⟨R, 0, none⟩)] w (HrE B R w joV (hrJ xs bad)) := by
  have HN : hrJ xs bad = ((stJ xs).1, (stJ xs).2.1, bad || (stJ xs).2.2) := rfl
  have hbA : Below w.heap.size w (w.alloc (.cells #[.int .u16 0, .int .u16 0, .int .u16 0, .int .i64 0, .int .i64 0, .int .u16 0, .int .u16 0, .int .u16 0, .int .i64 0, .int .i64 0, .bool false] 42)) := (Below.refl _ _).alloc (Nat.le_refl _) _
  have hR0 := h.lt
  have h0 := h.keep hbA (Nat.le_refl _)
  obtain ⟨hB, p, cap, hR, hS⟩ := h0.r
  have HT := Lib.hid (wtakeJoint_any xs (.slice p xs.length cap) _ (hS.mono (by have := hbA.size; omega)) h.o h.l)
  have HOC := Lib.hid h.o
  have HX := Lib.hid hbA
  have H0 := Lib.hid h0; have HS0 := Lib.hid hS; have HB1 := Lib.hid hB; have HR0 := Lib.hid hR
  obtain ⟨pa, ca, hv, h1, h2, -, -⟩ := hS.form
  obtain ⟨rfl, -, rfl⟩ : pa = p ∧ _ ∧ ca = cap := by simp only [Value.slice.injEq] at hv; exact ⟨hv.1.symm, hv.2.1, hv.2.2.symm⟩
  unfold maxLen at h2
  have kR := block_cells hR
  have hA := heap_last w (.cells #[.int .u16 0, .int .u16 0, .int .u16 0, .int .i64 0, .int .i64 0, .int .u16 0, .int .u16 0, .int .u16 0, .int .i64 0, .int .i64 0, .bool false] 42)
  have HA := Lib.hid hA
  clear hR hS hv hB h h0 hbA hA
  go_enter Try.func57, Try.ntmps57
  go_wp2_with fail
  refine HT.out.mono ?_; rintro e w1 ht
  obtain ⟨hb, k, hmx, hdr, hjf, rfl⟩ := tkJ_st HOC.out ht
  clear ht HT
  have hmi : (k : Int) ≤ (xs.length : Int) := by omega
  obtain ⟨⟨j, ys, b⟩, hr⟩ : ∃ r, stJ xs = r := ⟨_, rfl⟩
  rw [hr] at HN hdr ⊢
  dsimp only at HN hdr ⊢
  rw [hdr] at HN
  obtain ⟨W1, hW1⟩ : ∃ x : World, w1.alloc (.cells #[.int .u16 j.o.v, .int .u16 j.o.x, .int .u16 j.o.l, .int .i64 j.o.e, .int .i64 j.o.k, .int .u16 j.n.v, .int .u16 j.n.x, .int .u16 j.n.l, .int .i64 j.n.e, .int .i64 j.n.k, .bool j.two] 42) = x := ⟨_, rfl⟩
  have hb1 := hb.trans ((show Below w1.heap.size w1 W1 by rw [← hW1]; exact (Below.refl _ _).alloc (Nat.le_refl _) _).mono hb.size)
  have hJ1 : W1.heap[w1.heap.size]? = some (.cells #[.int .u16 j.o.v, .int .u16 j.o.x, .int .u16 j.o.l, .int .i64 j.o.e, .int .i64 j.o.k, .int .u16 j.n.v, .int .u16 j.n.x, .int .u16 j.n.l, .int .i64 j.n.e, .int .i64 j.n.k, .bool j.two] 42 (0, 0)) := by rw [← hW1]; exact heap_last w1 _
  have hA1 := below_block hb1 (by simp) HA.out
  have hR1 := below_block hb1 (by have := HX.out.size; omega) HR0.out
  have H1 := Lib.hid (H0.out.keep hb1 (Nat.le_refl _)); have HS1 := Lib.hid (HS0.out.keep (hb1.mono (by have := HX.out.size; have := HB1.out; omega)))
  have HW1 := Lib.hid (HX.out.trans (hb1.mono HX.out.size))
  have hJl : w.heap.size < w1.heap.size := by have := hb.size; simp at this; omega
  obtain ⟨J, eJ⟩ : ∃ n, w1.heap.size = n := ⟨_, rfl⟩
  obtain ⟨A, eA⟩ : ∃ n, w.heap.size = n := ⟨_, rfl⟩
  have kR1 := block_cells hR1
  have fR1 := block_free hR1
  rw [eJ] at hJ1
  have HJ1 := Lib.hid hJ1; have HA1 := Lib.hid hA1; have HR1 := Lib.hid hR1
  have HN2 := Lib.hid HN
  clear HN hdr hr kR hb hb1 hR1 hJ1 hA1 hjf
  go_upto_region 2 with fail
  (try rw [hW1]); (try rw [eJ]); (try rw [eA])
  have hneJ : J ≠ R := by omega
  have hneA : A ≠ R := by omega
  have hAB : B ≤ A := by have := HB1.out; omega
  have EJ := Lib.hid eJ; have EA := Lib.hid eA
  have hA1 := HA1.out
  rw [eA] at hA1
  have HAA := Lib.hid hA1
  have hAle : w.heap.size ≤ A := by omega
  clear hW1 eJ hA1 HA1 hJl eA
  cases b with
  | true =>
    cases bad with
    | true =>
      by_cases hc : ca = k
      · have HC := Lib.hid hc
        have hc' : ¬ k < ca := by omega
        clear hc
        go_upto_region 4 with fail
        obtain ⟨W2, hW2⟩ : ∃ x : World, (W1.setCell ⟨R, 1, none⟩ (.bool true)).setCell ⟨R, 0, none⟩ (.slice pa (xs.length - k) (ca - k)) = x := ⟨_, rfl⟩
        have X2 := Lib.hid (show HrW B W2 R (xs.drop k) true by rw [← hW2]; exact HrS.on0 (H1.out.setBad _) (sl_setW HS1.out HB1.out _) hmx HC.out)
        have G2 : W1.grownBy W2 (some R) := by rw [← hW2]; exact grown_transW (grown_setW _ _ _ _) (grown_setW _ _ _ _)
        have hJ2 := stays_at G2 HJ1.out hneJ
        have hA2 := stays_at G2 HAA.out hneA
        have GG := Lib.hid (grown_belowW HW1.out G2)
        have HA2 := Lib.hid hA2
        try simp only [if_pos HC.out]
        rw [hW2]
        have kJ := block_cells hJ2
        have kA := block_cells hA2
        have fA := block_free hA2
        clear hW2 G2 hJ2 hA2 kR1 fR1
        go_wp2_with fail
        have F := putJ_ok HA2.out (.int .u16 j.o.v) (.int .u16 j.o.x) (.int .u16 j.o.l) (.int .i64 j.o.e) (.int .i64 j.o.k) (.int .u16 j.n.v) (.int .u16 j.n.x) (.int .u16 j.n.l) (.int .i64 j.n.e) (.int .i64 j.n.k) (.bool j.two)
        unfold putJ at F
        have kF := block_cells F.1
        refine bodyPost_ret (v := joV j) ?_ rfl ?_
        · simp [results, Try.results57, go_sem, kF]
        · unfold HrE
          rw [HN2.out]
          exact ⟨rfl, X2.out.far F.2 (Ne.symm hneA) hAB, grown_far GG.out F.2 hAle⟩
      · have HC := Lib.hid hc
        have hc' : k < ca := by omega
        clear hc
        go_upto_region 4 with fail
        obtain ⟨W2, hW2⟩ : ∃ x : World, (W1.setCell ⟨R, 1, none⟩ (.bool true)).setCell ⟨R, 0, none⟩ (.slice (Option.map (fun x => x.add k) pa) (xs.length - k) (ca - k)) = x := ⟨_, rfl⟩
        have X2 := Lib.hid (show HrW B W2 R (xs.drop k) true by rw [← hW2]; exact HrS.on (H1.out.setBad _) (sl_setW HS1.out HB1.out _) hmx HC.out)
        have G2 : W1.grownBy W2 (some R) := by rw [← hW2]; exact grown_transW (grown_setW _ _ _ _) (grown_setW _ _ _ _)
        have hJ2 := stays_at G2 HJ1.out hneJ
        have hA2 := stays_at G2 HAA.out hneA
        have GG := Lib.hid (grown_belowW HW1.out G2)
        have HA2 := Lib.hid hA2
        try simp only [if_neg HC.out]
        rw [hW2]
        have kJ := block_cells hJ2
        have kA := block_cells hA2
        have fA := block_free hA2
        clear hW2 G2 hJ2 hA2 kR1 fR1
        go_wp2_with fail
        have F := putJ_ok HA2.out (.int .u16 j.o.v) (.int .u16 j.o.x) (.int .u16 j.o.l) (.int .i64 j.o.e) (.int .i64 j.o.k) (.int .u16 j.n.v) (.int .u16 j.n.x) (.int .u16 j.n.l) (.int .i64 j.n.e) (.int .i64 j.n.k) (.bool j.two)
        unfold putJ at F
        have kF := block_cells F.1
        refine bodyPost_ret (v := joV j) ?_ rfl ?_
        · simp [results, Try.results57, go_sem, kF]
        · unfold HrE
          rw [HN2.out]
          exact ⟨rfl, X2.out.far F.2 (Ne.symm hneA) hAB, grown_far GG.out F.2 hAle⟩
    | false =>
      by_cases hc : ca = k
      · have HC := Lib.hid hc
        have hc' : ¬ k < ca := by omega
        clear hc
        go_upto_region 4 with fail
        obtain ⟨W2, hW2⟩ : ∃ x : World, (W1.setCell ⟨R, 1, none⟩ (.bool true)).setCell ⟨R, 0, none⟩ (.slice pa (xs.length - k) (ca - k)) = x := ⟨_, rfl⟩
        have X2 := Lib.hid (show HrW B W2 R (xs.drop k) true by rw [← hW2]; exact HrS.on0 (H1.out.setBad _) (sl_setW HS1.out HB1.out _) hmx HC.out)
        have G2 : W1.grownBy W2 (some R) := by rw [← hW2]; exact grown_transW (grown_setW _ _ _ _) (grown_setW _ _ _ _)
        have hJ2 := stays_at G2 HJ1.out hneJ
        have hA2 := stays_at G2 HAA.out hneA
        have GG := Lib.hid (grown_belowW HW1.out G2)
        have HA2 := Lib.hid hA2
        try simp only [if_pos HC.out]
        rw [hW2]
        have kJ := block_cells hJ2
        have kA := block_cells hA2
        have fA := block_free hA2
        clear hW2 G2 hJ2 hA2 kR1 fR1
        go_wp2_with fail
        have F := putJ_ok HA2.out (.int .u16 j.o.v) (.int .u16 j.o.x) (.int .u16 j.o.l) (.int .i64 j.o.e) (.int .i64 j.o.k) (.int .u16 j.n.v) (.int .u16 j.n.x) (.int .u16 j.n.l) (.int .i64 j.n.e) (.int .i64 j.n.k) (.bool j.two)
        unfold putJ at F
        have kF := block_cells F.1
        refine bodyPost_ret (v := joV j) ?_ rfl ?_
        · simp [results, Try.results57, go_sem, kF]
        · unfold HrE
          rw [HN2.out]
          exact ⟨rfl, X2.out.far F.2 (Ne.symm hneA) hAB, grown_far GG.out F.2 hAle⟩
      · have HC := Lib.hid hc
        have hc' : k < ca := by omega
        clear hc
        go_upto_region 4 with fail
        obtain ⟨W2, hW2⟩ : ∃ x : World, (W1.setCell ⟨R, 1, none⟩ (.bool true)).setCell ⟨R, 0, none⟩ (.slice (Option.map (fun x => x.add k) pa) (xs.length - k) (ca - k)) = x := ⟨_, rfl⟩
        have X2 := Lib.hid (show HrW B W2 R (xs.drop k) true by rw [← hW2]; exact HrS.on (H1.out.setBad _) (sl_setW HS1.out HB1.out _) hmx HC.out)
        have G2 : W1.grownBy W2 (some R) := by rw [← hW2]; exact grown_transW (grown_setW _ _ _ _) (grown_setW _ _ _ _)
        have hJ2 := stays_at G2 HJ1.out hneJ
        have hA2 := stays_at G2 HAA.out hneA
        have GG := Lib.hid (grown_belowW HW1.out G2)
        have HA2 := Lib.hid hA2
        try simp only [if_neg HC.out]
        rw [hW2]
        have kJ := block_cells hJ2
        have kA := block_cells hA2
        have fA := block_free hA2
        clear hW2 G2 hJ2 hA2 kR1 fR1
        go_wp2_with fail
        have F := putJ_ok HA2.out (.int .u16 j.o.v) (.int .u16 j.o.x) (.int .u16 j.o.l) (.int .i64 j.o.e) (.int .i64 j.o.k) (.int .u16 j.n.v) (.int .u16 j.n.x) (.int .u16 j.n.l) (.int .i64 j.n.e) (.int .i64 j.n.k) (.bool j.two)
        unfold putJ at F
        have kF := block_cells F.1
        refine bodyPost_ret (v := joV j) ?_ rfl ?_
        · simp [results, Try.results57, go_sem, kF]
        · unfold HrE
          rw [HN2.out]
          exact ⟨rfl, X2.out.far F.2 (Ne.symm hneA) hAB, grown_far GG.out F.2 hAle⟩
  | false =>
    cases bad with
    | true =>
      by_cases hc : ca = k
      · have HC := Lib.hid hc
        have hc' : ¬ k < ca := by omega
        clear hc
        go_upto_region 4 with fail
        obtain ⟨W2, hW2⟩ : ∃ x : World, (W1.setCell ⟨R, 1, none⟩ (.bool true)).setCell ⟨R, 0, none⟩ (.slice pa (xs.length - k) (ca - k)) = x := ⟨_, rfl⟩
        have X2 := Lib.hid (show HrW B W2 R (xs.drop k) true by rw [← hW2]; exact HrS.on0 (H1.out.setBad _) (sl_setW HS1.out HB1.out _) hmx HC.out)
        have G2 : W1.grownBy W2 (some R) := by rw [← hW2]; exact grown_transW (grown_setW _ _ _ _) (grown_setW _ _ _ _)
        have hJ2 := stays_at G2 HJ1.out hneJ
        have hA2 := stays_at G2 HAA.out hneA
        have GG := Lib.hid (grown_belowW HW1.out G2)
        have HA2 := Lib.hid hA2
        try simp only [if_pos HC.out]
        rw [hW2]
        have kJ := block_cells hJ2
        have kA := block_cells hA2
        have fA := block_free hA2
        clear hW2 G2 hJ2 hA2 kR1 fR1
        go_wp2_with fail
        have F := putJ_ok HA2.out (.int .u16 j.o.v) (.int .u16 j.o.x) (.int .u16 j.o.l) (.int .i64 j.o.e) (.int .i64 j.o.k) (.int .u16 j.n.v) (.int .u16 j.n.x) (.int .u16 j.n.l) (.int .i64 j.n.e) (.int .i64 j.n.k) (.bool j.two)
        unfold putJ at F
        have kF := block_cells F.1
        refine bodyPost_ret (v := joV j) ?_ rfl ?_
        · simp [results, Try.results57, go_sem, kF]
        · unfold HrE
          rw [HN2.out]
          exact ⟨rfl, X2.out.far F.2 (Ne.symm hneA) hAB, grown_far GG.out F.2 hAle⟩
      · have HC := Lib.hid hc
        have hc' : k < ca := by omega
        clear hc
        go_upto_region 4 with fail
        obtain ⟨W2, hW2⟩ : ∃ x : World, (W1.setCell ⟨R, 1, none⟩ (.bool true)).setCell ⟨R, 0, none⟩ (.slice (Option.map (fun x => x.add k) pa) (xs.length - k) (ca - k)) = x := ⟨_, rfl⟩
        have X2 := Lib.hid (show HrW B W2 R (xs.drop k) true by rw [← hW2]; exact HrS.on (H1.out.setBad _) (sl_setW HS1.out HB1.out _) hmx HC.out)
        have G2 : W1.grownBy W2 (some R) := by rw [← hW2]; exact grown_transW (grown_setW _ _ _ _) (grown_setW _ _ _ _)
        have hJ2 := stays_at G2 HJ1.out hneJ
        have hA2 := stays_at G2 HAA.out hneA
        have GG := Lib.hid (grown_belowW HW1.out G2)
        have HA2 := Lib.hid hA2
        try simp only [if_neg HC.out]
        rw [hW2]
        have kJ := block_cells hJ2
        have kA := block_cells hA2
        have fA := block_free hA2
        clear hW2 G2 hJ2 hA2 kR1 fR1
        go_wp2_with fail
        have F := putJ_ok HA2.out (.int .u16 j.o.v) (.int .u16 j.o.x) (.int .u16 j.o.l) (.int .i64 j.o.e) (.int .i64 j.o.k) (.int .u16 j.n.v) (.int .u16 j.n.x) (.int .u16 j.n.l) (.int .i64 j.n.e) (.int .i64 j.n.k) (.bool j.two)
        unfold putJ at F
        have kF := block_cells F.1
        refine bodyPost_ret (v := joV j) ?_ rfl ?_
        · simp [results, Try.results57, go_sem, kF]
        · unfold HrE
          rw [HN2.out]
          exact ⟨rfl, X2.out.far F.2 (Ne.symm hneA) hAB, grown_far GG.out F.2 hAle⟩
    | false =>
      by_cases hc : ca = k
      · have HC := Lib.hid hc
        have hc' : ¬ k < ca := by omega
        clear hc
        go_upto_region 4 with fail
        obtain ⟨W2, hW2⟩ : ∃ x : World, (W1.setCell ⟨R, 1, none⟩ (.bool false)).setCell ⟨R, 0, none⟩ (.slice pa (xs.length - k) (ca - k)) = x := ⟨_, rfl⟩
        have X2 := Lib.hid (show HrW B W2 R (xs.drop k) false by rw [← hW2]; exact HrS.on0 (H1.out.setBad _) (sl_setW HS1.out HB1.out _) hmx HC.out)
        have G2 : W1.grownBy W2 (some R) := by rw [← hW2]; exact grown_transW (grown_setW _ _ _ _) (grown_setW _ _ _ _)
        have hJ2 := stays_at G2 HJ1.out hneJ
        have hA2 := stays_at G2 HAA.out hneA
        have GG := Lib.hid (grown_belowW HW1.out G2)
        have HA2 := Lib.hid hA2
        try simp only [if_pos HC.out]
        rw [hW2]
        have kJ := block_cells hJ2
        have kA := block_cells hA2
        have fA := block_free hA2
        clear hW2 G2 hJ2 hA2 kR1 fR1
        go_wp2_with fail
        have F := putJ_ok HA2.out (.int .u16 j.o.v) (.int .u16 j.o.x) (.int .u16 j.o.l) (.int .i64 j.o.e) (.int .i64 j.o.k) (.int .u16 j.n.v) (.int .u16 j.n.x) (.int .u16 j.n.l) (.int .i64 j.n.e) (.int .i64 j.n.k) (.bool j.two)
        unfold putJ at F
        have kF := block_cells F.1
        refine bodyPost_ret (v := joV j) ?_ rfl ?_
        · simp [results, Try.results57, go_sem, kF]
        · unfold HrE
          rw [HN2.out]
          exact ⟨rfl, X2.out.far F.2 (Ne.symm hneA) hAB, grown_far GG.out F.2 hAle⟩
      · have HC := Lib.hid hc
        have hc' : k < ca := by omega
        clear hc
        go_upto_region 4 with fail
        obtain ⟨W2, hW2⟩ : ∃ x : World, (W1.setCell ⟨R, 1, none⟩ (.bool false)).setCell ⟨R, 0, none⟩ (.slice (Option.map (fun x => x.add k) pa) (xs.length - k) (ca - k)) = x := ⟨_, rfl⟩
        have X2 := Lib.hid (show HrW B W2 R (xs.drop k) false by rw [← hW2]; exact HrS.on (H1.out.setBad _) (sl_setW HS1.out HB1.out _) hmx HC.out)
        have G2 : W1.grownBy W2 (some R) := by rw [← hW2]; exact grown_transW (grown_setW _ _ _ _) (grown_setW _ _ _ _)
        have hJ2 := stays_at G2 HJ1.out hneJ
        have hA2 := stays_at G2 HAA.out hneA
        have GG := Lib.hid (grown_belowW HW1.out G2)
        have HA2 := Lib.hid hA2
        try simp only [if_neg HC.out]
        rw [hW2]
        have kJ := block_cells hJ2
        have kA := block_cells hA2
        have fA := block_free hA2
        clear hW2 G2 hJ2 hA2 kR1 fR1
        go_wp2_with fail
        have F := putJ_ok HA2.out (.int .u16 j.o.v) (.int .u16 j.o.x) (.int .u16 j.o.l) (.int .i64 j.o.e) (.int .i64 j.o.k) (.int .u16 j.n.v) (.int .u16 j.n.x) (.int .u16 j.n.l) (.int .i64 j.n.e) (.int .i64 j.n.k) (.bool j.two)
        unfold putJ at F
        have kF := block_cells F.1
        refine bodyPost_ret (v := joV j) ?_ rfl ?_
        · simp [results, Try.results57, go_sem, kF]
        · unfold HrE
          rw [HN2.out]
          exact ⟨rfl, X2.out.far F.2 (Ne.symm hneA) hAB, grown_far GG.out F.2 hAle⟩
set_option maxRecDepth 100000 in
set_option maxHeartbeats 8000000 in
theorem hrends_any (B R : Nat) (xs : List Int) (bad : Bool) (w : World) (h : HrW B w R xs bad) :
    Calls Try.prog 30 #[.pointer (some ⟨R, 0, none⟩)] w fun e w' => e = .returned (.bool (!bad && xs.isEmpty)) ∧ w = w' := by
  obtain ⟨hB, p, cap, hR, hS⟩ := h.r
  have kR := block_cells hR
  clear hR hS h hB
  cases bad with
  | true =>
    go_enter Try.func30, Try.ntmps30
    go_wp2_with fail
    go_ret
    exact ⟨rfl, rfl⟩
  | false =>
    cases xs with
    | nil =>
      go_enter Try.func30, Try.ntmps30
      go_wp2_with fail
      go_ret
      exact ⟨rfl, rfl⟩
    | cons x t =>
      obtain ⟨n, hn⟩ : ∃ n, t.length = n := ⟨_, rfl⟩
      rw [List.length_cons, hn] at kR
      have hd : ((n : Int) + 1 == 0) = false := by simp; omega
      have hd2 : (((n + 1 : Nat) : Int) == 0) = false := by simp; omega
      clear hn
      go_enter Try.func30, Try.ntmps30
      go_wp2_with fail
      go_ret
      exact ⟨rfl, rfl⟩
end Go.Proofs.Ytjaabakobpabjaa
