import Derived.Test.YtjaabakobpabjaaRf0
/- Wire: the reference's reader: numbers, counts. -/
namespace Go.Proofs.Ytjaabakobpabjaa
open Go.ChangeShapes Go.WideShapes Go.ChangeAt Go.RowKit

set_option maxRecDepth 100000 in
set_option maxHeartbeats 4000000 in
theorem rfn_any (B R : Nat) (xs : List Int) (bad : Bool) (w : World) (h : RfW B w R xs bad) :
    Calls Try.prog 33 #[.pointer (some ⟨R, 0, none⟩)] w (RfE B R w (Value.int .i64) (rfN xs bad)) := by
  have HN : rdNw xs bad = (zagI (takeV xs).1, xs.drop (takeV xs).2.1.toNat, bad || decide ((takeV xs).2.2 ≠ 0)) := rfl
  have hbd := takeGo_ok xs 0 0 1 (by omega) h.o (by omega) (by omega) (by simp)
  have htv : takeGo xs 0 0 1 = takeV xs := rfl
  rw [htv] at hbd
  obtain ⟨hB, p, cap, hR, hS⟩ := h.r
  have HT := Lib.hid (refTakeVar_any B _ xs h.o w hS)
  obtain ⟨⟨u, n, er⟩, ht⟩ : ∃ t, takeV xs = t := ⟨_, rfl⟩
  rw [ht] at HT HN hbd
  dsimp only at HT HN hbd
  obtain ⟨u0, u1, n0, n1, -, -⟩ := hbd
  obtain ⟨k, rfl⟩ := Int.eq_ofNat_of_zero_le n0
  rw [Int.toNat_natCast] at HN
  have hmx : k ≤ xs.length := by omega
  have hmi : (k : Int) ≤ (xs.length : Int) := by omega
  have HZ := Lib.hid (fun w => refZag_any u w u0 u1)
  have H := Lib.hid h; have HS := Lib.hid hS
  obtain ⟨pa, ca, hv, h1, h2, -, -⟩ := hS.form
  obtain ⟨rfl, -, rfl⟩ : pa = p ∧ _ ∧ ca = cap := by simp only [Value.slice.injEq] at hv; exact ⟨hv.1.symm, hv.2.1, hv.2.2.symm⟩
  unfold maxLen at h2
  have kR := block_cells hR
  have fR := block_free hR
  clear ht htv hR hS hv n1
  by_cases hb : bad = true ∨ er ≠ 0
  · have hE : rfN xs bad = (0, xs, true) := stick_bad (by rw [HN]; rcases hb with h | h <;> simp [h])
    rw [hE]
    clear HN hE h
    rcases hb with rfl | hb
    · go_enter Try.func33, Try.ntmps33
      go_wp2_with fail
      refine HT.out.mono ?_; rintro e w' ⟨rfl, rfl⟩
      go_wp2_with fail
      go_ret
      exact ⟨rfl, H.out.setBad _, grown_setW _ _ _ _⟩
    · have hq : (er != 0) = true := by simpa using hb
      have hbb : bad = true ∨ bad = false := by cases bad <;> simp
      rcases hbb with rfl | rfl
      all_goals
        go_enter Try.func33, Try.ntmps33
        go_wp2_with fail
        refine HT.out.mono ?_; rintro e w' ⟨rfl, rfl⟩
        go_wp2_with fail
        go_ret
        exact ⟨rfl, H.out.setBad _, grown_setW _ _ _ _⟩
  · obtain rfl : bad = false := by
      cases bad with
      | false => rfl
      | true => exact absurd (.inl rfl) hb
    obtain rfl : er = 0 := by
      by_cases h0 : er = 0
      · exact h0
      · exact absurd (.inr h0) hb
    have hE : rfN xs false = (zagI u, xs.drop k, false) := by
      unfold rfN
      rw [stick_good (by rw [HN]; rfl), HN]; rfl
    rw [hE]
    clear HN hE hb
    by_cases hc : ca = k
    · have HC := Lib.hid hc
      have hc' : ¬ k < ca := by omega
      clear h hc
      go_enter Try.func33, Try.ntmps33
      go_wp2_with fail
      refine HT.out.mono ?_; rintro e w' ⟨rfl, rfl⟩
      go_wp2_with fail
      refine (HZ.out _).mono ?_; rintro e w3 ⟨rfl, rfl⟩
      go_wp2_with fail
      go_ret
      exact ⟨rfl, RfS.on0 H.out HS.out hmx HC.out, grown_setW _ _ _ _⟩
    · have HC := Lib.hid hc
      have hc' : k < ca := by omega
      clear h hc
      go_enter Try.func33, Try.ntmps33
      go_wp2_with fail
      refine HT.out.mono ?_; rintro e w' ⟨rfl, rfl⟩
      go_wp2_with fail
      refine (HZ.out _).mono ?_; rintro e w3 ⟨rfl, rfl⟩
      go_wp2_with fail
      go_ret
      exact ⟨rfl, RfS.on H.out HS.out hmx HC.out, grown_setW _ _ _ _⟩
end Go.Proofs.Ytjaabakobpabjaa
/- Wire: the reference's reader: texts. -/
namespace Go.Proofs.Ytjaabakobpabjaa
open Go.ChangeShapes Go.WideShapes Go.ChangeAt Go.RowKit

set_option maxRecDepth 100000 in
set_option maxHeartbeats 4000000 in
theorem rft_any (B R : Nat) (xs : List Int) (bad : Bool) (w : World) (h : RfW B w R xs bad) :
    Calls Try.prog 66 #[.pointer (some ⟨R, 0, none⟩)] w (RfE B R w Value.string (rfT xs bad)) := by
  have HN : rdTw xs bad = (strOfNums (textR xs).1, xs.drop (textR xs).2.1.toNat, bad || decide ((textR xs).2.2 ≠ 0)) := rfl
  obtain ⟨hB, p, cap, hR, hS⟩ := h.r
  have hRl := block_lt hR
  have HT := Lib.hid (refTakeText_any B _ xs h.o w hS (by omega) (by have := h.l; omega))
  have hn0 : 0 ≤ (textR xs).2.1 ∧ (textR xs).2.1 ≤ xs.length := by
    have hbd := takeGo_ok xs 0 0 1 (by omega) h.o (by omega) (by omega) (by simp)
    have htv : takeGo xs 0 0 1 = takeV xs := rfl
    rw [htv] at hbd
    unfold textR
    split
    · dsimp only; omega
    · split
      · dsimp only; omega
      · split
        · dsimp only; omega
        · dsimp only; omega
  obtain ⟨⟨tx, n, er⟩, ht⟩ : ∃ t, textR xs = t := ⟨_, rfl⟩
  rw [ht] at HT HN hn0
  dsimp only at HN hn0
  obtain ⟨n0, n1⟩ := hn0
  obtain ⟨k, rfl⟩ := Int.eq_ofNat_of_zero_le n0
  rw [Int.toNat_natCast] at HN
  have hmx : k ≤ xs.length := by omega
  have hmi : (k : Int) ≤ (xs.length : Int) := by omega
  have H := Lib.hid h
  have kR := block_cells hR
  clear ht hR hS n0 n1 h
  have K : ∀ w0 : World, Below w.heap.size w w0 → RfW B w0 R xs bad := fun w0 hb => H.out.keep hb (Nat.le_refl _)
  have HK := Lib.hid K
  clear K
  by_cases hb : bad = true ∨ er ≠ 0
  · have hE : rfT xs bad = (⟨#[]⟩, xs, true) := stick_bad (by rw [HN]; rcases hb with h | h <;> simp [h])
    rw [hE]
    clear HN hE
    have hb2 : bad = true ∨ bad = false ∧ (er != 0) = true := by
      cases bad with
      | true => exact .inl rfl
      | false => exact .inr ⟨rfl, by rcases hb with h | h <;> first | (cases h; done) | simpa using h⟩
    clear hb
    rcases hb2 with rfl | ⟨rfl, hq⟩
    all_goals
      go_enter Try.func66, Try.ntmps66
      go_wp2_with fail
      refine HT.out.mono ?_; rintro e w0 ⟨v0, rfl, ho, hb0⟩
      dsimp only at ho ⊢
      have HO := Lib.hid ho; have HW0 := Lib.hid hb0
      have H0 := Lib.hid (HK.out w0 hb0)
      obtain ⟨hB', p', cap', hR', hS'⟩ := H0.out.r
      have kR' := block_cells hR'
      have fR' := block_free hR'
      clear ho hb0 kR hR' hS'
      go_wp2_with fail
      go_ret
      exact ⟨rfl, H0.out.setBad _, grown_belowW HW0.out (grown_setW _ _ _ _)⟩
  · obtain rfl : bad = false := by
      cases bad with
      | false => rfl
      | true => exact absurd (.inl rfl) hb
    obtain rfl : er = 0 := by
      by_cases h0 : er = 0
      · exact h0
      · exact absurd (.inr h0) hb
    have hE : rfT xs false = (strOfNums tx, xs.drop k, false) := by
      unfold rfT
      rw [stick_good (by rw [HN]; rfl), HN]; rfl
    rw [hE]
    clear HN hE hb
    go_enter Try.func66, Try.ntmps66
    go_wp2_with fail
    refine HT.out.mono ?_; rintro e w0 ⟨v0, rfl, ho, hb0⟩
    dsimp only at ho ⊢
    have HO := Lib.hid ho; have HW0 := Lib.hid hb0
    have H0 := Lib.hid (HK.out w0 hb0)
    obtain ⟨hB', p', cap', hR', hS'⟩ := H0.out.r
    have HS' := Lib.hid hS'
    have HR' := Lib.hid (block_lt hR')
    obtain ⟨pa, ca, hv, h1, h2, -, -⟩ := hS'.form
    obtain ⟨rfl, -, rfl⟩ : pa = p' ∧ _ ∧ ca = cap' := by simp only [Value.slice.injEq] at hv; exact ⟨hv.1.symm, hv.2.1, hv.2.2.symm⟩
    unfold maxLen at h2
    have kR' := block_cells hR'
    have fR' := block_free hR'
    have hne : v0.ownBlock = none ∨ v0.ownBlock ≠ some R := by
      cases e : v0.ownBlock with
      | none => exact .inl rfl
      | some x => exact .inr fun h => by have := (HO.out.lt x e).1; simp only [Option.some.injEq] at h; omega
    have HNE := Lib.hid hne
    clear ho hb0 kR hR' hS' hv hne
    by_cases hc : ca = k
    · have HC := Lib.hid hc
      have hc' : ¬ k < ca := by omega
      clear hc
      have hr := Lib.hid (RfS.on0 H0.out HS'.out hmx HC.out)
      have hg := Lib.hid (show w0.grownBy _ (some R) from grown_setW w0 R 0 (.slice pa (xs.length - k) (ca - k)))
      have ho2 := HO.out.kept hg.out HNE.out
      have hcv := run_convert_sl (P := Try.prog) (Sl.of_own ho2) 32 5 Try.underlying32 Try.underlying5 9 Try.underlying9
      clear ho2
      go_wp2_with fail
      go_ret
      exact ⟨rfl, hr.out, grown_belowW HW0.out hg.out⟩
    · have HC := Lib.hid hc
      have hc' : k < ca := by omega
      clear hc
      have hr := Lib.hid (RfS.on H0.out HS'.out hmx HC.out)
      have hg := Lib.hid (show w0.grownBy _ (some R) from grown_setW w0 R 0 (.slice (Option.map (fun x => x.add k) pa) (xs.length - k) (ca - k)))
      have ho2 := HO.out.kept hg.out HNE.out
      have hcv := run_convert_sl (P := Try.prog) (Sl.of_own ho2) 32 5 Try.underlying32 Try.underlying5 9 Try.underlying9
      clear ho2
      go_wp2_with fail
      go_ret
      exact ⟨rfl, hr.out, grown_belowW HW0.out hg.out⟩
end Go.Proofs.Ytjaabakobpabjaa
