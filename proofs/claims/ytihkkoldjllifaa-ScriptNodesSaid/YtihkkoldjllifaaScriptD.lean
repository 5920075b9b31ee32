/- The reference of script: how long an event is, and which. -/
import Derived.Test.YtihkkoldjllifaaScriptC
import Derived.Test.YtihkkoldjllifaaPlainRef29
import Derived.RegionTactic
import Derived.ChangeAlike
namespace Go.Proofs.Ytihkkoldjllifaa
open Go.ChangeShapes Go.WideShapes Go.ChangeAt Go.RowKit

/-- A slice's bytes, cell by cell. -/
theorem sl_cell {B : Nat} {w : World} {g o n cap : Nat} {xs : List Int} (h : Sl B w (.slice (some ⟨g, o, none⟩) n cap) 1 n (byt xs)) (j : Nat) (hj : j < n) : w.cell? ⟨g, o + j, none⟩ = some (.int .u8 (xs.getD j 0)) := by
  have hl := h.1
  rcases h.2 with ⟨h2, h3⟩ | ⟨ad, cap', h2, h3, h4, h5⟩
  · simp at h2
  · obtain ⟨g', o', rfl, h6, h7⟩ := h5 (by omega)
    simp only [Value.slice.injEq, Option.some.injEq, Addr.mk.injEq, and_true, true_and] at h2
    obtain ⟨⟨rfl, rfl⟩, -⟩ := h2
    rw [h7 j (by omega)]
    rw [byt_len] at hl
    simp [byt, List.getElem?_eq_getElem (show j < xs.length by omega)]
theorem sl_head {B : Nat} {w : World} {v : Value} {n : Nat} {xs : List Int} (h : Sl B w v 1 n (byt xs)) (hn : 0 < n) : ∃ g o cap, v = .slice (some ⟨g, o, none⟩) n cap ∧ n ≤ cap ∧ cap ≤ maxLen ∧ g < B := by
  rcases h.2 with ⟨h2, h3⟩ | ⟨ad, cap', h2, h3, h4, h5⟩
  · omega
  · obtain ⟨g', o', rfl, h6, h7⟩ := h5 hn
    exact ⟨g', o', cap', h2, h3, h4, h6⟩
set_option maxRecDepth 100000 in
set_option maxHeartbeats 4000000 in
theorem rlong_any (B : Nat) (v : Value) (xs : List Int) (w : World) (hx : Oct xs) (hs : Sl B w v 1 xs.length (byt xs)) (hne : 0 < xs.length) (hl : xs.length ≤ 1000000) :
    Calls Try.prog 40 #[v] w fun e w' => e = .returned (.int .i64 (longR xs)) ∧ w = w' := by
  obtain ⟨g, o, cap, rfl, h1, h2, -⟩ := sl_head hs hne
  have c0 := sl_cell hs 0 hne
  have HC := Lib.hid (sl_cell hs 2)
  unfold maxLen at h2
  have x0 := hx (xs.getD 0 0) (by rw [List.getD_eq_getElem?_getD, List.getElem?_eq_getElem hne]; simp)
  have HX := Lib.hid hx
  obtain ⟨x, hxx⟩ : ∃ x, xs.getD 0 0 = x := ⟨_, rfl⟩
  obtain ⟨L, hL⟩ : ∃ L, longR xs = L := ⟨_, rfl⟩
  have HL := Lib.hid hL
  have HXX := Lib.hid hxx
  rw [hxx] at x0 c0
  rw [Nat.add_zero] at c0
  obtain ⟨x0, x1⟩ := x0
  rw [hL]
  clear hs hxx hL hx
  have K0 : 0 ≤ x % 16 := by omega
  have K1 : x % 16 ≤ 15 := by omega
  obtain ⟨K, hK⟩ : ∃ K, x % 16 = K := ⟨_, rfl⟩
  have HK := Lib.hid hK
  rw [hK] at K0 K1
  clear hK
  go_enter Try.func40, Try.ntmps40
  go_upto_region 2 with fail
  rw [HK.out]
  have hKs : K = 0 ∨ K = 1 ∨ K = 2 ∨ K = 3 ∨ K = 4 ∨ K = 5 ∨ K = 6 ∨ K = 7 ∨ K = 8 ∨ K = 9 ∨ K = 10 ∨ K = 11 ∨ K = 12 ∨ K = 13 ∨ K = 14 ∨ K = 15 := by omega
  have fin : ∀ n : Nat, longR xs = n → Ending.returned (.int .i64 (n : Int)) = .returned (.int .i64 (L : Int)) := fun n hn => by rw [← HL.out, hn]
  have FIN := Lib.hid fin
  clear fin
  rcases hKs with rfl | rfl | rfl | rfl | rfl | rfl | rfl | rfl | rfl | rfl | rfl | rfl | rfl | rfl | rfl | rfl
  case inr.inr.inr.inr.inr.inr.inr.inr.inr.inr.inl =>
    by_cases h3 : xs.length < 3
    · go_wp2_with fail
      go_ret
      exact ⟨FIN.out 0 (by unfold longR; rw [HXX.out, HK.out]; simp; omega), rfl⟩
    · have c2 := HC.out (by omega)
      have b2 := HX.out (xs.getD 2 0) (by rw [List.getD_eq_getElem?_getD, List.getElem?_eq_getElem (show 2 < xs.length by omega)]; simp)
      obtain ⟨y, hy⟩ : ∃ y, xs.getD 2 0 = y := ⟨_, rfl⟩
      have HY := Lib.hid hy
      rw [hy] at c2 b2
      obtain ⟨b0, b1⟩ := b2
      clear hy
      go_wp2_with fail
      go_ret
      obtain ⟨y, rfl⟩ := Int.eq_ofNat_of_zero_le b0
      exact ⟨FIN.out (3 + y) (by unfold longR; rw [HXX.out, HK.out, HY.out]; simp; omega), rfl⟩
  all_goals
    go_wp2_with fail
    go_ret
    exact ⟨FIN.out _ (by unfold longR; rw [HXX.out, HK.out]; simp; try rfl), rfl⟩
theorem conv_end {B : Nat} {w : World} {g o cap m : Nat} {xs : List Int} (h : Sl B w (.slice (some ⟨g, o, none⟩) xs.length cap) 1 xs.length (byt xs)) (hm : m ≤ xs.length) :
    (convert 22 9 (.slice (some ⟨g, o + m, none⟩) (xs.length - m) (cap - m))).run Try.prog w = .ok (.string (strOfNums (xs.drop m))) w := by
  have h1 := h.partA (m := m) (q := xs.length - m) (q' := xs.length - m) (by omega) rfl
  have e : (xs.drop m).take (xs.length - m) = xs.drop m := List.take_of_length_le (by rw [List.length_drop]; exact Nat.le_refl _)
  rw [e] at h1
  exact run_convert_sl (P := Try.prog) h1 22 5 Try.underlying22 Try.underlying5 9 Try.underlying9
theorem conv_end0 {B : Nat} {w : World} {g o cap m c' : Nat} {xs : List Int} (h : Sl B w (.slice (some ⟨g, o, none⟩) xs.length cap) 1 xs.length (byt xs)) (hm : m ≤ xs.length ∧ cap ≤ m) (hc : c' = 0) :
    (convert 22 9 (.slice (some ⟨g, o, none⟩) (xs.length - m) c')).run Try.prog w = .ok (.string (strOfNums (xs.drop m))) w := by
  have h1 := h.part0 (m := m) (q := xs.length - m) (q' := xs.length - m) (c' := c') (by omega) (by omega) rfl hc
  have e : (xs.drop m).take (xs.length - m) = xs.drop m := List.take_of_length_le (by rw [List.length_drop]; exact Nat.le_refl _)
  rw [e] at h1
  exact run_convert_sl (P := Try.prog) h1 22 5 Try.underlying22 Try.underlying5 9 Try.underlying9
set_option maxRecDepth 100000 in
set_option maxHeartbeats 16000000 in
theorem one_any (B : Nat) (v : Value) (xs : List Int) (nodes : Int) (w : World) (hx : Oct xs) (hs : Sl B w v 1 xs.length (byt xs)) (hB : B ≤ w.heap.size) (hne : 0 < xs.length) (hL : xs.length = longR xs) (hl : xs.length ≤ 1000000) (hn : 1 ≤ nodes ∧ nodes ≤ 9) :
    Calls Try.prog 41 #[v, .int .i64 nodes] w fun e w' => ∃ p c, e = .returned (.agg (evC (oneR nodes xs) p c).toArray) ∧ KeepAt w' p c (oneR nodes xs).ks ∧ Below w.heap.size w w' := by
  obtain ⟨g, o, cap, rfl, h1, h2, hg⟩ := sl_head hs hne
  have c0 := sl_cell hs 0 hne
  have HS := Lib.hid hs
  have HC := Lib.hid (sl_cell hs)
  unfold maxLen at h2
  have hgw : g < w.heap.size := by omega
  have hgn : g ≠ w.heap.size := by omega
  have x0 := hx (xs.getD 0 0) (by rw [List.getD_eq_getElem?_getD, List.getElem?_eq_getElem hne]; simp)
  have HX : Hid (∀ j, j < xs.length → 0 ≤ xs.getD j 0 ∧ xs.getD j 0 ≤ 255) := fun j hj => hx _ (by rw [List.getD_eq_getElem?_getD, List.getElem?_eq_getElem hj]; simp)
  obtain ⟨x, hxx⟩ : ∃ x, xs.getD 0 0 = x := ⟨_, rfl⟩
  have HL := Lib.hid hL
  have HXX := Lib.hid hxx
  rw [hxx] at x0 c0
  rw [Nat.add_zero] at c0
  obtain ⟨x0, x1⟩ := x0
  obtain ⟨hn1, hn9⟩ := hn
  clear hs hxx hL hx
  have K0 : 0 ≤ x % 16 := by omega
  have K1 : x % 16 ≤ 15 := by omega
  obtain ⟨K, hK⟩ : ∃ K, x % 16 = K := ⟨_, rfl⟩
  have HK := Lib.hid hK
  rw [hK] at K0 K1
  clear hK
  obtain ⟨V, hV⟩ : ∃ V, oneR nodes xs = V := ⟨_, rfl⟩
  have HV := Lib.hid hV
  rw [hV]
  clear hV
  go_enter Try.func41, Try.ntmps41
  go_upto_region 2 with fail
  rw [HK.out]
  by_cases h15 : K = 15
  · subst h15
    go_wp2_with fail
    have HVk : Hid (V = evO 0 0 0 0 ⟨#[]⟩ []) := by
      show _ = _; rw [← HV.out]; unfold oneR; simp only [HXX.out, HK.out]; simp
    refine bodyPost_ret (v := .agg (evC (evO 0 0 0 0 ⟨#[]⟩ []) none 0).toArray) ?_ rfl ?_
    · simp [results, Try.results41, go_sem, evC, evO]
    · rw [HVk.out]; exact ⟨none, 0, rfl, .inl ⟨rfl, rfl, rfl⟩, ((Below.refl _ _).alloc (Nat.le_refl _) _)⟩
  · have h2l : 2 ≤ xs.length := by
      have hKs : K = 0 ∨ K = 1 ∨ K = 2 ∨ K = 3 ∨ K = 4 ∨ K = 5 ∨ K = 6 ∨ K = 7 ∨ K = 8 ∨ K = 9 ∨ K = 10 ∨ K = 11 ∨ K = 12 ∨ K = 13 ∨ K = 14 := by omega
      have hl2 := HL.out
      unfold longR at hl2; simp only [HXX.out, HK.out] at hl2
      rcases hKs with rfl | rfl | rfl | rfl | rfl | rfl | rfl | rfl | rfl | rfl | rfl | rfl | rfl | rfl | rfl <;> simp at hl2 <;> first | omega | (split at hl2 <;> omega)
    have c1 := HC.out 1 (by omega)
    obtain ⟨y0, y1⟩ := HX.out 1 (by omega)
    obtain ⟨y, hy⟩ : ∃ y, xs.getD 1 0 = y := ⟨_, rfl⟩
    have Hy := Lib.hid hy
    rw [hy] at c1 y0 y1
    clear hy
    have m0 : 0 ≤ y % nodes := Int.emod_nonneg _ (by omega)
    have m1 : y % nodes < nodes := Int.emod_lt_of_pos _ (by omega)
    have hd15 : (K == 15) = false := by simpa using h15
    go_upto_region 5 with fail
    obtain ⟨M, hM⟩ : ∃ M, y % nodes + 1 = M := ⟨_, rfl⟩
    have HM := Lib.hid hM
    rw [hM]
    have HMM : Hid (xs.getD 1 0 % nodes + 1 = M) := by show _ = _; rw [Hy.out]; exact hM
    clear hM m0 m1 hd15
    have hK : K = 0 ∨ K = 1 ∨ K = 2 ∨ K = 3 ∨ K = 4 ∨ K = 5 ∨ K = 6 ∨ K = 7 ∨ K = 8 ∨ K = 9 ∨ K = 10 ∨ K = 11 ∨ K = 12 ∨ K = 13 ∨ K = 14 := by omega
    rcases hK with rfl | rfl | rfl | rfl | rfl | rfl | rfl | rfl | rfl | rfl | rfl | rfl | rfl | rfl | rfl
    · skip
      go_wp2_with fail
      have HVk : Hid (V = evO 1 M 0 0 ⟨#[]⟩ []) := by
        show _ = _; rw [← HV.out]; unfold oneR; simp only [HXX.out, HK.out, HMM.out]; simp
      refine bodyPost_ret (v := .agg (evC (evO 1 M 0 0 ⟨#[]⟩ []) none 0).toArray) ?_ rfl ?_
      · simp [results, Try.results41, go_sem, evC, evO]
      · rw [HVk.out]; exact ⟨none, 0, rfl, .inl ⟨rfl, rfl, rfl⟩, ((Below.refl _ _).alloc (Nat.le_refl _) _)⟩
    · skip
      go_wp2_with fail
      have HVk : Hid (V = evO 1 M 0 0 ⟨#[]⟩ []) := by
        show _ = _; rw [← HV.out]; unfold oneR; simp only [HXX.out, HK.out, HMM.out]; simp
      refine bodyPost_ret (v := .agg (evC (evO 1 M 0 0 ⟨#[]⟩ []) none 0).toArray) ?_ rfl ?_
      · simp [results, Try.results41, go_sem, evC, evO]
      · rw [HVk.out]; exact ⟨none, 0, rfl, .inl ⟨rfl, rfl, rfl⟩, ((Below.refl _ _).alloc (Nat.le_refl _) _)⟩
    · skip
      go_wp2_with fail
      have HVk : Hid (V = evO 1 M 0 0 ⟨#[]⟩ []) := by
        show _ = _; rw [← HV.out]; unfold oneR; simp only [HXX.out, HK.out, HMM.out]; simp
      refine bodyPost_ret (v := .agg (evC (evO 1 M 0 0 ⟨#[]⟩ []) none 0).toArray) ?_ rfl ?_
      · simp [results, Try.results41, go_sem, evC, evO]
      · rw [HVk.out]; exact ⟨none, 0, rfl, .inl ⟨rfl, rfl, rfl⟩, ((Below.refl _ _).alloc (Nat.le_refl _) _)⟩
    · skip
      go_wp2_with fail
      have HVk : Hid (V = evO 1 M 0 0 ⟨#[]⟩ []) := by
        show _ = _; rw [← HV.out]; unfold oneR; simp only [HXX.out, HK.out, HMM.out]; simp
      refine bodyPost_ret (v := .agg (evC (evO 1 M 0 0 ⟨#[]⟩ []) none 0).toArray) ?_ rfl ?_
      · simp [results, Try.results41, go_sem, evC, evO]
      · rw [HVk.out]; exact ⟨none, 0, rfl, .inl ⟨rfl, rfl, rfl⟩, ((Below.refl _ _).alloc (Nat.le_refl _) _)⟩
    · skip
      have hlen : 4 ≤ xs.length := by have hl2 := HL.out; unfold longR at hl2; simp only [HXX.out, HK.out] at hl2; simp at hl2; omega
      have c2 := HC.out 2 (by omega)
      obtain ⟨a20, a21⟩ := HX.out 2 (by omega)
      obtain ⟨a2, ha2⟩ : ∃ y, xs.getD 2 0 = y := ⟨_, rfl⟩
      have Ha2 := Lib.hid ha2
      rw [ha2] at c2 a20 a21
      clear ha2
      have c3 := HC.out 3 (by omega)
      obtain ⟨a30, a31⟩ := HX.out 3 (by omega)
      obtain ⟨a3, ha3⟩ : ∃ y, xs.getD 3 0 = y := ⟨_, rfl⟩
      have Ha3 := Lib.hid ha3
      rw [ha3] at c3 a30 a31
      clear ha3
      go_wp2_with fail
      go_region
      all_goals
        go_wp2_with fail
        have HVk : Hid (V = evO 2 M 0 (a2 * 256 + a3) ⟨#[]⟩ []) := by
          show _ = _; rw [← HV.out]; unfold oneR; simp only [HXX.out, HK.out, Ha2.out, Ha3.out, HMM.out]; simp
        refine bodyPost_ret (v := .agg (evC (evO 2 M 0 (a2 * 256 + a3) ⟨#[]⟩ []) none 0).toArray) ?_ rfl ?_
        · simp [results, Try.results41, go_sem, evC, evO]
        · rw [HVk.out]; exact ⟨none, 0, rfl, .inl ⟨rfl, rfl, rfl⟩, (Below.drew ((Below.refl _ _).alloc (Nat.le_refl _) _))⟩
    · skip
      go_wp2_with fail
      have HVk : Hid (V = evO 3 0 y 0 ⟨#[]⟩ []) := by
        show _ = _; rw [← HV.out]; unfold oneR; simp only [HXX.out, HK.out, Hy.out]; simp
      refine bodyPost_ret (v := .agg (evC (evO 3 0 y 0 ⟨#[]⟩ []) none 0).toArray) ?_ rfl ?_
      · simp [results, Try.results41, go_sem, evC, evO]
      · rw [HVk.out]; exact ⟨none, 0, rfl, .inl ⟨rfl, rfl, rfl⟩, ((Below.refl _ _).alloc (Nat.le_refl _) _)⟩
    · skip
      go_wp2_with fail
      have HVk : Hid (V = evO 3 0 y 0 ⟨#[]⟩ []) := by
        show _ = _; rw [← HV.out]; unfold oneR; simp only [HXX.out, HK.out, Hy.out]; simp
      refine bodyPost_ret (v := .agg (evC (evO 3 0 y 0 ⟨#[]⟩ []) none 0).toArray) ?_ rfl ?_
      · simp [results, Try.results41, go_sem, evC, evO]
      · rw [HVk.out]; exact ⟨none, 0, rfl, .inl ⟨rfl, rfl, rfl⟩, ((Below.refl _ _).alloc (Nat.le_refl _) _)⟩
    · skip
      go_wp2_with fail
      have HVk : Hid (V = evO 3 0 y 0 ⟨#[]⟩ []) := by
        show _ = _; rw [← HV.out]; unfold oneR; simp only [HXX.out, HK.out, Hy.out]; simp
      refine bodyPost_ret (v := .agg (evC (evO 3 0 y 0 ⟨#[]⟩ []) none 0).toArray) ?_ rfl ?_
      · simp [results, Try.results41, go_sem, evC, evO]
      · rw [HVk.out]; exact ⟨none, 0, rfl, .inl ⟨rfl, rfl, rfl⟩, ((Below.refl _ _).alloc (Nat.le_refl _) _)⟩
    · skip
      go_wp2_with fail
      have HVk : Hid (V = evO 4 0 y 0 ⟨#[]⟩ []) := by
        show _ = _; rw [← HV.out]; unfold oneR; simp only [HXX.out, HK.out, Hy.out]; simp
      refine bodyPost_ret (v := .agg (evC (evO 4 0 y 0 ⟨#[]⟩ []) none 0).toArray) ?_ rfl ?_
      · simp [results, Try.results41, go_sem, evC, evO]
      · rw [HVk.out]; exact ⟨none, 0, rfl, .inl ⟨rfl, rfl, rfl⟩, ((Below.refl _ _).alloc (Nat.le_refl _) _)⟩
    · skip
      go_wp2_with fail
      have HVk : Hid (V = evO 5 0 y 0 ⟨#[]⟩ []) := by
        show _ = _; rw [← HV.out]; unfold oneR; simp only [HXX.out, HK.out, Hy.out]; simp
      refine bodyPost_ret (v := .agg (evC (evO 5 0 y 0 ⟨#[]⟩ []) none 0).toArray) ?_ rfl ?_
      · simp [results, Try.results41, go_sem, evC, evO]
      · rw [HVk.out]; exact ⟨none, 0, rfl, .inl ⟨rfl, rfl, rfl⟩, ((Below.refl _ _).alloc (Nat.le_refl _) _)⟩
    · skip
      have hlen : 3 ≤ xs.length := by have hl2 := HL.out; unfold longR at hl2; simp only [HXX.out, HK.out] at hl2; simp at hl2; split at hl2 <;> omega
      by_cases hc3 : cap = 3
      · subst hc3
        have kc : (convert 22 9 (.slice (some ⟨g, o, none⟩) 0 0)).run Try.prog (w.alloc (.cells #[.int .i64 0, .int .i64 0, .int .i64 0, .int .i64 0, .string ⟨#[]⟩, .slice none 0 0, .int .u16 0, .int .u16 0, .int .u16 0, .int .i64 0, .int .i64 0] 41)) = .ok (.string (strOfNums (xs.drop 3))) (w.alloc (.cells #[.int .i64 0, .int .i64 0, .int .i64 0, .int .i64 0, .string ⟨#[]⟩, .slice none 0 0, .int .u16 0, .int .u16 0, .int .u16 0, .int .i64 0, .int .i64 0] 41)) := by
          have e : xs.length - 3 = 0 := by omega
          have := conv_end0 (m := 3) (c' := 0) (HS.out.keep ((Below.refl _ _).alloc hB (.cells #[.int .i64 0, .int .i64 0, .int .i64 0, .int .i64 0, .string ⟨#[]⟩, .slice none 0 0, .int .u16 0, .int .u16 0, .int .u16 0, .int .i64 0, .int .i64 0] 41))) (by omega) rfl
          rw [e] at this; exact this
        go_wp2_with fail
        have HVk : Hid (V = evO 6 M 0 0 (strOfNums (xs.drop 3)) []) := by
          show _ = _; rw [← HV.out]; unfold oneR; simp only [HXX.out, HK.out, HMM.out]; simp
        refine bodyPost_ret (v := .agg (evC (evO 6 M 0 0 (strOfNums (xs.drop 3)) []) none 0).toArray) ?_ rfl ?_
        · simp [results, Try.results41, go_sem, evC, evO]
        · rw [HVk.out]; exact ⟨none, 0, rfl, .inl ⟨rfl, rfl, rfl⟩, ((Below.refl _ _).alloc (Nat.le_refl _) _)⟩
      · have hc4 : 3 < cap := by omega
        have kc : (convert 22 9 (.slice (some ⟨g, o + 3, none⟩) (xs.length - 3) (cap - 3))).run Try.prog (w.alloc (.cells #[.int .i64 0, .int .i64 0, .int .i64 0, .int .i64 0, .string ⟨#[]⟩, .slice none 0 0, .int .u16 0, .int .u16 0, .int .u16 0, .int .i64 0, .int .i64 0] 41)) = .ok (.string (strOfNums (xs.drop 3))) _ := conv_end (HS.out.keep ((Below.refl _ _).alloc hB _)) (by omega)
        go_wp2_with fail
        have HVk : Hid (V = evO 6 M 0 0 (strOfNums (xs.drop 3)) []) := by
          show _ = _; rw [← HV.out]; unfold oneR; simp only [HXX.out, HK.out, HMM.out]; simp
        refine bodyPost_ret (v := .agg (evC (evO 6 M 0 0 (strOfNums (xs.drop 3)) []) none 0).toArray) ?_ rfl ?_
        · simp [results, Try.results41, go_sem, evC, evO]
        · rw [HVk.out]; exact ⟨none, 0, rfl, .inl ⟨rfl, rfl, rfl⟩, ((Below.refl _ _).alloc (Nat.le_refl _) _)⟩
    · skip
      have hlen : 4 ≤ xs.length := by have hl2 := HL.out; unfold longR at hl2; simp only [HXX.out, HK.out] at hl2; simp at hl2; omega
      have c2 := HC.out 2 (by omega)
      obtain ⟨a20, a21⟩ := HX.out 2 (by omega)
      obtain ⟨a2, ha2⟩ : ∃ y, xs.getD 2 0 = y := ⟨_, rfl⟩
      have Ha2 := Lib.hid ha2
      rw [ha2] at c2 a20 a21
      clear ha2
      have c3 := HC.out 3 (by omega)
      obtain ⟨a30, a31⟩ := HX.out 3 (by omega)
      obtain ⟨a3, ha3⟩ : ∃ y, xs.getD 3 0 = y := ⟨_, rfl⟩
      have Ha3 := Lib.hid ha3
      rw [ha3] at c3 a30 a31
      clear ha3
      go_wp2_with fail
      go_region
      all_goals
        go_wp2_with fail
        have HVk : Hid (V = evO 7 M 0 0 ⟨#[]⟩ [a2, a3]) := by
          show _ = _; rw [← HV.out]; unfold oneR; simp only [HXX.out, HK.out, Ha2.out, Ha3.out, HMM.out]; simp
        refine bodyPost_ret (v := .agg (evC (evO 7 M 0 0 ⟨#[]⟩ [a2, a3]) (some ⟨w.heap.size + 1, 0, none⟩) 2).toArray) ?_ rfl ?_
        · simp [results, Try.results41, go_sem, evC, evO]
        · rw [HVk.out]; exact ⟨(some ⟨w.heap.size + 1, 0, none⟩), 2, rfl, .inr ⟨_, rfl, rfl, by have := heap_last (w.alloc (.cells #[.int .i64 7, .int .i64 M, .int .i64 0, .int .i64 0, .string ⟨#[]⟩, .slice (some ⟨w.heap.size + 1, 0, none⟩) 2 2, .int .u16 0, .int .u16 0, .int .u16 0, .int .i64 0, .int .i64 0] 41)) (.cells #[.int .i64 a2, .int .i64 a3] 3); simp only [World.size_alloc] at this; exact this⟩, (Below.drew (((Below.refl _ _).alloc (Nat.le_refl _) _).alloc (by simp) _))⟩
    · skip
      go_wp2_with fail
      have HVk : Hid (V = evO 8 M 0 0 ⟨#[]⟩ []) := by
        show _ = _; rw [← HV.out]; unfold oneR; simp only [HXX.out, HK.out, HMM.out]; simp
      refine bodyPost_ret (v := .agg (evC (evO 8 M 0 0 ⟨#[]⟩ []) none 0).toArray) ?_ rfl ?_
      · simp [results, Try.results41, go_sem, evC, evO]
      · rw [HVk.out]; exact ⟨none, 0, rfl, .inl ⟨rfl, rfl, rfl⟩, ((Below.refl _ _).alloc (Nat.le_refl _) _)⟩
    · skip
      have hlen : 3 ≤ xs.length := by have hl2 := HL.out; unfold longR at hl2; simp only [HXX.out, HK.out] at hl2; simp at hl2; omega
      have c2 := HC.out 2 (by omega)
      obtain ⟨a20, a21⟩ := HX.out 2 (by omega)
      obtain ⟨a2, ha2⟩ : ∃ y, xs.getD 2 0 = y := ⟨_, rfl⟩
      have Ha2 := Lib.hid ha2
      rw [ha2] at c2 a20 a21
      clear ha2
      go_wp2_with fail
      have HVk : Hid (V = evO 9 M a2 0 ⟨#[]⟩ []) := by
        show _ = _; rw [← HV.out]; unfold oneR; simp only [HXX.out, HK.out, Ha2.out, HMM.out]; simp
      refine bodyPost_ret (v := .agg (evC (evO 9 M a2 0 ⟨#[]⟩ []) none 0).toArray) ?_ rfl ?_
      · simp [results, Try.results41, go_sem, evC, evO]
      · rw [HVk.out]; exact ⟨none, 0, rfl, .inl ⟨rfl, rfl, rfl⟩, ((Below.refl _ _).alloc (Nat.le_refl _) _)⟩
    · skip
      have hlen : 5 ≤ xs.length := by have hl2 := HL.out; unfold longR at hl2; simp only [HXX.out, HK.out] at hl2; simp at hl2; omega
      have c2 := HC.out 2 (by omega)
      obtain ⟨a20, a21⟩ := HX.out 2 (by omega)
      obtain ⟨a2, ha2⟩ : ∃ y, xs.getD 2 0 = y := ⟨_, rfl⟩
      have Ha2 := Lib.hid ha2
      rw [ha2] at c2 a20 a21
      clear ha2
      have c3 := HC.out 3 (by omega)
      obtain ⟨a30, a31⟩ := HX.out 3 (by omega)
      obtain ⟨a3, ha3⟩ : ∃ y, xs.getD 3 0 = y := ⟨_, rfl⟩
      have Ha3 := Lib.hid ha3
      rw [ha3] at c3 a30 a31
      clear ha3
      have c4 := HC.out 4 (by omega)
      obtain ⟨a40, a41⟩ := HX.out 4 (by omega)
      obtain ⟨a4, ha4⟩ : ∃ y, xs.getD 4 0 = y := ⟨_, rfl⟩
      have Ha4 := Lib.hid ha4
      rw [ha4] at c4 a40 a41
      clear ha4
      go_wp2_with fail
      go_region
      all_goals
        go_wp2_with fail
        have HVk : Hid (V = evO 12 M a2 (a3 * 256 + a4) ⟨#[]⟩ []) := by
          show _ = _; rw [← HV.out]; unfold oneR; simp only [HXX.out, HK.out, Ha2.out, Ha3.out, Ha4.out, HMM.out]; simp
        refine bodyPost_ret (v := .agg (evC (evO 12 M a2 (a3 * 256 + a4) ⟨#[]⟩ []) none 0).toArray) ?_ rfl ?_
        · simp [results, Try.results41, go_sem, evC, evO]
        · rw [HVk.out]; exact ⟨none, 0, rfl, .inl ⟨rfl, rfl, rfl⟩, (Below.drew ((Below.refl _ _).alloc (Nat.le_refl _) _))⟩
end Go.Proofs.Ytihkkoldjllifaa
