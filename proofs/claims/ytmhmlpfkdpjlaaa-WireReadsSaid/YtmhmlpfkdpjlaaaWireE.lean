import Derived.Test.YtmhmlpfkdpjlaaaWireM
import Derived.Test.YtmhmlpfkdpjlaaaWireC
import Derived.Test.YtmhmlpfkdpjlaaaRoom
/- Wire: what was written is read: a command without spans and writes. -/
namespace Go.Proofs.Ytmhmlpfkdpjlaaa
open Go.ChangeShapes Go.WideShapes Go.ChangeAt Go.RowKit

theorem zag_zig {v : Int} (_h : In64 v) : zagI (zigI v) = v := by
  unfold zagI zigI
  split <;> split <;> omega
theorem rdNw_enc {v : Int} (h : In64 v) (r : List Int) : rdNw (encN v ++ r) false = (v, r, false) := by
  have f := zigI_fit h
  unfold rdNw encN
  rw [takeV_var _ (by omega) r]
  simp only [Int.toNat_natCast, List.drop_left, Int.toNat_of_nonneg f.1, zag_zig h]
  simp
theorem rdSw_enc {a b : Int} (ha : In64 a) (hb : In64 b) (r : List Int) : rdSw (stampB a b ++ r) false = ((a, b), r, false) := by
  have ht : (stampB a b ++ r).take 16 = stampB a b := by rw [List.take_left' (stampB_len a b)]
  have hd : (stampB a b ++ r).drop 16 = r := by rw [List.drop_left' (stampB_len a b)]
  have h0 : takeE (stampB a b) = 0 := by unfold takeE; rw [stampB_len]; rfl
  have bd : ∀ {v : Int}, In64 v → 0 ≤ orderI v ∧ orderI v ≤ 18446744073709551615 ∧ backI (orderI v) = v := fun {v} h => by unfold backI orderI; obtain ⟨h0, h1⟩ := h; omega
  unfold rdSw
  rw [ht, hd, h0]
  have h1 : takeW (stampB a b) = a := by
    unfold takeW; rw [if_pos h0, List.drop_zero]
    unfold stampB
    rw [List.take_left' (bePre_len _ _ _), beVal_8 _ (bd ha).1 (bd ha).2.1, (bd ha).2.2]
  have h2 : takeT (stampB a b) = b := by
    unfold takeT; rw [if_pos h0]
    unfold stampB
    rw [List.drop_left' (bePre_len _ _ _), List.take_of_length_le (by rw [bePre_len]; decide), beVal_8 _ (bd hb).1 (bd hb).2.1, (bd hb).2.2]
  rw [h1, h2]; simp
theorem rdFw_enc (b : Bool) (r : List Int) : rdFw (encF b ++ r) false = (b, r, false) := by
  cases b <;> rfl
end Go.Proofs.Ytmhmlpfkdpjlaaa
/- Wire: are two lists of spans, of writes, the same? -/
namespace Go.Proofs.Ytmhmlpfkdpjlaaa
open Go.ChangeShapes Go.WideShapes Go.ChangeAt Go.RowKit

theorem take_nextW {α : Type} {xs ys : List α} {k : Nat} (h : xs.take k = ys.take k) (hk : k < xs.length) (hk' : k < ys.length) (e : xs[k] = ys[k]) : xs.take (k + 1) = ys.take (k + 1) := by
  rw [List.take_succ_eq_append_getElem hk, List.take_succ_eq_append_getElem hk', h, e]
theorem ret_boolW {a b : Bool} (h : a = b) : Ending.returned (.bool a) = .returned (.bool b) := by rw [h]
theorem bytes_neW {s t : ByteArray} (h : s ≠ t) : (s.toList == t.toList) = false := by
  rw [beq_eq_false_iff_ne]
  exact fun e => h (bytes_inj (by rw [← ByteArray.toList_eq, ← ByteArray.toList_eq, e]))
theorem neq_Sp_yes (a0 : ByteArray) (a1 : ByteArray) (w : World) : (binOp .neq 65 (.agg #[.string a0, .string a1]) (.agg #[.string a0, .string a1])).run Try.prog w = .ok (.bool false) w := by
  simp [go_sem]
theorem neq_Sp_no (a0 : ByteArray) (a1 : ByteArray) (b0 : ByteArray) (b1 : ByteArray) (w : World) (h : ¬ (a0 = b0 ∧ a1 = b1)) : (binOp .neq 65 (.agg #[.string a0, .string a1]) (.agg #[.string b0, .string b1])).run Try.prog w = .ok (.bool true) w := by
  by_cases h0 : a0 = b0
  rotate_left
  · have hq := bytes_neW h0
    simp [go_sem, hq]
  subst h0
  by_cases h1 : a1 = b1
  rotate_left
  · have hq := bytes_neW h1
    simp [go_sem, hq]
  subst h1
  exact absurd (by simp) h
theorem neq_Wr_yes (a0 : ByteArray) (a1 : Bool) (a2 : ByteArray) (w : World) : (binOp .neq 67 (.agg #[.string a0, .bool a1, .string a2]) (.agg #[.string a0, .bool a1, .string a2])).run Try.prog w = .ok (.bool false) w := by
  simp [go_sem]
theorem neq_Wr_no (a0 : ByteArray) (a1 : Bool) (a2 : ByteArray) (b0 : ByteArray) (b1 : Bool) (b2 : ByteArray) (w : World) (h : ¬ (a0 = b0 ∧ a1 = b1 ∧ a2 = b2)) : (binOp .neq 67 (.agg #[.string a0, .bool a1, .string a2]) (.agg #[.string b0, .bool b1, .string b2])).run Try.prog w = .ok (.bool true) w := by
  by_cases h0 : a0 = b0
  rotate_left
  · have hq := bytes_neW h0
    simp [go_sem, hq]
  subst h0
  by_cases h1 : a1 = b1
  rotate_left
  · have hq := (by simpa using h1 : (a1 == b1) = false)
    simp [go_sem, hq]
  subst h1
  by_cases h2 : a2 = b2
  rotate_left
  · have hq := bytes_neW h2
    simp [go_sem, hq]
  subst h2
  exact absurd (by simp) h
set_option maxRecDepth 100000 in
set_option maxHeartbeats 4000000 in
theorem eqSp_any (L M : List SpX) (p q : Option Addr) (c d : Nat) (w : World) (hl : L.length ≤ 1000000) (hm : M.length ≤ 1000000) (h1 : SpsAt w p L) (h2 : SpsAt w q M) :
    Calls Try.prog 32 #[.slice p L.length c, .slice q M.length d] w fun r w' => r = .returned (.bool (decide (L = M))) ∧ Below w.heap.size w w' := by
  have H1 := Lib.hid h1; have H2 := Lib.hid h2
  clear h1 h2
  by_cases hne : L.length = M.length
  rotate_left
  · have HN : Hid (decide (L = M) = false) := by show _ = _; rw [decide_eq_false_iff_not]; intro e; exact hne (by rw [e])
    have hd : ((L.length : Int) != (M.length : Int)) = true := by simp; omega
    have hd2 : (L.length != M.length) = true := by simpa using hne
    clear hne
    go_enter Try.func32, Try.ntmps32
    go_wp2_with fail
    go_ret
    exact ⟨ret_boolW HN.out.symm, Below.refl _ _⟩
  have hne1 : (L.length != M.length) = false := by simp [hne]
  have hne2 : ((L.length : Int) != (M.length : Int)) = false := by simp [hne]
  obtain ⟨hl1, hl2⟩ : L.length ≤ M.length ∧ M.length ≤ L.length := by omega
  clear hne
  go_enter Try.func32, Try.ntmps32
  obtain ⟨U, f, hU, hf, hg⟩ := calm_class w
  obtain ⟨u0, hu0⟩ := hg _ (Below.refl _ _)
  have HB0 : Hid (∀ u, Below w.heap.size w (f u)) := hf
  rw [hu0]
  have HBU := Lib.hid hu0
  clear hu0
  go_wp2_with fail
  go_loopw [13] (fun i wr => ∃ k : Nat, k ≤ L.length ∧ i = .int .i64 k ∧ Hid (L.take k = M.take k) ∧ ∃ u, wr = f u) (fun i _ => L.length - (intOf i).toNat)
  case atStart => exact ⟨0, Nat.zero_le _, rfl, rfl, _, rfl⟩
  case round =>
    obtain ⟨k, hk, rfl, HT, u, rfl⟩ := hrel
    by_cases hlt : k < L.length
    · have hlt' : k < M.length := by omega
      have hH1 := H1.out; have hH2 := H2.out
      obtain ⟨ga, oa, hpa, hga, hca0, hca1⟩ := hH1 k hlt
      obtain ⟨gb, ob, hpb, hgb, hcb0, hcb1⟩ := hH2 k hlt'
      obtain ⟨e, he⟩ : ∃ e, L[k] = e := ⟨_, rfl⟩
      obtain ⟨e2, he2⟩ : ∃ e, M[k] = e := ⟨_, rfl⟩
      rw [he] at hca0 hca1
      rw [he2] at hcb0 hcb1
      clear hH1 hH2
      subst hpa hpb
      have qa0 : ∀ u, (f u).cell? ⟨ga, oa + k * 2, none⟩ = some (.string e.lo) := fun u => ((hf u).cell (p := ⟨ga, oa + k * 2, none⟩) hga).trans hca0
      have qa1 : ∀ u, (f u).cell? ⟨ga, oa + k * 2 + 1, none⟩ = some (.string e.hi) := fun u => ((hf u).cell (p := ⟨ga, oa + k * 2 + 1, none⟩) hga).trans hca1
      have qb0 : ∀ u, (f u).cell? ⟨gb, ob + k * 2, none⟩ = some (.string e2.lo) := fun u => ((hf u).cell (p := ⟨gb, ob + k * 2, none⟩) hgb).trans hcb0
      have qb1 : ∀ u, (f u).cell? ⟨gb, ob + k * 2 + 1, none⟩ = some (.string e2.hi) := fun u => ((hf u).cell (p := ⟨gb, ob + k * 2 + 1, none⟩) hgb).trans hcb1
      have HEA := Lib.hid he; have HEB := Lib.hid he2
      clear he he2 hca0 hca1 hcb0 hcb1
      have hd1 : decide ((k : Int) < (L.length : Int)) = true := by simp; omega
      have hd2 : decide ((k : Int) < (M.length : Int)) = true := by simp; omega
      have hk1 : (k : Int) < (L.length : Int) := by omega
      have hk2 : (k : Int) < (M.length : Int) := by omega
      by_cases hy : e = e2
      · subst hy
        have HT' : Hid (L.take (k + 1) = M.take (k + 1)) := take_nextW HT.out hlt hlt' (by rw [HEA.out, HEB.out])
        have hq := neq_Sp_yes e.lo e.hi
        go_wp2_with fail
        refine wp_region_calm f (by kernel_rfl) (by kernel_rfl) (calm_drew hf hg _) ?_
        repeat (go_big_quiet_step ((first | fail)))
        refine wpQuiet_nil ?_; rintro _ ⟨u, rfl⟩
        go_wp2_with fail
        go_roundw
        case rel => exact ⟨k + 1, by omega, by go_num, HT', _, rfl⟩
        case measure => simp [intOf]; omega
      · have HN : Hid (decide (L = M) = false) := by
          show _ = _; rw [decide_eq_false_iff_not]; intro h; subst h; exact hy (HEA.out.symm.trans HEB.out)
        have hq := fun w => neq_Sp_no e.lo e.hi e2.lo e2.hi w (fun h => hy (by cases e; cases e2; simp_all))
        clear hy
        go_wp2_with fail
        refine wp_region_calm f (by kernel_rfl) (by kernel_rfl) (calm_drew hf hg _) ?_
        repeat (go_big_quiet_step ((first | fail)))
        refine wpQuiet_nil ?_; rintro _ ⟨u, rfl⟩
        go_wp2_with fail
        go_ret
        exact ⟨ret_boolW HN.out.symm, by rw [← HBU.out]; exact HB0.out _⟩
    · obtain rfl : k = L.length := by omega
      have HN : Hid (decide (L = M) = true) := by
        show _ = _; rw [decide_eq_true_iff]
        have := HT.out
        rw [List.take_of_length_le (Nat.le_refl _), List.take_of_length_le (by omega)] at this; exact this
      have hd1 : decide ((L.length : Int) < (L.length : Int)) = false := by simp
      go_wp2_with fail
      go_ret
      exact ⟨ret_boolW HN.out.symm, by rw [← HBU.out]; exact HB0.out _⟩
set_option maxRecDepth 100000 in
set_option maxHeartbeats 4000000 in
theorem eqWr_any (L M : List WrX) (p q : Option Addr) (c d : Nat) (w : World) (hl : L.length ≤ 1000000) (hm : M.length ≤ 1000000) (h1 : WrsAt w p L) (h2 : WrsAt w q M) :
    Calls Try.prog 33 #[.slice p L.length c, .slice q M.length d] w fun r w' => r = .returned (.bool (decide (L = M))) ∧ Below w.heap.size w w' := by
  have H1 := Lib.hid h1; have H2 := Lib.hid h2
  clear h1 h2
  by_cases hne : L.length = M.length
  rotate_left
  · have HN : Hid (decide (L = M) = false) := by show _ = _; rw [decide_eq_false_iff_not]; intro e; exact hne (by rw [e])
    have hd : ((L.length : Int) != (M.length : Int)) = true := by simp; omega
    have hd2 : (L.length != M.length) = true := by simpa using hne
    clear hne
    go_enter Try.func33, Try.ntmps33
    go_wp2_with fail
    go_ret
    exact ⟨ret_boolW HN.out.symm, Below.refl _ _⟩
  have hne1 : (L.length != M.length) = false := by simp [hne]
  have hne2 : ((L.length : Int) != (M.length : Int)) = false := by simp [hne]
  obtain ⟨hl1, hl2⟩ : L.length ≤ M.length ∧ M.length ≤ L.length := by omega
  clear hne
  go_enter Try.func33, Try.ntmps33
  obtain ⟨U, f, hU, hf, hg⟩ := calm_class w
  obtain ⟨u0, hu0⟩ := hg _ (Below.refl _ _)
  have HB0 : Hid (∀ u, Below w.heap.size w (f u)) := hf
  rw [hu0]
  have HBU := Lib.hid hu0
  clear hu0
  go_wp2_with fail
  go_loopw [13] (fun i wr => ∃ k : Nat, k ≤ L.length ∧ i = .int .i64 k ∧ Hid (L.take k = M.take k) ∧ ∃ u, wr = f u) (fun i _ => L.length - (intOf i).toNat)
  case atStart => exact ⟨0, Nat.zero_le _, rfl, rfl, _, rfl⟩
  case round =>
    obtain ⟨k, hk, rfl, HT, u, rfl⟩ := hrel
    by_cases hlt : k < L.length
    · have hlt' : k < M.length := by omega
      have hH1 := H1.out; have hH2 := H2.out
      obtain ⟨ga, oa, hpa, hga, hca0, hca1, hca2⟩ := hH1 k hlt
      obtain ⟨gb, ob, hpb, hgb, hcb0, hcb1, hcb2⟩ := hH2 k hlt'
      obtain ⟨e, he⟩ : ∃ e, L[k] = e := ⟨_, rfl⟩
      obtain ⟨e2, he2⟩ : ∃ e, M[k] = e := ⟨_, rfl⟩
      rw [he] at hca0 hca1 hca2
      rw [he2] at hcb0 hcb1 hcb2
      clear hH1 hH2
      subst hpa hpb
      have qa0 : ∀ u, (f u).cell? ⟨ga, oa + k * 3, none⟩ = some (.string e.k) := fun u => ((hf u).cell (p := ⟨ga, oa + k * 3, none⟩) hga).trans hca0
      have qa1 : ∀ u, (f u).cell? ⟨ga, oa + k * 3 + 1, none⟩ = some (.bool e.r) := fun u => ((hf u).cell (p := ⟨ga, oa + k * 3 + 1, none⟩) hga).trans hca1
      have qa2 : ∀ u, (f u).cell? ⟨ga, oa + k * 3 + 2, none⟩ = some (.string e.d) := fun u => ((hf u).cell (p := ⟨ga, oa + k * 3 + 2, none⟩) hga).trans hca2
      have qb0 : ∀ u, (f u).cell? ⟨gb, ob + k * 3, none⟩ = some (.string e2.k) := fun u => ((hf u).cell (p := ⟨gb, ob + k * 3, none⟩) hgb).trans hcb0
      have qb1 : ∀ u, (f u).cell? ⟨gb, ob + k * 3 + 1, none⟩ = some (.bool e2.r) := fun u => ((hf u).cell (p := ⟨gb, ob + k * 3 + 1, none⟩) hgb).trans hcb1
      have qb2 : ∀ u, (f u).cell? ⟨gb, ob + k * 3 + 2, none⟩ = some (.string e2.d) := fun u => ((hf u).cell (p := ⟨gb, ob + k * 3 + 2, none⟩) hgb).trans hcb2
      have HEA := Lib.hid he; have HEB := Lib.hid he2
      clear he he2 hca0 hca1 hca2 hcb0 hcb1 hcb2
      have hd1 : decide ((k : Int) < (L.length : Int)) = true := by simp; omega
      have hd2 : decide ((k : Int) < (M.length : Int)) = true := by simp; omega
      have hk1 : (k : Int) < (L.length : Int) := by omega
      have hk2 : (k : Int) < (M.length : Int) := by omega
      by_cases hy : e = e2
      · subst hy
        have HT' : Hid (L.take (k + 1) = M.take (k + 1)) := take_nextW HT.out hlt hlt' (by rw [HEA.out, HEB.out])
        have hq := neq_Wr_yes e.k e.r e.d
        go_wp2_with fail
        refine wp_region_calm f (by kernel_rfl) (by kernel_rfl) (calm_drew hf hg _) ?_
        repeat (go_big_quiet_step ((first | fail)))
        refine wpQuiet_nil ?_; rintro _ ⟨u, rfl⟩
        go_wp2_with fail
        go_roundw
        case rel => exact ⟨k + 1, by omega, by go_num, HT', _, rfl⟩
        case measure => simp [intOf]; omega
      · have HN : Hid (decide (L = M) = false) := by
          show _ = _; rw [decide_eq_false_iff_not]; intro h; subst h; exact hy (HEA.out.symm.trans HEB.out)
        have hq := fun w => neq_Wr_no e.k e.r e.d e2.k e2.r e2.d w (fun h => hy (by cases e; cases e2; simp_all))
        clear hy
        go_wp2_with fail
        refine wp_region_calm f (by kernel_rfl) (by kernel_rfl) (calm_drew hf hg _) ?_
        repeat (go_big_quiet_step ((first | fail)))
        refine wpQuiet_nil ?_; rintro _ ⟨u, rfl⟩
        go_wp2_with fail
        go_ret
        exact ⟨ret_boolW HN.out.symm, by rw [← HBU.out]; exact HB0.out _⟩
    · obtain rfl : k = L.length := by omega
      have HN : Hid (decide (L = M) = true) := by
        show _ = _; rw [decide_eq_true_iff]
        have := HT.out
        rw [List.take_of_length_le (Nat.le_refl _), List.take_of_length_le (by omega)] at this; exact this
      have hd1 : decide ((L.length : Int) < (L.length : Int)) = false := by simp
      go_wp2_with fail
      go_ret
      exact ⟨ret_boolW HN.out.symm, by rw [← HBU.out]; exact HB0.out _⟩
end Go.Proofs.Ytmhmlpfkdpjlaaa
