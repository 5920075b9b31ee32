/- Wire: the parts of a state; are two lists of versions, of outcomes, the same? -/
import Derived.Test.YtmhmlpfkdpjlaaaWireE
namespace Go.Proofs.Ytmhmlpfkdpjlaaa
open Go.ChangeShapes Go.WideShapes Go.ChangeAt Go.RowKit

structure VeX where
  w : Int
  t : Int
  r : Bool
  d : ByteArray
deriving DecidableEq
structure CeX where
  k : ByteArray
  vs : List VeX
  lk : Bool
  yn : Int
  yl : Int
  ys : Int
  ya : Int
  hm : Int
  sw : Int
  st : Int
  lr : Bool
  ld : ByteArray
deriving DecidableEq
structure OuX where
  yn : Int
  yl : Int
  ys : Int
  ya : Int
  sw : Int
  st : Int
  yes : Bool
deriving DecidableEq
structure PaX where
  e : Int
  h : Int
  fw : Int
  ft : Int
  cl : Int
  lo : Int
  cs : List CeX
  rs : List OuX
  ds : List OuX
deriving DecidableEq
def VesAt (w : World) (p : Option Addr) (L : List VeX) : Prop := ∀ j, (hj : j < L.length) → ∃ g o, p = some ⟨g, o, none⟩ ∧ g < w.heap.size ∧ w.cell? ⟨g, o + j * 4, none⟩ = some (.int .i64 L[j].w) ∧ w.cell? ⟨g, o + j * 4 + 1, none⟩ = some (.int .i64 L[j].t) ∧ w.cell? ⟨g, o + j * 4 + 2, none⟩ = some (.bool L[j].r) ∧ w.cell? ⟨g, o + j * 4 + 3, none⟩ = some (.string L[j].d)
theorem VesAt.keep {w w' : World} {p : Option Addr} {L : List VeX} (h : VesAt w p L) {B : Nat} (hb : Below B w w') (hB : w.heap.size ≤ B) : VesAt w' p L := fun j hj => by
  obtain ⟨g, o, e, hg, h0, h1, h2, h3⟩ := h j hj
  exact ⟨g, o, e, Nat.lt_of_lt_of_le hg hb.size, (hb.cell (p := ⟨g, o + j * 4, none⟩) (by show g < B; omega)).trans h0, (hb.cell (p := ⟨g, o + j * 4 + 1, none⟩) (by show g < B; omega)).trans h1, (hb.cell (p := ⟨g, o + j * 4 + 2, none⟩) (by show g < B; omega)).trans h2, (hb.cell (p := ⟨g, o + j * 4 + 3, none⟩) (by show g < B; omega)).trans h3⟩
def OusAt (w : World) (p : Option Addr) (L : List OuX) : Prop := ∀ j, (hj : j < L.length) → ∃ g o, p = some ⟨g, o, none⟩ ∧ g < w.heap.size ∧ w.cell? ⟨g, o + j * 7, none⟩ = some (.int .i64 L[j].yn) ∧ w.cell? ⟨g, o + j * 7 + 1, none⟩ = some (.int .i64 L[j].yl) ∧ w.cell? ⟨g, o + j * 7 + 2, none⟩ = some (.int .i64 L[j].ys) ∧ w.cell? ⟨g, o + j * 7 + 3, none⟩ = some (.int .i64 L[j].ya) ∧ w.cell? ⟨g, o + j * 7 + 4, none⟩ = some (.int .i64 L[j].sw) ∧ w.cell? ⟨g, o + j * 7 + 5, none⟩ = some (.int .i64 L[j].st) ∧ w.cell? ⟨g, o + j * 7 + 6, none⟩ = some (.bool L[j].yes)
theorem OusAt.keep {w w' : World} {p : Option Addr} {L : List OuX} (h : OusAt w p L) {B : Nat} (hb : Below B w w') (hB : w.heap.size ≤ B) : OusAt w' p L := fun j hj => by
  obtain ⟨g, o, e, hg, h0, h1, h2, h3, h4, h5, h6⟩ := h j hj
  exact ⟨g, o, e, Nat.lt_of_lt_of_le hg hb.size, (hb.cell (p := ⟨g, o + j * 7, none⟩) (by show g < B; omega)).trans h0, (hb.cell (p := ⟨g, o + j * 7 + 1, none⟩) (by show g < B; omega)).trans h1, (hb.cell (p := ⟨g, o + j * 7 + 2, none⟩) (by show g < B; omega)).trans h2, (hb.cell (p := ⟨g, o + j * 7 + 3, none⟩) (by show g < B; omega)).trans h3, (hb.cell (p := ⟨g, o + j * 7 + 4, none⟩) (by show g < B; omega)).trans h4, (hb.cell (p := ⟨g, o + j * 7 + 5, none⟩) (by show g < B; omega)).trans h5, (hb.cell (p := ⟨g, o + j * 7 + 6, none⟩) (by show g < B; omega)).trans h6⟩
theorem neq_Ve_yes (a0 : Int) (a1 : Int) (a2 : Bool) (a3 : ByteArray) (w : World) : (binOp .neq 78 (.agg #[.int .i64 a0, .int .i64 a1, .bool a2, .string a3]) (.agg #[.int .i64 a0, .int .i64 a1, .bool a2, .string a3])).run Try.prog w = .ok (.bool false) w := by
  simp [go_sem]
theorem neq_Ve_no (a0 : Int) (a1 : Int) (a2 : Bool) (a3 : ByteArray) (b0 : Int) (b1 : Int) (b2 : Bool) (b3 : ByteArray) (w : World) (h : ¬ (a0 = b0 ∧ a1 = b1 ∧ a2 = b2 ∧ a3 = b3)) : (binOp .neq 78 (.agg #[.int .i64 a0, .int .i64 a1, .bool a2, .string a3]) (.agg #[.int .i64 b0, .int .i64 b1, .bool b2, .string b3])).run Try.prog w = .ok (.bool true) w := by
  by_cases h0 : a0 = b0
  rotate_left
  · have hq := (by simpa using h0 : (a0 == b0) = false)
    simp [go_sem, hq]
  subst h0
  by_cases h1 : a1 = b1
  rotate_left
  · have hq := (by simpa using h1 : (a1 == b1) = false)
    simp [go_sem, hq]
  subst h1
  by_cases h2 : a2 = b2
  rotate_left
  · have hq := (by simpa using h2 : (a2 == b2) = false)
    simp [go_sem, hq]
  subst h2
  by_cases h3 : a3 = b3
  rotate_left
  · have hq := bytes_neW h3
    simp [go_sem, hq]
  subst h3
  exact absurd (by simp) h
theorem neq_Ou_yes (a0 : Int) (a1 : Int) (a2 : Int) (a3 : Int) (a4 : Int) (a5 : Int) (a6 : Bool) (w : World) : (binOp .neq 83 (.agg #[.int .i64 a0, .int .i64 a1, .int .i64 a2, .int .i64 a3, .int .i64 a4, .int .i64 a5, .bool a6]) (.agg #[.int .i64 a0, .int .i64 a1, .int .i64 a2, .int .i64 a3, .int .i64 a4, .int .i64 a5, .bool a6])).run Try.prog w = .ok (.bool false) w := by
  simp [go_sem]
theorem neq_Ou_no (a0 : Int) (a1 : Int) (a2 : Int) (a3 : Int) (a4 : Int) (a5 : Int) (a6 : Bool) (b0 : Int) (b1 : Int) (b2 : Int) (b3 : Int) (b4 : Int) (b5 : Int) (b6 : Bool) (w : World) (h : ¬ (a0 = b0 ∧ a1 = b1 ∧ a2 = b2 ∧ a3 = b3 ∧ a4 = b4 ∧ a5 = b5 ∧ a6 = b6)) : (binOp .neq 83 (.agg #[.int .i64 a0, .int .i64 a1, .int .i64 a2, .int .i64 a3, .int .i64 a4, .int .i64 a5, .bool a6]) (.agg #[.int .i64 b0, .int .i64 b1, .int .i64 b2, .int .i64 b3, .int .i64 b4, .int .i64 b5, .bool b6])).run Try.prog w = .ok (.bool true) w := by
  by_cases h0 : a0 = b0
  rotate_left
  · have hq := (by simpa using h0 : (a0 == b0) = false)
    simp [go_sem, hq]
  subst h0
  by_cases h1 : a1 = b1
  rotate_left
  · have hq := (by simpa using h1 : (a1 == b1) = false)
    simp [go_sem, hq]
  subst h1
  by_cases h2 : a2 = b2
  rotate_left
  · have hq := (by simpa using h2 : (a2 == b2) = false)
    simp [go_sem, hq]
  subst h2
  by_cases h3 : a3 = b3
  rotate_left
  · have hq := (by simpa using h3 : (a3 == b3) = false)
    simp [go_sem, hq]
  subst h3
  by_cases h4 : a4 = b4
  rotate_left
  · have hq := (by simpa using h4 : (a4 == b4) = false)
    simp [go_sem, hq]
  subst h4
  by_cases h5 : a5 = b5
  rotate_left
  · have hq := (by simpa using h5 : (a5 == b5) = false)
    simp [go_sem, hq]
  subst h5
  by_cases h6 : a6 = b6
  rotate_left
  · have hq := (by simpa using h6 : (a6 == b6) = false)
    simp [go_sem, hq]
  subst h6
  exact absurd (by simp) h
set_option maxRecDepth 100000 in
set_option maxHeartbeats 4000000 in
theorem eqVe_any (L M : List VeX) (p q : Option Addr) (c d : Nat) (w : World) (hl : L.length ≤ 1000000) (hm : M.length ≤ 1000000) (h1 : VesAt w p L) (h2 : VesAt w q M) :
    Calls Try.prog 35 #[.slice p L.length c, .slice q M.length d] w fun r w' => r = .returned (.bool (decide (L = M))) ∧ Below w.heap.size w w' := by
  have H1 := Lib.hid h1; have H2 := Lib.hid h2
  clear h1 h2
  by_cases hne : L.length = M.length
  rotate_left
  · have HN : Hid (decide (L = M) = false) := by show _ = _; rw [decide_eq_false_iff_not]; intro e; exact hne (by rw [e])
    have hd : ((L.length : Int) != (M.length : Int)) = true := by simp; omega
    have hd2 : (L.length != M.length) = true := by simpa using hne
    clear hne
    go_enter Try.func35, Try.ntmps35
    go_wp2_with fail
    go_ret
    exact ⟨ret_boolW HN.out.symm, Below.refl _ _⟩
  have hne1 : (L.length != M.length) = false := by simp [hne]
  have hne2 : ((L.length : Int) != (M.length : Int)) = false := by simp [hne]
  obtain ⟨hl1, hl2⟩ : L.length ≤ M.length ∧ M.length ≤ L.length := by omega
  clear hne
  go_enter Try.func35, Try.ntmps35
  obtain ⟨U, f, hU, hf, hg⟩ := calm_class w
  obtain ⟨u0, hu0⟩ := hg _ (Below.refl _ _)
  have HB0 : Hid (∀ u, Below w.heap.size w (f u)) := hf
  rw [hu0]
  have HBU := Lib.hid hu0
  clear hu0
  go_wp2_with fail
  go_loopw [13] (fun i wr => ∃ k : Nat, k ≤ L.length ∧ i = .int .i64 k ∧ Hid (L.take k = M.take k) ∧ ∃ u, wr = f u) (fun i _ => L.length - (intOf i).toNat)
  case atStart => exact ⟨0, Nat.zero_le _, rfl, rfl, _, rfl⟩
  case round =>
    obtain ⟨k, hk, rfl, HT, u, rfl⟩ := hrel
    by_cases hlt : k < L.length
    · have hlt' : k < M.length := by omega
      have hH1 := H1.out; have hH2 := H2.out
      obtain ⟨ga, oa, hpa, hga, hca0, hca1, hca2, hca3⟩ := hH1 k hlt
      obtain ⟨gb, ob, hpb, hgb, hcb0, hcb1, hcb2, hcb3⟩ := hH2 k hlt'
      obtain ⟨e, he⟩ : ∃ e, L[k] = e := ⟨_, rfl⟩
      obtain ⟨e2, he2⟩ : ∃ e, M[k] = e := ⟨_, rfl⟩
      rw [he] at hca0 hca1 hca2 hca3
      rw [he2] at hcb0 hcb1 hcb2 hcb3
      clear hH1 hH2
      subst hpa hpb
      have qa0 : ∀ u, (f u).cell? ⟨ga, oa + k * 4, none⟩ = some (.int .i64 e.w) := fun u => ((hf u).cell (p := ⟨ga, oa + k * 4, none⟩) hga).trans hca0
      have qa1 : ∀ u, (f u).cell? ⟨ga, oa + k * 4 + 1, none⟩ = some (.int .i64 e.t) := fun u => ((hf u).cell (p := ⟨ga, oa + k * 4 + 1, none⟩) hga).trans hca1
      have qa2 : ∀ u, (f u).cell? ⟨ga, oa + k * 4 + 2, none⟩ = some (.bool e.r) := fun u => ((hf u).cell (p := ⟨ga, oa + k * 4 + 2, none⟩) hga).trans hca2
      have qa3 : ∀ u, (f u).cell? ⟨ga, oa + k * 4 + 3, none⟩ = some (.string e.d) := fun u => ((hf u).cell (p := ⟨ga, oa + k * 4 + 3, none⟩) hga).trans hca3
      have qb0 : ∀ u, (f u).cell? ⟨gb, ob + k * 4, none⟩ = some (.int .i64 e2.w) := fun u => ((hf u).cell (p := ⟨gb, ob + k * 4, none⟩) hgb).trans hcb0
      have qb1 : ∀ u, (f u).cell? ⟨gb, ob + k * 4 + 1, none⟩ = some (.int .i64 e2.t) := fun u => ((hf u).cell (p := ⟨gb, ob + k * 4 + 1, none⟩) hgb).trans hcb1
      have qb2 : ∀ u, (f u).cell? ⟨gb, ob + k * 4 + 2, none⟩ = some (.bool e2.r) := fun u => ((hf u).cell (p := ⟨gb, ob + k * 4 + 2, none⟩) hgb).trans hcb2
      have qb3 : ∀ u, (f u).cell? ⟨gb, ob + k * 4 + 3, none⟩ = some (.string e2.d) := fun u => ((hf u).cell (p := ⟨gb, ob + k * 4 + 3, none⟩) hgb).trans hcb3
      have HEA := Lib.hid he; have HEB := Lib.hid he2
      clear he he2 hca0 hca1 hca2 hca3 hcb0 hcb1 hcb2 hcb3
      have hd1 : decide ((k : Int) < (L.length : Int)) = true := by simp; omega
      have hd2 : decide ((k : Int) < (M.length : Int)) = true := by simp; omega
      have hk1 : (k : Int) < (L.length : Int) := by omega
      have hk2 : (k : Int) < (M.length : Int) := by omega
      by_cases hy : e = e2
      · subst hy
        have HT' : Hid (L.take (k + 1) = M.take (k + 1)) := take_nextW HT.out hlt hlt' (by rw [HEA.out, HEB.out])
        have hq := neq_Ve_yes e.w e.t e.r e.d
        go_wp2_with fail
        refine wp_region_calm f (by kernel_rfl) (by kernel_rfl) (calm_drew hf hg _) ?_
        repeat (go_big_quiet_step ((first | fail)))
        refine wpQuiet_nil ?_; rintro _ ⟨u, rfl⟩
        go_wp2_with fail
        go_roundw
        case rel => exact ⟨k + 1, by omega, by go_num, HT', _, rfl⟩
        case measure => simp [intOf]; omega
      · have HN : Hid (decide (L = M) = false) := by
          show _ = _; rw [decide_eq_false_iff_not]; intro h; subst h; exact hy (HEA.out.symm.trans HEB.out)
        have hq := fun w => neq_Ve_no e.w e.t e.r e.d e2.w e2.t e2.r e2.d w (fun h => hy (by cases e; cases e2; simp_all))
        clear hy
        go_wp2_with fail
        refine wp_region_calm f (by kernel_rfl) (by kernel_rfl) (calm_drew hf hg _) ?_
        repeat (go_big_quiet_step ((first | fail)))
        refine wpQuiet_nil ?_; rintro _ ⟨u, rfl⟩
        go_wp2_with fail
        go_ret
        exact ⟨ret_boolW HN.out.symm, by rw [← HBU.out]; exact HB0.out _⟩
    · obtain rfl : k = L.length := by omega
      have HN : Hid (decide (L = M) = true) := by
        show _ = _; rw [decide_eq_true_iff]
        have := HT.out
        rw [List.take_of_length_le (Nat.le_refl _), List.take_of_length_le (by omega)] at this; exact this
      have hd1 : decide ((L.length : Int) < (L.length : Int)) = false := by simp
      go_wp2_with fail
      go_ret
      exact ⟨ret_boolW HN.out.symm, by rw [← HBU.out]; exact HB0.out _⟩
set_option maxRecDepth 100000 in
set_option maxHeartbeats 4000000 in
theorem eqOu_any (L M : List OuX) (p q : Option Addr) (c d : Nat) (w : World) (hl : L.length ≤ 1000000) (hm : M.length ≤ 1000000) (h1 : OusAt w p L) (h2 : OusAt w q M) :
    Calls Try.prog 37 #[.slice p L.length c, .slice q M.length d] w fun r w' => r = .returned (.bool (decide (L = M))) ∧ Below w.heap.size w w' := by
  have H1 := Lib.hid h1; have H2 := Lib.hid h2
  clear h1 h2
  by_cases hne : L.length = M.length
  rotate_left
  · have HN : Hid (decide (L = M) = false) := by show _ = _; rw [decide_eq_false_iff_not]; intro e; exact hne (by rw [e])
    have hd : ((L.length : Int) != (M.length : Int)) = true := by simp; omega
    have hd2 : (L.length != M.length) = true := by simpa using hne
    clear hne
    go_enter Try.func37, Try.ntmps37
    go_wp2_with fail
    go_ret
    exact ⟨ret_boolW HN.out.symm, Below.refl _ _⟩
  have hne1 : (L.length != M.length) = false := by simp [hne]
  have hne2 : ((L.length : Int) != (M.length : Int)) = false := by simp [hne]
  obtain ⟨hl1, hl2⟩ : L.length ≤ M.length ∧ M.length ≤ L.length := by omega
  clear hne
  go_enter Try.func37, Try.ntmps37
  obtain ⟨U, f, hU, hf, hg⟩ := calm_class w
  obtain ⟨u0, hu0⟩ := hg _ (Below.refl _ _)
  have HB0 : Hid (∀ u, Below w.heap.size w (f u)) := hf
  rw [hu0]
  have HBU := Lib.hid hu0
  clear hu0
  go_wp2_with fail
  go_loopw [13] (fun i wr => ∃ k : Nat, k ≤ L.length ∧ i = .int .i64 k ∧ Hid (L.take k = M.take k) ∧ ∃ u, wr = f u) (fun i _ => L.length - (intOf i).toNat)
  case atStart => exact ⟨0, Nat.zero_le _, rfl, rfl, _, rfl⟩
  case round =>
    obtain ⟨k, hk, rfl, HT, u, rfl⟩ := hrel
    by_cases hlt : k < L.length
    · have hlt' : k < M.length := by omega
      have hH1 := H1.out; have hH2 := H2.out
      obtain ⟨ga, oa, hpa, hga, hca0, hca1, hca2, hca3, hca4, hca5, hca6⟩ := hH1 k hlt
      obtain ⟨gb, ob, hpb, hgb, hcb0, hcb1, hcb2, hcb3, hcb4, hcb5, hcb6⟩ := hH2 k hlt'
      obtain ⟨e, he⟩ : ∃ e, L[k] = e := ⟨_, rfl⟩
      obtain ⟨e2, he2⟩ : ∃ e, M[k] = e := ⟨_, rfl⟩
      rw [he] at hca0 hca1 hca2 hca3 hca4 hca5 hca6
      rw [he2] at hcb0 hcb1 hcb2 hcb3 hcb4 hcb5 hcb6
      clear hH1 hH2
      subst hpa hpb
      have qa0 : ∀ u, (f u).cell? ⟨ga, oa + k * 7, none⟩ = some (.int .i64 e.yn) := fun u => ((hf u).cell (p := ⟨ga, oa + k * 7, none⟩) hga).trans hca0
      have qa1 : ∀ u, (f u).cell? ⟨ga, oa + k * 7 + 1, none⟩ = some (.int .i64 e.yl) := fun u => ((hf u).cell (p := ⟨ga, oa + k * 7 + 1, none⟩) hga).trans hca1
      have qa2 : ∀ u, (f u).cell? ⟨ga, oa + k * 7 + 2, none⟩ = some (.int .i64 e.ys) := fun u => ((hf u).cell (p := ⟨ga, oa + k * 7 + 2, none⟩) hga).trans hca2
      have qa3 : ∀ u, (f u).cell? ⟨ga, oa + k * 7 + 3, none⟩ = some (.int .i64 e.ya) := fun u => ((hf u).cell (p := ⟨ga, oa + k * 7 + 3, none⟩) hga).trans hca3
      have qa4 : ∀ u, (f u).cell? ⟨ga, oa + k * 7 + 4, none⟩ = some (.int .i64 e.sw) := fun u => ((hf u).cell (p := ⟨ga, oa + k * 7 + 4, none⟩) hga).trans hca4
      have qa5 : ∀ u, (f u).cell? ⟨ga, oa + k * 7 + 5, none⟩ = some (.int .i64 e.st) := fun u => ((hf u).cell (p := ⟨ga, oa + k * 7 + 5, none⟩) hga).trans hca5
      have qa6 : ∀ u, (f u).cell? ⟨ga, oa + k * 7 + 6, none⟩ = some (.bool e.yes) := fun u => ((hf u).cell (p := ⟨ga, oa + k * 7 + 6, none⟩) hga).trans hca6
      have qb0 : ∀ u, (f u).cell? ⟨gb, ob + k * 7, none⟩ = some (.int .i64 e2.yn) := fun u => ((hf u).cell (p := ⟨gb, ob + k * 7, none⟩) hgb).trans hcb0
      have qb1 : ∀ u, (f u).cell? ⟨gb, ob + k * 7 + 1, none⟩ = some (.int .i64 e2.yl) := fun u => ((hf u).cell (p := ⟨gb, ob + k * 7 + 1, none⟩) hgb).trans hcb1
      have qb2 : ∀ u, (f u).cell? ⟨gb, ob + k * 7 + 2, none⟩ = some (.int .i64 e2.ys) := fun u => ((hf u).cell (p := ⟨gb, ob + k * 7 + 2, none⟩) hgb).trans hcb2
      have qb3 : ∀ u, (f u).cell? ⟨gb, ob + k * 7 + 3, none⟩ = some (.int .i64 e2.ya) := fun u => ((hf u).cell (p := ⟨gb, ob + k * 7 + 3, none⟩) hgb).trans hcb3
      have qb4 : ∀ u, (f u).cell? ⟨gb, ob + k * 7 + 4, none⟩ = some (.int .i64 e2.sw) := fun u => ((hf u).cell (p := ⟨gb, ob + k * 7 + 4, none⟩) hgb).trans hcb4
      have qb5 : ∀ u, (f u).cell? ⟨gb, ob + k * 7 + 5, none⟩ = some (.int .i64 e2.st) := fun u => ((hf u).cell (p := ⟨gb, ob + k * 7 + 5, none⟩) hgb).trans hcb5
      have qb6 : ∀ u, (f u).cell? ⟨gb, ob + k * 7 + 6, none⟩ = some (.bool e2.yes) := fun u => ((hf u).cell (p := ⟨gb, ob + k * 7 + 6, none⟩) hgb).trans hcb6
      have HEA := Lib.hid he; have HEB := Lib.hid he2
      clear he he2 hca0 hca1 hca2 hca3 hca4 hca5 hca6 hcb0 hcb1 hcb2 hcb3 hcb4 hcb5 hcb6
      have hd1 : decide ((k : Int) < (L.length : Int)) = true := by simp; omega
      have hd2 : decide ((k : Int) < (M.length : Int)) = true := by simp; omega
      have hk1 : (k : Int) < (L.length : Int) := by omega
      have hk2 : (k : Int) < (M.length : Int) := by omega
      by_cases hy : e = e2
      · subst hy
        have HT' : Hid (L.take (k + 1) = M.take (k + 1)) := take_nextW HT.out hlt hlt' (by rw [HEA.out, HEB.out])
        have hq := neq_Ou_yes e.yn e.yl e.ys e.ya e.sw e.st e.yes
        go_wp2_with fail
        refine wp_region_calm f (by kernel_rfl) (by kernel_rfl) (calm_drew hf hg _) ?_
        repeat (go_big_quiet_step ((first | fail)))
        refine wpQuiet_nil ?_; rintro _ ⟨u, rfl⟩
        go_wp2_with fail
        go_roundw
        case rel => exact ⟨k + 1, by omega, by go_num, HT', _, rfl⟩
        case measure => simp [intOf]; omega
      · have HN : Hid (decide (L = M) = false) := by
          show _ = _; rw [decide_eq_false_iff_not]; intro h; subst h; exact hy (HEA.out.symm.trans HEB.out)
        have hq := fun w => neq_Ou_no e.yn e.yl e.ys e.ya e.sw e.st e.yes e2.yn e2.yl e2.ys e2.ya e2.sw e2.st e2.yes w (fun h => hy (by cases e; cases e2; simp_all))
        clear hy
        go_wp2_with fail
        refine wp_region_calm f (by kernel_rfl) (by kernel_rfl) (calm_drew hf hg _) ?_
        repeat (go_big_quiet_step ((first | fail)))
        refine wpQuiet_nil ?_; rintro _ ⟨u, rfl⟩
        go_wp2_with fail
        go_ret
        exact ⟨ret_boolW HN.out.symm, by rw [← HBU.out]; exact HB0.out _⟩
    · obtain rfl : k = L.length := by omega
      have HN : Hid (decide (L = M) = true) := by
        show _ = _; rw [decide_eq_true_iff]
        have := HT.out
        rw [List.take_of_length_le (Nat.le_refl _), List.take_of_length_le (by omega)] at this; exact this
      have hd1 : decide ((L.length : Int) < (L.length : Int)) = false := by simp
      go_wp2_with fail
      go_ret
      exact ⟨ret_boolW HN.out.symm, by rw [← HBU.out]; exact HB0.out _⟩
set_option maxRecDepth 100000 in
set_option maxHeartbeats 4000000 in
theorem eqSoO_any (L M : List OuX) (p q : Option Addr) (c d : Nat) (w : World) (hl : L.length ≤ 1000000) (hm : M.length ≤ 1000000) (h1 : OusAt w p L) (h2 : OusAt w q M) :
    Calls Try.prog 39 #[.slice p L.length c, .slice q M.length d] w fun r w' => r = .returned (.bool (decide (L = M))) ∧ Below w.heap.size w w' := by
  have H1 := Lib.hid h1; have H2 := Lib.hid h2
  clear h1 h2
  by_cases hne : L.length = M.length
  rotate_left
  · have HN : Hid (decide (L = M) = false) := by show _ = _; rw [decide_eq_false_iff_not]; intro e; exact hne (by rw [e])
    have hd : ((L.length : Int) != (M.length : Int)) = true := by simp; omega
    have hd2 : (L.length != M.length) = true := by simpa using hne
    clear hne
    go_enter Try.func39, Try.ntmps39
    go_wp2_with fail
    go_ret
    exact ⟨ret_boolW HN.out.symm, Below.refl _ _⟩
  have hne1 : (L.length != M.length) = false := by simp [hne]
  have hne2 : ((L.length : Int) != (M.length : Int)) = false := by simp [hne]
  obtain ⟨hl1, hl2⟩ : L.length ≤ M.length ∧ M.length ≤ L.length := by omega
  clear hne
  go_enter Try.func39, Try.ntmps39
  obtain ⟨U, f, hU, hf, hg⟩ := calm_class w
  obtain ⟨u0, hu0⟩ := hg _ (Below.refl _ _)
  have HB0 : Hid (∀ u, Below w.heap.size w (f u)) := hf
  rw [hu0]
  have HBU := Lib.hid hu0
  clear hu0
  go_wp2_with fail
  go_loopw [5] (fun i wr => ∃ k : Nat, k ≤ L.length ∧ i = .int .i64 k ∧ Hid (L.take k = M.take k) ∧ ∃ u, wr = f u) (fun i _ => L.length - (intOf i).toNat)
  case atStart => exact ⟨0, Nat.zero_le _, rfl, rfl, _, rfl⟩
  case round =>
    obtain ⟨k, hk, rfl, HT, u, rfl⟩ := hrel
    by_cases hlt : k < L.length
    · have hlt' : k < M.length := by omega
      have hH1 := H1.out; have hH2 := H2.out
      obtain ⟨ga, oa, hpa, hga, hca0, hca1, hca2, hca3, hca4, hca5, hca6⟩ := hH1 k hlt
      obtain ⟨gb, ob, hpb, hgb, hcb0, hcb1, hcb2, hcb3, hcb4, hcb5, hcb6⟩ := hH2 k hlt'
      obtain ⟨e, he⟩ : ∃ e, L[k] = e := ⟨_, rfl⟩
      obtain ⟨e2, he2⟩ : ∃ e, M[k] = e := ⟨_, rfl⟩
      rw [he] at hca0 hca1 hca2 hca3 hca4 hca5 hca6
      rw [he2] at hcb0 hcb1 hcb2 hcb3 hcb4 hcb5 hcb6
      clear hH1 hH2
      subst hpa hpb
      have qa0 : ∀ u, (f u).cell? ⟨ga, oa + k * 7, none⟩ = some (.int .i64 e.yn) := fun u => ((hf u).cell (p := ⟨ga, oa + k * 7, none⟩) hga).trans hca0
      have qa1 : ∀ u, (f u).cell? ⟨ga, oa + k * 7 + 1, none⟩ = some (.int .i64 e.yl) := fun u => ((hf u).cell (p := ⟨ga, oa + k * 7 + 1, none⟩) hga).trans hca1
      have qa2 : ∀ u, (f u).cell? ⟨ga, oa + k * 7 + 2, none⟩ = some (.int .i64 e.ys) := fun u => ((hf u).cell (p := ⟨ga, oa + k * 7 + 2, none⟩) hga).trans hca2
      have qa3 : ∀ u, (f u).cell? ⟨ga, oa + k * 7 + 3, none⟩ = some (.int .i64 e.ya) := fun u => ((hf u).cell (p := ⟨ga, oa + k * 7 + 3, none⟩) hga).trans hca3
      have qa4 : ∀ u, (f u).cell? ⟨ga, oa + k * 7 + 4, none⟩ = some (.int .i64 e.sw) := fun u => ((hf u).cell (p := ⟨ga, oa + k * 7 + 4, none⟩) hga).trans hca4
      have qa5 : ∀ u, (f u).cell? ⟨ga, oa + k * 7 + 5, none⟩ = some (.int .i64 e.st) := fun u => ((hf u).cell (p := ⟨ga, oa + k * 7 + 5, none⟩) hga).trans hca5
      have qa6 : ∀ u, (f u).cell? ⟨ga, oa + k * 7 + 6, none⟩ = some (.bool e.yes) := fun u => ((hf u).cell (p := ⟨ga, oa + k * 7 + 6, none⟩) hga).trans hca6
      have qb0 : ∀ u, (f u).cell? ⟨gb, ob + k * 7, none⟩ = some (.int .i64 e2.yn) := fun u => ((hf u).cell (p := ⟨gb, ob + k * 7, none⟩) hgb).trans hcb0
      have qb1 : ∀ u, (f u).cell? ⟨gb, ob + k * 7 + 1, none⟩ = some (.int .i64 e2.yl) := fun u => ((hf u).cell (p := ⟨gb, ob + k * 7 + 1, none⟩) hgb).trans hcb1
      have qb2 : ∀ u, (f u).cell? ⟨gb, ob + k * 7 + 2, none⟩ = some (.int .i64 e2.ys) := fun u => ((hf u).cell (p := ⟨gb, ob + k * 7 + 2, none⟩) hgb).trans hcb2
      have qb3 : ∀ u, (f u).cell? ⟨gb, ob + k * 7 + 3, none⟩ = some (.int .i64 e2.ya) := fun u => ((hf u).cell (p := ⟨gb, ob + k * 7 + 3, none⟩) hgb).trans hcb3
      have qb4 : ∀ u, (f u).cell? ⟨gb, ob + k * 7 + 4, none⟩ = some (.int .i64 e2.sw) := fun u => ((hf u).cell (p := ⟨gb, ob + k * 7 + 4, none⟩) hgb).trans hcb4
      have qb5 : ∀ u, (f u).cell? ⟨gb, ob + k * 7 + 5, none⟩ = some (.int .i64 e2.st) := fun u => ((hf u).cell (p := ⟨gb, ob + k * 7 + 5, none⟩) hgb).trans hcb5
      have qb6 : ∀ u, (f u).cell? ⟨gb, ob + k * 7 + 6, none⟩ = some (.bool e2.yes) := fun u => ((hf u).cell (p := ⟨gb, ob + k * 7 + 6, none⟩) hgb).trans hcb6
      have HEA := Lib.hid he; have HEB := Lib.hid he2
      clear he he2 hca0 hca1 hca2 hca3 hca4 hca5 hca6 hcb0 hcb1 hcb2 hcb3 hcb4 hcb5 hcb6
      have hd1 : decide ((k : Int) < (L.length : Int)) = true := by simp; omega
      have hd2 : decide ((k : Int) < (M.length : Int)) = true := by simp; omega
      have hk1 : (k : Int) < (L.length : Int) := by omega
      have hk2 : (k : Int) < (M.length : Int) := by omega
      by_cases hy : e = e2
      · subst hy
        have HT' : Hid (L.take (k + 1) = M.take (k + 1)) := take_nextW HT.out hlt hlt' (by rw [HEA.out, HEB.out])
        have hq := neq_Ou_yes e.yn e.yl e.ys e.ya e.sw e.st e.yes
        go_wp2_with fail
        refine wp_region_calm f (by kernel_rfl) (by kernel_rfl) (calm_drew hf hg _) ?_
        repeat (go_big_quiet_step ((first | fail)))
        refine wpQuiet_nil ?_; rintro _ ⟨u, rfl⟩
        go_wp2_with fail
        go_roundw
        case rel => exact ⟨k + 1, by omega, by go_num, HT', _, rfl⟩
        case measure => simp [intOf]; omega
      · have HN : Hid (decide (L = M) = false) := by
          show _ = _; rw [decide_eq_false_iff_not]; intro h; subst h; exact hy (HEA.out.symm.trans HEB.out)
        have hq := fun w => neq_Ou_no e.yn e.yl e.ys e.ya e.sw e.st e.yes e2.yn e2.yl e2.ys e2.ya e2.sw e2.st e2.yes w (fun h => hy (by cases e; cases e2; simp_all))
        clear hy
        go_wp2_with fail
        refine wp_region_calm f (by kernel_rfl) (by kernel_rfl) (calm_drew hf hg _) ?_
        repeat (go_big_quiet_step ((first | fail)))
        refine wpQuiet_nil ?_; rintro _ ⟨u, rfl⟩
        go_wp2_with fail
        go_ret
        exact ⟨ret_boolW HN.out.symm, by rw [← HBU.out]; exact HB0.out _⟩
    · obtain rfl : k = L.length := by omega
      have HN : Hid (decide (L = M) = true) := by
        show _ = _; rw [decide_eq_true_iff]
        have := HT.out
        rw [List.take_of_length_le (Nat.le_refl _), List.take_of_length_le (by omega)] at this; exact this
      have hd1 : decide ((L.length : Int) < (L.length : Int)) = false := by simp
      go_wp2_with fail
      go_ret
      exact ⟨ret_boolW HN.out.symm, by rw [← HBU.out]; exact HB0.out _⟩
end Go.Proofs.Ytmhmlpfkdpjlaaa
