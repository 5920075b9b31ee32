/- Wire: are two lists of cells the same? The document's. -/
import Derived.Test.YtmhmlpfkdpjlaaaPlainPart
import Derived.Test.YtmhmlpfkdpjlaaaRdA
import Derived.Test.YtmhmlpfkdpjlaaaHeld
import Derived.Deep.RegionHeld3
import Derived.BigQuiet
namespace Go.Proofs.Ytmhmlpfkdpjlaaa
open Go.ChangeShapes Go.WideShapes Go.ChangeAt Go.RowKit

theorem cutGG {R P : Nat → Nat → World → Prop} {Q : Prop} (h : (∀ g g' w, R g g' w → P g g' w) → Q) (p : ∀ g g' w, R g g' w → P g g' w) : Q := h p
theorem neq_lk_yes (a0 : Int) (a1 : Int) (a2 : Int) (a3 : Int) (a4 : Int) (a5 : Int) (a6 : Int) (a7 : Bool) (a8 : ByteArray) (w : World) : (binOp .neq 73 (.agg #[.int .i64 a0, .int .i64 a1, .int .i64 a2, .int .i64 a3, .int .i64 a4, .int .i64 a5, .int .i64 a6, .bool a7, .string a8]) (.agg #[.int .i64 a0, .int .i64 a1, .int .i64 a2, .int .i64 a3, .int .i64 a4, .int .i64 a5, .int .i64 a6, .bool a7, .string a8])).run Try.prog w = .ok (.bool false) w := by
  simp [go_sem]
theorem neq_lk_no (a0 : Int) (a1 : Int) (a2 : Int) (a3 : Int) (a4 : Int) (a5 : Int) (a6 : Int) (a7 : Bool) (a8 : ByteArray) (b0 : Int) (b1 : Int) (b2 : Int) (b3 : Int) (b4 : Int) (b5 : Int) (b6 : Int) (b7 : Bool) (b8 : ByteArray) (w : World) (h : ¬ (a0 = b0 ∧ a1 = b1 ∧ a2 = b2 ∧ a3 = b3 ∧ a4 = b4 ∧ a5 = b5 ∧ a6 = b6 ∧ a7 = b7 ∧ a8 = b8)) : (binOp .neq 73 (.agg #[.int .i64 a0, .int .i64 a1, .int .i64 a2, .int .i64 a3, .int .i64 a4, .int .i64 a5, .int .i64 a6, .bool a7, .string a8]) (.agg #[.int .i64 b0, .int .i64 b1, .int .i64 b2, .int .i64 b3, .int .i64 b4, .int .i64 b5, .int .i64 b6, .bool b7, .string b8])).run Try.prog w = .ok (.bool true) w := by
  by_cases h0 : a0 = b0
  rotate_left
  · have hq := (by simpa using h0 : (a0 == b0) = false)
    simp [go_sem, hq]
  subst h0
  by_cases h1 : a1 = b1
  rotate_left
  · have hq := (by simpa using h1 : (a1 == b1) = false)
    simp [go_sem, hq]
  subst h1
  by_cases h2 : a2 = b2
  rotate_left
  · have hq := (by simpa using h2 : (a2 == b2) = false)
    simp [go_sem, hq]
  subst h2
  by_cases h3 : a3 = b3
  rotate_left
  · have hq := (by simpa using h3 : (a3 == b3) = false)
    simp [go_sem, hq]
  subst h3
  by_cases h4 : a4 = b4
  rotate_left
  · have hq := (by simpa using h4 : (a4 == b4) = false)
    simp [go_sem, hq]
  subst h4
  by_cases h5 : a5 = b5
  rotate_left
  · have hq := (by simpa using h5 : (a5 == b5) = false)
    simp [go_sem, hq]
  subst h5
  by_cases h6 : a6 = b6
  rotate_left
  · have hq := (by simpa using h6 : (a6 == b6) = false)
    simp [go_sem, hq]
  subst h6
  by_cases h7 : a7 = b7
  rotate_left
  · have hq := (by simpa using h7 : (a7 == b7) = false)
    simp [go_sem, hq]
  subst h7
  by_cases h8 : a8 = b8
  rotate_left
  · have hq := bytes_neW h8
    simp [go_sem, hq]
  subst h8
  exact absurd (by simp) h
set_option maxRecDepth 100000 in
set_option maxHeartbeats 16000000 in
theorem rsame8_any (L M : List CeL) (p q : Option Addr) (c d : Nat) (w : World) (hl : L.length ≤ 1000000) (_hm : M.length ≤ 1000000) (hL : ∀ x ∈ L, x.1.vs.length ≤ 1000000) (hM : ∀ x ∈ M, x.1.vs.length ≤ 1000000) (h1 : CesAt w p L) (h2 : CesAt w q M) :
    Calls Try.prog 38 #[.slice p L.length c, .slice q M.length d] w fun r w' => r = .returned (.bool (decide (L.map (·.1) = M.map (·.1)))) ∧ Below w.heap.size w w' := by
  have H1 := Lib.hid h1; have H2 := Lib.hid h2; have HL := Lib.hid hL; have HM := Lib.hid hM
  clear h1 h2 hL hM
  by_cases hne : L.length = M.length
  rotate_left
  · have HN : Hid (decide (L.map (·.1) = M.map (·.1)) = false) := by show _ = _; rw [decide_eq_false_iff_not]; intro e; exact hne (by have := congrArg List.length e; simpa using this)
    have hd : ((L.length : Int) != (M.length : Int)) = true := by simp; omega
    have hd2 : (L.length != M.length) = true := by simpa using hne
    clear hne
    go_enter Try.func38, Try.ntmps38
    go_wp2_with fail
    go_ret
    exact ⟨ret_boolW HN.out.symm, Below.refl _ _⟩
  have hne1 : (L.length != M.length) = false := by simp [hne]
  have hne2 : ((L.length : Int) != (M.length : Int)) = false := by simp [hne]
  obtain ⟨hl1, hl2⟩ : L.length ≤ M.length ∧ M.length ≤ L.length := by omega
  clear hne
  go_enter Try.func38, Try.ntmps38
  go_wp2_with fail
  go_loopw [5] (fun i wr => ∃ k : Nat, k ≤ L.length ∧ i = .int .i64 k ∧ Hid ((L.map (·.1)).take k = (M.map (·.1)).take k) ∧ Hid (Below w.heap.size w wr)) (fun i _ => L.length - (intOf i).toNat)
  case atStart => exact ⟨0, Nat.zero_le _, rfl, rfl, Below.refl _ _⟩
  case round =>
    obtain ⟨k, hk, rfl, HT, HB⟩ := hrel
    obtain ⟨wk, rfl⟩ : ∃ wk : World, wk = wr := ⟨_, rfl⟩
    by_cases hlt : k < L.length
    · have hlt' : k < M.length := by omega
      obtain ⟨ga, oa, hpa, hga, hva, qa0, qa1, qa2, qa3, qa4, qa5, qa6, qa7, qa8, qa9, qa10, qa11⟩ := (H1.out.keep HB.out (Nat.le_refl _)) k hlt
      obtain ⟨gb, ob, hpb, hgb, hvb, qb0, qb1, qb2, qb3, qb4, qb5, qb6, qb7, qb8, qb9, qb10, qb11⟩ := (H2.out.keep HB.out (Nat.le_refl _)) k hlt'
      have hxl := HL.out L[k] (List.getElem_mem hlt)
      have hyl := HM.out M[k] (List.getElem_mem hlt')
      obtain ⟨⟨x, px, cx⟩, hx⟩ : ∃ e, L[k] = e := ⟨_, rfl⟩
      obtain ⟨⟨y, py, cy⟩, hy⟩ : ∃ e, M[k] = e := ⟨_, rfl⟩
      rw [hx] at hva hxl qa0 qa1 qa2 qa3 qa4 qa5 qa6 qa7 qa8 qa9 qa10 qa11
      rw [hy] at hvb hyl qb0 qb1 qb2 qb3 qb4 qb5 qb6 qb7 qb8 qb9 qb10 qb11
      dsimp only at hva hxl hvb hyl qa0 qb0 qa1 qb1 qa2 qb2 qa3 qb3 qa4 qb4 qa5 qb5 qa6 qb6 qa7 qb7 qa8 qb8 qa9 qb9 qa10 qb10 qa11 qb11
      subst hpa hpb
      have hd1 : decide ((k : Int) < (L.length : Int)) = true := by simp; omega
      have hgk1 : (k : Int) < (L.length : Int) := by omega
      have hgk2 : (k : Int) < (M.length : Int) := by omega
      have HVA := Lib.hid hva; have HVB := Lib.hid hvb
      have HE : Hid (x = y → (L.map (·.1)).take (k + 1) = (M.map (·.1)).take (k + 1)) := fun e => take_nextW HT.out (by simpa using hlt) (by simpa using hlt') (by simp [hx, hy, e])
      have HNE : Hid (x ≠ y → decide (L.map (·.1) = M.map (·.1)) = false) := fun h => by
        rw [decide_eq_false_iff_not]; intro e
        have h1 : (L.map (·.1))[k]? = (M.map (·.1))[k]? := by rw [e]
        rw [List.getElem?_map, List.getElem?_map, List.getElem?_eq_getElem hlt, List.getElem?_eq_getElem hlt', hx, hy] at h1
        exact h (by simpa using h1)
      clear hx hy hva hvb HT
      have ka : ∀ w', Below wk.heap.size wk w' → ∀ (j : Nat) (v : Value), j < 12 → wk.cell? ⟨ga, oa + k * 12 + j, none⟩ = some v → w'.cell? ⟨ga, oa + k * 12 + j, none⟩ = some v := fun w' h j v _ e => (h.cell (p := ⟨ga, oa + k * 12 + j, none⟩) hga).trans e
      have ra0 : ∀ w', Below wk.heap.size wk w' → w'.cell? ⟨ga, oa + k * 12, none⟩ = some (.string x.k) := fun w' h => (h.cell (p := ⟨ga, oa + k * 12, none⟩) hga).trans qa0
      have ra1 : ∀ w', Below wk.heap.size wk w' → w'.cell? ⟨ga, oa + k * 12 + 1, none⟩ = some (.slice px x.vs.length cx) := fun w' h => (h.cell (p := ⟨ga, oa + k * 12 + 1, none⟩) hga).trans qa1
      have ra2 : ∀ w', Below wk.heap.size wk w' → w'.cell? ⟨ga, oa + k * 12 + 2, none⟩ = some (.bool x.lk) := fun w' h => (h.cell (p := ⟨ga, oa + k * 12 + 2, none⟩) hga).trans qa2
      have ra3 : ∀ w', Below wk.heap.size wk w' → w'.cell? ⟨ga, oa + k * 12 + 3, none⟩ = some (.int .i64 x.yn) := fun w' h => (h.cell (p := ⟨ga, oa + k * 12 + 3, none⟩) hga).trans qa3
      have ra4 : ∀ w', Below wk.heap.size wk w' → w'.cell? ⟨ga, oa + k * 12 + 4, none⟩ = some (.int .i64 x.yl) := fun w' h => (h.cell (p := ⟨ga, oa + k * 12 + 4, none⟩) hga).trans qa4
      have ra5 : ∀ w', Below wk.heap.size wk w' → w'.cell? ⟨ga, oa + k * 12 + 5, none⟩ = some (.int .i64 x.ys) := fun w' h => (h.cell (p := ⟨ga, oa + k * 12 + 5, none⟩) hga).trans qa5
      have ra6 : ∀ w', Below wk.heap.size wk w' → w'.cell? ⟨ga, oa + k * 12 + 6, none⟩ = some (.int .i64 x.ya) := fun w' h => (h.cell (p := ⟨ga, oa + k * 12 + 6, none⟩) hga).trans qa6
      have ra7 : ∀ w', Below wk.heap.size wk w' → w'.cell? ⟨ga, oa + k * 12 + 7, none⟩ = some (.int .i64 x.hm) := fun w' h => (h.cell (p := ⟨ga, oa + k * 12 + 7, none⟩) hga).trans qa7
      have ra8 : ∀ w', Below wk.heap.size wk w' → w'.cell? ⟨ga, oa + k * 12 + 8, none⟩ = some (.int .i64 x.sw) := fun w' h => (h.cell (p := ⟨ga, oa + k * 12 + 8, none⟩) hga).trans qa8
      have ra9 : ∀ w', Below wk.heap.size wk w' → w'.cell? ⟨ga, oa + k * 12 + 9, none⟩ = some (.int .i64 x.st) := fun w' h => (h.cell (p := ⟨ga, oa + k * 12 + 9, none⟩) hga).trans qa9
      have ra10 : ∀ w', Below wk.heap.size wk w' → w'.cell? ⟨ga, oa + k * 12 + 10, none⟩ = some (.bool x.lr) := fun w' h => (h.cell (p := ⟨ga, oa + k * 12 + 10, none⟩) hga).trans qa10
      have ra11 : ∀ w', Below wk.heap.size wk w' → w'.cell? ⟨ga, oa + k * 12 + 11, none⟩ = some (.string x.ld) := fun w' h => (h.cell (p := ⟨ga, oa + k * 12 + 11, none⟩) hga).trans qa11
      have rb0 : ∀ w', Below wk.heap.size wk w' → w'.cell? ⟨gb, ob + k * 12, none⟩ = some (.string y.k) := fun w' h => (h.cell (p := ⟨gb, ob + k * 12, none⟩) hgb).trans qb0
      have rb1 : ∀ w', Below wk.heap.size wk w' → w'.cell? ⟨gb, ob + k * 12 + 1, none⟩ = some (.slice py y.vs.length cy) := fun w' h => (h.cell (p := ⟨gb, ob + k * 12 + 1, none⟩) hgb).trans qb1
      have rb2 : ∀ w', Below wk.heap.size wk w' → w'.cell? ⟨gb, ob + k * 12 + 2, none⟩ = some (.bool y.lk) := fun w' h => (h.cell (p := ⟨gb, ob + k * 12 + 2, none⟩) hgb).trans qb2
      have rb3 : ∀ w', Below wk.heap.size wk w' → w'.cell? ⟨gb, ob + k * 12 + 3, none⟩ = some (.int .i64 y.yn) := fun w' h => (h.cell (p := ⟨gb, ob + k * 12 + 3, none⟩) hgb).trans qb3
      have rb4 : ∀ w', Below wk.heap.size wk w' → w'.cell? ⟨gb, ob + k * 12 + 4, none⟩ = some (.int .i64 y.yl) := fun w' h => (h.cell (p := ⟨gb, ob + k * 12 + 4, none⟩) hgb).trans qb4
      have rb5 : ∀ w', Below wk.heap.size wk w' → w'.cell? ⟨gb, ob + k * 12 + 5, none⟩ = some (.int .i64 y.ys) := fun w' h => (h.cell (p := ⟨gb, ob + k * 12 + 5, none⟩) hgb).trans qb5
      have rb6 : ∀ w', Below wk.heap.size wk w' → w'.cell? ⟨gb, ob + k * 12 + 6, none⟩ = some (.int .i64 y.ya) := fun w' h => (h.cell (p := ⟨gb, ob + k * 12 + 6, none⟩) hgb).trans qb6
      have rb7 : ∀ w', Below wk.heap.size wk w' → w'.cell? ⟨gb, ob + k * 12 + 7, none⟩ = some (.int .i64 y.hm) := fun w' h => (h.cell (p := ⟨gb, ob + k * 12 + 7, none⟩) hgb).trans qb7
      have rb8 : ∀ w', Below wk.heap.size wk w' → w'.cell? ⟨gb, ob + k * 12 + 8, none⟩ = some (.int .i64 y.sw) := fun w' h => (h.cell (p := ⟨gb, ob + k * 12 + 8, none⟩) hgb).trans qb8
      have rb9 : ∀ w', Below wk.heap.size wk w' → w'.cell? ⟨gb, ob + k * 12 + 9, none⟩ = some (.int .i64 y.st) := fun w' h => (h.cell (p := ⟨gb, ob + k * 12 + 9, none⟩) hgb).trans qb9
      have rb10 : ∀ w', Below wk.heap.size wk w' → w'.cell? ⟨gb, ob + k * 12 + 10, none⟩ = some (.bool y.lr) := fun w' h => (h.cell (p := ⟨gb, ob + k * 12 + 10, none⟩) hgb).trans qb10
      have rb11 : ∀ w', Below wk.heap.size wk w' → w'.cell? ⟨gb, ob + k * 12 + 11, none⟩ = some (.string y.ld) := fun w' h => (h.cell (p := ⟨gb, ob + k * 12 + 11, none⟩) hgb).trans qb11
      clear ka qa0 qb0 qa1 qb1 qa2 qb2 qa3 qb3 qa4 qb4 qa5 qb5 qa6 qb6 qa7 qb7 qa8 qb8 qa9 qb9 qa10 qb10 qa11 qb11
      go_upto_region 6 with fail
      apply cutGG (R := fun g g' w' => Below wk.heap.size wk w' ∧ w'.heap[g]? = some (.cells #[.string x.k, .slice px x.vs.length cx, .bool x.lk, .int .i64 x.yn, .int .i64 x.yl, .int .i64 x.ys, .int .i64 x.ya, .int .i64 x.hm, .int .i64 x.sw, .int .i64 x.st, .bool x.lr, .string x.ld] 75 (0, 0)) ∧ w'.heap[g']? = some (.cells #[.string y.k, .slice py y.vs.length cy, .bool y.lk, .int .i64 y.yn, .int .i64 y.yl, .int .i64 y.ys, .int .i64 y.ya, .int .i64 y.hm, .int .i64 y.sw, .int .i64 y.st, .bool y.lr, .string y.ld] 75 (0, 0)))
      · intro hcut
        have h0 : Below wk.heap.size wk wk.drew := (Below.refl _ _).drew
        refine wp_region_held_drew (S := fun w' => Below wk.heap.size wk w') (by kernel_rfl) h0 (fun hHeld => ?_)
        obtain ⟨wd, ewd⟩ : ∃ x, wk.drew = x := ⟨_, rfl⟩
        rw [ewd] at h0 hHeld ⊢
        clear ewd
        refine wpAnyH_take (i := 0) (v := ?_) rfl (by kernel_rfl) (by kernel_rfl) (by kernel_rfl) (fun _ _ _ h => h) (Or.inl ⟨by rfl, ?_⟩) hHeld ?_
        rotate_left
        · (intro wz hSw; (try dsimp only at hSw); (try simp only [List.getElem_toArray, List.getElem_cons_zero]); go_simp; try with_reducible rfl)
        try simp only [List.getElem_toArray, List.getElem_cons_zero, Act.put, List.setIfInBounds_toArray, List.set_cons_zero, List.set_cons_succ]
        refine wpAnyH_take (i := 1) (v := ?_) rfl (by kernel_rfl) (by kernel_rfl) (by kernel_rfl) (fun _ _ _ h => h) (Or.inl ⟨by rfl, ?_⟩) hHeld ?_
        rotate_left
        · (intro wz hSw; (try dsimp only at hSw); (try simp only [List.getElem_toArray, List.getElem_cons_succ, List.getElem_cons_zero]); go_simp; try with_reducible rfl)
        try simp only [List.getElem_toArray, List.getElem_cons_succ, List.getElem_cons_zero, Act.put, List.setIfInBounds_toArray, List.set_cons_zero, List.set_cons_succ]
        refine wpAnyH_take (i := 2) (v := ?_) rfl (by kernel_rfl) (by kernel_rfl) (by kernel_rfl) (fun _ _ _ h => h) (Or.inl ⟨by rfl, ?_⟩) hHeld ?_
        rotate_left
        · (intro wz hSw; (try dsimp only at hSw); (try simp only [List.getElem_toArray, List.getElem_cons_succ, List.getElem_cons_zero]); go_simp; try with_reducible rfl)
        try simp only [List.getElem_toArray, List.getElem_cons_succ, List.getElem_cons_zero, Act.put, List.setIfInBounds_toArray, List.set_cons_zero, List.set_cons_succ]
        refine wpAnyH_take (i := 3) (v := ?_) rfl (by kernel_rfl) (by kernel_rfl) (by kernel_rfl) (fun _ _ _ h => h) (Or.inl ⟨by rfl, ?_⟩) hHeld ?_
        rotate_left
        · (intro wz hSw; (try dsimp only at hSw); (try simp only [List.getElem_toArray, List.getElem_cons_succ, List.getElem_cons_zero]); go_simp; try with_reducible rfl)
        try simp only [List.getElem_toArray, List.getElem_cons_succ, List.getElem_cons_zero, Act.put, List.setIfInBounds_toArray, List.set_cons_zero, List.set_cons_succ]
        refine wpAnyH_take (i := 4) (v := ?_) rfl (by kernel_rfl) (by kernel_rfl) (by kernel_rfl) (fun _ _ _ h => h) (Or.inl ⟨by rfl, ?_⟩) hHeld ?_
        rotate_left
        · (intro wz hSw; (try dsimp only at hSw); (try simp only [List.getElem_toArray, List.getElem_cons_succ, List.getElem_cons_zero]); go_simp; try with_reducible rfl)
        try simp only [List.getElem_toArray, List.getElem_cons_succ, List.getElem_cons_zero, Act.put, List.setIfInBounds_toArray, List.set_cons_zero, List.set_cons_succ]
        refine wpAnyH_take (i := 5) (v := ?_) rfl (by kernel_rfl) (by kernel_rfl) (by kernel_rfl) (fun _ _ _ h => h) (Or.inl ⟨by rfl, ?_⟩) hHeld ?_
        rotate_left
        · (intro wz hSw; (try dsimp only at hSw); (try simp only [List.getElem_toArray, List.getElem_cons_succ, List.getElem_cons_zero]); go_simp; try with_reducible rfl)
        try simp only [List.getElem_toArray, List.getElem_cons_succ, List.getElem_cons_zero, Act.put, List.setIfInBounds_toArray, List.set_cons_zero, List.set_cons_succ]
        refine wpAnyH_take (i := 6) (v := ?_) rfl (by kernel_rfl) (by kernel_rfl) (by kernel_rfl) (fun _ _ _ h => h) (Or.inl ⟨by rfl, ?_⟩) hHeld ?_
        rotate_left
        · (intro wz hSw; (try dsimp only at hSw); (try simp only [List.getElem_toArray, List.getElem_cons_succ, List.getElem_cons_zero]); go_simp; try with_reducible rfl)
        try simp only [List.getElem_toArray, List.getElem_cons_succ, List.getElem_cons_zero, Act.put, List.setIfInBounds_toArray, List.set_cons_zero, List.set_cons_succ]
        refine wpAnyH_take (i := 7) (v := ?_) rfl (by kernel_rfl) (by kernel_rfl) (by kernel_rfl) (fun _ _ _ h => h) (Or.inl ⟨by rfl, ?_⟩) hHeld ?_
        rotate_left
        · (intro wz hSw; (try dsimp only at hSw); (try simp only [List.getElem_toArray, List.getElem_cons_succ, List.getElem_cons_zero]); go_simp; try with_reducible rfl)
        try simp only [List.getElem_toArray, List.getElem_cons_succ, List.getElem_cons_zero, Act.put, List.setIfInBounds_toArray, List.set_cons_zero, List.set_cons_succ]
        refine wpAnyH_ready (rs := [8, 9]) (by kernel_rfl) (by simp) ?_
        refine AllReadyH.cons rfl (fun K hK => ?_) (AllReadyH.cons rfl (fun K hK => ?_) AllReadyH.nil)
        · try simp only [List.getElem_toArray, List.getElem_cons_succ, List.getElem_cons_zero]
          go_simp
          obtain ⟨w1, hw1⟩ : ∃ x : World, wd.alloc (.cells #[.string ⟨#[]⟩, .slice none 0 0, .bool false, .int .i64 0, .int .i64 0, .int .i64 0, .int .i64 0, .int .i64 0, .int .i64 0, .int .i64 0, .bool false, .string ⟨#[]⟩] 75) = x := ⟨_, rfl⟩
          have hS1 : Below wk.heap.size wk w1 := by rw [← hw1]; exact h0.alloc h0.size _
          have hn1 : Below wd.heap.size wd w1 := by rw [← hw1]; exact (Below.refl _ _).alloc (Nat.le_refl _) _
          have hq1 : w1.heap[wd.heap.size]? = some (.cells #[.string ⟨#[]⟩, .slice none 0 0, .bool false, .int .i64 0, .int .i64 0, .int .i64 0, .int .i64 0, .int .i64 0, .int .i64 0, .int .i64 0, .bool false, .string ⟨#[]⟩] 75 (0, 0)) := by rw [← hw1]; exact heap_last wd _
          have hgs1 := h0.size
          obtain ⟨g1, eg1⟩ : ∃ n, wd.heap.size = n := ⟨_, rfl⟩
          rw [hw1]
          try rw [eg1]
          rw [eg1] at hq1 hgs1 hn1
          clear hw1
          refine hK.out _ _ hS1 (fun _ => ?_)
          clear hK K hHeld
          try simp only [List.getElem_toArray, List.getElem_cons_succ, List.getElem_cons_zero, Act.put, List.setIfInBounds_toArray, List.set_cons_zero, List.set_cons_succ]
          have hHeld := hS1
          refine wpAnyH_ready (rs := [9]) (by kernel_rfl) (by simp) ?_; refine AllReadyH.cons rfl (fun K hK => ?_) AllReadyH.nil
          try simp only [List.getElem_toArray, List.getElem_cons_succ, List.getElem_cons_zero]
          go_simp
          obtain ⟨w2, hw2⟩ : ∃ x : World, w1.alloc (.cells #[.string ⟨#[]⟩, .slice none 0 0, .bool false, .int .i64 0, .int .i64 0, .int .i64 0, .int .i64 0, .int .i64 0, .int .i64 0, .int .i64 0, .bool false, .string ⟨#[]⟩] 75) = x := ⟨_, rfl⟩
          have hS2 : Below wk.heap.size wk w2 := by rw [← hw2]; exact hS1.alloc hS1.size _
          have hn2 : Below w1.heap.size w1 w2 := by rw [← hw2]; exact (Below.refl _ _).alloc (Nat.le_refl _) _
          have hq2 : w2.heap[w1.heap.size]? = some (.cells #[.string ⟨#[]⟩, .slice none 0 0, .bool false, .int .i64 0, .int .i64 0, .int .i64 0, .int .i64 0, .int .i64 0, .int .i64 0, .int .i64 0, .bool false, .string ⟨#[]⟩] 75 (0, 0)) := by rw [← hw2]; exact heap_last w1 _
          have hgs2 := hS1.size
          obtain ⟨g2, eg2⟩ : ∃ n, w1.heap.size = n := ⟨_, rfl⟩
          rw [hw2]
          try rw [eg2]
          rw [eg2] at hq2 hgs2 hn2
          clear hw2
          refine hK.out _ _ hS2 (fun _ => ?_)
          clear hK K hHeld
          try simp only [List.getElem_toArray, List.getElem_cons_succ, List.getElem_cons_zero, Act.put, List.setIfInBounds_toArray, List.set_cons_zero, List.set_cons_succ]
          have hHeld := hS2
          have hq1' := below_block hn2 (by have := block_lt hq1; omega) hq1
          have hne : g1 ≠ g2 := by have := block_lt hq1; omega
          have hX := hq1'
          have hY := hq2
          have kx := block_cells hX
          have fx := block_free hX
          refine wpAnyH_ready (rs := [10]) (by kernel_rfl) (by simp) ?_; refine AllReadyH.cons rfl (fun K hK => ?_) AllReadyH.nil; (try simp only [List.getElem_toArray, List.getElem_cons_succ, List.getElem_cons_zero]); go_simp
          have hX2 := putL_at hX [.string x.k, .slice px x.vs.length cx, .bool x.lk, .int .i64 x.yn, .int .i64 x.yl, .int .i64 x.ys, .int .i64 x.ya, .int .i64 x.hm, .int .i64 x.sw, .int .i64 x.st, .bool x.lr, .string x.ld] rfl
          have hY2 := (putL_far (g := g1) (k := g2) (by omega) [.string x.k, .slice px x.vs.length cx, .bool x.lk, .int .i64 x.yn, .int .i64 x.yl, .int .i64 x.ys, .int .i64 x.ya, .int .i64 x.hm, .int .i64 x.sw, .int .i64 x.st, .bool x.lr, .string x.ld] 0 w2).trans hY
          have hS3 := putL_bel (g := g1) (by omega) [.string x.k, .slice px x.vs.length cx, .bool x.lk, .int .i64 x.yn, .int .i64 x.yl, .int .i64 x.ys, .int .i64 x.ya, .int .i64 x.hm, .int .i64 x.sw, .int .i64 x.st, .bool x.lr, .string x.ld] 0 hS2
          simp only [putL, Nat.reduceAdd, Nat.zero_add] at hX2 hY2 hS3
          refine hK.out _ _ hS3 (fun _ => ?_)
          clear hK K hHeld kx fx hX hY
          try simp only [List.getElem_toArray, List.getElem_cons_succ, List.getElem_cons_zero, Act.put, List.setIfInBounds_toArray, List.set_cons_zero, List.set_cons_succ]
          have hHeld := hS3
          obtain ⟨w3, ew3⟩ : ∃ w3 : World, putL g1 0 [.string x.k, .slice px x.vs.length cx, .bool x.lk, .int .i64 x.yn, .int .i64 x.yl, .int .i64 x.ys, .int .i64 x.ya, .int .i64 x.hm, .int .i64 x.sw, .int .i64 x.st, .bool x.lr, .string x.ld] w2 = w3 := ⟨_, rfl⟩
          simp only [putL, Nat.reduceAdd, Nat.zero_add] at ew3
          rw [ew3] at hX2 hY2 hS3 hHeld ⊢
          clear ew3
          have ky := block_cells hY2
          have fy := block_free hY2
          refine wpAnyH_ready (rs := [11]) (by kernel_rfl) (by simp) ?_; refine AllReadyH.cons rfl (fun K hK => ?_) AllReadyH.nil; (try simp only [List.getElem_toArray, List.getElem_cons_succ, List.getElem_cons_zero]); go_simp
          have hY3 := putL_at hY2 [.string y.k, .slice py y.vs.length cy, .bool y.lk, .int .i64 y.yn, .int .i64 y.yl, .int .i64 y.ys, .int .i64 y.ya, .int .i64 y.hm, .int .i64 y.sw, .int .i64 y.st, .bool y.lr, .string y.ld] rfl
          have hX3 := (putL_far (g := g2) (k := g1) (by omega) [.string y.k, .slice py y.vs.length cy, .bool y.lk, .int .i64 y.yn, .int .i64 y.yl, .int .i64 y.ys, .int .i64 y.ya, .int .i64 y.hm, .int .i64 y.sw, .int .i64 y.st, .bool y.lr, .string y.ld] 0 w3).trans hX2
          have hS4 := putL_bel (g := g2) (by omega) [.string y.k, .slice py y.vs.length cy, .bool y.lk, .int .i64 y.yn, .int .i64 y.yl, .int .i64 y.ys, .int .i64 y.ya, .int .i64 y.hm, .int .i64 y.sw, .int .i64 y.st, .bool y.lr, .string y.ld] 0 hS3
          simp only [putL, Nat.reduceAdd, Nat.zero_add] at hX3 hY3 hS4
          refine hK.out _ _ hS4 (fun _ => ?_)
          clear hK K hHeld ky fy
          try simp only [List.getElem_toArray, List.getElem_cons_succ, List.getElem_cons_zero, Act.put, List.setIfInBounds_toArray, List.set_cons_zero, List.set_cons_succ]
          refine wpAnyH_done (by kernel_rfl) ?_ _
          exact hcut g1 g2 _ ⟨hS4, hX3, hY3⟩
        · try simp only [List.getElem_toArray, List.getElem_cons_succ, List.getElem_cons_zero]
          go_simp
          obtain ⟨w1, hw1⟩ : ∃ x : World, wd.alloc (.cells #[.string ⟨#[]⟩, .slice none 0 0, .bool false, .int .i64 0, .int .i64 0, .int .i64 0, .int .i64 0, .int .i64 0, .int .i64 0, .int .i64 0, .bool false, .string ⟨#[]⟩] 75) = x := ⟨_, rfl⟩
          have hS1 : Below wk.heap.size wk w1 := by rw [← hw1]; exact h0.alloc h0.size _
          have hn1 : Below wd.heap.size wd w1 := by rw [← hw1]; exact (Below.refl _ _).alloc (Nat.le_refl _) _
          have hq1 : w1.heap[wd.heap.size]? = some (.cells #[.string ⟨#[]⟩, .slice none 0 0, .bool false, .int .i64 0, .int .i64 0, .int .i64 0, .int .i64 0, .int .i64 0, .int .i64 0, .int .i64 0, .bool false, .string ⟨#[]⟩] 75 (0, 0)) := by rw [← hw1]; exact heap_last wd _
          have hgs1 := h0.size
          obtain ⟨g1, eg1⟩ : ∃ n, wd.heap.size = n := ⟨_, rfl⟩
          rw [hw1]
          try rw [eg1]
          rw [eg1] at hq1 hgs1 hn1
          clear hw1
          refine hK.out _ _ hS1 (fun _ => ?_)
          clear hK K hHeld
          try simp only [List.getElem_toArray, List.getElem_cons_succ, List.getElem_cons_zero, Act.put, List.setIfInBounds_toArray, List.set_cons_zero, List.set_cons_succ]
          have hHeld := hS1
          refine wpAnyH_ready (rs := [8]) (by kernel_rfl) (by simp) ?_; refine AllReadyH.cons rfl (fun K hK => ?_) AllReadyH.nil
          try simp only [List.getElem_toArray, List.getElem_cons_succ, List.getElem_cons_zero]
          go_simp
          obtain ⟨w2, hw2⟩ : ∃ x : World, w1.alloc (.cells #[.string ⟨#[]⟩, .slice none 0 0, .bool false, .int .i64 0, .int .i64 0, .int .i64 0, .int .i64 0, .int .i64 0, .int .i64 0, .int .i64 0, .bool false, .string ⟨#[]⟩] 75) = x := ⟨_, rfl⟩
          have hS2 : Below wk.heap.size wk w2 := by rw [← hw2]; exact hS1.alloc hS1.size _
          have hn2 : Below w1.heap.size w1 w2 := by rw [← hw2]; exact (Below.refl _ _).alloc (Nat.le_refl _) _
          have hq2 : w2.heap[w1.heap.size]? = some (.cells #[.string ⟨#[]⟩, .slice none 0 0, .bool false, .int .i64 0, .int .i64 0, .int .i64 0, .int .i64 0, .int .i64 0, .int .i64 0, .int .i64 0, .bool false, .string ⟨#[]⟩] 75 (0, 0)) := by rw [← hw2]; exact heap_last w1 _
          have hgs2 := hS1.size
          obtain ⟨g2, eg2⟩ : ∃ n, w1.heap.size = n := ⟨_, rfl⟩
          rw [hw2]
          try rw [eg2]
          rw [eg2] at hq2 hgs2 hn2
          clear hw2
          refine hK.out _ _ hS2 (fun _ => ?_)
          clear hK K hHeld
          try simp only [List.getElem_toArray, List.getElem_cons_succ, List.getElem_cons_zero, Act.put, List.setIfInBounds_toArray, List.set_cons_zero, List.set_cons_succ]
          have hHeld := hS2
          have hq1' := below_block hn2 (by have := block_lt hq1; omega) hq1
          have hne : g1 ≠ g2 := by have := block_lt hq1; omega
          have hX := hq2
          have hY := hq1'
          have kx := block_cells hX
          have fx := block_free hX
          refine wpAnyH_ready (rs := [10]) (by kernel_rfl) (by simp) ?_; refine AllReadyH.cons rfl (fun K hK => ?_) AllReadyH.nil; (try simp only [List.getElem_toArray, List.getElem_cons_succ, List.getElem_cons_zero]); go_simp
          have hX2 := putL_at hX [.string x.k, .slice px x.vs.length cx, .bool x.lk, .int .i64 x.yn, .int .i64 x.yl, .int .i64 x.ys, .int .i64 x.ya, .int .i64 x.hm, .int .i64 x.sw, .int .i64 x.st, .bool x.lr, .string x.ld] rfl
          have hY2 := (putL_far (g := g2) (k := g1) (by omega) [.string x.k, .slice px x.vs.length cx, .bool x.lk, .int .i64 x.yn, .int .i64 x.yl, .int .i64 x.ys, .int .i64 x.ya, .int .i64 x.hm, .int .i64 x.sw, .int .i64 x.st, .bool x.lr, .string x.ld] 0 w2).trans hY
          have hS3 := putL_bel (g := g2) (by omega) [.string x.k, .slice px x.vs.length cx, .bool x.lk, .int .i64 x.yn, .int .i64 x.yl, .int .i64 x.ys, .int .i64 x.ya, .int .i64 x.hm, .int .i64 x.sw, .int .i64 x.st, .bool x.lr, .string x.ld] 0 hS2
          simp only [putL, Nat.reduceAdd, Nat.zero_add] at hX2 hY2 hS3
          refine hK.out _ _ hS3 (fun _ => ?_)
          clear hK K hHeld kx fx hX hY
          try simp only [List.getElem_toArray, List.getElem_cons_succ, List.getElem_cons_zero, Act.put, List.setIfInBounds_toArray, List.set_cons_zero, List.set_cons_succ]
          have hHeld := hS3
          obtain ⟨w3, ew3⟩ : ∃ w3 : World, putL g2 0 [.string x.k, .slice px x.vs.length cx, .bool x.lk, .int .i64 x.yn, .int .i64 x.yl, .int .i64 x.ys, .int .i64 x.ya, .int .i64 x.hm, .int .i64 x.sw, .int .i64 x.st, .bool x.lr, .string x.ld] w2 = w3 := ⟨_, rfl⟩
          simp only [putL, Nat.reduceAdd, Nat.zero_add] at ew3
          rw [ew3] at hX2 hY2 hS3 hHeld ⊢
          clear ew3
          have ky := block_cells hY2
          have fy := block_free hY2
          refine wpAnyH_ready (rs := [11]) (by kernel_rfl) (by simp) ?_; refine AllReadyH.cons rfl (fun K hK => ?_) AllReadyH.nil; (try simp only [List.getElem_toArray, List.getElem_cons_succ, List.getElem_cons_zero]); go_simp
          have hY3 := putL_at hY2 [.string y.k, .slice py y.vs.length cy, .bool y.lk, .int .i64 y.yn, .int .i64 y.yl, .int .i64 y.ys, .int .i64 y.ya, .int .i64 y.hm, .int .i64 y.sw, .int .i64 y.st, .bool y.lr, .string y.ld] rfl
          have hX3 := (putL_far (g := g1) (k := g2) (by omega) [.string y.k, .slice py y.vs.length cy, .bool y.lk, .int .i64 y.yn, .int .i64 y.yl, .int .i64 y.ys, .int .i64 y.ya, .int .i64 y.hm, .int .i64 y.sw, .int .i64 y.st, .bool y.lr, .string y.ld] 0 w3).trans hX2
          have hS4 := putL_bel (g := g1) (by omega) [.string y.k, .slice py y.vs.length cy, .bool y.lk, .int .i64 y.yn, .int .i64 y.yl, .int .i64 y.ys, .int .i64 y.ya, .int .i64 y.hm, .int .i64 y.sw, .int .i64 y.st, .bool y.lr, .string y.ld] 0 hS3
          simp only [putL, Nat.reduceAdd, Nat.zero_add] at hX3 hY3 hS4
          refine hK.out _ _ hS4 (fun _ => ?_)
          clear hK K hHeld ky fy
          try simp only [List.getElem_toArray, List.getElem_cons_succ, List.getElem_cons_zero, Act.put, List.setIfInBounds_toArray, List.set_cons_zero, List.set_cons_succ]
          refine wpAnyH_done (by kernel_rfl) ?_ _
          exact hcut g2 g1 _ ⟨hS4, hX3, hY3⟩
      intro g g' w3 hR3
      obtain ⟨hb3, hX, hY⟩ := hR3
      have HV1 := Lib.hid (HVA.out.keep hb3 (Nat.le_refl _))
      have HV2 := Lib.hid (HVB.out.keep hb3 (Nat.le_refl _))
      have HB3 := Lib.hid (HB.out.trans (hb3.mono HB.out.size))
      obtain ⟨U, f, hU, hf, hg⟩ := calm_class w3
      obtain ⟨u0, hu0⟩ := hg _ (Below.refl _ _)
      have HBF : Hid (∀ u, Below w.heap.size w (f u)) := fun u => HB3.out.trans ((hf u).mono HB3.out.size)
      have kx := fun u => block_cells (calm_heap hf hX u)
      have ky := fun u => block_cells (calm_heap hf hY u)
      rw [hu0]
      clear ra0 rb0 ra1 rb1 ra2 rb2 ra3 rb3 ra4 rb4 ra5 rb5 ra6 rb6 ra7 rb7 ra8 rb8 ra9 rb9 ra10 rb10 ra11 rb11 hb3 hX hY HVA HVB HB HB3 hu0 hga hgb
      by_cases e0 : x.k = y.k
      rotate_left
      · have HN := Lib.hid (HNE.out (fun e => e0 (by rw [e])))
        have hq := bytes_neW e0
        have hu : undef = Value.tuple #[] := rfl
        clear e0 HNE HE
        go_wp2_with fail
        go_ret
        exact ⟨ret_boolW HN.out.symm, HBF.out _⟩
      rw [e0] at kx
      by_cases e1 : x.lk = y.lk
      rotate_left
      · have HN := Lib.hid (HNE.out (fun e => e1 (by rw [e])))
        have hq : (x.lk == y.lk) = false := by simpa using e1
        have hu : undef = Value.tuple #[] := rfl
        clear e1 HNE HE
        go_wp2_with fail
        go_ret
        exact ⟨ret_boolW HN.out.symm, HBF.out _⟩
      rw [e1] at kx
      by_cases e2 : x.yn = y.yn ∧ x.yl = y.yl ∧ x.ys = y.ys ∧ x.ya = y.ya ∧ x.hm = y.hm ∧ x.sw = y.sw ∧ x.st = y.st ∧ x.lr = y.lr ∧ x.ld = y.ld
      rotate_left
      · have HN := Lib.hid (HNE.out (fun e => e2 (by rw [e]; simp)))
        have hq := fun w => neq_lk_no x.yn x.yl x.ys x.ya x.hm x.sw x.st x.lr x.ld y.yn y.yl y.ys y.ya y.hm y.sw y.st y.lr y.ld w e2
        have hu : undef = Value.tuple #[] := rfl
        clear e2 HNE HE
        go_wp2_with fail
        go_ret
        exact ⟨ret_boolW HN.out.symm, HBF.out _⟩
      have hq2 := fun w => neq_lk_yes y.yn y.yl y.ys y.ya y.hm y.sw y.st y.lr y.ld w
      obtain ⟨f0, f1, f2, f3, f4, f5, f6, f7, f8⟩ := e2
      rw [f0, f1, f2, f3, f4, f5, f6, f7, f8] at kx
      by_cases e3 : x.vs.length = y.vs.length
      rotate_left
      · have HN := Lib.hid (HNE.out (fun e => e3 (by rw [e])))
        have hq : ((x.vs.length : Int) == (y.vs.length : Int)) = false := by simp; omega
        have hqn : (x.vs.length == y.vs.length) = false := by simpa using e3
        have hu : undef = Value.tuple #[] := rfl
        clear e3 HNE HE
        go_wp2_with fail
        go_ret
        exact ⟨ret_boolW HN.out.symm, HBF.out _⟩
      rw [e3] at kx
      obtain ⟨hv1, hv2⟩ : x.vs.length ≤ y.vs.length ∧ y.vs.length ≤ x.vs.length := by omega
      have HXY : Hid (x.vs = y.vs → x = y) := fun e => by
        cases x; cases y; simp_all
      have HE2 : Hid (x.vs = y.vs → (L.map (·.1)).take (k + 1) = (M.map (·.1)).take (k + 1)) := fun e => HE.out (HXY.out e)
      have HNE2 : Hid (x.vs ≠ y.vs → decide (L.map (·.1) = M.map (·.1)) = false) := fun e => HNE.out (fun h => e (by rw [h]))
      clear e0 e1 e3 HE HNE HXY f0 f1 f2 f3 f4 f5 f6 f7 f8
      have hu : undef = Value.tuple #[] := rfl
      go_wp2_with fail
      rw [← hu]
      clear hq2 hu
      go_loopw [8] (fun i wr => ∃ m : Nat, m ≤ y.vs.length ∧ i = .int .i64 m ∧ Hid (x.vs.take m = y.vs.take m) ∧ ∃ u, wr = f u) (fun i _ => y.vs.length - (intOf i).toNat)
      case atStart => exact ⟨0, Nat.zero_le _, rfl, rfl, _, rfl⟩
      case round =>
        obtain ⟨m, hm, rfl, HM2, u, rfl⟩ := hrel
        by_cases hmt' : m < y.vs.length
        · have hmt : m < x.vs.length := by omega
          obtain ⟨gv, ov, hpv, hgv, v0, v1, v2, v3⟩ := HV1.out m hmt
          obtain ⟨gw, ow, hpw, hgw, z0, z1, z2, z3⟩ := HV2.out m hmt'
          obtain ⟨a, hea⟩ : ∃ e, x.vs[m] = e := ⟨_, rfl⟩
          obtain ⟨b, heb⟩ : ∃ e, y.vs[m] = e := ⟨_, rfl⟩
          rw [hea] at v0 v1 v2 v3
          rw [heb] at z0 z1 z2 z3
          subst hpv hpw
          have s0 : decide ((m : Int) < (y.vs.length : Int)) = true := by simp; omega
          have s1 : (m : Int) < (x.vs.length : Int) := by omega
          have s2 : (m : Int) < (y.vs.length : Int) := by omega
          have tv0 : ∀ u, (f u).cell? ⟨gv, ov + m * 4, none⟩ = some (.int .i64 a.w) := fun u => ((hf u).cell (p := ⟨gv, ov + m * 4, none⟩) hgv).trans v0
          have tv1 : ∀ u, (f u).cell? ⟨gv, ov + m * 4 + 1, none⟩ = some (.int .i64 a.t) := fun u => ((hf u).cell (p := ⟨gv, ov + m * 4 + 1, none⟩) hgv).trans v1
          have tv2 : ∀ u, (f u).cell? ⟨gv, ov + m * 4 + 2, none⟩ = some (.bool a.r) := fun u => ((hf u).cell (p := ⟨gv, ov + m * 4 + 2, none⟩) hgv).trans v2
          have tv3 : ∀ u, (f u).cell? ⟨gv, ov + m * 4 + 3, none⟩ = some (.string a.d) := fun u => ((hf u).cell (p := ⟨gv, ov + m * 4 + 3, none⟩) hgv).trans v3
          have tz0 : ∀ u, (f u).cell? ⟨gw, ow + m * 4, none⟩ = some (.int .i64 b.w) := fun u => ((hf u).cell (p := ⟨gw, ow + m * 4, none⟩) hgw).trans z0
          have tz1 : ∀ u, (f u).cell? ⟨gw, ow + m * 4 + 1, none⟩ = some (.int .i64 b.t) := fun u => ((hf u).cell (p := ⟨gw, ow + m * 4 + 1, none⟩) hgw).trans z1
          have tz2 : ∀ u, (f u).cell? ⟨gw, ow + m * 4 + 2, none⟩ = some (.bool b.r) := fun u => ((hf u).cell (p := ⟨gw, ow + m * 4 + 2, none⟩) hgw).trans z2
          have tz3 : ∀ u, (f u).cell? ⟨gw, ow + m * 4 + 3, none⟩ = some (.string b.d) := fun u => ((hf u).cell (p := ⟨gw, ow + m * 4 + 3, none⟩) hgw).trans z3
          by_cases hab : a = b
          · have HM3 : Hid (x.vs.take (m + 1) = y.vs.take (m + 1)) := take_nextW HM2.out hmt hmt' (by rw [hea, heb, hab])
            clear hea heb v0 v1 v2 v3 z0 z1 z2 z3 HM2
            subst hab
            have hq := neq_Ve_yes a.w a.t a.r a.d
            go_wp2_with fail
            refine wp_region_calm f (by kernel_rfl) (by kernel_rfl) (calm_drew hf hg _) ?_
            repeat (go_big_quiet_step ((first | fail)))
            refine wpQuiet_nil ?_; rintro _ ⟨u, rfl⟩
            go_wp2_with fail
            go_roundw
            case rel => exact ⟨m + 1, by omega, by go_num, HM3, _, rfl⟩
            case measure => simp [intOf]; omega
          · have HN : Hid (decide (L.map (·.1) = M.map (·.1)) = false) := HNE2.out (fun h => hab (by
              have h2 : x.vs[m]? = y.vs[m]? := by rw [h]
              rw [List.getElem?_eq_getElem hmt, List.getElem?_eq_getElem hmt', hea, heb] at h2
              exact Option.some.inj h2))
            have hq := fun w => neq_Ve_no a.w a.t a.r a.d b.w b.t b.r b.d w (fun h => hab (by cases a; cases b; simp_all))
            clear hea heb v0 v1 v2 v3 z0 z1 z2 z3 HM2 hab
            go_wp2_with fail
            refine wp_region_calm f (by kernel_rfl) (by kernel_rfl) (calm_drew hf hg _) ?_
            repeat (go_big_quiet_step ((first | fail)))
            refine wpQuiet_nil ?_; rintro _ ⟨u, rfl⟩
            go_wp2_with fail
            go_ret
            exact ⟨ret_boolW HN.out.symm, HBF.out _⟩
        · obtain rfl : m = y.vs.length := by omega
          have s0 : decide ((y.vs.length : Int) < (y.vs.length : Int)) = false := by simp
          have HT2 := Lib.hid (HE2.out (by have := HM2.out; rw [List.take_of_length_le hv1, List.take_of_length_le (Nat.le_refl _)] at this; exact this))
          clear HM2
          go_wp2_with fail
          go_roundw
          case rel => exact ⟨k + 1, by omega, by go_num, HT2, HBF.out _⟩
          case measure => simp [intOf]; omega
    · obtain rfl : k = L.length := by omega
      have HN : Hid (decide (L.map (·.1) = M.map (·.1)) = true) := by
        show _ = _; rw [decide_eq_true_iff]
        have := HT.out
        rw [List.take_of_length_le (by simp), List.take_of_length_le (by simp; omega)] at this; exact this
      have hd1 : decide ((L.length : Int) < (L.length : Int)) = false := by simp
      go_wp2_with fail
      go_ret
      exact ⟨ret_boolW HN.out.symm, HB.out⟩
end Go.Proofs.Ytmhmlpfkdpjlaaa
