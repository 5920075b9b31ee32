/- The reference of entries: are two lists of entries, two logs, the same? -/
import Derived.Test.YtjaabakobpabjaaEqEnt
import Derived.Test.YtjaabakobpabjaaLogP
namespace Go.Proofs.Ytjaabakobpabjaa
open Go.ChangeShapes Go.WideShapes Go.ChangeAt Go.RowKit

theorem take_nextE {α : Type} {xs ys : List α} {k : Nat} (h : xs.take k = ys.take k) (hk : k < xs.length) (hk' : k < ys.length) (e : xs[k] = ys[k]) : xs.take (k + 1) = ys.take (k + 1) := by
  rw [List.take_succ_eq_append_getElem hk, List.take_succ_eq_append_getElem hk', h, e]
theorem neq_ent_no {e f : Ent} (h : e ≠ f) (w : World) : (binOp .neq 85 (.agg #[.int .i64 e.t, .int .i64 e.k, .string e.d, .int .u16 e.j.ov, .int .u16 e.j.ox, .int .u16 e.j.ol, .int .i64 e.j.oe, .int .i64 e.j.ok, .int .u16 e.j.nv, .int .u16 e.j.nx, .int .u16 e.j.nl, .int .i64 e.j.ne, .int .i64 e.j.nk, .bool e.j.two]) (.agg #[.int .i64 f.t, .int .i64 f.k, .string f.d, .int .u16 f.j.ov, .int .u16 f.j.ox, .int .u16 f.j.ol, .int .i64 f.j.oe, .int .i64 f.j.ok, .int .u16 f.j.nv, .int .u16 f.j.nx, .int .u16 f.j.nl, .int .i64 f.j.ne, .int .i64 f.j.nk, .bool f.j.two])).run Try.prog w = .ok (.bool true) w := by rw [run_neq_ent, decide_eq_false h]; rfl
set_option maxRecDepth 100000 in
set_option maxHeartbeats 4000000 in
theorem alike_any (L M : List Ent) (p q : Option Addr) (c d : Nat) (w : World) (hl : L.length ≤ 1000000) (hm : M.length ≤ 1000000) (h1 : EnSl w (.slice p L.length c) L) (h2 : EnSl w (.slice q M.length d) M) :
    Calls Try.prog 26 #[.slice p L.length c, .slice q M.length d] w fun r w' => r = .returned (.bool (decide (L = M))) ∧ Below w.heap.size w w' := by
  have H1 := Lib.hid h1; have H2 := Lib.hid h2
  clear h1 h2
  by_cases hne : L.length = M.length
  rotate_left
  · have HN : Hid (decide (L = M) = false) := by show _ = _; rw [decide_eq_false_iff_not]; intro e; exact hne (by rw [e])
    have hd : ((L.length : Int) != (M.length : Int)) = true := by simp; omega
    have hd2 : (L.length != M.length) = true := by simpa using hne
    clear hne
    go_enter Try.func26, Try.ntmps26
    go_wp2_with fail
    go_ret
    exact ⟨ret_boolL HN.out.symm, Below.refl _ _⟩
  have hne1 : (L.length != M.length) = false := by simp [hne]
  have hne2 : ((L.length : Int) != (M.length : Int)) = false := by simp [hne]
  obtain ⟨hl1, hl2⟩ : L.length ≤ M.length ∧ M.length ≤ L.length := by omega
  clear hne
  go_enter Try.func26, Try.ntmps26
  obtain ⟨U, f, hU, hf, hg⟩ := calm_class w
  obtain ⟨u0, hu0⟩ := hg _ (Below.refl _ _)
  have HB0 : Hid (∀ u, Below (f u0).heap.size (f u0) (f u)) := by show ∀ u, _; rw [← hu0]; exact hf
  rw [hu0]; clear hu0
  go_wp2_with fail
  go_loopw [5] (fun i wr => ∃ k : Nat, k ≤ L.length ∧ i = .int .i64 k ∧ Hid (L.take k = M.take k) ∧ ∃ u, wr = f u) (fun i _ => L.length - (intOf i).toNat)
  case atStart => exact ⟨0, Nat.zero_le _, rfl, rfl, _, rfl⟩
  case round =>
    obtain ⟨k, hk, rfl, HT, u, rfl⟩ := hrel
    by_cases hlt : k < L.length
    · have hlt' : k < M.length := by omega
      obtain ⟨ga, oa, ca, hva, hga, hca⟩ := H1.out.at k hlt
      obtain ⟨gb, ob, cb, hvb, hgb, hcb⟩ := H2.out.at k hlt'
      simp only [Value.slice.injEq] at hva hvb
      obtain ⟨rfl, -⟩ := hva
      obtain ⟨rfl, -⟩ := hvb
      obtain ⟨e, he⟩ : ∃ e, L[k] = e := ⟨_, rfl⟩
      obtain ⟨e2, he2⟩ : ∃ e, M[k] = e := ⟨_, rfl⟩
      rw [he] at hca
      rw [he2] at hcb
      have hua : ∀ u j, j < 14 → (f u).cell? ⟨ga, oa + k * 14 + j, none⟩ = (entC e)[j]? := fun u j hj => ((hf u).cell (p := ⟨ga, oa + k * 14 + j, none⟩) hga).trans (hca j hj)
      have hub : ∀ u j, j < 14 → (f u).cell? ⟨gb, ob + k * 14 + j, none⟩ = (entC e2)[j]? := fun u j hj => ((hf u).cell (p := ⟨gb, ob + k * 14 + j, none⟩) hgb).trans (hcb j hj)
      have qa0 : ∀ u, (f u).cell? ⟨ga, oa + k * 14, none⟩ = some (.int .i64 e.t) := fun u => hua u 0 (by decide)
      have qa1 : ∀ u, (f u).cell? ⟨ga, oa + k * 14 + 1, none⟩ = some (.int .i64 e.k) := fun u => hua u 1 (by decide)
      have qa2 : ∀ u, (f u).cell? ⟨ga, oa + k * 14 + 2, none⟩ = some (.string e.d) := fun u => hua u 2 (by decide)
      have qa3 : ∀ u, (f u).cell? ⟨ga, oa + k * 14 + 3, none⟩ = some (.int .u16 e.j.ov) := fun u => hua u 3 (by decide)
      have qa4 : ∀ u, (f u).cell? ⟨ga, oa + k * 14 + 4, none⟩ = some (.int .u16 e.j.ox) := fun u => hua u 4 (by decide)
      have qa5 : ∀ u, (f u).cell? ⟨ga, oa + k * 14 + 5, none⟩ = some (.int .u16 e.j.ol) := fun u => hua u 5 (by decide)
      have qa6 : ∀ u, (f u).cell? ⟨ga, oa + k * 14 + 6, none⟩ = some (.int .i64 e.j.oe) := fun u => hua u 6 (by decide)
      have qa7 : ∀ u, (f u).cell? ⟨ga, oa + k * 14 + 7, none⟩ = some (.int .i64 e.j.ok) := fun u => hua u 7 (by decide)
      have qa8 : ∀ u, (f u).cell? ⟨ga, oa + k * 14 + 8, none⟩ = some (.int .u16 e.j.nv) := fun u => hua u 8 (by decide)
      have qa9 : ∀ u, (f u).cell? ⟨ga, oa + k * 14 + 9, none⟩ = some (.int .u16 e.j.nx) := fun u => hua u 9 (by decide)
      have qa10 : ∀ u, (f u).cell? ⟨ga, oa + k * 14 + 10, none⟩ = some (.int .u16 e.j.nl) := fun u => hua u 10 (by decide)
      have qa11 : ∀ u, (f u).cell? ⟨ga, oa + k * 14 + 11, none⟩ = some (.int .i64 e.j.ne) := fun u => hua u 11 (by decide)
      have qa12 : ∀ u, (f u).cell? ⟨ga, oa + k * 14 + 12, none⟩ = some (.int .i64 e.j.nk) := fun u => hua u 12 (by decide)
      have qa13 : ∀ u, (f u).cell? ⟨ga, oa + k * 14 + 13, none⟩ = some (.bool e.j.two) := fun u => hua u 13 (by decide)
      have qb0 : ∀ u, (f u).cell? ⟨gb, ob + k * 14, none⟩ = some (.int .i64 e2.t) := fun u => hub u 0 (by decide)
      have qb1 : ∀ u, (f u).cell? ⟨gb, ob + k * 14 + 1, none⟩ = some (.int .i64 e2.k) := fun u => hub u 1 (by decide)
      have qb2 : ∀ u, (f u).cell? ⟨gb, ob + k * 14 + 2, none⟩ = some (.string e2.d) := fun u => hub u 2 (by decide)
      have qb3 : ∀ u, (f u).cell? ⟨gb, ob + k * 14 + 3, none⟩ = some (.int .u16 e2.j.ov) := fun u => hub u 3 (by decide)
      have qb4 : ∀ u, (f u).cell? ⟨gb, ob + k * 14 + 4, none⟩ = some (.int .u16 e2.j.ox) := fun u => hub u 4 (by decide)
      have qb5 : ∀ u, (f u).cell? ⟨gb, ob + k * 14 + 5, none⟩ = some (.int .u16 e2.j.ol) := fun u => hub u 5 (by decide)
      have qb6 : ∀ u, (f u).cell? ⟨gb, ob + k * 14 + 6, none⟩ = some (.int .i64 e2.j.oe) := fun u => hub u 6 (by decide)
      have qb7 : ∀ u, (f u).cell? ⟨gb, ob + k * 14 + 7, none⟩ = some (.int .i64 e2.j.ok) := fun u => hub u 7 (by decide)
      have qb8 : ∀ u, (f u).cell? ⟨gb, ob + k * 14 + 8, none⟩ = some (.int .u16 e2.j.nv) := fun u => hub u 8 (by decide)
      have qb9 : ∀ u, (f u).cell? ⟨gb, ob + k * 14 + 9, none⟩ = some (.int .u16 e2.j.nx) := fun u => hub u 9 (by decide)
      have qb10 : ∀ u, (f u).cell? ⟨gb, ob + k * 14 + 10, none⟩ = some (.int .u16 e2.j.nl) := fun u => hub u 10 (by decide)
      have qb11 : ∀ u, (f u).cell? ⟨gb, ob + k * 14 + 11, none⟩ = some (.int .i64 e2.j.ne) := fun u => hub u 11 (by decide)
      have qb12 : ∀ u, (f u).cell? ⟨gb, ob + k * 14 + 12, none⟩ = some (.int .i64 e2.j.nk) := fun u => hub u 12 (by decide)
      have qb13 : ∀ u, (f u).cell? ⟨gb, ob + k * 14 + 13, none⟩ = some (.bool e2.j.two) := fun u => hub u 13 (by decide)
      have HEA := Lib.hid he; have HEB := Lib.hid he2
      clear hca hcb hua hub he he2
      have hd1 : decide ((k : Int) < (L.length : Int)) = true := by simp; omega
      have hd2 : decide ((k : Int) < (M.length : Int)) = true := by simp; omega
      by_cases hy : e = e2
      · subst hy
        have HT' : Hid (L.take (k + 1) = M.take (k + 1)) := take_nextE HT.out hlt hlt' (by rw [HEA.out, HEB.out])
        go_wp2_with fail
        refine wp_region_calm f (by kernel_rfl) (by kernel_rfl) (calm_drew hf hg _) ?_
        repeat (go_big_quiet_step ((first | fail)))
        refine wpQuiet_nil ?_; rintro _ ⟨u, rfl⟩
        go_wp2_with fail
        go_roundw
        case rel => exact ⟨k + 1, by omega, by go_num, HT', _, rfl⟩
        case measure => simp [intOf]; omega
      · have HN : Hid (decide (L = M) = false) := by
          show _ = _; rw [decide_eq_false_iff_not]; intro h; subst h; exact hy (HEA.out.symm.trans HEB.out)
        have hq := neq_ent_no hy
        clear hy
        go_wp2_with fail
        refine wp_region_calm f (by kernel_rfl) (by kernel_rfl) (calm_drew hf hg _) ?_
        repeat (go_big_quiet_step ((first | fail)))
        refine wpQuiet_nil ?_; rintro _ ⟨u, rfl⟩
        go_wp2_with fail
        go_ret
        exact ⟨ret_boolL HN.out.symm, HB0.out _⟩
    · obtain rfl : k = L.length := by omega
      have HN : Hid (decide (L = M) = true) := by
        show _ = _; rw [decide_eq_true_iff]
        have := HT.out
        rw [List.take_of_length_le (Nat.le_refl _), List.take_of_length_le (by omega)] at this; exact this
      go_wp2_with fail
      go_ret
      exact ⟨ret_boolL HN.out.symm, HB0.out _⟩
end Go.Proofs.Ytjaabakobpabjaa
