import Derived.Test.YtbnndbdnejfehaaGreatDoorPlainStale
import Derived.Test.YtbnndbdnejfehaaGreatDoorOpenLog
import Derived.Test.YtbnndbdnejfehaaGreatDoorOpenMsg
import Derived.Test.YtbnndbdnejfehaaGreatDoorRef13B
import Derived.Test.YtbnndbdnejfehaaGreatDoorHtI
import Derived.LaidMore
import Derived.LaidLaws
import Derived.Stop.Joined
import Derived.Test.YtbnndbdnejfehaaGreatDoorConf2
import Derived.Test.YtbnndbdnejfehaaGreatDoorRows
import Derived.OpenShut
/- Core: a message of a term gone by: the law's walk. -/
namespace Go.Proofs.YtbnndbdnejfehaaGreatDoor
open Go.ChangeShapes Go.WideShapes Go.ChangeAt Go.RowKit

theorem ms_nil {B : Nat} {w : World} {v : Value} {l : List MsX} (h : MsAt B w v l) (hl : l.map MsX.m = []) : ∃ p cap, v = .slice p 0 cap := by
  have h0 : l.length = 0 := by have := congrArg List.length hl; rwa [List.length_map] at this
  obtain ⟨p, c, e⟩ := own_formH h.own
  rw [h0] at e
  exact ⟨p, c, e⟩
theorem ms_row {B : Nat} {w : World} {v : Value} {l : List MsX} (h : MsAt B w v l) {i : Nat} (hi : i < l.length) : ∃ g c, v = .slice (some ⟨g, 0, none⟩) l.length c ∧ ∀ w' : World, Below w.heap.size w w' → ∀ j, j < 22 → w'.cell? ⟨g, i * 22 + j, none⟩ = (l[i]).v[j]? := by
  rcases h.own.2 with ⟨-, h0⟩ | ⟨g, cap, cur, hv, hb, hg, -, -, hc, ht⟩
  · have : l.length = 0 := by simpa using h0
    omega
  · refine ⟨g, cap, hv, fun w' hb j hj => ?_⟩
    have hg' := below_block hb (block_lt hg) hg
    rw [block_cells hg', ← msRow_get hi hj, ← ht, List.getElem?_take, if_pos (by
      have : i * 22 + 22 ≤ l.length * 22 := by have := Nat.mul_le_mul_right 22 (show i + 1 ≤ l.length from hi); omega
      omega)]
    simp
theorem ms_one {B : Nat} {w : World} {v : Value} {l : List MsX} {x : Ms} (h : MsAt B w v l) (hl : l.map MsX.m = [x]) : ∃ g cap p k, v = .slice (some ⟨g, 0, none⟩) 1 cap ∧ ∀ w' : World, Below w.heap.size w w' → ∀ j, j < 22 → w'.cell? ⟨g, j, none⟩ = (msC x p k)[j]? := by
  cases l with
  | nil => exact absurd hl (by simp)
  | cons y t =>
    cases t with
    | cons z t => exact absurd hl (by simp)
    | nil =>
      have hx : y.m = x := by simpa using hl
      subst hx
      obtain ⟨g, cap, hv, hr⟩ := ms_row h (i := 0) (Nat.zero_lt_one)
      exact ⟨g, cap, y.p, y.k, hv, fun w' hb j hj => by have h1 := hr w' hb j hj; rw [Nat.zero_mul, Nat.zero_add] at h1; exact h1⟩
theorem lightC_parts {c : Co} (h : lightC c = true) : c.l.es.length ≤ 60 := by
  unfold lightC lightB smallB at h
  simp only [Bool.and_eq_true, decide_eq_true_eq, List.all_eq_true] at h
  exact h.1.1
theorem lightM_parts {m : Ms} (h : lightM m = true) : m.es.length ≤ 60 := by
  unfold lightM lightB smallB at h
  simp only [Bool.and_eq_true, decide_eq_true_eq, List.all_eq_true] at h
  omega
set_option maxRecDepth 100000 in
set_option maxHeartbeats 16000000 in
theorem stale_walk (c : Co) (p : Option Addr) (k : Nat) (m : Ms) (q : Option Addr) (d : Nat) (w : World) (hT : Tab w) (vc : CoV c) (vm : MsV m) (hE : EnSl w (.slice p c.l.es.length k) c.l.es) (hM : EnSl w (.slice q m.es.length d) m.es) :
    Calls Tryz.prog 4 #[.agg (coL c p k).toArray, .agg (msC m q d).toArray] w fun e w' => e = .returned (.bool true) ∧ Below w.heap.size w w' := by
  have HT := Lib.hid hT; have HVC := Lib.hid vc; have HVM := Lib.hid vm; have HE := Lib.hid hE; have HM := Lib.hid hM
  clear hT vc vm hE hM
  go_enter Tryz.func4, Tryz.ntmps4
  obtain ⟨Q', hQ⟩ : ∃ Q', bodyPost Tryz.prog Tryz.f4 (fun e w' => e = .returned (.bool true) ∧ Below w.heap.size w w') = Q' := ⟨_, rfl⟩
  have HQ : Hid (∀ (a : Act) (w' : World), a.tmps.getD 4 undef = .bool true → a.defers = [] → Below w.heap.size w w' → Q' .ret a w') := fun a w' h6 hd hb => by
    rw [← hQ]; exact bodyPost_ret (v := .bool true) (by rw [results_tmp rfl, h6]) hd ⟨rfl, hb⟩
  rw [hQ]
  clear hQ
  go_upto_region 1 with fail
  obtain ⟨W0, hW0⟩ : ∃ z : World, w.alloc (.cells (coL c p k).toArray 33) = z := ⟨_, rfl⟩
  obtain ⟨W, hW⟩ : ∃ z : World, W0.alloc (.cells (msC m q d).toArray 39) = z := ⟨_, rfl⟩
  have hs0 : W0.heap.size = w.heap.size + 1 := by rw [← hW0]; simp
  have b0 : Below w.heap.size w W0 := by rw [← hW0]; exact (Below.refl _ _).alloc (Nat.le_refl _) _
  have b1 : Below W0.heap.size W0 W := by rw [← hW]; exact (Below.refl _ _).alloc (Nat.le_refl _) _
  have hA : W.heap[w.heap.size]? = some (.cells (coL c p k).toArray 33 (0, 0)) := below_block b1 (by omega) (by rw [← hW0]; exact heap_last w _)
  have hB : W.heap[w.heap.size + 1]? = some (.cells (msC m q d).toArray 39 (0, 0)) := by rw [← hW, ← hs0]; exact heap_last W0 _
  rw [hW0, hW]
  obtain ⟨A, eA⟩ : ∃ z, w.heap.size = z := ⟨_, rfl⟩
  obtain ⟨B, eB⟩ : ∃ z, A + 1 = z := ⟨_, rfl⟩
  (try rw [eA]); (try rw [eB])
  rw [eA] at hA hB
  rw [eB] at hB
  have HBW := Lib.hid (b0.trans (b1.mono b0.size))
  have hAl := block_lt hA; have hBl := block_lt hB
  have HBA := Lib.hid (show ∀ w', Below W.heap.size W w' → w'.heap[A]? = some (.cells (coL c p k).toArray 33 (0, 0)) from fun w' h => below_block h hAl hA)
  have HBB := Lib.hid (show ∀ w', Below W.heap.size W w' → w'.heap[B]? = some (.cells (msC m q d).toArray 39 (0, 0)) from fun w' h => below_block h hBl hB)
  have HRA := Lib.hid (show ∀ w', Below W.heap.size W w' → w'.rangeAt A 0 (coL c p k) from fun w' h => range_of (n := 45) rfl (fun j _ => by rw [Nat.zero_add, block_cells (below_block h hAl hA), List.getElem?_toArray]))
  have HRB := Lib.hid (show ∀ w', Below W.heap.size W w' → w'.rangeAt B 0 (msC m q d) from fun w' h => range_of (n := 22) rfl (fun j _ => by rw [Nat.zero_add, block_cells (below_block h hBl hB), List.getElem?_toArray]))
  have HEA := Lib.hid (show ∀ w', Below W.heap.size W w' → EnSl w' (.slice p c.l.es.length k) c.l.es from fun w' h => HE.out.keep (HBW.out.trans (h.mono HBW.out.size)) (Nat.le_refl _))
  have HEB := Lib.hid (show ∀ w', Below W.heap.size W w' → EnSl w' (.slice q m.es.length d) m.es from fun w' h => HM.out.keep (HBW.out.trans (h.mono HBW.out.size)) (Nat.le_refl _))
  have HTW := Lib.hid (show ∀ w', Below W.heap.size W w' → Tab w' from fun w' h => HT.out.keep (HBW.out.trans (h.mono HBW.out.size)))
  clear hW0 hW hs0 b0 b1 hA hB eA eB HE HM hAl hBl
  go_wp2_with fail
  refine (begun13_any W (HTW.out W (Below.refl _ _))).mono ?_; rintro e w1 ⟨rfl, hb1⟩
  have hk1 : Below W.heap.size W w1 := hb1
  clear hb1
  cases hlo : lightC c with
  | false =>
    have HC := Lib.hid (show Calls Tryz.prog 8 #[.agg (coL c p k).toArray] w1 fun e w2 => e = .returned (.bool false) ∧ Below w1.heap.size w1 w2 from by have := light13_any c p k w1 (HEA.out w1 hk1); rw [hlo] at this; exact this)
    clear hlo
    go_wp2_with (with_reducible refine wpList_load_mid (op := ⟨some 10, _, _, _, _, _⟩) rfl _ _ rfl A 0 rfl (coL c p k) _ (HRA.out _ (by assumption)) Tryz.underlying33 rfl (by kernel_rfl) ?_)
    refine HC.out.mono ?_; rintro e w2 ⟨rfl, hb2⟩
    have HB2 := Lib.hid (HBW.out.trans ((hk1.trans (hb2.mono hk1.size)).mono HBW.out.size))
    clear hb2 HC
    go_wp2_with fail
    exact HQ.out _ _ rfl rfl HB2.out
  | true =>
  have HC := Lib.hid (show Calls Tryz.prog 8 #[.agg (coL c p k).toArray] w1 fun e w2 => e = .returned (.bool true) ∧ Below w1.heap.size w1 w2 from by have := light13_any c p k w1 (HEA.out w1 hk1); rw [hlo] at this; exact this)
  have HCN := Lib.hid (lightC_parts hlo)
  clear hlo
  go_wp2_with (with_reducible refine wpList_load_mid (op := ⟨some 10, _, _, _, _, _⟩) rfl _ _ rfl A 0 rfl (coL c p k) _ (HRA.out _ (by assumption)) Tryz.underlying33 rfl (by kernel_rfl) ?_)
  refine HC.out.mono ?_; rintro e w2 ⟨rfl, hb2⟩
  have hk2 : Below W.heap.size W w2 := hk1.trans (hb2.mono hk1.size)
  clear hb2 HC hk1
  cases hlo : lightM m with
  | false =>
    have HC := Lib.hid (show Calls Tryz.prog 10 #[.agg (msC m q d).toArray] w2 fun e w3 => e = .returned (.bool false) ∧ Below w2.heap.size w2 w3 from by have := lightM_any m q d w2 (HEB.out w2 hk2); rw [hlo] at this; exact this)
    clear hlo
    go_wp2_with (with_reducible refine wpList_load_g (op := ⟨some 14, _, _, _, _, _⟩) (by kernel_rfl) _ _ rfl B 0 rfl (msC m q d) _ (HRB.out _ (by assumption)) Tryz.underlying39 rfl (by kernel_rfl) ?_)
    refine HC.out.mono ?_; rintro e w3 ⟨rfl, hb3⟩
    have HB3 := Lib.hid (HBW.out.trans ((hk2.trans (hb3.mono hk2.size)).mono HBW.out.size))
    clear hb3 HC
    go_wp2_with fail
    exact HQ.out _ _ rfl rfl HB3.out
  | true =>
  have HC := Lib.hid (show Calls Tryz.prog 10 #[.agg (msC m q d).toArray] w2 fun e w3 => e = .returned (.bool true) ∧ Below w2.heap.size w2 w3 from by have := lightM_any m q d w2 (HEB.out w2 hk2); rw [hlo] at this; exact this)
  have HMN := Lib.hid (lightM_parts hlo)
  clear hlo
  go_wp2_with (with_reducible refine wpList_load_g (op := ⟨some 14, _, _, _, _, _⟩) (by kernel_rfl) _ _ rfl B 0 rfl (msC m q d) _ (HRB.out _ (by assumption)) Tryz.underlying39 rfl (by kernel_rfl) ?_)
  refine HC.out.mono ?_; rintro e w3 ⟨rfl, hb3⟩
  have hk3 : Below W.heap.size W w3 := hk2.trans (hb3.mono hk2.size)
  clear hb3 HC hk2
  have HC := Lib.hid (show Calls Tryz.prog 9 #[.agg (coL c p k).toArray] w3 fun r w' => (∃ b, r = .returned (.bool b) ∧ (b = true ↔ CoMay c)) ∧ Below w3.heap.size w3 w' from rmay13_any c p k w3 HVC.out (by have := HCN.out; omega) (HEA.out w3 hk3))
  go_wp2_with (with_reducible refine wpList_load_g (op := ⟨some 19, _, _, _, _, _⟩) (by kernel_rfl) _ _ rfl A 0 rfl (coL c p k) _ (HRA.out _ (by assumption)) Tryz.underlying33 rfl (by kernel_rfl) ?_)
  refine HC.out.mono ?_; rintro e w4 ⟨⟨b, rfl, hmay⟩, hb4⟩
  have hk4 : Below W.heap.size W w4 := hk3.trans (hb4.mono hk3.size)
  clear hb4 HC hk3
  have HB4 := Lib.hid (HBW.out.trans (hk4.mono HBW.out.size))
  cases b with
  | false =>
    clear hmay
    go_wp2_with fail
    exact HQ.out _ _ rfl rfl HB4.out
  | true =>
  have HMAY := Lib.hid (hmay.1 rfl)
  clear hmay
  have kA0 : w4.cell? ⟨A, 0, none⟩ = some (.int .i64 c.id) := block_cells (HBA.out _ hk4) 0
  have kA2 : w4.cell? ⟨A, 2, none⟩ = some (.int .i64 c.tm) := block_cells (HBA.out _ hk4) 2
  have kB1 : w4.cell? ⟨B, 1, none⟩ = some (.int .i64 m.fr) := block_cells (HBB.out _ hk4) 1
  have kB2 : w4.cell? ⟨B, 2, none⟩ = some (.int .i64 m.dst) := block_cells (HBB.out _ hk4) 2
  have kB3 : w4.cell? ⟨B, 3, none⟩ = some (.int .i64 m.tm) := block_cells (HBB.out _ hk4) 3
  by_cases h : c.tm ≤ m.tm
  · have d0 : decide (c.tm ≤ m.tm) = true := by simpa using h
    clear h
    go_wp2_with fail
    exact HQ.out _ _ rfl rfl HB4.out
  have d0 : decide (c.tm ≤ m.tm) = false := by simpa using h
  have H0 := Lib.hid h
  clear h
  by_cases h : m.tm < 1
  · have d1 : decide (m.tm < 1) = true := by simpa using h
    clear h
    go_wp2_with fail
    exact HQ.out _ _ rfl rfl HB4.out
  have d1 : decide (m.tm < 1) = false := by simpa using h
  have H1 := Lib.hid h
  clear h
  by_cases h : m.dst ≠ c.id
  · have d2 : (m.dst != c.id) = true := by simpa using h
    clear h
    go_wp2_with fail
    exact HQ.out _ _ rfl rfl HB4.out
  have d2 : (m.dst != c.id) = false := by simpa using h
  have H2 := Lib.hid h
  clear h
  by_cases h : m.fr < 1
  · have d3 : decide (m.fr < 1) = true := by simpa using h
    clear h
    go_wp2_with fail
    exact HQ.out _ _ rfl rfl HB4.out
  have d3 : decide (m.fr < 1) = false := by simpa using h
  have H3 := Lib.hid h
  clear h
  by_cases h : 9 < m.fr
  · have d4 : decide (9 < m.fr) = true := by simpa using h
    clear h
    go_wp2_with fail
    exact HQ.out _ _ rfl rfl HB4.out
  have d4 : decide (9 < m.fr) = false := by simpa using h
  have H4 := Lib.hid h
  clear h
  by_cases h : m.fr = c.id
  · have d5 : (m.fr == c.id) = true := by simpa using h
    clear h
    go_wp2_with fail
    exact HQ.out _ _ rfl rfl HB4.out
  have d5 : (m.fr == c.id) = false := by simpa using h
  have H5 := Lib.hid h
  clear h
  obtain ⟨o, ho, hk1, hk3, hk0⟩ : ∃ o, stepB c m = ⟨c, o⟩ ∧ (m.k = 1 → o = if stk c = true then [] else [putM c m.fr { ms0 with k := 2 }]) ∧ (m.k = 3 ∨ m.k = 5 → o = [putM c m.fr { ms0 with k := 4 }]) ∧ (¬ (m.k = 1 ∨ m.k = 3 ∨ m.k = 5) → o = []) := by
    have h := stale_out (c := c) (m := m) (by have := H0.out; omega) HMAY.out.tm1 (by have := H1.out; omega) (by have := H2.out; omega) (by have := H3.out; omega) (by have := H4.out; omega) H5.out
    rw [h]
    by_cases e1 : m.k = 1
    · rw [if_pos e1]
      by_cases e2 : stk c = true
      · rw [if_pos e2]; exact ⟨_, rfl, fun _ => by rw [if_pos e2], fun h => by omega, fun h => absurd (.inl e1) h⟩
      · rw [if_neg e2]; exact ⟨_, rfl, fun _ => by rw [if_neg e2], fun h => by omega, fun h => absurd (.inl e1) h⟩
    · rw [if_neg e1]
      by_cases e2 : m.k = 3 ∨ m.k = 5
      · rw [if_pos e2]; exact ⟨_, rfl, fun h => absurd h e1, fun _ => rfl, fun h => absurd (.inr e2) h⟩
      · rw [if_neg e2]; exact ⟨_, rfl, fun h => absurd h e1, fun h => absurd h e2, fun _ => rfl⟩
  have HO1 := Lib.hid hk1; have HO3 := Lib.hid hk3; have HO0 := Lib.hid hk0
  have HSTP := Lib.hid (show Calls Tryz.prog 12 #[.agg (coL c p k).toArray, .agg (msC m q d).toArray] w4 (CoEnd w4 ⟨c, o⟩) from by
    have h1 := step_any 60 c p k m q d w4 (fit_may HMAY.out HCN.out (by decide) HVC.out.l.j (fun e he => (HVC.out.l.es e he).j)) (by decide) (HTW.out w4 hk4) (HEA.out w4 hk4) (HEB.out w4 hk4) (by have := HMN.out; omega) (fun e he => (HVM.out.es e he).j) HVM.out.cf
    rw [ho] at h1; exact h1)
  go_upto_region 5 with fail
  clear ho hk1 hk3 hk0 kA0 kA2 kB1 kB2 kB3 H0 H1 H2 H3 H4 H5
  go_wp2_with (first | (with_reducible refine wpList_load_mid (op := ⟨some 60, _, _, _, _, _⟩) rfl _ _ rfl A 0 rfl (coL c p k) _ (HRA.out _ (by assumption)) Tryz.underlying33 rfl (by kernel_rfl) ?_) | (with_reducible refine wpList_load_mid (op := ⟨some 61, _, _, _, _, _⟩) rfl _ _ rfl B 0 rfl (msC m q d) _ (HRB.out _ (by assumption)) Tryz.underlying39 rfl (by kernel_rfl) ?_))
  refine HSTP.out.mono ?_; rintro e w5 ⟨p5, d5, v5, l5, rfl, hl5, hO5, hM5, -, hb5⟩
  have hk5 : Below W.heap.size W w5 := hk4.trans (hb5.mono hk4.size)
  have HMS := Lib.hid hM5; have HL5 := Lib.hid (show l5.map MsX.m = o from hl5)
  have HE5 := Lib.hid (show EnSl w5 (.slice p5 c.l.es.length d5) c.l.es from EnSl.of_own hO5)
  clear hb5 hM5 hl5 hO5 HSTP
  go_upto_region 6 with (with_reducible refine wpList_store_new (op := ⟨none, .store 33 _ _, _, _, _, _⟩) rfl _ _ _ rfl _ (coL c p5 d5).toArray rfl rfl (by kernel_rfl) rfl (one_all rfl) ?_)
  obtain ⟨w6, hw⟩ : ∃ z : World, w5.alloc (.cells (coL c p5 d5).toArray 33) = z := ⟨_, rfl⟩
  have b6 : Below w5.heap.size w5 w6 := by rw [← hw]; exact (Below.refl _ _).alloc (Nat.le_refl _) _
  have hD : w6.heap[w5.heap.size]? = some (.cells (coL c p5 d5).toArray 33 (0, 0)) := by rw [← hw]; exact heap_last w5 _
  (try rw [hw])
  obtain ⟨D, eD⟩ : ∃ z, w5.heap.size = z := ⟨_, rfl⟩
  (try rw [eD])
  rw [eD] at hD
  have HRD := Lib.hid (core_range hD)
  have hk6 : Below W.heap.size W w6 := hk5.trans (b6.mono hk5.size)
  have HM6 := Lib.hid (HMS.out.keep b6)
  have HSM := Lib.hid (show Calls Tryz.prog 14 #[.agg (coL c p k).toArray, .agg (coL c p5 d5).toArray] w6 fun r w' => r = .returned (.bool true) ∧ Below w6.heap.size w6 w' from rsame13_any c p p5 k d5 w6 (by have := HCN.out; omega) (HEA.out w6 hk6) (HE5.out.keep b6 (Nat.le_refl _)))
  clear hw b6 hD eD hk4 hk5 HMS HE5
  go_wp2_with (first | (with_reducible refine wpList_load_mid (op := ⟨some 65, _, _, _, _, _⟩) rfl _ _ rfl A 0 rfl (coL c p k) _ (HRA.out _ (by assumption)) Tryz.underlying33 rfl (by kernel_rfl) ?_) | (with_reducible refine wpList_load_mid (op := ⟨some 66, _, _, _, _, _⟩) rfl _ _ rfl D 0 rfl (coL c p5 d5) _ HRD.out Tryz.underlying33 rfl (by kernel_rfl) ?_))
  refine HSM.out.mono ?_; rintro e w7 ⟨rfl, hb7⟩
  have hk7 : Below W.heap.size W w7 := hk6.trans (hb7.mono hk6.size)
  have HM7 := Lib.hid (HM6.out.keep hb7)
  clear hb7 HSM HM6 hk6 HRD
  go_upto_region 8 with fail
  have kA1 : w7.cell? ⟨A, 1, none⟩ = some (.int .i64 c.role) := block_cells (HBA.out _ hk7) 1
  have kA4 : w7.cell? ⟨A, 4, none⟩ = some (.int .i64 c.ld) := block_cells (HBA.out _ hk7) 4
  have kA5 : w7.cell? ⟨A, 5, none⟩ = some (.int .i64 c.wt) := block_cells (HBA.out _ hk7) 5
  go_cut [7] from 69 to 82 (fun s wx => s = .bool (stk c) ∧ wx = w7)
  case first =>
    by_cases h1 : c.role = 2
    · have d1 : (c.role == 2) = true := by simpa using h1
      have HS : Hid (stk c = true) := by show _ = _; unfold stk; rw [decide_eq_true h1]; rfl
      clear h1
      go_wp2_with fail
      go_meet
      case rel => exact ⟨by rw [HS.out], rfl⟩
    have d1 : (c.role == 2) = false := by simpa using h1
    by_cases h2 : c.ld = 0
    · have d2 : (c.ld != 0) = false := by simpa using h2
      have HS : Hid (stk c = false) := by show _ = _; unfold stk; rw [decide_eq_false h1, decide_eq_false (fun h => h h2)]; rfl
      clear h1 h2
      go_wp2_with fail
      go_meet
      case rel => exact ⟨by rw [HS.out], rfl⟩
    have d2 : (c.ld != 0) = true := by simpa using h2
    by_cases h3 : c.wt < 10
    · have d3 : decide (c.wt < 10) = true := by simpa using h3
      have HS : Hid (stk c = true) := by show _ = _; unfold stk; rw [decide_eq_false h1, decide_eq_true h2, decide_eq_true h3]; rfl
      clear h1 h2 h3
      go_wp2_with fail
      go_meet
      case rel => exact ⟨by rw [HS.out], rfl⟩
    · have d3 : decide (c.wt < 10) = false := by simpa using h3
      have HS : Hid (stk c = false) := by show _ = _; unfold stk; rw [decide_eq_false h1, decide_eq_true h2, decide_eq_false h3]; rfl
      clear h1 h2 h3
      go_wp2_with fail
      go_meet
      case rel => exact ⟨by rw [HS.out], rfl⟩
  case rest =>
    obtain ⟨rfl, rfl⟩ := hcut
    obtain ⟨w8, rfl⟩ : ∃ z : World, z = wc := ⟨_, rfl⟩
    have kB0 : w8.cell? ⟨B, 0, none⟩ = some (.int .i64 m.k) := block_cells (HBB.out _ hk7) 0
    have HK8 := Lib.hid hk7
    have HB8 := Lib.hid (HBW.out.trans (hk7.mono HBW.out.size))
    have HA8 := Lib.hid (HBA.out _ hk7)
    have HBB8 := Lib.hid (HBB.out _ hk7)
    clear kA1 kA4 kA5 hk7
    obtain ⟨s, hs⟩ : ∃ s, stk c = s := ⟨_, rfl⟩
    have HS := Lib.hid hs
    rw [hs]
    clear hs
    by_cases h1 : m.k = 1
    · have d1 : (m.k == 1) = true := by simpa using h1
      have HOO := Lib.hid (HO1.out h1)
      clear h1
      cases s with
      | true =>
        have hl := HL5.out; have ho := HOO.out; rw [if_pos HS.out] at ho; rw [ho] at hl
        obtain ⟨pv, cv, rfl⟩ := ms_nil HM7.out hl
        clear hl ho HM7
        go_upto_region 11 with fail
        obtain ⟨U, f, hU, hf, hg⟩ := calm_class (w8); obtain ⟨u0, hu0⟩ := hg _ (Below.refl _ _); rw [hu0]; clear hu0
        have HBU : Hid (∀ u, Below w.heap.size w (f u)) := fun u => HB8.out.trans ((hf u).mono HB8.out.size)
        refine wp_region_calm f (by kernel_rfl) (by kernel_rfl) (calm_drew hf hg _) ?_
        repeat (go_big_quiet_step (fail))
        refine wpQuiet_nil ?_; rintro _ ⟨u, rfl⟩
        go_wp2_with fail
        exact HQ.out _ _ rfl rfl (HBU.out _)
      | false =>
        have hl := HL5.out; have ho := HOO.out; rw [if_neg (by rw [HS.out]; exact Bool.false_ne_true)] at ho; rw [ho] at hl
        obtain ⟨g, cv, py, ky, rfl, hcell⟩ := ms_one HM7.out hl
        have HCE := Lib.hid hcell
        clear hl ho HM7 hcell
        go_upto_region 11 with fail
        obtain ⟨U, f, hU, hf, hg⟩ := calm_class (w8); obtain ⟨u0, hu0⟩ := hg _ (Below.refl _ _); rw [hu0]; clear hu0
        have HBU : Hid (∀ u, Below w.heap.size w (f u)) := fun u => HB8.out.trans ((hf u).mono HB8.out.size)
        have kg0 : ∀ u, (f u).cell? ⟨g, 0, none⟩ = some (.int .i64 2) := fun u => HCE.out _ (hf u) 0 (by decide)
        have kg2 : ∀ u, (f u).cell? ⟨g, 2, none⟩ = some (.int .i64 m.fr) := fun u => HCE.out _ (hf u) 2 (by decide)
        have kg3 : ∀ u, (f u).cell? ⟨g, 3, none⟩ = some (.int .i64 c.tm) := fun u => HCE.out _ (hf u) 3 (by decide)
        have kg8 : ∀ u, (f u).cell? ⟨g, 8, none⟩ = some (.bool false) := fun u => HCE.out _ (hf u) 8 (by decide)
        have kA2 : ∀ u, (f u).cell? ⟨A, 2, none⟩ = some (.int .i64 c.tm) := fun u => block_cells (calm_heap hf HA8.out u) 2
        have kB1 : ∀ u, (f u).cell? ⟨B, 1, none⟩ = some (.int .i64 m.fr) := fun u => block_cells (calm_heap hf HBB8.out u) 1
        refine wp_region_calm f (by kernel_rfl) (by kernel_rfl) (calm_drew hf hg _) ?_
        repeat (go_big_quiet_step (fail))
        refine wpQuiet_nil ?_; rintro _ ⟨u, rfl⟩
        go_wp2_with fail
        exact HQ.out _ _ rfl rfl (HBU.out _)
    have d1 : (m.k == 1) = false := by simpa using h1
    by_cases h3 : m.k = 3 ∨ m.k = 5
    · have HOO := Lib.hid (HO3.out h3)
      have hl := HL5.out; have ho := HOO.out; rw [ho] at hl
      obtain ⟨g, cv, py, ky, rfl, hcell⟩ := ms_one HM7.out hl
      have HCE := Lib.hid hcell
      clear hl ho HM7 hcell h1
      by_cases h33 : m.k = 3
      · have d3 : (m.k == 3) = true := by simpa using h33
        clear h33 h3
        go_upto_region 14 with fail
        obtain ⟨U, f, hU, hf, hg⟩ := calm_class (w8); obtain ⟨u0, hu0⟩ := hg _ (Below.refl _ _); rw [hu0]; clear hu0
        have HBU : Hid (∀ u, Below w.heap.size w (f u)) := fun u => HB8.out.trans ((hf u).mono HB8.out.size)
        have kg0 : ∀ u, (f u).cell? ⟨g, 0, none⟩ = some (.int .i64 4) := fun u => HCE.out _ (hf u) 0 (by decide)
        have kg2 : ∀ u, (f u).cell? ⟨g, 2, none⟩ = some (.int .i64 m.fr) := fun u => HCE.out _ (hf u) 2 (by decide)
        have kg3 : ∀ u, (f u).cell? ⟨g, 3, none⟩ = some (.int .i64 c.tm) := fun u => HCE.out _ (hf u) 3 (by decide)
        have kg8 : ∀ u, (f u).cell? ⟨g, 8, none⟩ = some (.bool false) := fun u => HCE.out _ (hf u) 8 (by decide)
        have kA2 : ∀ u, (f u).cell? ⟨A, 2, none⟩ = some (.int .i64 c.tm) := fun u => block_cells (calm_heap hf HA8.out u) 2
        have kB1 : ∀ u, (f u).cell? ⟨B, 1, none⟩ = some (.int .i64 m.fr) := fun u => block_cells (calm_heap hf HBB8.out u) 1
        refine wp_region_calm f (by kernel_rfl) (by kernel_rfl) (calm_drew hf hg _) ?_
        repeat (go_big_quiet_step (fail))
        refine wpQuiet_nil ?_; rintro _ ⟨u, rfl⟩
        go_wp2_with fail
        exact HQ.out _ _ rfl rfl (HBU.out _)
      · have d3 : (m.k == 3) = false := by simpa using h33
        have d5 : (m.k == 5) = true := by have h5 : m.k = 5 := by omega
                                          simpa using h5
        clear h33 h3
        go_upto_region 14 with fail
        obtain ⟨U, f, hU, hf, hg⟩ := calm_class (w8); obtain ⟨u0, hu0⟩ := hg _ (Below.refl _ _); rw [hu0]; clear hu0
        have HBU : Hid (∀ u, Below w.heap.size w (f u)) := fun u => HB8.out.trans ((hf u).mono HB8.out.size)
        have kg0 : ∀ u, (f u).cell? ⟨g, 0, none⟩ = some (.int .i64 4) := fun u => HCE.out _ (hf u) 0 (by decide)
        have kg2 : ∀ u, (f u).cell? ⟨g, 2, none⟩ = some (.int .i64 m.fr) := fun u => HCE.out _ (hf u) 2 (by decide)
        have kg3 : ∀ u, (f u).cell? ⟨g, 3, none⟩ = some (.int .i64 c.tm) := fun u => HCE.out _ (hf u) 3 (by decide)
        have kg8 : ∀ u, (f u).cell? ⟨g, 8, none⟩ = some (.bool false) := fun u => HCE.out _ (hf u) 8 (by decide)
        have kA2 : ∀ u, (f u).cell? ⟨A, 2, none⟩ = some (.int .i64 c.tm) := fun u => block_cells (calm_heap hf HA8.out u) 2
        have kB1 : ∀ u, (f u).cell? ⟨B, 1, none⟩ = some (.int .i64 m.fr) := fun u => block_cells (calm_heap hf HBB8.out u) 1
        refine wp_region_calm f (by kernel_rfl) (by kernel_rfl) (calm_drew hf hg _) ?_
        repeat (go_big_quiet_step (fail))
        refine wpQuiet_nil ?_; rintro _ ⟨u, rfl⟩
        go_wp2_with fail
        exact HQ.out _ _ rfl rfl (HBU.out _)
    · have d3 : (m.k == 3) = false := by have h : ¬ m.k = 3 := fun h => h3 (.inl h)
                                         simpa using h
      have d5 : (m.k == 5) = false := by have h : ¬ m.k = 5 := fun h => h3 (.inr h)
                                         simpa using h
      have ho := HO0.out (by omega)
      have hl := HL5.out; rw [ho] at hl
      obtain ⟨pv, cv, rfl⟩ := ms_nil HM7.out hl
      clear hl ho HM7 h1 h3
      go_wp2_with fail
      exact HQ.out _ _ rfl rfl HB8.out
end Go.Proofs.YtbnndbdnejfehaaGreatDoor
/- The frame of a law's row that lists tables ('laid'): as XFrame's, the walk is handed the condition. -/
namespace Go.Proofs.YtbnndbdnejfehaaGreatDoor
open Go.ChangeShapes Go.WideShapes Go.ChangeAt Go.RowKit

section
variable {H : Type} {enc : TypeId × Value → H}
theorem lift_laid {C : Checked} {os : Os} {F : FuncId} {fF : Func} {s : ChangeSpec} {tb : TypeId} {X : World → Prop} (hX : ∀ (w w' : World), w.heap = w'.heap → X w → X w') (own : ownKnob C.prog.godebug = none) (started : os.Started) (noInit : C.prog.inits.idxOf? F = none) (hfn : C.prog.funcs[F]? = some fF)
    (witness : ∃ (w : World) (tape : Tape) (i : Input), w.os = os ∧ (w.forCall tape i).Shaped C.prog ∧ i.vars = [] ∧ Input.okWide C.prog (w.forCall tape i) .any w.heap.size F i ∧
      ((s.pre enc C.prog fF [] false (w.forCall tape i).memory i.args ∧ X (w.forCall tape i).memory) ∧ sizedMet enc C.prog fF (OpenSpec.ofChange s) false (w.forCall tape i).memory i.args) ∧ Assume.holds {} C.prog (lone (Frame.enter C.prog F i.args .normal) [] (w.forCall tape i)))
    (hl : laidOutB C.prog = true) (hr : (fF.params.toList.all fun t => C.prog.readableRec t && decide (t < C.prog.types.size)) = true) (hres : fF.resultTypes = #[tb]) (hb : C.prog.underlying tb = some .bool)
    (hvars : s.vars = []) (hspec : ∀ ds : List (DataW H), ds.length = fF.params.toList.length → s.fn H (ds ++ []) = { results := [.lit (.bool true)], args := ds })
    (walk : ∀ (W : World) (base : Nat) (args : Array Value) (ds : List (DataW H)) (ps : List MemPlace), (∀ (j : Nat) t v, fF.params[j]? = some t → args[j]? = some v → Value.okWide C.prog W .any base t v) →
      DataW.TrodAll enc C.prog W 0 (fun _ => true) true fF.params.toList args.toList ds ps → (∀ x ∈ ps, x.block < W.heap.size) →
      (DataW.weightsEach C.prog (fF.params.toList ++ s.plain.varTypes C.prog) (ds ++ [])).all (· ≤ reachBytes) = true → X W →
      Calls C.prog F args W fun e W' => e = .returned (.bool true) ∧ Below W.heap.size W W') :
    ReturnsInHanded {} C os F .any (fun w args => (s.pre enc C.prog fF [] false w args ∧ X w) ∧ sizedMet enc C.prog fF (OpenSpec.ofChange s) false w args) (s.post enc C.prog fF false true false false) := by
  refine returnsInHanded_of_change_and (C := C) (X := fun w _ => X w) (fun w w' _ hh h => hX w w' hh h) own started noInit hfn witness ?_
  intro W base args ds gs before hval hW hcnd hsz hx _
  have hW' := hW
  obtain ⟨p, q, hA, hV, rfl, _, _⟩ := hW
  rw [hvars] at hV
  obtain ⟨rfl, rfl⟩ := trodVars_none hV
  have hlt : ∀ x ∈ p, x.block < W.heap.size := fun x hx => hW'.lt x (List.mem_append_left _ hx)
  refine (walk W base args ds p hval hA hlt hsz hx).mono fun e W' ⟨he, hb'⟩ => ?_
  subst he
  have e := hspec ds (trodAll_length _ _ _ _ hA)
  refine ⟨_, rfl, ds, [], p ++ [], [], p, [], hW', ?_, ?_, ?_, hb'.frame _, fun h => by cases h⟩
  · rw [e, hres]; exact trodAll_mk1 (shut_bool hb true)
  · rw [e]; exact trodAll_below hl hb' _ _ _ _ hr hA hlt
  · rw [hvars, e]; rfl
end
end Go.Proofs.YtbnndbdnejfehaaGreatDoor
/- From the row's condition: the table reads as it was laid; and the heap that the door's own run leaves meets it. -/
namespace Go.Proofs.YtbnndbdnejfehaaGreatDoor
open Go.ChangeShapes Go.WideShapes Go.ChangeAt Go.RowKit

abbrev laidD : List (String × DataW Unit) := [("math/bits.deBruijn32tab", Rows.laid_math_bits_deBruijn32tab)]
theorem gTab : Tryz.prog.globalNamed "math/bits.deBruijn32tab" = some 0 := by kernel_rfl
theorem tTab : (Tryz.prog.globals[0]?).map (·.type) = some 135 := by kernel_rfl
theorem door_met (os : Os) (args : Array Value) : laidMetH Tryz.prog laidD ((World.doorLaid Tryz.prog 400 os).forCall (fun _ _ => 0) ⟨#[], args, []⟩).memory :=
  laidMetH_of_parts3 (fuel := 8) (laidMet_of_run' 8 (by kernel_rfl) (by kernel_rfl)) (by kernel_rfl) (by kernel_rfl)
theorem tab_datum {H : Type} : (Rows.laid_math_bits_deBruijn32tab : DataW H) = .agg (tabD.map fun n => .lit (.int .u8 n)) := rfl
set_option maxRecDepth 100000 in
theorem tab_of_laid {W : World} (h : laidMetH Tryz.prog laidD W) : Tab W := by
  rw [MakeChecks.laidMetH_plain _ _ _ (by kernel_rfl)] at h
  obtain ⟨ps, ⟨g0, t0, cs0, f0, p0, q0, hg0, ht0, hv0, hd0, _, _⟩, _, _⟩ := h
  obtain rfl := Option.some.inj (gTab.symm.trans hg0)
  obtain rfl := Option.some.inj (tTab.symm.trans ht0)
  obtain ⟨xs, m1, rfl, hx1, hlen, hn3, hel⟩ := DataW.trod_array Tryz.underlying135 hd0
  rw [tab_datum] at hx1
  have hxs : xs.map (·.1) = tabD.map fun n => DataW.lit (.int .u8 n) := by
    have := congrArg Prod.fst hx1
    injection this with e; exact e.symm
  have c1 : Tryz.prog.cellsOf 5 = 1 := by kernel_rfl
  have key : ∀ j : Nat, j < 32 → W.cell? ⟨0, j, none⟩ = some (.int .u8 (tabD.getD j 0)) := fun j hj => by
    have h1 := hel j hj
    have ej : xs[j]? = some (xs[j]'(by omega)) := List.getElem?_eq_getElem (by omega)
    rw [ej, c1, Nat.mul_one] at h1
    obtain ⟨n, e1, e2, _⟩ := DataW.trod_int Tryz.underlying5 h1
    have e3 : (xs.map (·.1))[j]? = some (.lit (.int .u8 n)) := by rw [List.getElem?_map, ej, e2]; rfl
    rw [hxs, List.getElem?_map] at e3
    have e4 : tabD[j]? = some n := by
      cases e : tabD[j]? with
      | none => rw [e] at e3; cases e3
      | some x => rw [e] at e3; injection e3 with e3; injection e3 with e3; injection e3 with _ e3; rw [e3]
    rw [World.var?_cell hg0 hv0 j, List.getD_eq_getElem?_getD, e4, ← Array.getElem?_toList]
    have := congrArg (·[0]?) e1
    simpa using this
  exact ⟨World.block_lt_of_cell? W ⟨0, 0, none⟩ (key 0 (by decide)), key⟩
theorem tab_heap (w w' : World) (h : w.heap = w'.heap) (t : laidMetH Tryz.prog laidD w) : laidMetH Tryz.prog laidD w' := t.of_heap h
end Go.Proofs.YtbnndbdnejfehaaGreatDoor
