/- entries.May, the reference's May; the law's own small and Light. -/
import Derived.Test.YtbnndbdnejfehaaGreatDoorLogE
import Derived.Test.YtbnndbdnejfehaaGreatDoorLogN0
import Derived.Test.YtbnndbdnejfehaaGreatDoorPlainMayL
namespace Go.Proofs.YtbnndbdnejfehaaGreatDoor
open Go.ChangeShapes Go.WideShapes Go.ChangeAt Go.RowKit

theorem ret_boolL {a b : Bool} (h : a = b) : Ending.returned (.bool a) = .returned (.bool b) := by rw [h]
set_option maxRecDepth 100000 in
set_option maxHeartbeats 8000000 in
theorem may_any (l : Lg) (p : Option Addr) (c : Nat) (w : World) (hn : l.es.length ≤ 1000000) (hE : EnSl w (.slice p l.es.length c) l.es) :
    Calls Tryz.prog 61 #[.agg #[.int .i64 l.b, .int .i64 l.bt, .int .u16 l.j.ov, .int .u16 l.j.ox, .int .u16 l.j.ol, .int .i64 l.j.oe, .int .i64 l.j.ok, .int .u16 l.j.nv, .int .u16 l.j.nx, .int .u16 l.j.nl, .int .i64 l.j.ne, .int .i64 l.j.nk, .bool l.j.two, .slice p l.es.length c]] w fun r w' => r = .returned (.bool (mayL l)) ∧ Below w.heap.size w w' := by
  have HE := Lib.hid hE
  clear hE
  by_cases h0 : l.b < 0
  · have HM := Lib.hid (mayL_b0 h0)
    go_enter Tryz.func61, Tryz.ntmps61
    go_wp2_with fail
    go_ret
    exact ⟨ret_boolL HM.out.symm, (Below.refl _ _).alloc (Nat.le_refl _) _⟩
  by_cases h1 : 1099511627776 < l.b
  · have HM := Lib.hid (mayL_b1 h1)
    go_enter Tryz.func61, Tryz.ntmps61
    go_wp2_with fail
    go_ret
    exact ⟨ret_boolL HM.out.symm, (Below.refl _ _).alloc (Nat.le_refl _) _⟩
  by_cases h2 : l.bt < 0
  · have HM := Lib.hid (mayL_t0 h2)
    go_enter Tryz.func61, Tryz.ntmps61
    go_wp2_with fail
    go_ret
    exact ⟨ret_boolL HM.out.symm, (Below.refl _ _).alloc (Nat.le_refl _) _⟩
  by_cases h3 : 1099511627776 < l.bt
  · have HM := Lib.hid (mayL_t1 h3)
    go_enter Tryz.func61, Tryz.ntmps61
    go_wp2_with fail
    go_ret
    exact ⟨ret_boolL HM.out.symm, (Below.refl _ _).alloc (Nat.le_refl _) _⟩
  have hmx : l.bt < 1 ∧ max1 l.bt = 1 ∨ 1 ≤ l.bt ∧ max1 l.bt = l.bt := by unfold max1; split <;> omega
  have hM := mayL_in (l := l) (by omega) (by omega) (by omega) (by omega)
  rcases hmx with ⟨hc1, hmx⟩ | ⟨hc1, hmx⟩
  all_goals
    rw [hmx] at hM
    have HM := Lib.hid hM
    clear hmx hM
    have HA0 := Lib.hid (heap_last w (.cells #[.int .i64 l.b, .int .i64 l.bt, .int .u16 l.j.ov, .int .u16 l.j.ox, .int .u16 l.j.ol, .int .i64 l.j.oe, .int .i64 l.j.ok, .int .u16 l.j.nv, .int .u16 l.j.nx, .int .u16 l.j.nl, .int .i64 l.j.ne, .int .i64 l.j.nk, .bool l.j.two, .slice p l.es.length c] 30))
    have HB0 := Lib.hid ((Below.refl _ w).alloc (Nat.le_refl _) (.cells #[.int .i64 l.b, .int .i64 l.bt, .int .u16 l.j.ov, .int .u16 l.j.ox, .int .u16 l.j.ol, .int .i64 l.j.oe, .int .i64 l.j.ok, .int .u16 l.j.nv, .int .u16 l.j.nx, .int .u16 l.j.nl, .int .i64 l.j.ne, .int .i64 l.j.nk, .bool l.j.two, .slice p l.es.length c] 30))
    go_enter Tryz.func61, Tryz.ntmps61
    go_upto_region 3 with fail
    obtain ⟨W, hW⟩ : ∃ W, w.alloc (.cells #[.int .i64 l.b, .int .i64 l.bt, .int .u16 l.j.ov, .int .u16 l.j.ox, .int .u16 l.j.ol, .int .i64 l.j.oe, .int .i64 l.j.ok, .int .u16 l.j.nv, .int .u16 l.j.nx, .int .u16 l.j.nl, .int .i64 l.j.ne, .int .i64 l.j.nk, .bool l.j.two, .slice p l.es.length c] 30) = W := ⟨_, rfl⟩
    rw [hW] at HA0 HB0 ⊢
    clear hW
    have kA := block_cells HA0.out
    go_wp2_with fail
    clear kA
    go_loopw [3, 30] (fun t i wr => ∃ (k : Nat) (T : Int), k ≤ l.es.length ∧ t = .int .i64 T ∧ i = .int .i64 k ∧ Hid (mayL l = mayE (l.es.drop k) T) ∧ Hid (Below W.heap.size W wr)) (fun _ i _ => l.es.length - (intOf i).toNat)
    case atStart => exact ⟨0, _, Nat.zero_le _, rfl, rfl, by show _ = _; rw [HM.out, List.drop_zero], Below.refl _ _⟩
    case round =>
      obtain ⟨k, T, hk, rfl, rfl, HT, HB⟩ := hrel
      obtain ⟨wk, rfl⟩ : ∃ wk : World, wk = wr := ⟨_, rfl⟩
      have kA := block_cells (below_block HB.out (block_lt HA0.out) HA0.out)
      have HBW := Lib.hid (HB0.out.trans (HB.out.mono HB0.out.size))
      by_cases hlt : k < l.es.length
      · obtain ⟨g, o, cap, hv, hgl, hc⟩ := (HE.out.keep HBW.out (Nat.le_refl _)).at k hlt
        simp only [Value.slice.injEq] at hv
        obtain ⟨rfl, -⟩ := hv
        have hS := mayE_step hlt T
        rw [← HT.out] at hS
        obtain ⟨e, he⟩ : ∃ e, l.es[k] = e := ⟨_, rfl⟩
        rw [he] at hc hS
        have HS := Lib.hid hS
        have hq0 : wk.cell? ⟨g, o + k * 14, none⟩ = some (.int .i64 e.t) := hc 0 (by decide)
        have hq1 : wk.cell? ⟨g, o + k * 14 + 1, none⟩ = some (.int .i64 e.k) := hc 1 (by decide)
        have hq2 : wk.cell? ⟨g, o + k * 14 + 2, none⟩ = some (.string e.d) := hc 2 (by decide)
        have hq3 : wk.cell? ⟨g, o + k * 14 + 3, none⟩ = some (.int .u16 e.j.ov) := hc 3 (by decide)
        have hq4 : wk.cell? ⟨g, o + k * 14 + 4, none⟩ = some (.int .u16 e.j.ox) := hc 4 (by decide)
        have hq5 : wk.cell? ⟨g, o + k * 14 + 5, none⟩ = some (.int .u16 e.j.ol) := hc 5 (by decide)
        have hq6 : wk.cell? ⟨g, o + k * 14 + 6, none⟩ = some (.int .i64 e.j.oe) := hc 6 (by decide)
        have hq7 : wk.cell? ⟨g, o + k * 14 + 7, none⟩ = some (.int .i64 e.j.ok) := hc 7 (by decide)
        have hq8 : wk.cell? ⟨g, o + k * 14 + 8, none⟩ = some (.int .u16 e.j.nv) := hc 8 (by decide)
        have hq9 : wk.cell? ⟨g, o + k * 14 + 9, none⟩ = some (.int .u16 e.j.nx) := hc 9 (by decide)
        have hq10 : wk.cell? ⟨g, o + k * 14 + 10, none⟩ = some (.int .u16 e.j.nl) := hc 10 (by decide)
        have hq11 : wk.cell? ⟨g, o + k * 14 + 11, none⟩ = some (.int .i64 e.j.ne) := hc 11 (by decide)
        have hq12 : wk.cell? ⟨g, o + k * 14 + 12, none⟩ = some (.int .i64 e.j.nk) := hc 12 (by decide)
        have hq13 : wk.cell? ⟨g, o + k * 14 + 13, none⟩ = some (.bool e.j.two) := hc 13 (by decide)
        have hd1 : decide ((k : Int) < (l.es.length : Int)) = true := by simp; omega
        clear hc he hS
        by_cases hx : e.t < T
        · have HN : Hid (mayL l = false) := by show _ = _; rw [HS.out, decide_eq_false (by omega)]; rfl
          go_wp2_with fail
          go_ret
          exact ⟨ret_boolL HN.out.symm, HBW.out.alloc HBW.out.size _⟩
        · by_cases hy : 1099511627776 < e.t
          · have HN : Hid (mayL l = false) := by show _ = _; rw [HS.out, decide_eq_false (show ¬ e.t ≤ 1099511627776 by omega)]; simp
            go_wp2_with fail
            go_ret
            exact ⟨ret_boolL HN.out.symm, HBW.out.alloc HBW.out.size _⟩
          · have HN : Hid (mayL l = mayE (l.es.drop (k + 1)) e.t) := by show _ = _; rw [HS.out, decide_eq_true (by omega), decide_eq_true (by omega)]; rfl
            go_wp2_with fail
            go_roundw
            case rel => exact ⟨k + 1, e.t, by omega, rfl, by go_num, HN, HB.out.alloc HB.out.size _⟩
            case measure => simp [intOf]; omega
      · obtain rfl : k = l.es.length := by omega
        have HN : Hid (mayL l = true) := by show _ = _; rw [HT.out, mayE_end]
        go_wp2_with fail
        go_ret
        exact ⟨ret_boolL HN.out.symm, HBW.out⟩
set_option maxRecDepth 100000 in
set_option maxHeartbeats 8000000 in
theorem rmay_any (l : Lg) (p : Option Addr) (c : Nat) (w : World) (hn : l.es.length ≤ 1000000) (hE : EnSl w (.slice p l.es.length c) l.es) :
    Calls Tryz.prog 85 #[.agg #[.int .i64 l.b, .int .i64 l.bt, .int .u16 l.j.ov, .int .u16 l.j.ox, .int .u16 l.j.ol, .int .i64 l.j.oe, .int .i64 l.j.ok, .int .u16 l.j.nv, .int .u16 l.j.nx, .int .u16 l.j.nl, .int .i64 l.j.ne, .int .i64 l.j.nk, .bool l.j.two, .slice p l.es.length c]] w fun r w' => r = .returned (.bool (mayL l)) ∧ Below w.heap.size w w' := by
  have HE := Lib.hid hE
  clear hE
  by_cases h0 : l.b < 0
  · have HM := Lib.hid (mayL_b0 h0)
    go_enter Tryz.func85, Tryz.ntmps85
    go_wp2_with fail
    go_ret
    exact ⟨ret_boolL HM.out.symm, (Below.refl _ _).alloc (Nat.le_refl _) _⟩
  by_cases h1 : 1099511627776 < l.b
  · have HM := Lib.hid (mayL_b1 h1)
    go_enter Tryz.func85, Tryz.ntmps85
    go_wp2_with fail
    go_ret
    exact ⟨ret_boolL HM.out.symm, (Below.refl _ _).alloc (Nat.le_refl _) _⟩
  by_cases h2 : l.bt < 0
  · have HM := Lib.hid (mayL_t0 h2)
    go_enter Tryz.func85, Tryz.ntmps85
    go_wp2_with fail
    go_ret
    exact ⟨ret_boolL HM.out.symm, (Below.refl _ _).alloc (Nat.le_refl _) _⟩
  by_cases h3 : 1099511627776 < l.bt
  · have HM := Lib.hid (mayL_t1 h3)
    go_enter Tryz.func85, Tryz.ntmps85
    go_wp2_with fail
    go_ret
    exact ⟨ret_boolL HM.out.symm, (Below.refl _ _).alloc (Nat.le_refl _) _⟩
  have hmx : l.bt < 1 ∧ max1 l.bt = 1 ∨ 1 ≤ l.bt ∧ max1 l.bt = l.bt := by unfold max1; split <;> omega
  have hM := mayL_in (l := l) (by omega) (by omega) (by omega) (by omega)
  rcases hmx with ⟨hc1, hmx⟩ | ⟨hc1, hmx⟩
  all_goals
    rw [hmx] at hM
    have HM := Lib.hid hM
    clear hmx hM
    have HA0 := Lib.hid (heap_last w (.cells #[.int .i64 l.b, .int .i64 l.bt, .int .u16 l.j.ov, .int .u16 l.j.ox, .int .u16 l.j.ol, .int .i64 l.j.oe, .int .i64 l.j.ok, .int .u16 l.j.nv, .int .u16 l.j.nx, .int .u16 l.j.nl, .int .i64 l.j.ne, .int .i64 l.j.nk, .bool l.j.two, .slice p l.es.length c] 30))
    have HB0 := Lib.hid ((Below.refl _ w).alloc (Nat.le_refl _) (.cells #[.int .i64 l.b, .int .i64 l.bt, .int .u16 l.j.ov, .int .u16 l.j.ox, .int .u16 l.j.ol, .int .i64 l.j.oe, .int .i64 l.j.ok, .int .u16 l.j.nv, .int .u16 l.j.nx, .int .u16 l.j.nl, .int .i64 l.j.ne, .int .i64 l.j.nk, .bool l.j.two, .slice p l.es.length c] 30))
    go_enter Tryz.func85, Tryz.ntmps85
    go_upto_region 3 with fail
    obtain ⟨W, hW⟩ : ∃ W, w.alloc (.cells #[.int .i64 l.b, .int .i64 l.bt, .int .u16 l.j.ov, .int .u16 l.j.ox, .int .u16 l.j.ol, .int .i64 l.j.oe, .int .i64 l.j.ok, .int .u16 l.j.nv, .int .u16 l.j.nx, .int .u16 l.j.nl, .int .i64 l.j.ne, .int .i64 l.j.nk, .bool l.j.two, .slice p l.es.length c] 30) = W := ⟨_, rfl⟩
    rw [hW] at HA0 HB0 ⊢
    clear hW
    have kA := block_cells HA0.out
    go_wp2_with fail
    clear kA
    go_loopw [3, 4] (fun t i wr => ∃ (k : Nat) (T : Int), k ≤ l.es.length ∧ t = .int .i64 T ∧ i = .int .i64 k ∧ Hid (mayL l = mayE (l.es.drop k) T) ∧ Hid (Below W.heap.size W wr)) (fun _ i _ => l.es.length - (intOf i).toNat)
    case atStart => exact ⟨0, _, Nat.zero_le _, rfl, rfl, by show _ = _; rw [HM.out, List.drop_zero], Below.refl _ _⟩
    case round =>
      obtain ⟨k, T, hk, rfl, rfl, HT, HB⟩ := hrel
      obtain ⟨wk, rfl⟩ : ∃ wk : World, wk = wr := ⟨_, rfl⟩
      have kA := block_cells (below_block HB.out (block_lt HA0.out) HA0.out)
      have HBW := Lib.hid (HB0.out.trans (HB.out.mono HB0.out.size))
      by_cases hlt : k < l.es.length
      · obtain ⟨g, o, cap, hv, hgl, hc⟩ := (HE.out.keep HBW.out (Nat.le_refl _)).at k hlt
        simp only [Value.slice.injEq] at hv
        obtain ⟨rfl, -⟩ := hv
        have hS := mayE_step hlt T
        rw [← HT.out] at hS
        obtain ⟨e, he⟩ : ∃ e, l.es[k] = e := ⟨_, rfl⟩
        rw [he] at hc hS
        have HS := Lib.hid hS
        have hq0 : wk.cell? ⟨g, o + k * 14, none⟩ = some (.int .i64 e.t) := hc 0 (by decide)
        have hq1 : wk.cell? ⟨g, o + k * 14 + 1, none⟩ = some (.int .i64 e.k) := hc 1 (by decide)
        have hq2 : wk.cell? ⟨g, o + k * 14 + 2, none⟩ = some (.string e.d) := hc 2 (by decide)
        have hq3 : wk.cell? ⟨g, o + k * 14 + 3, none⟩ = some (.int .u16 e.j.ov) := hc 3 (by decide)
        have hq4 : wk.cell? ⟨g, o + k * 14 + 4, none⟩ = some (.int .u16 e.j.ox) := hc 4 (by decide)
        have hq5 : wk.cell? ⟨g, o + k * 14 + 5, none⟩ = some (.int .u16 e.j.ol) := hc 5 (by decide)
        have hq6 : wk.cell? ⟨g, o + k * 14 + 6, none⟩ = some (.int .i64 e.j.oe) := hc 6 (by decide)
        have hq7 : wk.cell? ⟨g, o + k * 14 + 7, none⟩ = some (.int .i64 e.j.ok) := hc 7 (by decide)
        have hq8 : wk.cell? ⟨g, o + k * 14 + 8, none⟩ = some (.int .u16 e.j.nv) := hc 8 (by decide)
        have hq9 : wk.cell? ⟨g, o + k * 14 + 9, none⟩ = some (.int .u16 e.j.nx) := hc 9 (by decide)
        have hq10 : wk.cell? ⟨g, o + k * 14 + 10, none⟩ = some (.int .u16 e.j.nl) := hc 10 (by decide)
        have hq11 : wk.cell? ⟨g, o + k * 14 + 11, none⟩ = some (.int .i64 e.j.ne) := hc 11 (by decide)
        have hq12 : wk.cell? ⟨g, o + k * 14 + 12, none⟩ = some (.int .i64 e.j.nk) := hc 12 (by decide)
        have hq13 : wk.cell? ⟨g, o + k * 14 + 13, none⟩ = some (.bool e.j.two) := hc 13 (by decide)
        have hd1 : decide ((k : Int) < (l.es.length : Int)) = true := by simp; omega
        clear hc he hS
        by_cases hx : e.t < T
        · have HN : Hid (mayL l = false) := by show _ = _; rw [HS.out, decide_eq_false (by omega)]; rfl
          go_wp2_with fail
          go_ret
          exact ⟨ret_boolL HN.out.symm, HBW.out⟩
        · by_cases hy : 1099511627776 < e.t
          · have HN : Hid (mayL l = false) := by show _ = _; rw [HS.out, decide_eq_false (show ¬ e.t ≤ 1099511627776 by omega)]; simp
            go_wp2_with fail
            go_ret
            exact ⟨ret_boolL HN.out.symm, HBW.out⟩
          · have HN : Hid (mayL l = mayE (l.es.drop (k + 1)) e.t) := by show _ = _; rw [HS.out, decide_eq_true (by omega), decide_eq_true (by omega)]; rfl
            go_wp2_with fail
            go_roundw
            case rel => exact ⟨k + 1, e.t, by omega, rfl, by go_num, HN, HB⟩
            case measure => simp [intOf]; omega
      · obtain rfl : k = l.es.length := by omega
        have HN : Hid (mayL l = true) := by show _ = _; rw [HT.out, mayE_end]
        go_wp2_with fail
        go_ret
        exact ⟨ret_boolL HN.out.symm, HBW.out⟩
set_option maxRecDepth 100000 in
set_option maxHeartbeats 4000000 in
theorem small_any (L : List Ent) (p : Option Addr) (c : Nat) (w : World) (hn : L.length ≤ 1000000) (hE : EnSl w (.slice p L.length c) L) :
    Calls Tryz.prog 84 #[.slice p L.length c] w fun r w' => r = .returned (.bool (smallB L)) ∧ w = w' := by
  have HE := Lib.hid hE
  clear hE
  go_enter Tryz.func84, Tryz.ntmps84
  go_wp2_with fail
  go_loop [3] (fun i => ∃ k : Nat, k ≤ L.length ∧ i = .int .i64 k ∧ Hid (∀ j, (hj : j < L.length) → j < k → L[j].d.size ≤ 200)) (fun i => L.length - (intOf i).toNat)
  case atStart => exact ⟨0, Nat.zero_le _, rfl, fun j _ h => absurd h (by omega)⟩
  case round =>
    obtain ⟨k, hk, rfl, HQ⟩ := hrel
    by_cases hlt : k < L.length
    · obtain ⟨g, o, cap, hv, hgl, hc⟩ := HE.out.at k hlt
      simp only [Value.slice.injEq] at hv
      obtain ⟨rfl, -⟩ := hv
      obtain ⟨e, he⟩ : ∃ e, L[k] = e := ⟨_, rfl⟩
      rw [he] at hc
      have HEE := Lib.hid he
      have hq0 : w.cell? ⟨g, o + k * 14, none⟩ = some (.int .i64 e.t) := hc 0 (by decide)
      have hq1 : w.cell? ⟨g, o + k * 14 + 1, none⟩ = some (.int .i64 e.k) := hc 1 (by decide)
      have hq2 : w.cell? ⟨g, o + k * 14 + 2, none⟩ = some (.string e.d) := hc 2 (by decide)
      have hq3 : w.cell? ⟨g, o + k * 14 + 3, none⟩ = some (.int .u16 e.j.ov) := hc 3 (by decide)
      have hq4 : w.cell? ⟨g, o + k * 14 + 4, none⟩ = some (.int .u16 e.j.ox) := hc 4 (by decide)
      have hq5 : w.cell? ⟨g, o + k * 14 + 5, none⟩ = some (.int .u16 e.j.ol) := hc 5 (by decide)
      have hq6 : w.cell? ⟨g, o + k * 14 + 6, none⟩ = some (.int .i64 e.j.oe) := hc 6 (by decide)
      have hq7 : w.cell? ⟨g, o + k * 14 + 7, none⟩ = some (.int .i64 e.j.ok) := hc 7 (by decide)
      have hq8 : w.cell? ⟨g, o + k * 14 + 8, none⟩ = some (.int .u16 e.j.nv) := hc 8 (by decide)
      have hq9 : w.cell? ⟨g, o + k * 14 + 9, none⟩ = some (.int .u16 e.j.nx) := hc 9 (by decide)
      have hq10 : w.cell? ⟨g, o + k * 14 + 10, none⟩ = some (.int .u16 e.j.nl) := hc 10 (by decide)
      have hq11 : w.cell? ⟨g, o + k * 14 + 11, none⟩ = some (.int .i64 e.j.ne) := hc 11 (by decide)
      have hq12 : w.cell? ⟨g, o + k * 14 + 12, none⟩ = some (.int .i64 e.j.nk) := hc 12 (by decide)
      have hq13 : w.cell? ⟨g, o + k * 14 + 13, none⟩ = some (.bool e.j.two) := hc 13 (by decide)
      clear hc he
      by_cases hx : 200 < e.d.size
      · have HN : Hid (smallB L = false) := smallB_no hlt (by rw [HEE.out]; exact hx)
        go_wp2_with fail
        go_ret
        exact ⟨ret_boolL HN.out.symm, rfl⟩
      · have HQ' : Hid (∀ j, (hj : j < L.length) → j < k + 1 → L[j].d.size ≤ 200) := fun j hj hj1 => by
          by_cases e : j = k
          · subst e; rw [HEE.out]; omega
          · exact HQ.out j hj (by omega)
        clear HQ
        go_wp2_with fail
        go_round
        case rel => exact ⟨k + 1, by omega, by go_num, HQ'⟩
        case measure => simp [intOf]; omega
    · obtain rfl : k = L.length := by omega
      have HN : Hid (smallB L = true) := smallB_yes fun j hj => HQ.out j hj hj
      go_wp2_with fail
      go_ret
      exact ⟨ret_boolL HN.out.symm, rfl⟩
set_option maxRecDepth 100000 in
set_option maxHeartbeats 4000000 in
theorem light_any (l : Lg) (p : Option Addr) (c : Nat) (es : List Ent) (p2 : Option Addr) (c2 : Nat) (w : World) (hE : EnSl w (.slice p l.es.length c) l.es) (h2 : EnSl w (.slice p2 es.length c2) es) :
    Calls Tryz.prog 31 #[.agg #[.int .i64 l.b, .int .i64 l.bt, .int .u16 l.j.ov, .int .u16 l.j.ox, .int .u16 l.j.ol, .int .i64 l.j.oe, .int .i64 l.j.ok, .int .u16 l.j.nv, .int .u16 l.j.nx, .int .u16 l.j.nl, .int .i64 l.j.ne, .int .i64 l.j.nk, .bool l.j.two, .slice p l.es.length c], .slice p2 es.length c2] w fun r w' => r = .returned (.bool (lightB l es)) ∧ Below w.heap.size w w' := by
  have hb : Below w.heap.size w (w.alloc (.cells #[.int .i64 l.b, .int .i64 l.bt, .int .u16 l.j.ov, .int .u16 l.j.ox, .int .u16 l.j.ol, .int .i64 l.j.oe, .int .i64 l.j.ok, .int .u16 l.j.nv, .int .u16 l.j.nx, .int .u16 l.j.nl, .int .i64 l.j.ne, .int .i64 l.j.nk, .bool l.j.two, .slice p l.es.length c] 30)) := (Below.refl _ _).alloc (Nat.le_refl _) _
  have HE := Lib.hid (hE.keep hb (Nat.le_refl _)); have H2 := Lib.hid (h2.keep hb (Nat.le_refl _))
  clear hE h2 hb
  by_cases hx : 60 < l.es.length
  · have HN : Hid (lightB l es = false) := by show _ = _; unfold lightB; rw [decide_eq_false (by omega)]; rfl
    go_enter Tryz.func31, Tryz.ntmps31
    go_wp2_with fail
    go_ret
    exact ⟨ret_boolL HN.out.symm, (Below.refl _ _).alloc (Nat.le_refl _) _⟩
  by_cases hy : 60 < es.length
  · have HN : Hid (lightB l es = false) := by show _ = _; unfold lightB; rw [decide_eq_false (show ¬ es.length ≤ 60 by omega)]; simp
    go_enter Tryz.func31, Tryz.ntmps31
    go_wp2_with fail
    go_ret
    exact ⟨ret_boolL HN.out.symm, (Below.refl _ _).alloc (Nat.le_refl _) _⟩
  have hN : lightB l es = (smallB l.es && smallB es) := by unfold lightB; rw [decide_eq_true (by omega), decide_eq_true (by omega)]; rfl
  have S1 := Lib.hid (small_any l.es p c _ (by omega) HE.out)
  have S2 := Lib.hid (small_any es p2 c2 _ (by omega) H2.out)
  obtain ⟨a, ha⟩ : ∃ a, smallB l.es = a := ⟨_, rfl⟩
  obtain ⟨b, hb⟩ : ∃ b, smallB es = b := ⟨_, rfl⟩
  rw [ha] at S1 hN
  rw [hb] at S2 hN
  have HN := Lib.hid hN
  clear ha hb hN
  cases a
  · go_enter Tryz.func31, Tryz.ntmps31
    go_wp2_with fail
    refine S1.out.mono ?_; rintro r w' ⟨rfl, rfl⟩
    go_wp2_with fail
    go_ret
    exact ⟨ret_boolL HN.out.symm, (Below.refl _ _).alloc (Nat.le_refl _) _⟩
  · go_enter Tryz.func31, Tryz.ntmps31
    go_wp2_with fail
    refine S1.out.mono ?_; rintro r w' ⟨rfl, rfl⟩
    go_wp2_with fail
    refine S2.out.mono ?_; rintro r w' ⟨rfl, rfl⟩
    go_wp2_with fail
    go_ret
    exact ⟨ret_boolL (by rw [HN.out]; rfl), (Below.refl _ _).alloc (Nat.le_refl _) _⟩
end Go.Proofs.YtbnndbdnejfehaaGreatDoor
