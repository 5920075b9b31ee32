/- The contract of the reference's Meet: all quorums, one by one. -/
import Derived.Test.YtaaagidooieejaaMeet
import Derived.Deep.RegionHeld3
import Derived.Deep.DeepCutAuto
namespace Go.Proofs.Ytaaagidooieejaa
open Go.RowKit

theorem keep_step {W0 w' w'' : World} {B : Nat} (h : Below B W0 w') (hB : B ≤ W0.heap.size) (hb : Below w'.heap.size w' w'') : Below B W0 w'' := h.trans (hb.mono (Nat.le_trans hB h.size))
/-- A row of the call's own, told from an earlier block on. -/
theorem row_since {P : Program} {f : FuncId} {args : Array Value} {w : World} {b : Nat} {t : TypeId} {n : Nat} {xs : List Value} (h : Calls P f args w fun e w' => ∃ v, e = .returned v ∧ w'.ownsRow w.heap.size t 1 v n xs ∧ Below w.heap.size w w') (hb : b ≤ w.heap.size) :
    Calls P f args w fun e w' => ∃ v, e = .returned v ∧ w'.ownsRow b t 1 v n xs ∧ Below w.heap.size w w' :=
  h.mono fun _ _ ⟨v, he, ho, hw⟩ => ⟨v, he, ho.mono hb, hw⟩
theorem own_len {w : World} {base : Nat} {e : TypeId} {v : Value} {n : Nat} {xs : List Value} (h : w.ownsRow base e 1 v n xs) : n ≤ maxLen := by
  rcases h.2 with ⟨-, rfl⟩ | ⟨g, cap, cur, -, -, -, h1, h2, -⟩
  · exact Nat.zero_le _
  · exact Nat.le_trans h1 h2
theorem all_step (y : List Int) (k : Nat) (hk : k < y.length) (f : Int → Bool) (h : (y.take k).all f = true) (h1 : f y[k] = true) : (y.take (k + 1)).all f = true := by
  rw [List.take_add_one, List.getElem?_eq_getElem hk, List.all_append, h]; simp [h1]
theorem pairs_step (x y : List Int) (n : Nat) (hn : n < x.length) (h : pairsB (x.take n) y = true) (h1 : (y.all fun q => !(meetB x[n] q == 0)) = true) : pairsB (x.take (n + 1)) y = true := all_step x n hn _ h h1
theorem pairs_no (x y : List Int) (n k : Nat) (hn : n < x.length) (hk : k < y.length) (h : (meetB x[n] y[k] == 0) = true) : pairsB x y = false := by
  cases e : pairsB x y
  · rfl
  · have := List.all_eq_true.1 (List.all_eq_true.1 e _ (List.getElem_mem hn)) _ (List.getElem_mem hk)
    rw [h] at this; cases this
/-- Two rows of the call's own, and old memory as it was. -/
def TwoRows (w : World) (x y : List Int) (v1 v2 : Value) (wx : World) : Prop :=
  wx.ownsRow w.heap.size 23 1 v1 x.length (x.map (Value.int .u16)) ∧ wx.ownsRow w.heap.size 23 1 v2 y.length (y.map (Value.int .u16)) ∧ Below w.heap.size w wx

set_option maxRecDepth 100000 in
set_option maxHeartbeats 4000000 in
theorem refMeet10_any (av ax al ae ak bv bx bl be bk : Int) (fa : FitC av ax al) (fb : FitC bv bx bl) (w : World) :
    Calls Try.prog 17 #[.agg #[.int .u16 av, .int .u16 ax, .int .u16 al, .int .i64 ae, .int .i64 ak], .agg #[.int .u16 bv, .int .u16 bx, .int .u16 bl, .int .i64 be, .int .i64 bk]] w fun r w' => r = .returned (.bool (pairsB (qs (joinB av ax) ae) (qs (joinB bv bx) bk))) ∧ Below w.heap.size w w' := by
  obtain ⟨ja0, ja1⟩ := joinB_fit av ax
  obtain ⟨jb0, jb1⟩ := joinB_fit bv bx
  have HX := Lib.hid (qs_fit (joinB av ax) ae)
  have HY := Lib.hid (qs_fit (joinB bv bx) bk)
  go_enter Try.func17, Try.ntmps17
  go_upto_region 1 with fail
  obtain ⟨W0, hW, e⟩ : ∃ W0, Below (w.heap.size + 2) ((w.alloc (.cells #[.int .u16 av, .int .u16 ax, .int .u16 al, .int .i64 ae, .int .i64 ak] 33)).alloc (.cells #[.int .u16 bv, .int .u16 bx, .int .u16 bl, .int .i64 be, .int .i64 bk] 33)) W0 ∧ ((w.alloc (.cells #[.int .u16 av, .int .u16 ax, .int .u16 al, .int .i64 ae, .int .i64 ak] 33)).alloc (.cells #[.int .u16 bv, .int .u16 bx, .int .u16 bl, .int .i64 be, .int .i64 bk] 33)) = W0 := ⟨_, Below.refl _ _, rfl⟩
  rw [e]
  clear e
  have HA := below_block hW (by omega) (heap_prev _ (heap_last w (.cells #[.int .u16 av, .int .u16 ax, .int .u16 al, .int .i64 ae, .int .i64 ak] 33)))
  have HB := below_block hW (by simp) (heap_last (w.alloc (.cells #[.int .u16 av, .int .u16 ax, .int .u16 al, .int .i64 ae, .int .i64 ak] 33)) (.cells #[.int .u16 bv, .int .u16 bx, .int .u16 bl, .int .i64 be, .int .i64 bk] 33))
  have HW : Below w.heap.size w W0 := ((below_box w _).trans ((below_box _ _).mono (by simp))).trans (hW.mono (by omega))
  have hs : w.heap.size + 2 ≤ W0.heap.size := by have := hW.size; simpa using this
  simp only [World.size_alloc] at HB
  have HS : Hid (∀ w', Below (w.heap.size + 2) W0 w' → Below (w.heap.size + 2) W0 w' ∧ (∀ j, w'.cell? ⟨w.heap.size, j, none⟩ = #[.int .u16 av, .int .u16 ax, .int .u16 al, .int .i64 ae, .int .i64 ak][j]?) ∧ (∀ j, w'.cell? ⟨w.heap.size + 1, j, none⟩ = #[.int .u16 bv, .int .u16 bx, .int .u16 bl, .int .i64 be, .int .i64 bk][j]?)) := fun w' h => ⟨h, block_cells (below_block h (by omega) HA), block_cells (below_block h (by omega) HB)⟩
  have QX := Lib.hid (fun w' (h : Below (w.heap.size + 2) W0 w') => row_since (b := w.heap.size) (quorums_any (joinB av ax) ae w' ja0 ja1) (by have := h.size; omega))
  have QY := Lib.hid (fun w' (h : Below (w.heap.size + 2) W0 w') => row_since (b := w.heap.size) (quorums_any (joinB bv bx) bk w' jb0 jb1) (by have := h.size; omega))
  have h0 : Below (w.heap.size + 2) W0 W0.drew := (Below.refl _ _).drew
  clear hW HA HB
  go_cut [5, 6] (fun s5 s6 wx => TwoRows w (qs (joinB av ax) ae) (qs (joinB bv bx) bk) s5 s6 wx)
  case first =>
    go_region_held3 (fun w' => Below (w.heap.size + 2) W0 w' ∧ (∀ j, w'.cell? ⟨w.heap.size, j, none⟩ = #[.int .u16 av, .int .u16 ax, .int .u16 al, .int .i64 ae, .int .i64 ak][j]?) ∧ (∀ j, w'.cell? ⟨w.heap.size + 1, j, none⟩ = #[.int .u16 bv, .int .u16 bx, .int .u16 bl, .int .i64 be, .int .i64 bk][j]?)) (exact HS.out _ (by assumption))
      (first
        | (go_at_call_of 47 (Value.agg #[Value.int .u16 av, Value.int .u16 ax, Value.int .u16 al, Value.int .i64 ae, Value.int .i64 ak]); refine (refVotes_any _ _ _ _ _ fa _).mono ?_; rintro e w1 ⟨rfl, hb⟩; have hk := keep_step (B := w.heap.size + 2) (W0 := W0) (by assumption) hs hb)
        | (go_at_call_of 47 (Value.agg #[Value.int .u16 bv, Value.int .u16 bx, Value.int .u16 bl, Value.int .i64 be, Value.int .i64 bk]); refine (refVotes_any _ _ _ _ _ fb _).mono ?_; rintro e w1 ⟨rfl, hb⟩; have hk := keep_step (B := w.heap.size + 2) (W0 := W0) (by assumption) hs hb)
        | (go_at_call_of 46 (Value.int .u16 (joinB av ax)); refine (QX.out _ (by assumption)).mono ?_; rintro e w1 ⟨v1, rfl, hX, hb⟩; have hk := keep_step (B := w.heap.size + 2) (W0 := W0) (by assumption) hs hb)
        | (go_at_call_of 46 (Value.int .u16 (joinB bv bx)); refine (QY.out _ (by assumption)).mono ?_; rintro e w1 ⟨v1, rfl, hY, hb⟩; have hk := keep_step (B := w.heap.size + 2) (W0 := W0) (by assumption) hs hb))
    all_goals (go_wp2_with fail; go_meet; refine ⟨own_below hX ?_ (Nat.le_refl _), own_below hY ?_ (Nat.le_refl _), ?_⟩)
    all_goals (repeat (first | exact Below.refl _ _ | assumption | exact HW.drew | refine Below.step ?_ (by assumption)))
  case rest =>
    obtain ⟨hX, hY, hb⟩ := hcut
    obtain ⟨x, ex⟩ : ∃ x, qs (joinB av ax) ae = x := ⟨_, rfl⟩
    obtain ⟨y, ey⟩ : ∃ y, qs (joinB bv bx) bk = y := ⟨_, rfl⟩
    rw [ex] at hX HX
    rw [ey] at hY HY
    have EX := Lib.hid ex
    have EY := Lib.hid ey
    clear ex ey
    have hxs := hX.2
    obtain ⟨a1, cap1, rfl, hc1⟩ := own_slice hX
    obtain ⟨a2, cap2, rfl, hc2⟩ := own_slice hY
    have lx := own_len hX
    have ly := own_len hY
    unfold maxLen at lx ly
    have C1 := Lib.hid hc1
    have C2 := Lib.hid hc2
    clear hX hY hxs hc1 hc2 fa fb ja0 ja1 jb0 jb1 HW hs h0 HS QX QY
    go_wp2_with fail
    go_loopw [7] (fun i wr => ∃ n : Nat, n ≤ x.length ∧ i = .int .i64 n ∧ Hid (pairsB (x.take n) y = true) ∧ Below wc.heap.size wc wr) (fun i _ => x.length - (intOf i).toNat)
    case atStart => exact ⟨0, by omega, rfl, rfl, Below.refl _ _⟩
    case round =>
      obtain ⟨n, hn, rfl, hgood, hbel⟩ := hrel
      obtain ⟨wo, rfl⟩ : ∃ wo : World, wo = wr := ⟨_, rfl⟩
      by_cases hlt : n < x.length
      · obtain ⟨g1, rfl, -, hg1, hcell1⟩ := C1.out n hlt
        obtain ⟨p, hp⟩ : ∃ p, p = x[n] := ⟨_, rfl⟩
        have hpc : wc.cell? ⟨g1, n, none⟩ = some (.int .u16 p) := by rw [hcell1, hp]; simp [hlt]
        obtain ⟨p0, p1⟩ := HX.out p (by rw [hp]; exact List.getElem_mem hlt)
        have HP := Lib.hid hp
        clear hp hcell1
        go_wp2_with fail
        go_loopw [8] (fun i wr => ∃ k : Nat, k ≤ y.length ∧ i = .int .i64 k ∧ Hid (((y.take k).all fun q => !(meetB p q == 0)) = true) ∧ Below wc.heap.size wc wr) (fun i _ => y.length - (intOf i).toNat)
        case atStart => exact ⟨0, by omega, rfl, rfl, hbel⟩
        case round =>
          obtain ⟨k, hk, rfl, hall, hbel2⟩ := hrel
          by_cases hlt2 : k < y.length
          · obtain ⟨g2, rfl, -, hg2, hcell2⟩ := C2.out k hlt2
            obtain ⟨q, hq⟩ : ∃ q, q = y[k] := ⟨_, rfl⟩
            have hqc : wc.cell? ⟨g2, k, none⟩ = some (.int .u16 q) := by rw [hcell2, hq]; simp [hlt2]
            obtain ⟨q0, q1⟩ := HY.out q (by rw [hq]; exact List.getElem_mem hlt2)
            have HQ := Lib.hid hq
            clear hq hcell2
            have i1 : (0 : Int) ≤ (n : Int) := by omega
            have i2 : (n : Int) < (x.length : Int) := by omega
            have i3 : (0 : Int) ≤ (k : Int) := by omega
            have i4 : (k : Int) < (y.length : Int) := by omega
            have hpw : wr.cell? ⟨g1, n, none⟩ = some (.int .u16 p) := by rw [hbel2.cell (by exact hg1)]; exact hpc
            have hqw : wr.cell? ⟨g2, k, none⟩ = some (.int .u16 q) := by rw [hbel2.cell (by exact hg2)]; exact hqc
            clear hpc hqc
            have hzz : (meetB p q == 0) = true ∨ (meetB p q == 0) = false := by cases (meetB p q == 0) <;> simp
            rcases hzz with hz | hz
            · go_wp2_with fail
              obtain ⟨U, f, hU, hf, hg⟩ := calm_class (wr); obtain ⟨u0, hu0⟩ := hg _ (Below.refl _ _); rw [hu0]; clear hu0
              have kp := calm_cell hf hpw
              have kq := calm_cell hf hqw
              clear hpw hqw
              refine wp_region_calm f (by kernel_rfl) (by kernel_rfl) (calm_drew hf hg _) ?_
              repeat (go_big_quiet_step ((go_at_call 29; exact calm_same (refMeet_any p q _ p0 p1 q0 q1))))
              refine wpQuiet_nil ?_; rintro _ ⟨u, rfl⟩
              go_wp2_with fail
              go_ret
              exact ⟨ret_bool (by rw [EX.out, EY.out]; symm; exact pairs_no x y n k hlt hlt2 (by rw [← HP.out, ← HQ.out]; exact hz)), hb.trans ((hbel2.trans ((hf _).mono hbel2.size)).mono hb.size)⟩
            · go_wp2_with fail
              obtain ⟨U, f, hU, hf, hg⟩ := calm_class (wr); obtain ⟨u0, hu0⟩ := hg _ (Below.refl _ _); rw [hu0]; clear hu0
              have kp := calm_cell hf hpw
              have kq := calm_cell hf hqw
              clear hpw hqw
              refine wp_region_calm f (by kernel_rfl) (by kernel_rfl) (calm_drew hf hg _) ?_
              repeat (go_big_quiet_step ((go_at_call 29; exact calm_same (refMeet_any p q _ p0 p1 q0 q1))))
              refine wpQuiet_nil ?_; rintro _ ⟨u, rfl⟩
              go_wp2_with fail
              go_roundw
              case rel => exact ⟨k + 1, by omega, by go_num, all_step y k hlt2 _ hall.out (by rw [← HQ.out, hz]; rfl), hbel2.trans ((hf _).mono hbel2.size)⟩
              case measure => simp [intOf]; omega
          · obtain rfl : k = y.length := by omega
            go_wp2_with fail
            go_roundw
            case rel => exact ⟨n + 1, by omega, by go_num, pairs_step x y n hlt hgood.out (by rw [← HP.out]; have h := hall.out; rw [List.take_length] at h; exact h), hbel2⟩
            case measure => simp [intOf]; omega
      · obtain rfl : n = x.length := by omega
        go_wp2_with fail
        go_ret
        exact ⟨ret_bool (by rw [EX.out, EY.out]; have h := hgood.out; rw [List.take_length] at h; exact h.symm), hb.trans (hbel.mono hb.size)⟩
end Go.Proofs.Ytaaagidooieejaa
