/- ConfSmall: of all configurations of three voting nodes, and of one, those may be whose quorums meet as they must; a closed statement. -/
import Derived.Test.YtaaagidooieejaaBegun10
import Derived.Test.YtaaagidooieejaaMeet2
import Derived.Test.YtaaagidooieejaaFrame
import Derived.Test.YtaaagidooieejaaRows
namespace Go.Proofs.Ytaaagidooieejaa
open Go.ChangeShapes Go.WideShapes Go.ChangeAt Go.RowKit

/-- A store into a block that is known whole. -/
theorem block_set {w : World} {n : Nat} {cs : Array Value} {t : TypeId} {m : Nat × Nat} (h : w.heap[n]? = some (.cells cs t m)) (j : Nat) (v : Value) : (w.setCell ⟨n, j, none⟩ v).heap[n]? = some (.cells (cs.setIfInBounds j v) t m) := by
  simp [World.setCell, Array.getElem?_modify, h]
theorem refMeet10_is (av ax al ae ak bv bx bl be bk : Int) (fa : FitC av ax al) (fb : FitC bv bx bl) (w : World) {r : Bool} (h : pairsB (qs (joinB av ax) ae) (qs (joinB bv bx) bk) = r) :
    Calls Try.prog 17 #[.agg #[.int .u16 av, .int .u16 ax, .int .u16 al, .int .i64 ae, .int .i64 ak], .agg #[.int .u16 bv, .int .u16 bx, .int .u16 bl, .int .i64 be, .int .i64 bk]] w fun e w' => e = .returned (.bool r) ∧ Below w.heap.size w w' := by subst h; exact refMeet10_any av ax al ae ak bv bx bl be bk fa fb w

/-- The witnesses behind so many rounds; of so many nodes. -/
def wit (i : Int) : Int := if i ≤ 2 then 0 else if i = 3 then 4 else 12
theorem wit_fit (i : Int) : 0 ≤ wit i ∧ wit i ≤ 65535 := by unfold wit; (split; omega; split <;> omega)
theorem wit_next (i : Int) (h1 : 2 ≤ i) (h2 : i ≤ 3) : bits .or .u16 (wit i) (oneB i) = wit (i + 1) := by
  have : i = 2 ∨ i = 3 := by omega
  rcases this with rfl | rfl <;> decide
theorem cnt_wit (n : Int) (h1 : 1 ≤ n) (h2 : n ≤ 3) : cnt (bits .or .u16 2 (wit (n + 1))) = n ∧ cnt (joinB 2 (wit (n + 1))) = n ∧ cnt (bits .andNot .u16 (joinB 2 (wit (n + 1))) (joinB 2 (wit (n + 1)))) = 0 := by
  have : n = 1 ∨ n = 2 ∨ n = 3 := by omega
  rcases this with rfl | rfl | rfl <;> decide +kernel
theorem pairs_wit (n e k : Int) (h1 : 1 ≤ n) (h2 : n ≤ 3) (e1 : 1 ≤ e) (en : e ≤ n) (k1 : 1 ≤ k) (kn : k ≤ n) : pairsB (qs (joinB 2 (wit (n + 1))) e) (qs (joinB 2 (wit (n + 1))) k) = decide (n < e + k) := by
  obtain ⟨c1, c2, c3⟩ := cnt_wit n h1 h2
  rw [meet_plain _ _ _ _ (joinB_fit _ _).1 (joinB_fit _ _).1 e1 (by omega) k1 (by omega), c2, c3]
  rw [decide_eq_decide]; omega
theorem may_wit (n e k : Int) (h1 : 1 ≤ n) (h2 : n ≤ 3) : mayC 2 (wit (n + 1)) 0 e k = (decide (1 ≤ e) && (decide (e ≤ n) && (decide (1 ≤ k) && (decide (k ≤ n) && (decide (n - k < e) && decide (n - e < e)))))) := by
  have c1 := (cnt_wit n h1 h2).1
  have hm : mayB 2 = true ∧ mayB (wit (n + 1)) = true ∧ mayB 0 = true ∧ bits .and .u16 2 (wit (n + 1)) = 0 ∧ bits .and .u16 2 0 = 0 ∧ bits .and .u16 (wit (n + 1)) 0 = 0 := by
    have : n = 1 ∨ n = 2 ∨ n = 3 := by omega
    rcases this with rfl | rfl | rfl <;> decide +kernel
  obtain ⟨m1, m2, m3, m4, m5, m6⟩ := hm
  unfold mayC
  rw [c1, m1, m2, m3, m4, m5, m6]; rfl

theorem may_yes (n e k : Int) (h1 : 1 ≤ n) (h2 : n ≤ 3) (a : 1 ≤ e) (b : 1 ≤ k) (c : e ≤ n) (d : k ≤ n) (f : n < e + k) (g : n < e + e) : mayC 2 (wit (n + 1)) 0 e k = true := by
  rw [may_wit n e k h1 h2, decide_eq_true a, decide_eq_true b, decide_eq_true c, decide_eq_true d, decide_eq_true (show n - k < e by omega), decide_eq_true (show n - e < e by omega)]; rfl
theorem may_no (n e k : Int) (h1 : 1 ≤ n) (h2 : n ≤ 3) (h : ¬ (1 ≤ e ∧ 1 ≤ k ∧ e ≤ n ∧ k ≤ n ∧ n < e + k ∧ n < e + e)) : mayC 2 (wit (n + 1)) 0 e k = false := by
  cases m : mayC 2 (wit (n + 1)) 0 e k
  · rfl
  · rw [may_wit n e k h1 h2] at m
    simp only [Bool.and_eq_true, decide_eq_true_eq] at m
    exact absurd ⟨m.1, m.2.2.1, m.2.1, m.2.2.2.1, by omega, by omega⟩ h
set_option maxRecDepth 100000 in
set_option maxHeartbeats 8000000 in
theorem small_walk (w : World) :
    Calls Try.prog 4 #[] w fun r w' => r = .returned (.bool true) ∧ Below w.heap.size w w' := by
  go_enter Try.func4, Try.ntmps4
  go_wp2_with fail
  refine (begun_any _).mono ?_; rintro r w1 ⟨rfl, hb⟩
  go_wp2_with fail
  go_loopw [1] (fun i wr => ∃ n : Int, 1 ≤ n ∧ n ≤ 4 ∧ i = .int .i64 n ∧ Below w.heap.size w wr) (fun i _ => (4 - intOf i).toNat)
  case atStart => exact ⟨1, by omega, by omega, rfl, hb⟩
  case round =>
    obtain ⟨n, n1, n2, rfl, hb1⟩ := hrel
    obtain ⟨wn, rfl⟩ : ∃ wn : World, wn = wr := ⟨_, rfl⟩
    by_cases hn : n ≤ 3
    · go_wp2_with fail
      go_loopw [2] (fun i wr => ∃ e : Int, -1 ≤ e ∧ e ≤ n + 2 ∧ i = .int .i64 e ∧ Below w.heap.size w wr) (fun i _ => (n + 2 - intOf i).toNat)
      case atStart => exact ⟨-1, by omega, by omega, rfl, hb1⟩
      case round =>
        obtain ⟨e, e1, e2, rfl, hb2⟩ := hrel
        obtain ⟨we, rfl⟩ : ∃ we : World, we = wr := ⟨_, rfl⟩
        by_cases he : e ≤ n + 1
        · go_wp2_with fail
          go_loopw [3] (fun i wr => ∃ k : Int, -1 ≤ k ∧ k ≤ n + 2 ∧ i = .int .i64 k ∧ Below w.heap.size w wr) (fun i _ => (n + 2 - intOf i).toNat)
          case atStart => exact ⟨-1, by omega, by omega, rfl, hb2⟩
          case round =>
            obtain ⟨k, k1, k2, rfl, hb3⟩ := hrel
            obtain ⟨wk, rfl⟩ : ∃ wk : World, wk = wr := ⟨_, rfl⟩
            by_cases hk : k ≤ n + 1
            · go_wp2_with fail
              go_loopw [5] (fun i wr => ∃ j : Int, 2 ≤ j ∧ j ≤ n + 1 ∧ i = .int .i64 j ∧ wr.heap[wk.heap.size]? = some (.cells #[.int .u16 2, .int .u16 (wit j), .int .u16 0, .int .i64 e, .int .i64 k] 33 (0, 0)) ∧ Below wk.heap.size wk wr) (fun i _ => (n + 1 - intOf i).toNat)
              case atStart => exact ⟨2, by omega, by omega, rfl, heap_last wk _, below_box _ _⟩
              case round =>
                obtain ⟨j, j1, j2, rfl, HB, hb4⟩ := hrel
                obtain ⟨wj, rfl⟩ : ∃ wj : World, wj = wr := ⟨_, rfl⟩
                have kB := block_cells HB
                have kF := block_free HB
                obtain ⟨y0, y1⟩ := wit_fit j
                have hb5 := Lib.hid (hb3.trans (hb4.mono hb3.size))
                by_cases hj : j ≤ n
                · have HW := Lib.hid (wit_next j j1 (by omega))
                  have HS := Lib.hid (block_set HB 1 (.int .u16 (wit (j + 1))))
                  go_wp2_with fail
                  refine (refWith_any _ _ _ y0 y1).mono ?_; rintro r w' ⟨rfl, rfl⟩; rw [HW.out]
                  go_wp2_with fail
                  go_roundw
                  case rel => exact ⟨j + 1, by omega, by omega, by go_num, HS.out, hb4.setCell (by simp) _⟩
                  case measure => simp [intOf]; omega
                · obtain rfl : j = n + 1 := by omega
                  clear kF hj j1 j2
                  have FA : FitC 2 (wit (n + 1)) 0 := ⟨by omega, by omega, y0, y1, by omega, by omega⟩
                  by_cases t1 : 1 ≤ e
                  · by_cases t2 : 1 ≤ k
                    · by_cases t3 : e ≤ n
                      · by_cases t4 : k ≤ n
                        · by_cases t5 : n < e + k
                          · by_cases t6 : n < e + e
                            · have M1 := Lib.hid (fun (v : World) => refMeet10_is 2 (wit (n + 1)) 0 e k 2 (wit (n + 1)) 0 e k FA FA v ((pairs_wit n e k n1 hn t1 t3 t2 t4).trans (decide_eq_true t5)))
                              have M2 := Lib.hid (fun (v : World) => refMeet10_is 2 (wit (n + 1)) 0 e k 2 (wit (n + 1)) 0 e e FA FA v ((pairs_wit n e e n1 hn t1 t3 t1 t3).trans (decide_eq_true t6)))
                              have MV := Lib.hid (may_yes n e k n1 hn t1 t2 t3 t4 t5 t6)
                              clear hb4
                              obtain ⟨U, f, hU, hf, hg⟩ := calm_class (wj); obtain ⟨u0, hu0⟩ := hg _ (Below.refl _ _); rw [hu0]; clear hu0
                              have hB := calm_heap hf HB
                              clear kB
                              have kB := fun u => block_cells (hB u)
                              (try dsimp only); repeat (first | go_values | go_skip | go_guarded | (refine wpList_skip (by rfl) ?_; simp only [Act.put, List.setIfInBounds_toArray, List.set_cons_zero, List.set_cons_succ]) | go_step | go_upon)
                              refine (M1.out _).mono ?_; rintro r w' ⟨rfl, hb⟩; obtain ⟨u, rfl⟩ := calm_step hf hg hb; clear hb
                              (try dsimp only); repeat (first | go_values | go_skip | go_guarded | (refine wpList_skip (by rfl) ?_; simp only [Act.put, List.setIfInBounds_toArray, List.set_cons_zero, List.set_cons_succ]) | go_step | go_upon)
                              refine (M2.out _).mono ?_; rintro r w' ⟨rfl, hb⟩; obtain ⟨u, rfl⟩ := calm_step hf hg hb; clear hb
                              (try dsimp only); repeat (first | go_values | go_skip | go_guarded | (refine wpList_skip (by rfl) ?_; simp only [Act.put, List.setIfInBounds_toArray, List.set_cons_zero, List.set_cons_succ]) | go_step | go_upon)
                              refine (confMay_any _ _ _ _ _ _).mono ?_; rintro r w' ⟨rfl, hb⟩; obtain ⟨u, rfl⟩ := calm_step hf hg hb; clear hb; rw [MV.out]
                              (try dsimp only); repeat (first | go_values | go_skip | go_guarded | (refine wpList_skip (by rfl) ?_; simp only [Act.put, List.setIfInBounds_toArray, List.set_cons_zero, List.set_cons_succ]) | go_step | go_upon)
                              go_roundw
                              case rel => exact ⟨k + 1, by omega, by omega, by go_num, hb5.out.trans ((hf _).mono hb5.out.size)⟩
                              case measure => simp [intOf]; omega
                            · have M1 := Lib.hid (fun (v : World) => refMeet10_is 2 (wit (n + 1)) 0 e k 2 (wit (n + 1)) 0 e k FA FA v ((pairs_wit n e k n1 hn t1 t3 t2 t4).trans (decide_eq_true t5)))
                              have M2 := Lib.hid (fun (v : World) => refMeet10_is 2 (wit (n + 1)) 0 e k 2 (wit (n + 1)) 0 e e FA FA v ((pairs_wit n e e n1 hn t1 t3 t1 t3).trans (decide_eq_false t6)))
                              have MV := Lib.hid (may_no n e k n1 hn (fun h => t6 h.2.2.2.2.2))
                              clear hb4
                              obtain ⟨U, f, hU, hf, hg⟩ := calm_class (wj); obtain ⟨u0, hu0⟩ := hg _ (Below.refl _ _); rw [hu0]; clear hu0
                              have hB := calm_heap hf HB
                              clear kB
                              have kB := fun u => block_cells (hB u)
                              (try dsimp only); repeat (first | go_values | go_skip | go_guarded | (refine wpList_skip (by rfl) ?_; simp only [Act.put, List.setIfInBounds_toArray, List.set_cons_zero, List.set_cons_succ]) | go_step | go_upon)
                              refine (M1.out _).mono ?_; rintro r w' ⟨rfl, hb⟩; obtain ⟨u, rfl⟩ := calm_step hf hg hb; clear hb
                              (try dsimp only); repeat (first | go_values | go_skip | go_guarded | (refine wpList_skip (by rfl) ?_; simp only [Act.put, List.setIfInBounds_toArray, List.set_cons_zero, List.set_cons_succ]) | go_step | go_upon)
                              refine (M2.out _).mono ?_; rintro r w' ⟨rfl, hb⟩; obtain ⟨u, rfl⟩ := calm_step hf hg hb; clear hb
                              (try dsimp only); repeat (first | go_values | go_skip | go_guarded | (refine wpList_skip (by rfl) ?_; simp only [Act.put, List.setIfInBounds_toArray, List.set_cons_zero, List.set_cons_succ]) | go_step | go_upon)
                              refine (confMay_any _ _ _ _ _ _).mono ?_; rintro r w' ⟨rfl, hb⟩; obtain ⟨u, rfl⟩ := calm_step hf hg hb; clear hb; rw [MV.out]
                              (try dsimp only); repeat (first | go_values | go_skip | go_guarded | (refine wpList_skip (by rfl) ?_; simp only [Act.put, List.setIfInBounds_toArray, List.set_cons_zero, List.set_cons_succ]) | go_step | go_upon)
                              go_roundw
                              case rel => exact ⟨k + 1, by omega, by omega, by go_num, hb5.out.trans ((hf _).mono hb5.out.size)⟩
                              case measure => simp [intOf]; omega
                          · have M1 := Lib.hid (fun (v : World) => refMeet10_is 2 (wit (n + 1)) 0 e k 2 (wit (n + 1)) 0 e k FA FA v ((pairs_wit n e k n1 hn t1 t3 t2 t4).trans (decide_eq_false t5)))
                            have MV := Lib.hid (may_no n e k n1 hn (fun h => t5 h.2.2.2.2.1))
                            clear hb4
                            obtain ⟨U, f, hU, hf, hg⟩ := calm_class (wj); obtain ⟨u0, hu0⟩ := hg _ (Below.refl _ _); rw [hu0]; clear hu0
                            have hB := calm_heap hf HB
                            clear kB
                            have kB := fun u => block_cells (hB u)
                            (try dsimp only); repeat (first | go_values | go_skip | go_guarded | (refine wpList_skip (by rfl) ?_; simp only [Act.put, List.setIfInBounds_toArray, List.set_cons_zero, List.set_cons_succ]) | go_step | go_upon)
                            refine (M1.out _).mono ?_; rintro r w' ⟨rfl, hb⟩; obtain ⟨u, rfl⟩ := calm_step hf hg hb; clear hb
                            (try dsimp only); repeat (first | go_values | go_skip | go_guarded | (refine wpList_skip (by rfl) ?_; simp only [Act.put, List.setIfInBounds_toArray, List.set_cons_zero, List.set_cons_succ]) | go_step | go_upon)
                            refine (confMay_any _ _ _ _ _ _).mono ?_; rintro r w' ⟨rfl, hb⟩; obtain ⟨u, rfl⟩ := calm_step hf hg hb; clear hb; rw [MV.out]
                            (try dsimp only); repeat (first | go_values | go_skip | go_guarded | (refine wpList_skip (by rfl) ?_; simp only [Act.put, List.setIfInBounds_toArray, List.set_cons_zero, List.set_cons_succ]) | go_step | go_upon)
                            go_roundw
                            case rel => exact ⟨k + 1, by omega, by omega, by go_num, hb5.out.trans ((hf _).mono hb5.out.size)⟩
                            case measure => simp [intOf]; omega
                        · have MV := Lib.hid (may_no n e k n1 hn (fun h => t4 h.2.2.2.1))
                          clear hb4
                          obtain ⟨U, f, hU, hf, hg⟩ := calm_class (wj); obtain ⟨u0, hu0⟩ := hg _ (Below.refl _ _); rw [hu0]; clear hu0
                          have hB := calm_heap hf HB
                          clear kB
                          have kB := fun u => block_cells (hB u)
                          (try dsimp only); repeat (first | go_values | go_skip | go_guarded | (refine wpList_skip (by rfl) ?_; simp only [Act.put, List.setIfInBounds_toArray, List.set_cons_zero, List.set_cons_succ]) | go_step | go_upon)
                          refine (confMay_any _ _ _ _ _ _).mono ?_; rintro r w' ⟨rfl, hb⟩; obtain ⟨u, rfl⟩ := calm_step hf hg hb; clear hb; rw [MV.out]
                          (try dsimp only); repeat (first | go_values | go_skip | go_guarded | (refine wpList_skip (by rfl) ?_; simp only [Act.put, List.setIfInBounds_toArray, List.set_cons_zero, List.set_cons_succ]) | go_step | go_upon)
                          go_roundw
                          case rel => exact ⟨k + 1, by omega, by omega, by go_num, hb5.out.trans ((hf _).mono hb5.out.size)⟩
                          case measure => simp [intOf]; omega
                      · have MV := Lib.hid (may_no n e k n1 hn (fun h => t3 h.2.2.1))
                        clear hb4
                        obtain ⟨U, f, hU, hf, hg⟩ := calm_class (wj); obtain ⟨u0, hu0⟩ := hg _ (Below.refl _ _); rw [hu0]; clear hu0
                        have hB := calm_heap hf HB
                        clear kB
                        have kB := fun u => block_cells (hB u)
                        (try dsimp only); repeat (first | go_values | go_skip | go_guarded | (refine wpList_skip (by rfl) ?_; simp only [Act.put, List.setIfInBounds_toArray, List.set_cons_zero, List.set_cons_succ]) | go_step | go_upon)
                        refine (confMay_any _ _ _ _ _ _).mono ?_; rintro r w' ⟨rfl, hb⟩; obtain ⟨u, rfl⟩ := calm_step hf hg hb; clear hb; rw [MV.out]
                        (try dsimp only); repeat (first | go_values | go_skip | go_guarded | (refine wpList_skip (by rfl) ?_; simp only [Act.put, List.setIfInBounds_toArray, List.set_cons_zero, List.set_cons_succ]) | go_step | go_upon)
                        go_roundw
                        case rel => exact ⟨k + 1, by omega, by omega, by go_num, hb5.out.trans ((hf _).mono hb5.out.size)⟩
                        case measure => simp [intOf]; omega
                    · have MV := Lib.hid (may_no n e k n1 hn (fun h => t2 h.2.1))
                      clear hb4
                      obtain ⟨U, f, hU, hf, hg⟩ := calm_class (wj); obtain ⟨u0, hu0⟩ := hg _ (Below.refl _ _); rw [hu0]; clear hu0
                      have hB := calm_heap hf HB
                      clear kB
                      have kB := fun u => block_cells (hB u)
                      (try dsimp only); repeat (first | go_values | go_skip | go_guarded | (refine wpList_skip (by rfl) ?_; simp only [Act.put, List.setIfInBounds_toArray, List.set_cons_zero, List.set_cons_succ]) | go_step | go_upon)
                      refine (confMay_any _ _ _ _ _ _).mono ?_; rintro r w' ⟨rfl, hb⟩; obtain ⟨u, rfl⟩ := calm_step hf hg hb; clear hb; rw [MV.out]
                      (try dsimp only); repeat (first | go_values | go_skip | go_guarded | (refine wpList_skip (by rfl) ?_; simp only [Act.put, List.setIfInBounds_toArray, List.set_cons_zero, List.set_cons_succ]) | go_step | go_upon)
                      go_roundw
                      case rel => exact ⟨k + 1, by omega, by omega, by go_num, hb5.out.trans ((hf _).mono hb5.out.size)⟩
                      case measure => simp [intOf]; omega
                  · have MV := Lib.hid (may_no n e k n1 hn (fun h => t1 h.1))
                    clear hb4
                    obtain ⟨U, f, hU, hf, hg⟩ := calm_class (wj); obtain ⟨u0, hu0⟩ := hg _ (Below.refl _ _); rw [hu0]; clear hu0
                    have hB := calm_heap hf HB
                    clear kB
                    have kB := fun u => block_cells (hB u)
                    (try dsimp only); repeat (first | go_values | go_skip | go_guarded | (refine wpList_skip (by rfl) ?_; simp only [Act.put, List.setIfInBounds_toArray, List.set_cons_zero, List.set_cons_succ]) | go_step | go_upon)
                    refine (confMay_any _ _ _ _ _ _).mono ?_; rintro r w' ⟨rfl, hb⟩; obtain ⟨u, rfl⟩ := calm_step hf hg hb; clear hb; rw [MV.out]
                    (try dsimp only); repeat (first | go_values | go_skip | go_guarded | (refine wpList_skip (by rfl) ?_; simp only [Act.put, List.setIfInBounds_toArray, List.set_cons_zero, List.set_cons_succ]) | go_step | go_upon)
                    go_roundw
                    case rel => exact ⟨k + 1, by omega, by omega, by go_num, hb5.out.trans ((hf _).mono hb5.out.size)⟩
                    case measure => simp [intOf]; omega
            · go_wp2_with fail
              go_roundw
              case rel => exact ⟨e + 1, by omega, by omega, by go_num, hb3⟩
              case measure => simp [intOf]; omega
        · go_wp2_with fail
          go_roundw
          case rel => exact ⟨n + 1, by omega, by omega, by go_num, hb2⟩
          case measure => simp [intOf]; omega
    · go_wp2_with fail
      go_ret
      exact ⟨rfl, hb1⟩


set_option maxRecDepth 100000 in
theorem small_lifted (os : Os) (started : os.Started) (H : Type) (enc : TypeId × Value → H) :
    ReturnsInHanded {} Try.checked os 4 .any (Rows.confSmallSpec.pre6 enc Try.prog Try.f4 Rows.confSmallRow.domain false) (Rows.confSmallSpec.post enc Try.prog Try.f4 false true false false) := by
  refine lift_law (C := Try.checked) (tb := 4) (by kernel_rfl) started (by kernel_rfl) Try.func4 (ChangeSpec.witness6 (enc := enc) (C := Try.checked) false ⟨#[], #[], []⟩ 8 (by kernel_rfl) (by kernel_rfl) (by kernel_rfl) (by kernel_rfl)) (by kernel_rfl) (by kernel_rfl) rfl Try.underlying4 rfl ?_ ?_
  · intro ds h
    match ds, h with
    | [], _ => rfl
  · intro W base args ds ps hval0 hA0 hlt hsz
    have hval : ∀ (j : Nat) t v, Try.f4.params[j]? = some t → args[j]? = some v → Value.okWide Try.prog W .any base t v := hval0
    have hA : DataW.TrodAll enc Try.prog W 0 (fun _ => true) true Try.f4.params.toList args.toList ds ps := hA0
    rw [Try.params4] at hA hval
    obtain ⟨h0, rfl, rfl⟩ := trodAll_nil hA; obtain rfl : args = #[] := by cases args; simp_all

    exact small_walk W

theorem small_holds : Rows.ConfSmallSaid :=
  OpenClaim.holds_of_wide 4 Try.f4 rfl rfl rfl rfl rfl rfl rfl ⟨rfl, rfl, rfl, rfl, rfl⟩ rfl rfl rfl rfl rfl (by kernel_rfl) Try.func4 (by kernel_rfl)
    (of_decide_eq_true (by kernel_rfl)) (by unfold Func.isWrapper; first | (rw [if_pos (by decide +kernel)]; kernel_rfl) | (rw [if_neg (by decide +kernel)]; exact ⟨rfl, rfl⟩))
    (fun os started H enc _ => small_lifted os started H enc)
#print axioms small_holds

end Go.Proofs.Ytaaagidooieejaa
