/- StampLine: stamps, and attempts, stand in a line; for any three of each, no condition. -/
import Derived.Test.YtmdeegbbclcloaaBegun6
import Derived.Test.YtmdeegbbclcloaaOpenStamp
import Derived.Test.YtmdeegbbclcloaaRows
import Derived.Deep.DeepCutAuto
namespace Go.Proofs.Ytmdeegbbclcloaa
open Go.ChangeShapes Go.WideShapes Go.ChangeAt Go.RowKit

theorem six_boxes (w : World) (o1 o2 o3 o4 o5 o6 : Obj) : ∃ W, W = (((((w.alloc o1).alloc o2).alloc o3).alloc o4).alloc o5).alloc o6 ∧ Below w.heap.size w W ∧ W.heap[w.heap.size]? = some o1 ∧ W.heap[w.heap.size + 1]? = some o2 ∧ W.heap[w.heap.size + 1 + 1]? = some o3 ∧ W.heap[w.heap.size + 1 + 1 + 1]? = some o4 ∧ W.heap[w.heap.size + 1 + 1 + 1 + 1]? = some o5 ∧ W.heap[w.heap.size + 1 + 1 + 1 + 1 + 1]? = some o6 ∧ w.heap.size + 5 < W.heap.size := by
  obtain ⟨W, e, hb, h1, h2, h3, h4⟩ := four_boxes w o1 o2 o3 o4
  have hs : W.heap.size = w.heap.size + 1 + 1 + 1 + 1 := by rw [e]; simp
  have h5 := heap_last W o5
  have h6 := heap_last (W.alloc o5) o6
  rw [hs] at h5
  simp only [World.size_alloc, hs] at h6
  exact ⟨(W.alloc o5).alloc o6, by rw [e], (hb.alloc (by omega) _).alloc (by simp; omega) _, heap_prev _ (heap_prev _ h1), heap_prev _ (heap_prev _ h2), heap_prev _ (heap_prev _ h3), heap_prev _ (heap_prev _ h4), heap_prev _ h5, h6, by simp; omega⟩

theorem lessS_trans (a b c d e f : Int) (h : lessS a b c d = true) (g : lessS c d e f = true) : lessS a b e f = true := by
  unfold lessS at *; simp at *; omega
theorem lessT_trans (a b c d e f g h i j k l : Int) (p : lessT a b c d e f g h = true) (q : lessT e f g h i j k l = true) : lessT a b c d i j k l = true := by
  unfold lessT at *; simp at *; omega
theorem lessS_self (a b : Int) : lessS a b a b = false := by unfold lessS; simp
theorem max_plain (a b c d : Int) : ((mxW a b c d = a ∧ mxT a b c d = b) ∨ (lessS a b c d = true ∧ mxW a b c d = c ∧ mxT a b c d = d)) ∧ lessS (mxW a b c d) (mxT a b c d) a b = false ∧ lessS (mxW a b c d) (mxT a b c d) c d = false := by
  unfold mxW mxT
  cases h : lessS a b c d
  · exact ⟨.inl ⟨rfl, rfl⟩, lessS_self a b, h⟩
  · refine ⟨.inr ⟨rfl, rfl, rfl⟩, ?_, lessS_self c d⟩
    simp only [if_true]
    unfold lessS at *; simp at *; omega
theorem less_is (aw at' bw bt : Int) (w : World) {r : Bool} (h : lessS aw at' bw bt = r) :
    Calls Try.prog 18 #[.agg #[.int .i64 aw, .int .i64 at'], .agg #[.int .i64 bw, .int .i64 bt]] w fun e w' => e = .returned (.bool r) ∧ Below w.heap.size w w' := by subst h; exact less_any aw at' bw bt w
theorem lessTry_is (a b c d x y z u : Int) (w : World) {r : Bool} (h : lessT a b c d x y z u = r) :
    Calls Try.prog 22 #[.agg #[.int .i64 a, .int .i64 b, .int .i64 c, .int .i64 d], .agg #[.int .i64 x, .int .i64 y, .int .i64 z, .int .i64 u]] w fun e w' => e = .returned (.bool r) ∧ Below w.heap.size w w' := by subst h; exact lessTry_any a b c d x y z u w

set_option maxRecDepth 100000 in
set_option maxHeartbeats 8000000 in
theorem line_walk (aw at' bw bt cw ct x0 x1 x2 x3 y0 y1 y2 y3 z0 z1 z2 z3 : Int) (w : World) :
    Calls Try.prog 7 #[.agg #[.int .i64 aw, .int .i64 at'], .agg #[.int .i64 bw, .int .i64 bt], .agg #[.int .i64 cw, .int .i64 ct], .agg #[.int .i64 x0, .int .i64 x1, .int .i64 x2, .int .i64 x3], .agg #[.int .i64 y0, .int .i64 y1, .int .i64 y2, .int .i64 y3], .agg #[.int .i64 z0, .int .i64 z1, .int .i64 z2, .int .i64 z3]] w fun r w' => r = .returned (.bool true) ∧ Below w.heap.size w w' := by
  go_enter Try.func7, Try.ntmps7
  go_wp2_with fail
  obtain ⟨W, hW, B0, HA, HB, HC, HX, HY, HZ, hsz⟩ := six_boxes w (.cells #[.int .i64 aw, .int .i64 at'] 40) (.cells #[.int .i64 bw, .int .i64 bt] 40) (.cells #[.int .i64 cw, .int .i64 ct] 40) (.cells #[.int .i64 x0, .int .i64 x1, .int .i64 x2, .int .i64 x3] 23) (.cells #[.int .i64 y0, .int .i64 y1, .int .i64 y2, .int .i64 y3] 23) (.cells #[.int .i64 z0, .int .i64 z1, .int .i64 z2, .int .i64 z3] 23)
  rw [← hW]
  clear hW
  refine (begun_any _).mono ?_; rintro r w1 ⟨rfl, hb⟩
  replace HA := below_block hb (by omega) HA
  replace HB := below_block hb (by omega) HB
  replace HC := below_block hb (by omega) HC
  replace HX := below_block hb (by omega) HX
  replace HY := below_block hb (by omega) HY
  replace HZ := below_block hb (by omega) HZ
  replace hsz : w.heap.size + 5 < w1.heap.size := Nat.lt_of_lt_of_le hsz hb.size
  replace B0 := Lib.hid (B0.trans (hb.mono B0.size))
  clear hb
  go_wp2_with fail
  go_cut [13] (fun v wx => v = .bool true ∧ Below w1.heap.size w1 wx)
  case first =>
    obtain ⟨U, f, hU, hf, hg⟩ := calm_class (w1); obtain ⟨u0, hu0⟩ := hg _ (Below.refl _ _); rw [hu0]; clear hu0
    have kA := fun u => block_cells (calm_heap hf HA u)
    have kB := fun u => block_cells (calm_heap hf HB u)
    have kC := fun u => block_cells (calm_heap hf HC u)
    clear HA HB HC HX HY HZ
    have hall := lessS_trans aw at' bw bt cw ct
    rcases Int.lt_trichotomy aw bw with h0 | h0 | h0
    · have e0 : (aw == bw) = false := by simp; omega
      have L1 := Lib.hid (show lessS aw at' bw bt = true by unfold lessS; simp; omega)
      have L2 := Lib.hid (show lessS bw bt aw at' = false by unfold lessS; simp; omega)
      cases l3 : lessS bw bt cw ct
      · have L3 := Lib.hid l3
        clear l3 hall
        refine wp_region_calm f (by kernel_rfl) (by kernel_rfl) (calm_drew hf hg _) ?_
        repeat (go_big_quiet_step ((go_at_call 18; (first | (with_reducible exact calm_of hf hg (less_is aw at' bw bt _ L1.out)) | (with_reducible exact calm_of hf hg (less_is bw bt aw at' _ L2.out)) | (with_reducible exact calm_of hf hg (less_is bw bt cw ct _ L3.out))))))
        refine wpQuiet_nil ?_
        rintro _ ⟨v, rfl⟩
        go_wp2_with fail
        go_meet
        exact ⟨rfl, hf v⟩
      · have L4 := Lib.hid (hall L1.out l3)
        have L3 := Lib.hid l3
        clear l3 hall
        refine wp_region_calm f (by kernel_rfl) (by kernel_rfl) (calm_drew hf hg _) ?_
        repeat (go_big_quiet_step ((go_at_call 18; (first | (with_reducible exact calm_of hf hg (less_is aw at' bw bt _ L1.out)) | (with_reducible exact calm_of hf hg (less_is bw bt aw at' _ L2.out)) | (with_reducible exact calm_of hf hg (less_is bw bt cw ct _ L3.out)) | (with_reducible exact calm_of hf hg (less_is aw at' cw ct _ L4.out))))))
        refine wpQuiet_nil ?_
        rintro _ ⟨v, rfl⟩
        go_wp2_with fail
        go_meet
        exact ⟨rfl, hf v⟩
    · subst h0
      rcases Int.lt_trichotomy at' bt with h1 | h1 | h1
      · have e1 : (at' == bt) = false := by simp; omega
        have L1 := Lib.hid (show lessS aw at' aw bt = true by unfold lessS; simp; omega)
        have L2 := Lib.hid (show lessS aw bt aw at' = false by unfold lessS; simp; omega)
        cases l3 : lessS aw bt cw ct
        · have L3 := Lib.hid l3
          clear l3 hall
          refine wp_region_calm f (by kernel_rfl) (by kernel_rfl) (calm_drew hf hg _) ?_
          repeat (go_big_quiet_step ((go_at_call 18; (first | (with_reducible exact calm_of hf hg (less_is aw at' aw bt _ L1.out)) | (with_reducible exact calm_of hf hg (less_is aw bt aw at' _ L2.out)) | (with_reducible exact calm_of hf hg (less_is aw bt cw ct _ L3.out))))))
          refine wpQuiet_nil ?_
          rintro _ ⟨v, rfl⟩
          go_wp2_with fail
          go_meet
          exact ⟨rfl, hf v⟩
        · have L4 := Lib.hid (hall L1.out l3)
          have L3 := Lib.hid l3
          clear l3 hall
          refine wp_region_calm f (by kernel_rfl) (by kernel_rfl) (calm_drew hf hg _) ?_
          repeat (go_big_quiet_step ((go_at_call 18; (first | (with_reducible exact calm_of hf hg (less_is aw at' aw bt _ L1.out)) | (with_reducible exact calm_of hf hg (less_is aw bt aw at' _ L2.out)) | (with_reducible exact calm_of hf hg (less_is aw bt cw ct _ L3.out)) | (with_reducible exact calm_of hf hg (less_is aw at' cw ct _ L4.out))))))
          refine wpQuiet_nil ?_
          rintro _ ⟨v, rfl⟩
          go_wp2_with fail
          go_meet
          exact ⟨rfl, hf v⟩
      · subst h1
        have L1 := Lib.hid (show lessS aw at' aw at' = false by unfold lessS; simp)
        have L2 := Lib.hid (show lessS aw at' aw at' = false by unfold lessS; simp)
        clear hall
        refine wp_region_calm f (by kernel_rfl) (by kernel_rfl) (calm_drew hf hg _) ?_
        repeat (go_big_quiet_step ((go_at_call 18; (first | (with_reducible exact calm_of hf hg (less_is aw at' aw at' _ L1.out)) | (with_reducible exact calm_of hf hg (less_is aw at' aw at' _ L2.out))))))
        refine wpQuiet_nil ?_
        rintro _ ⟨v, rfl⟩
        go_wp2_with fail
        go_meet
        exact ⟨rfl, hf v⟩
      · have e1 : (at' == bt) = false := by simp; omega
        have L1 := Lib.hid (show lessS aw at' aw bt = false by unfold lessS; simp; omega)
        have L2 := Lib.hid (show lessS aw bt aw at' = true by unfold lessS; simp; omega)
        clear hall
        refine wp_region_calm f (by kernel_rfl) (by kernel_rfl) (calm_drew hf hg _) ?_
        repeat (go_big_quiet_step ((go_at_call 18; (first | (with_reducible exact calm_of hf hg (less_is aw at' aw bt _ L1.out)) | (with_reducible exact calm_of hf hg (less_is aw bt aw at' _ L2.out))))))
        refine wpQuiet_nil ?_
        rintro _ ⟨v, rfl⟩
        go_wp2_with fail
        go_meet
        exact ⟨rfl, hf v⟩
    · have e0 : (aw == bw) = false := by simp; omega
      have L1 := Lib.hid (show lessS aw at' bw bt = false by unfold lessS; simp; omega)
      have L2 := Lib.hid (show lessS bw bt aw at' = true by unfold lessS; simp; omega)
      clear hall
      refine wp_region_calm f (by kernel_rfl) (by kernel_rfl) (calm_drew hf hg _) ?_
      repeat (go_big_quiet_step ((go_at_call 18; (first | (with_reducible exact calm_of hf hg (less_is aw at' bw bt _ L1.out)) | (with_reducible exact calm_of hf hg (less_is bw bt aw at' _ L2.out))))))
      refine wpQuiet_nil ?_
      rintro _ ⟨v, rfl⟩
      go_wp2_with fail
      go_meet
      exact ⟨rfl, hf v⟩
  case rest =>
    obtain ⟨rfl, hb⟩ := hcut
    replace HA := below_block hb (by omega) HA
    replace HB := below_block hb (by omega) HB
    replace HX := below_block hb (by omega) HX
    replace HY := below_block hb (by omega) HY
    replace HZ := below_block hb (by omega) HZ
    replace hsz := Nat.lt_of_lt_of_le hsz hb.size
    replace B0 := Lib.hid (B0.out.trans (hb.mono B0.out.size))
    clear hb HC
    obtain ⟨w2, rfl⟩ : ∃ w2 : World, w2 = wc := ⟨_, rfl⟩
    go_wp2_with fail
    go_cut [14] (fun v wx => v = .bool true ∧ Below w2.heap.size w2 wx)
    case first =>
      obtain ⟨U, f, hU, hf, hg⟩ := calm_class (w2); obtain ⟨u0, hu0⟩ := hg _ (Below.refl _ _); rw [hu0]; clear hu0
      have kX := fun u => block_cells (calm_heap hf HX u)
      have kY := fun u => block_cells (calm_heap hf HY u)
      have kZ := fun u => block_cells (calm_heap hf HZ u)
      clear HA HB HX HY HZ
      have hall := lessT_trans x0 x1 x2 x3 y0 y1 y2 y3 z0 z1 z2 z3
      rcases Int.lt_trichotomy x0 y0 with h0 | h0 | h0
      · have e0 : (x0 == y0) = false := by simp; omega
        have L1 := Lib.hid (show lessT x0 x1 x2 x3 y0 y1 y2 y3 = true by unfold lessT; simp; omega)
        have L2 := Lib.hid (show lessT y0 y1 y2 y3 x0 x1 x2 x3 = false by unfold lessT; simp; omega)
        cases l3 : lessT y0 y1 y2 y3 z0 z1 z2 z3
        · have L3 := Lib.hid l3
          clear l3 hall
          refine wp_region_calm f (by kernel_rfl) (by kernel_rfl) (calm_drew hf hg _) ?_
          repeat (go_big_quiet_step ((go_at_call 22; (first | (with_reducible exact calm_of hf hg (lessTry_is x0 x1 x2 x3 y0 y1 y2 y3 _ L1.out)) | (with_reducible exact calm_of hf hg (lessTry_is y0 y1 y2 y3 x0 x1 x2 x3 _ L2.out)) | (with_reducible exact calm_of hf hg (lessTry_is y0 y1 y2 y3 z0 z1 z2 z3 _ L3.out))))))
          refine wpQuiet_nil ?_
          rintro _ ⟨v, rfl⟩
          go_wp2_with fail
          go_meet
          exact ⟨rfl, hf v⟩
        · have L4 := Lib.hid (hall L1.out l3)
          have L3 := Lib.hid l3
          clear l3 hall
          refine wp_region_calm f (by kernel_rfl) (by kernel_rfl) (calm_drew hf hg _) ?_
          repeat (go_big_quiet_step ((go_at_call 22; (first | (with_reducible exact calm_of hf hg (lessTry_is x0 x1 x2 x3 y0 y1 y2 y3 _ L1.out)) | (with_reducible exact calm_of hf hg (lessTry_is y0 y1 y2 y3 x0 x1 x2 x3 _ L2.out)) | (with_reducible exact calm_of hf hg (lessTry_is y0 y1 y2 y3 z0 z1 z2 z3 _ L3.out)) | (with_reducible exact calm_of hf hg (lessTry_is x0 x1 x2 x3 z0 z1 z2 z3 _ L4.out))))))
          refine wpQuiet_nil ?_
          rintro _ ⟨v, rfl⟩
          go_wp2_with fail
          go_meet
          exact ⟨rfl, hf v⟩
      · subst h0
        rcases Int.lt_trichotomy x1 y1 with h1 | h1 | h1
        · have e1 : (x1 == y1) = false := by simp; omega
          have L1 := Lib.hid (show lessT x0 x1 x2 x3 x0 y1 y2 y3 = true by unfold lessT; simp; omega)
          have L2 := Lib.hid (show lessT x0 y1 y2 y3 x0 x1 x2 x3 = false by unfold lessT; simp; omega)
          cases l3 : lessT x0 y1 y2 y3 z0 z1 z2 z3
          · have L3 := Lib.hid l3
            clear l3 hall
            refine wp_region_calm f (by kernel_rfl) (by kernel_rfl) (calm_drew hf hg _) ?_
            repeat (go_big_quiet_step ((go_at_call 22; (first | (with_reducible exact calm_of hf hg (lessTry_is x0 x1 x2 x3 x0 y1 y2 y3 _ L1.out)) | (with_reducible exact calm_of hf hg (lessTry_is x0 y1 y2 y3 x0 x1 x2 x3 _ L2.out)) | (with_reducible exact calm_of hf hg (lessTry_is x0 y1 y2 y3 z0 z1 z2 z3 _ L3.out))))))
            refine wpQuiet_nil ?_
            rintro _ ⟨v, rfl⟩
            go_wp2_with fail
            go_meet
            exact ⟨rfl, hf v⟩
          · have L4 := Lib.hid (hall L1.out l3)
            have L3 := Lib.hid l3
            clear l3 hall
            refine wp_region_calm f (by kernel_rfl) (by kernel_rfl) (calm_drew hf hg _) ?_
            repeat (go_big_quiet_step ((go_at_call 22; (first | (with_reducible exact calm_of hf hg (lessTry_is x0 x1 x2 x3 x0 y1 y2 y3 _ L1.out)) | (with_reducible exact calm_of hf hg (lessTry_is x0 y1 y2 y3 x0 x1 x2 x3 _ L2.out)) | (with_reducible exact calm_of hf hg (lessTry_is x0 y1 y2 y3 z0 z1 z2 z3 _ L3.out)) | (with_reducible exact calm_of hf hg (lessTry_is x0 x1 x2 x3 z0 z1 z2 z3 _ L4.out))))))
            refine wpQuiet_nil ?_
            rintro _ ⟨v, rfl⟩
            go_wp2_with fail
            go_meet
            exact ⟨rfl, hf v⟩
        · subst h1
          rcases Int.lt_trichotomy x2 y2 with h2 | h2 | h2
          · have e2 : (x2 == y2) = false := by simp; omega
            have L1 := Lib.hid (show lessT x0 x1 x2 x3 x0 x1 y2 y3 = true by unfold lessT; simp; omega)
            have L2 := Lib.hid (show lessT x0 x1 y2 y3 x0 x1 x2 x3 = false by unfold lessT; simp; omega)
            cases l3 : lessT x0 x1 y2 y3 z0 z1 z2 z3
            · have L3 := Lib.hid l3
              clear l3 hall
              refine wp_region_calm f (by kernel_rfl) (by kernel_rfl) (calm_drew hf hg _) ?_
              repeat (go_big_quiet_step ((go_at_call 22; (first | (with_reducible exact calm_of hf hg (lessTry_is x0 x1 x2 x3 x0 x1 y2 y3 _ L1.out)) | (with_reducible exact calm_of hf hg (lessTry_is x0 x1 y2 y3 x0 x1 x2 x3 _ L2.out)) | (with_reducible exact calm_of hf hg (lessTry_is x0 x1 y2 y3 z0 z1 z2 z3 _ L3.out))))))
              refine wpQuiet_nil ?_
              rintro _ ⟨v, rfl⟩
              go_wp2_with fail
              go_meet
              exact ⟨rfl, hf v⟩
            · have L4 := Lib.hid (hall L1.out l3)
              have L3 := Lib.hid l3
              clear l3 hall
              refine wp_region_calm f (by kernel_rfl) (by kernel_rfl) (calm_drew hf hg _) ?_
              repeat (go_big_quiet_step ((go_at_call 22; (first | (with_reducible exact calm_of hf hg (lessTry_is x0 x1 x2 x3 x0 x1 y2 y3 _ L1.out)) | (with_reducible exact calm_of hf hg (lessTry_is x0 x1 y2 y3 x0 x1 x2 x3 _ L2.out)) | (with_reducible exact calm_of hf hg (lessTry_is x0 x1 y2 y3 z0 z1 z2 z3 _ L3.out)) | (with_reducible exact calm_of hf hg (lessTry_is x0 x1 x2 x3 z0 z1 z2 z3 _ L4.out))))))
              refine wpQuiet_nil ?_
              rintro _ ⟨v, rfl⟩
              go_wp2_with fail
              go_meet
              exact ⟨rfl, hf v⟩
          · subst h2
            rcases Int.lt_trichotomy x3 y3 with h3 | h3 | h3
            · have e3 : (x3 == y3) = false := by simp; omega
              have L1 := Lib.hid (show lessT x0 x1 x2 x3 x0 x1 x2 y3 = true by unfold lessT; simp; omega)
              have L2 := Lib.hid (show lessT x0 x1 x2 y3 x0 x1 x2 x3 = false by unfold lessT; simp; omega)
              cases l3 : lessT x0 x1 x2 y3 z0 z1 z2 z3
              · have L3 := Lib.hid l3
                clear l3 hall
                refine wp_region_calm f (by kernel_rfl) (by kernel_rfl) (calm_drew hf hg _) ?_
                repeat (go_big_quiet_step ((go_at_call 22; (first | (with_reducible exact calm_of hf hg (lessTry_is x0 x1 x2 x3 x0 x1 x2 y3 _ L1.out)) | (with_reducible exact calm_of hf hg (lessTry_is x0 x1 x2 y3 x0 x1 x2 x3 _ L2.out)) | (with_reducible exact calm_of hf hg (lessTry_is x0 x1 x2 y3 z0 z1 z2 z3 _ L3.out))))))
                refine wpQuiet_nil ?_
                rintro _ ⟨v, rfl⟩
                go_wp2_with fail
                go_meet
                exact ⟨rfl, hf v⟩
              · have L4 := Lib.hid (hall L1.out l3)
                have L3 := Lib.hid l3
                clear l3 hall
                refine wp_region_calm f (by kernel_rfl) (by kernel_rfl) (calm_drew hf hg _) ?_
                repeat (go_big_quiet_step ((go_at_call 22; (first | (with_reducible exact calm_of hf hg (lessTry_is x0 x1 x2 x3 x0 x1 x2 y3 _ L1.out)) | (with_reducible exact calm_of hf hg (lessTry_is x0 x1 x2 y3 x0 x1 x2 x3 _ L2.out)) | (with_reducible exact calm_of hf hg (lessTry_is x0 x1 x2 y3 z0 z1 z2 z3 _ L3.out)) | (with_reducible exact calm_of hf hg (lessTry_is x0 x1 x2 x3 z0 z1 z2 z3 _ L4.out))))))
                refine wpQuiet_nil ?_
                rintro _ ⟨v, rfl⟩
                go_wp2_with fail
                go_meet
                exact ⟨rfl, hf v⟩
            · subst h3
              have L1 := Lib.hid (show lessT x0 x1 x2 x3 x0 x1 x2 x3 = false by unfold lessT; simp)
              have L2 := Lib.hid (show lessT x0 x1 x2 x3 x0 x1 x2 x3 = false by unfold lessT; simp)
              clear hall
              refine wp_region_calm f (by kernel_rfl) (by kernel_rfl) (calm_drew hf hg _) ?_
              repeat (go_big_quiet_step ((go_at_call 22; (first | (with_reducible exact calm_of hf hg (lessTry_is x0 x1 x2 x3 x0 x1 x2 x3 _ L1.out)) | (with_reducible exact calm_of hf hg (lessTry_is x0 x1 x2 x3 x0 x1 x2 x3 _ L2.out))))))
              refine wpQuiet_nil ?_
              rintro _ ⟨v, rfl⟩
              go_wp2_with fail
              go_meet
              exact ⟨rfl, hf v⟩
            · have e3 : (x3 == y3) = false := by simp; omega
              have L1 := Lib.hid (show lessT x0 x1 x2 x3 x0 x1 x2 y3 = false by unfold lessT; simp; omega)
              have L2 := Lib.hid (show lessT x0 x1 x2 y3 x0 x1 x2 x3 = true by unfold lessT; simp; omega)
              clear hall
              refine wp_region_calm f (by kernel_rfl) (by kernel_rfl) (calm_drew hf hg _) ?_
              repeat (go_big_quiet_step ((go_at_call 22; (first | (with_reducible exact calm_of hf hg (lessTry_is x0 x1 x2 x3 x0 x1 x2 y3 _ L1.out)) | (with_reducible exact calm_of hf hg (lessTry_is x0 x1 x2 y3 x0 x1 x2 x3 _ L2.out))))))
              refine wpQuiet_nil ?_
              rintro _ ⟨v, rfl⟩
              go_wp2_with fail
              go_meet
              exact ⟨rfl, hf v⟩
          · have e2 : (x2 == y2) = false := by simp; omega
            have L1 := Lib.hid (show lessT x0 x1 x2 x3 x0 x1 y2 y3 = false by unfold lessT; simp; omega)
            have L2 := Lib.hid (show lessT x0 x1 y2 y3 x0 x1 x2 x3 = true by unfold lessT; simp; omega)
            clear hall
            refine wp_region_calm f (by kernel_rfl) (by kernel_rfl) (calm_drew hf hg _) ?_
            repeat (go_big_quiet_step ((go_at_call 22; (first | (with_reducible exact calm_of hf hg (lessTry_is x0 x1 x2 x3 x0 x1 y2 y3 _ L1.out)) | (with_reducible exact calm_of hf hg (lessTry_is x0 x1 y2 y3 x0 x1 x2 x3 _ L2.out))))))
            refine wpQuiet_nil ?_
            rintro _ ⟨v, rfl⟩
            go_wp2_with fail
            go_meet
            exact ⟨rfl, hf v⟩
        · have e1 : (x1 == y1) = false := by simp; omega
          have L1 := Lib.hid (show lessT x0 x1 x2 x3 x0 y1 y2 y3 = false by unfold lessT; simp; omega)
          have L2 := Lib.hid (show lessT x0 y1 y2 y3 x0 x1 x2 x3 = true by unfold lessT; simp; omega)
          clear hall
          refine wp_region_calm f (by kernel_rfl) (by kernel_rfl) (calm_drew hf hg _) ?_
          repeat (go_big_quiet_step ((go_at_call 22; (first | (with_reducible exact calm_of hf hg (lessTry_is x0 x1 x2 x3 x0 y1 y2 y3 _ L1.out)) | (with_reducible exact calm_of hf hg (lessTry_is x0 y1 y2 y3 x0 x1 x2 x3 _ L2.out))))))
          refine wpQuiet_nil ?_
          rintro _ ⟨v, rfl⟩
          go_wp2_with fail
          go_meet
          exact ⟨rfl, hf v⟩
      · have e0 : (x0 == y0) = false := by simp; omega
        have L1 := Lib.hid (show lessT x0 x1 x2 x3 y0 y1 y2 y3 = false by unfold lessT; simp; omega)
        have L2 := Lib.hid (show lessT y0 y1 y2 y3 x0 x1 x2 x3 = true by unfold lessT; simp; omega)
        clear hall
        refine wp_region_calm f (by kernel_rfl) (by kernel_rfl) (calm_drew hf hg _) ?_
        repeat (go_big_quiet_step ((go_at_call 22; (first | (with_reducible exact calm_of hf hg (lessTry_is x0 x1 x2 x3 y0 y1 y2 y3 _ L1.out)) | (with_reducible exact calm_of hf hg (lessTry_is y0 y1 y2 y3 x0 x1 x2 x3 _ L2.out))))))
        refine wpQuiet_nil ?_
        rintro _ ⟨v, rfl⟩
        go_wp2_with fail
        go_meet
        exact ⟨rfl, hf v⟩
    case rest =>
      obtain ⟨rfl, hb⟩ := hcut
      replace HA := below_block hb (by omega) HA
      replace HB := below_block hb (by omega) HB
      replace hsz := Nat.lt_of_lt_of_le hsz hb.size
      replace B0 := Lib.hid (B0.out.trans (hb.mono B0.out.size))
      clear hb HX HY HZ
      obtain ⟨w3, rfl⟩ : ∃ w3 : World, w3 = wc := ⟨_, rfl⟩
      have hm := max_plain aw at' bw bt
      obtain ⟨m, hmw⟩ : ∃ m, mxW aw at' bw bt = m := ⟨_, rfl⟩
      obtain ⟨k, hmt⟩ : ∃ k, mxT aw at' bw bt = k := ⟨_, rfl⟩
      rw [hmw, hmt] at hm
      have kA := block_cells HA
      have kB := block_cells HB
      have MW := Lib.hid hmw
      have MT := Lib.hid hmt
      clear hmw hmt
      go_wp2_with fail
      refine (max_any _ _ _ _ _).mono ?_; rintro r w4 ⟨rfl, hb⟩; rw [MW.out, MT.out]
      replace HA := below_block hb (by omega) HA
      replace HB := below_block hb (by omega) HB
      replace hsz := Nat.lt_of_lt_of_le hsz hb.size
      replace B0 := Lib.hid (B0.out.trans (hb.mono B0.out.size))
      clear hb kA kB MW MT
      have HM := heap_last w4 (.cells #[.int .i64 m, .int .i64 k] 40)
      replace HA := heap_prev (.cells #[.int .i64 m, .int .i64 k] 40) HA
      replace HB := heap_prev (.cells #[.int .i64 m, .int .i64 k] 40) HB
      have kA := block_cells HA
      have kB := block_cells HB
      have kM := block_cells HM
      obtain ⟨hm0, l1, l2⟩ := hm
      have L1 := Lib.hid l1
      have L2 := Lib.hid l2
      clear l1 l2
      rcases hm0 with ⟨rfl, rfl⟩ | ⟨g1, rfl, rfl⟩
      · go_wp2_with fail
        refine (less_is _ _ _ _ _ L1.out).mono ?_; rintro r w5 ⟨rfl, hb⟩
        simp only [World.size_alloc] at hb
        have B5 := Lib.hid ((B0.out.alloc B0.out.size (.cells #[.int .i64 m, .int .i64 k] 40)).trans (hb.mono (by have := B0.out.size; omega)))
        replace HB := below_block hb (by omega) HB
        replace HM := below_block hb (by omega) HM
        clear hb kA kB kM
        have kB := block_cells HB
        have kM := block_cells HM
        go_wp2_with fail
        refine (less_is _ _ _ _ _ L2.out).mono ?_; rintro r w6 ⟨rfl, hb⟩
        replace B5 := Lib.hid (B5.out.trans (hb.mono B5.out.size))
        clear hb kB kM
        go_wp2_with fail
        go_ret
        exact ⟨rfl, B5.out⟩
      · rcases (show aw < m ∨ (aw = m ∧ at' < k) by unfold lessS at g1; simp at g1; omega) with h | ⟨rfl, h⟩
        · have e1 : (m == aw) = false := by simp; omega
          go_wp2_with fail
          refine (less_is _ _ _ _ _ L1.out).mono ?_; rintro r w5 ⟨rfl, hb⟩
          simp only [World.size_alloc] at hb
          have B5 := Lib.hid ((B0.out.alloc B0.out.size (.cells #[.int .i64 m, .int .i64 k] 40)).trans (hb.mono (by have := B0.out.size; omega)))
          replace HB := below_block hb (by omega) HB
          replace HM := below_block hb (by omega) HM
          clear hb kA kB kM
          have kB := block_cells HB
          have kM := block_cells HM
          go_wp2_with fail
          refine (less_is _ _ _ _ _ L2.out).mono ?_; rintro r w6 ⟨rfl, hb⟩
          replace B5 := Lib.hid (B5.out.trans (hb.mono B5.out.size))
          clear hb kB kM
          go_wp2_with fail
          go_ret
          exact ⟨rfl, B5.out⟩
        · have e1 : (k == at') = false := by simp; omega
          go_wp2_with fail
          refine (less_is _ _ _ _ _ L1.out).mono ?_; rintro r w5 ⟨rfl, hb⟩
          simp only [World.size_alloc] at hb
          have B5 := Lib.hid ((B0.out.alloc B0.out.size (.cells #[.int .i64 aw, .int .i64 k] 40)).trans (hb.mono (by have := B0.out.size; omega)))
          replace HB := below_block hb (by omega) HB
          replace HM := below_block hb (by omega) HM
          clear hb kA kB kM
          have kB := block_cells HB
          have kM := block_cells HM
          go_wp2_with fail
          refine (less_is _ _ _ _ _ L2.out).mono ?_; rintro r w6 ⟨rfl, hb⟩
          replace B5 := Lib.hid (B5.out.trans (hb.mono B5.out.size))
          clear hb kB kM
          go_wp2_with fail
          go_ret
          exact ⟨rfl, B5.out⟩


set_option maxRecDepth 100000 in
theorem line_lifted (os : Os) (started : os.Started) (H : Type) (enc : TypeId × Value → H) :
    ReturnsInHanded {} Try.checked os 7 .any (Rows.stampLineSpec.pre6 enc Try.prog Try.f7 Rows.stampLineRow.domain false) (Rows.stampLineSpec.post enc Try.prog Try.f7 false true false false) := by
  refine lift_law (C := Try.checked) (tb := 4) (by kernel_rfl) started (by kernel_rfl) Try.func7 (ChangeSpec.witness6 (enc := enc) (C := Try.checked) false ⟨#[], #[.agg #[.int .i64 0, .int .i64 0], .agg #[.int .i64 0, .int .i64 0], .agg #[.int .i64 0, .int .i64 0], .agg #[.int .i64 0, .int .i64 0, .int .i64 0, .int .i64 0], .agg #[.int .i64 0, .int .i64 0, .int .i64 0, .int .i64 0], .agg #[.int .i64 0, .int .i64 0, .int .i64 0, .int .i64 0]], []⟩ 8 (by kernel_rfl) (by kernel_rfl) (by kernel_rfl) (by kernel_rfl)) (by kernel_rfl) (by kernel_rfl) rfl Try.underlying4 rfl ?_ ?_
  · intro ds h
    match ds, h with
    | [_, _, _, _, _, _], _ => rfl
  · intro W base args ds ps hval0 hA0 hlt hsz
    have hval : ∀ (j : Nat) t v, Try.f7.params[j]? = some t → args[j]? = some v → Value.okWide Try.prog W .any base t v := hval0
    have hA : DataW.TrodAll enc Try.prog W 0 (fun _ => true) true Try.f7.params.toList args.toList ds ps := hA0
    rw [Try.params7] at hA hval
    obtain ⟨v0, vs0, d0, ds0, p0, q0, hargs, rfl, rfl, h0, r0⟩ := trodAll_cons hA
    obtain ⟨v1, vs1, d1, ds1, p1, q1, rfl, rfl, rfl, h1, r1⟩ := trodAll_cons r0
    obtain ⟨v2, vs2, d2, ds2, p2, q2, rfl, rfl, rfl, h2, r2⟩ := trodAll_cons r1
    obtain ⟨v3, vs3, d3, ds3, p3, q3, rfl, rfl, rfl, h3, r3⟩ := trodAll_cons r2
    obtain ⟨v4, vs4, d4, ds4, p4, q4, rfl, rfl, rfl, h4, r4⟩ := trodAll_cons r3
    obtain ⟨v5, vs5, d5, ds5, p5, q5, rfl, rfl, rfl, h5, r5⟩ := trodAll_cons r4
    obtain ⟨rfl, rfl, rfl⟩ := trodAll_nil r5
    obtain ⟨args⟩ := args; obtain rfl : args = _ := hargs
    obtain ⟨aw, at', rfl, -⟩ := open_stamp (hval 0 40 v0 rfl rfl) h0
    obtain ⟨bw, bt, rfl, -⟩ := open_stamp (hval 1 40 v1 rfl rfl) h1
    obtain ⟨cw, ct, rfl, -⟩ := open_stamp (hval 2 40 v2 rfl rfl) h2
    obtain ⟨x0, x1, x2, x3, rfl⟩ := open_try (hval 3 23 v3 rfl rfl) h3
    obtain ⟨y0, y1, y2, y3, rfl⟩ := open_try (hval 4 23 v4 rfl rfl) h4
    obtain ⟨z0, z1, z2, z3, rfl⟩ := open_try (hval 5 23 v5 rfl rfl) h5
    exact line_walk aw at' bw bt cw ct x0 x1 x2 x3 y0 y1 y2 y3 z0 z1 z2 z3 W

theorem line_holds : Rows.StampLineSaid :=
  OpenClaim.holds_of_wide 7 Try.f7 rfl rfl rfl rfl rfl rfl rfl ⟨rfl, rfl, rfl, rfl, rfl⟩ rfl rfl rfl rfl rfl (by kernel_rfl) Try.func7 (by kernel_rfl)
    (of_decide_eq_true (by kernel_rfl)) (by unfold Func.isWrapper; first | (rw [if_pos (by decide +kernel)]; kernel_rfl) | (rw [if_neg (by decide +kernel)]; exact ⟨rfl, rfl⟩))
    (fun os started H enc _ => line_lifted os started H enc)
#print axioms line_holds

end Go.Proofs.Ytmdeegbbclcloaa
