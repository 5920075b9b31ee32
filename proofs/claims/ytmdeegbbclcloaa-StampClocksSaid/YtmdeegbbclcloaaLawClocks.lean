/- StampClocks: for any clock, any readings and any moment: what it reads, its limit, and that it never goes back, as the document has it; no condition. -/
import Derived.Test.YtmdeegbbclcloaaBegun6
import Derived.Test.YtmdeegbbclcloaaOpenStamp
import Derived.Test.YtmdeegbbclcloaaSlices
import Derived.Test.YtmdeegbbclcloaaRows
namespace Go.Proofs.Ytmdeegbbclcloaa
open Go.ChangeShapes Go.WideShapes Go.ChangeAt Go.RowKit

theorem readI_ge (c r : Int) : c ≤ readI c r ∧ readI c r ≤ max c 1125899906842624 := by unfold readI; omega
/-- A store into a block that is known whole. -/
theorem block_set {w : World} {n : Nat} {cs : Array Value} {t : TypeId} {m : Nat × Nat} (h : w.heap[n]? = some (.cells cs t m)) (j : Nat) (v : Value) : (w.setCell ⟨n, j, none⟩ v).heap[n]? = some (.cells (cs.setIfInBounds j v) t m) := by
  simp [World.setCell, Array.getElem?_modify, h]
theorem block_keep {w : World} {n k : Nat} {o : Obj} (h : w.heap[n]? = some o) (hk : k ≠ n) (j : Nat) (v : Value) : (w.setCell ⟨k, j, none⟩ v).heap[n]? = some o := by
  simp [World.setCell, Array.getElem?_modify, h, hk]
def Clk (p : Nat) (t : TypeId) (c o : Int) (w : World) : Prop := w.heap[p]? = some (.cells #[.int .i64 c, .int .i64 o] t (0, 0))
theorem clk_two {w : World} {p q : Nat} {t t' : TypeId} {c o : Int} (hp : Clk p t c o w) (hq : Clk q t' c o w) (hpq : p ≠ q) (x : Int) :
    let W := (((w.setCell ⟨p, 0, none⟩ (.int .i64 x)).setCell ⟨p, 1, none⟩ (.int .i64 o)).setCell ⟨q, 0, none⟩ (.int .i64 x)).setCell ⟨q, 1, none⟩ (.int .i64 o)
    Clk p t x o W ∧ Clk q t' x o W :=
  ⟨block_keep (block_keep (block_set (block_set hp 0 _) 1 _) hpq.symm _ _) hpq.symm _ _, block_set (block_set (block_keep (block_keep hq hpq _ _) hpq _ _) 0 _) 1 _⟩

set_option maxRecDepth 100000 in
set_option maxHeartbeats 8000000 in
theorem clocks_walk (wall offset at' : Int) (rv : Value) (rs : List Int) (w : World) (w0 : -9223372036854775808 ≤ wall) (w1 : wall ≤ 9223372036854775807) (o0 : -9223372036854775808 ≤ offset) (o1 : offset ≤ 9223372036854775807)
    (hs : Sl w.heap.size w rv 1 rs.length (rs.map (.int .i64))) :
    Calls Try.prog 4 #[.int .i64 wall, .int .i64 offset, rv, .int .i64 at'] w fun r w' => r = .returned (.bool true) ∧ Below w.heap.size w w' := by
  obtain ⟨a, cap, rfl, h1, h2, -, h3⟩ := hs.form
  unfold maxLen at h2
  have H3 := Lib.hid h3
  clear hs h3
  by_cases hn : 100 < rs.length
  · go_enter Try.func4, Try.ntmps4
    go_wp2_with fail
    refine (begun_any _).mono ?_; rintro r w1 ⟨rfl, hb⟩
    go_wp2_with fail
    go_ret
    exact ⟨rfl, hb⟩
  · obtain ⟨n, hn'⟩ : ∃ n, n = rs.length := ⟨_, rfl⟩
    rw [← hn'] at h1 hn ⊢
    rw [← hn'] at H3
    have HN := Lib.hid hn'
    clear hn'
    go_enter Try.func4, Try.ntmps4
    go_wp2_with fail
    refine (begun_any _).mono ?_; rintro r w2 ⟨rfl, hb⟩
    have hsz := hb.size
    go_wp2_with fail
    go_loopw [11] (fun i wr => ∃ (k : Nat) (c : Int), k ≤ n + 1 ∧ i = .int .i64 k ∧ -9223372036854775808 ≤ c ∧ c ≤ 9223372036854775807 ∧ Clk w2.heap.size 31 c offset wr ∧ Clk (w2.heap.size + 1) 32 c offset wr ∧ Below w.heap.size w wr) (fun i _ => n + 1 - (intOf i).toNat)
    case atStart => exact ⟨0, wall, by omega, rfl, w0, w1, (two_blocks w2 _ _).1, (two_blocks w2 _ _).2, hb.trans ((below_two w2 _ _).mono hsz)⟩
    case round =>
      obtain ⟨k, c, hk, rfl, c0, c1, HP, HQ, hb'⟩ := hrel
      obtain ⟨wk, rfl⟩ : ∃ wk : World, wk = wr := ⟨_, rfl⟩
      have BK := Lib.hid hb'
      have hsk := hb'.size
      clear hb hb'
      by_cases hkn : k ≤ n
      · obtain ⟨U, f, hU, hf, hg⟩ := calm_class (wk); obtain ⟨u0, hu0⟩ := hg _ (Below.refl _ _); rw [hu0]; clear hu0
        have hP := fun u => calm_heap hf HP u
        have hQ := fun u => calm_heap hf HQ u
        have kP := fun u => block_cells (hP u)
        have kQ := fun u => block_cells (hQ u)
        have fP := fun u => block_free (hP u)
        have fQ := fun u => block_free (hQ u)
        have HH := Lib.hid (And.intro hP hQ)
        clear HP HQ hP hQ
        go_wp2_with fail
        refine (lim_any _ _ _ c0 c1 o0 o1).mono ?_; rintro r w' ⟨rfl, hb⟩; obtain ⟨u1, rfl⟩ := calm_step hf hg hb; clear hb
        go_wp2_with fail
        refine (refLim_any _ _ _ c0 c1 o0 o1).mono ?_; rintro r w' ⟨rfl, hb⟩; obtain ⟨u2, rfl⟩ := calm_step hf hg hb; clear hb
        go_wp2_with fail
        refine wp_region_calm f (by kernel_rfl) (by kernel_rfl) (calm_drew hf hg _) ?_
        repeat (go_big_quiet_step ((first | (go_at_call 15; exact calm_of hf hg (ripe_any _ _ _ _)))))
        refine wpQuiet_nil ?_
        rintro _ ⟨u3, rfl⟩
        by_cases hlt : k < n
        · obtain ⟨x, hx⟩ : ∃ x, rs[k]? = some x := ⟨rs[k]'(by have := HN.out; omega), List.getElem?_eq_getElem _⟩
          obtain ⟨g, o, rfl, hgl, hcell⟩ := H3.out k hlt
          have kR : ∀ u, (f u).cell? ⟨g, o + k, none⟩ = some (.int .i64 x) := fun u => by
            rw [(hf u).cell (by show g < wk.heap.size; omega), BK.out.cell (by show g < w.heap.size; exact hgl), hcell, List.getElem?_map, hx]; rfl
          obtain ⟨g1, g2⟩ := readI_ge c x
          obtain ⟨y, hy⟩ : ∃ y, readI c x = y := ⟨_, rfl⟩
          clear hcell hx
          go_wp2_with fail
          refine wp_region_calm_tail f 12 (by kernel_rfl) (by kernel_rfl) (calm_drew hf hg _) ?_
          simp only [List.take_succ_cons, List.take_zero, List.drop_succ_cons, List.drop_zero]
          repeat (go_big_quiet_step ((first | (go_at_call 16; exact calm_of hf hg (read_any _ _ _ _)) | (go_at_call 17; exact calm_of hf hg (refRead_any _ _ _ _)))))
          refine wpQuiet_nil ?_
          intro u4
          rw [hy] at g1 g2 ⊢
          have HW := Lib.hid (clk_two (HH.out.1 u4) (HH.out.2 u4) (by omega) y)
          have BEL := Lib.hid (((((BK.out.trans ((hf u4).mono hsk)).setCell (p := ⟨w2.heap.size, 0, none⟩) hsz (.int .i64 y)).setCell (p := ⟨w2.heap.size, 1, none⟩) hsz (.int .i64 offset)).setCell (p := ⟨w2.heap.size + 1, 0, none⟩) (by show w.heap.size ≤ w2.heap.size + 1; omega) (.int .i64 y)).setCell (p := ⟨w2.heap.size + 1, 1, none⟩) (by show w.heap.size ≤ w2.heap.size + 1; omega) (.int .i64 offset))
          have HY : ¬ y < c := by omega
          clear hy
          go_wp2_with fail
          go_roundw
          case rel => exact ⟨k + 1, y, by omega, by go_num, by omega, by omega, HW.out.1, HW.out.2, BEL.out⟩
          case measure => simp [intOf]; omega
        · go_wp2_with fail
          go_roundw
          case rel => exact ⟨k + 1, c, by omega, by go_num, c0, c1, HH.out.1 _, HH.out.2 _, BK.out.trans ((hf _).mono hsk)⟩
          case measure => simp [intOf]; omega
      · go_wp2_with fail
        go_ret
        exact ⟨rfl, BK.out⟩


set_option maxRecDepth 100000 in
theorem clocks_lifted (os : Os) (started : os.Started) (H : Type) (enc : TypeId × Value → H) :
    ReturnsInHanded {} Try.checked os 4 .any (Rows.stampClocksSpec.pre6 enc Try.prog Try.f4 Rows.stampClocksRow.domain false) (Rows.stampClocksSpec.post enc Try.prog Try.f4 false true false false) := by
  refine lift_law (C := Try.checked) (tb := 4) (by kernel_rfl) started (by kernel_rfl) Try.func4 (ChangeSpec.witness6 (enc := enc) (C := Try.checked) false ⟨#[], #[.int .i64 0, .int .i64 0, .slice none 0 0, .int .i64 0], []⟩ 8 (by kernel_rfl) (by kernel_rfl) (by kernel_rfl) (by kernel_rfl)) (by kernel_rfl) (by kernel_rfl) rfl Try.underlying4 rfl ?_ ?_
  · intro ds h
    match ds, h with
    | [_, _, _, _], _ => rfl
  · intro W base args ds ps hval0 hA0 hlt hsz
    have hval : ∀ (j : Nat) t v, Try.f4.params[j]? = some t → args[j]? = some v → Value.okWide Try.prog W .any base t v := hval0
    have hA : DataW.TrodAll enc Try.prog W 0 (fun _ => true) true Try.f4.params.toList args.toList ds ps := hA0
    rw [Try.params4] at hA hval
    obtain ⟨v0, v1, v2, v3, d0, d1, d2, d3, p0, p1, p2, p3, rfl, rfl, rfl, h0, h1, h2, h3⟩ := trodAll_four hA
    obtain ⟨wall, rfl, rfl, rfl, wwall⟩ := open_int Try.underlying2 (hval 0 2 v0 rfl rfl) h0
    obtain ⟨offset, rfl, rfl, rfl, woffset⟩ := open_int Try.underlying2 (hval 1 2 v1 rfl rfl) h1
    obtain ⟨mm, rfl, rfl, rfl, wmm⟩ := open_int Try.underlying2 (hval 3 2 v3 rfl rfl) h3
    obtain ⟨rs, hs, -⟩ := open_nums Try.underlying29 Try.underlying2 (by kernel_rfl) (hval 2 29 v2 rfl rfl) h2
    exact clocks_walk wall offset mm v2 rs W (wf_i64 wwall).1 (wf_i64 wwall).2 (wf_i64 woffset).1 (wf_i64 woffset).2 hs

theorem clocks_holds : Rows.StampClocksSaid :=
  OpenClaim.holds_of_wide 4 Try.f4 rfl rfl rfl rfl rfl rfl rfl ⟨rfl, rfl, rfl, rfl, rfl⟩ rfl rfl rfl rfl rfl (by kernel_rfl) Try.func4 (by kernel_rfl)
    (of_decide_eq_true (by kernel_rfl)) (by unfold Func.isWrapper; first | (rw [if_pos (by decide +kernel)]; kernel_rfl) | (rw [if_neg (by decide +kernel)]; exact ⟨rfl, rfl⟩))
    (fun os started H enc _ => clocks_lifted os started H enc)
#print axioms clocks_holds

end Go.Proofs.Ytmdeegbbclcloaa
