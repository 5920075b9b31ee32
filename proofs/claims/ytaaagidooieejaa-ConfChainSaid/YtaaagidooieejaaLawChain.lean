/- ConfChain: along any chain of at most 10 changes whatever elects in a joint meets whatever committed ahead of it, and behind it, and witnesses never change; no condition (a longer chain is let through). -/
import Derived.Test.YtaaagidooieejaaBegun10
import Derived.Test.YtaaagidooieejaaOpenCfgs
import Derived.Test.YtaaagidooieejaaCalm
import Derived.Test.YtaaagidooieejaaHeld
import Derived.Deep.DeepCutAuto
import Derived.Test.YtaaagidooieejaaRows
namespace Go.Proofs.Ytaaagidooieejaa
open Go.ChangeShapes Go.WideShapes Go.ChangeAt Go.RowKit

section
variable (jov jox jol joe jok jnv jnx jnl jne jnk : Int) (w : World)
theorem confFinal_two : Calls Try.prog 22 #[.agg #[.int .u16 jov, .int .u16 jox, .int .u16 jol, .int .i64 joe, .int .i64 jok, .int .u16 jnv, .int .u16 jnx, .int .u16 jnl, .int .i64 jne, .int .i64 jnk, .bool true]] w fun r w' => r = .returned (.agg #[.int .u16 jnv, .int .u16 jnx, .int .u16 jnl, .int .i64 jne, .int .i64 jnk, .int .u16 0, .int .u16 0, .int .u16 0, .int .i64 0, .int .i64 0, .bool false]) ∧ Below w.heap.size w w' := confFinal_any jov jox jol joe jok jnv jnx jnl jne jnk true w
theorem confMayJoint_is (jt : Bool) {b : Bool} (h : Hid (mayJ jov jox jol joe jok jnv jnx jnl jne jnk jt = b)) : Calls Try.prog 26 #[.agg #[.int .u16 jov, .int .u16 jox, .int .u16 jol, .int .i64 joe, .int .i64 jok, .int .u16 jnv, .int .u16 jnx, .int .u16 jnl, .int .i64 jne, .int .i64 jnk, .bool jt]] w fun r w' => r = .returned (.bool b) ∧ Below w.heap.size w w' := by
  have := confMayJoint_any jov jox jol joe jok jnv jnx jnl jne jnk jt w
  rw [h.out] at this; exact this
theorem confMay_is {b : Bool} (h : Hid (mayC jov jox jol joe jok = b)) : Calls Try.prog 18 #[.agg #[.int .u16 jov, .int .u16 jox, .int .u16 jol, .int .i64 joe, .int .i64 jok]] w fun r w' => r = .returned (.bool b) ∧ Below w.heap.size w w' := by
  have := confMay_any jov jox jol joe jok w
  rw [h.out] at this; exact this
theorem confChange_no' (jt : Bool) (tv tx tl te tk : Int) {E : Int} (h : Hid (changeE jov jox jol jt tv tx tl te tk = E)) (h0 : E ≠ 0) :
    Calls Try.prog 20 #[.agg #[.int .u16 jov, .int .u16 jox, .int .u16 jol, .int .i64 joe, .int .i64 jok, .int .u16 jnv, .int .u16 jnx, .int .u16 jnl, .int .i64 jne, .int .i64 jnk, .bool jt], .agg #[.int .u16 tv, .int .u16 tx, .int .u16 tl, .int .i64 te, .int .i64 tk]] w fun r w' => r = .returned (.tuple #[.agg #[.int .u16 0, .int .u16 0, .int .u16 0, .int .i64 0, .int .i64 0, .int .u16 0, .int .u16 0, .int .u16 0, .int .i64 0, .int .i64 0, .bool false], .int .i64 E]) ∧ Below w.heap.size w w' := by
  have := confChange_no jov jox jol joe jok jnv jnx jnl jne jnk jt tv tx tl te tk w (by rw [h.out]; exact h0)
  rw [h.out] at this; exact this
theorem refMeet9_is (a b : Int) (a0 : 0 ≤ a) (a1 : a ≤ 65535) (b0 : 0 ≤ b) (b1 : b ≤ 65535) {M : Int} (h : Hid (meetB a b = M)) : Calls Try.prog 29 #[.int .u16 a, .int .u16 b] w fun e w' => e = .returned (.int .u16 M) ∧ w = w' := by
  have := refMeet_any a b w a0 a1 b0 b1
  rw [h.out] at this; exact this
end
theorem cells_setCell {w : World} {b o : Nat} {cs : Array Value} {t : TypeId} {u : Value} (h : w.heap[b]? = some (.cells cs t (0, 0))) : (w.setCell ⟨b, o, none⟩ u).heap[b]? = some (.cells (cs.setIfInBounds o u) t (0, 0)) := by
  have hlt := block_lt h
  have h' : w.heap[b] = .cells cs t (0, 0) := by simpa [Array.getElem?_eq_getElem hlt] using h
  show (w.heap.modify b _)[b]? = _
  rw [Array.getElem?_eq_getElem (by simpa using hlt), Array.getElem_modify_self, h']
  rfl
theorem set11 {w : World} {d : Nat} {t : TypeId} {y0 y1 y2 y3 y4 y5 y6 y7 y8 y9 y10 : Value} (h : w.heap[d]? = some (.cells #[y0, y1, y2, y3, y4, y5, y6, y7, y8, y9, y10] t (0, 0))) (v0 v1 v2 v3 v4 v5 v6 v7 v8 v9 v10 : Value) :
    (((((((((((w.setCell ⟨d, 0, none⟩ v0).setCell ⟨d, 1, none⟩ v1).setCell ⟨d, 2, none⟩ v2).setCell ⟨d, 3, none⟩ v3).setCell ⟨d, 4, none⟩ v4).setCell ⟨d, 5, none⟩ v5).setCell ⟨d, 6, none⟩ v6).setCell ⟨d, 7, none⟩ v7).setCell ⟨d, 8, none⟩ v8).setCell ⟨d, 9, none⟩ v9).setCell ⟨d, 10, none⟩ v10).heap[d]? = some (.cells #[v0, v1, v2, v3, v4, v5, v6, v7, v8, v9, v10] t (0, 0)) := by
  have := (cells_setCell (o := 10) (u := v10) (cells_setCell (o := 9) (u := v9) (cells_setCell (o := 8) (u := v8) (cells_setCell (o := 7) (u := v7) (cells_setCell (o := 6) (u := v6) (cells_setCell (o := 5) (u := v5) (cells_setCell (o := 4) (u := v4) (cells_setCell (o := 3) (u := v3) (cells_setCell (o := 2) (u := v2) (cells_setCell (o := 1) (u := v1) (cells_setCell (o := 0) (u := v0) h)))))))))))
  simpa using this
theorem set11_far {w : World} {d b : Nat} {o : Obj} (h : w.heap[b]? = some o) (hne : b ≠ d) (v0 v1 v2 v3 v4 v5 v6 v7 v8 v9 v10 : Value) : (((((((((((w.setCell ⟨d, 0, none⟩ v0).setCell ⟨d, 1, none⟩ v1).setCell ⟨d, 2, none⟩ v2).setCell ⟨d, 3, none⟩ v3).setCell ⟨d, 4, none⟩ v4).setCell ⟨d, 5, none⟩ v5).setCell ⟨d, 6, none⟩ v6).setCell ⟨d, 7, none⟩ v7).setCell ⟨d, 8, none⟩ v8).setCell ⟨d, 9, none⟩ v9).setCell ⟨d, 10, none⟩ v10).heap[b]? = some o := by
  have k := fun (w : World) (j : Nat) (v : Value) => (Below.heap_setCell w ⟨d, j, none⟩ v b (by exact hne) : (w.setCell ⟨d, j, none⟩ v).heap[b]? = w.heap[b]?)
  rw [k, k, k, k, k, k, k, k, k, k, k]; exact h
theorem set11_below {B : Nat} {a w : World} {d : Nat} (h : Below B a w) (hd : B ≤ d) (v0 v1 v2 v3 v4 v5 v6 v7 v8 v9 v10 : Value) : Below B a (((((((((((w.setCell ⟨d, 0, none⟩ v0).setCell ⟨d, 1, none⟩ v1).setCell ⟨d, 2, none⟩ v2).setCell ⟨d, 3, none⟩ v3).setCell ⟨d, 4, none⟩ v4).setCell ⟨d, 5, none⟩ v5).setCell ⟨d, 6, none⟩ v6).setCell ⟨d, 7, none⟩ v7).setCell ⟨d, 8, none⟩ v8).setCell ⟨d, 9, none⟩ v9).setCell ⟨d, 10, none⟩ v10) := by
  repeat (refine Below.setCell ?_ hd _)
  exact h
theorem bstep {W0 W1 W2 : World} (h : Below W0.heap.size W0 W1) (k : Below W1.heap.size W1 W2) : Below W0.heap.size W0 W2 := h.trans (k.mono h.size)

set_option maxRecDepth 100000 in
set_option maxHeartbeats 8000000 in
theorem chain_walk (cv cx cl ce ck : Int) (ts : List Cfg) (p : Option Addr) (cap : Nat) (a b : Int) (ft : ∀ j, (hj : j < ts.length) → FitC ts[j].v ts[j].x ts[j].l) (hts : ts.length ≤ maxLen)
    (a0 : 0 ≤ a) (a1 : a ≤ 65535) (b0 : 0 ≤ b) (b1 : b ≤ 65535) (w : World) (hc : CfgsAt w p ts) :
    Calls Try.prog 8 #[.agg #[.int .u16 cv, .int .u16 cx, .int .u16 cl, .int .i64 ce, .int .i64 ck], .slice p ts.length cap, .int .u16 a, .int .u16 b] w fun r w' => r = .returned (.bool true) ∧ Below w.heap.size w w' := by
  unfold maxLen at hts
  have HC0 := Lib.hid hc
  have HFT := Lib.hid ft
  clear hc ft
  by_cases hl : 10 < ts.length
  · go_enter Try.func8, Try.ntmps8
    go_wp2_with fail
    refine (begun_any _).mono ?_; rintro r w1 ⟨rfl, hb⟩
    replace hb := box_first hb
    go_wp2_with fail
    go_ret
    exact ⟨rfl, box_out hb⟩
  · cases hm : mayC cv cx cl ce ck
    · have HM := Lib.hid hm; clear hm
      go_enter Try.func8, Try.ntmps8
      go_wp2_with fail
      refine (begun_any _).mono ?_; rintro r w1 ⟨rfl, hb⟩
      replace hb := box_first hb
      have HA := below_block hb (by omega) (heap_last w _)
      have kA := block_cells HA
      go_wp2_with fail
      refine (confMay_is _ _ _ _ _ _ HM).mono ?_; rintro r w2 ⟨rfl, hb2⟩
      replace hb2 := box_step hb hb2
      clear hb
      go_wp2_with fail
      go_ret
      exact ⟨rfl, box_out hb2⟩
    · have HM := Lib.hid hm; clear hm
      go_enter Try.func8, Try.ntmps8
      go_wp2_with fail
      refine (begun_any _).mono ?_; rintro r w1 ⟨rfl, hb⟩
      replace hb := box_first hb
      have HA := below_block hb (by omega) (heap_last w _)
      have kA := block_cells HA
      go_wp2_with fail
      refine (confMay_is _ _ _ _ _ _ HM).mono ?_; rintro r w2 ⟨rfl, hb2⟩
      replace HA := below_block hb2 (block_lt HA) HA
      clear kA
      have kA := block_cells HA
      replace hb2 := box_step hb hb2
      clear hb
      go_wp2_with fail
      have HA3 := heap_prev (.cells #[.int .u16 cv, .int .u16 cx, .int .u16 cl, .int .i64 ce, .int .i64 ck, .int .u16 0, .int .u16 0, .int .u16 0, .int .i64 0, .int .i64 0, .bool false] 38) HA
      have HJ3 := heap_last w2 (.cells #[.int .u16 cv, .int .u16 cx, .int .u16 cl, .int .i64 ce, .int .i64 ck, .int .u16 0, .int .u16 0, .int .u16 0, .int .i64 0, .int .i64 0, .bool false] 38)
      have HB3 : Below w.heap.size w (w2.alloc (.cells #[.int .u16 cv, .int .u16 cx, .int .u16 cl, .int .i64 ce, .int .i64 ck, .int .u16 0, .int .u16 0, .int .u16 0, .int .i64 0, .int .i64 0, .bool false] 38)) := (box_out hb2).alloc (box_out hb2).size _
      have hGw : w.heap.size < w2.heap.size := by have := hb2.size; simp at this; omega
      obtain ⟨G, hG⟩ : ∃ G, w2.heap.size = G := ⟨_, rfl⟩
      rw [hG] at HJ3 hGw ⊢
      obtain ⟨W, hW⟩ : ∃ W, w2.alloc (.cells #[.int .u16 cv, .int .u16 cx, .int .u16 cl, .int .i64 ce, .int .i64 ck, .int .u16 0, .int .u16 0, .int .u16 0, .int .i64 0, .int .i64 0, .bool false] 38) = W := ⟨_, rfl⟩
      rw [hW] at HA3 HJ3 HB3 ⊢
      have HA := Lib.hid HA3; have HJ := Lib.hid HJ3; have HB := Lib.hid HB3
      clear HA3 HJ3 HB3 hW hG kA hb2
      go_loopw [10] (fun i wr => ∃ (k : Nat) (y : Cfg), k ≤ ts.length ∧ i = .int .i64 k ∧ Hid (mayC y.v y.x y.l y.e y.k = true) ∧ Hid (y.x = cx) ∧ Hid (wr.heap[w.heap.size]? = some (.cells #[.int .u16 cv, .int .u16 cx, .int .u16 cl, .int .i64 ce, .int .i64 ck] 33 (0, 0))) ∧ Hid (wr.heap[G]? = some (.cells #[.int .u16 y.v, .int .u16 y.x, .int .u16 y.l, .int .i64 y.e, .int .i64 y.k, .int .u16 0, .int .u16 0, .int .u16 0, .int .i64 0, .int .i64 0, .bool false] 38 (0, 0))) ∧ Hid (Below w.heap.size w wr)) (fun i _ => ts.length - (intOf i).toNat)
      case atStart => exact ⟨0, ⟨cv, cx, cl, ce, ck⟩, by omega, rfl, HM, rfl, HA, HJ, HB⟩
      case round =>
        clear HA HJ HB HM
        obtain ⟨k, ⟨jov, jox, jol, joe, jok⟩, hk, rfl, hm, hx, HA, HJ, HB⟩ := hrel
        simp only at hm hx HJ
        obtain ⟨W, rfl⟩ : ∃ W : World, W = wr := ⟨_, rfl⟩
        by_cases hlt : k < ts.length
        · obtain ⟨g, o, rfl, hg, c0, c1, c2, c3, c4⟩ := HC0.out.keep HB.out (Nat.le_refl _) k hlt
          have hgw : g < w.heap.size := by obtain ⟨g', o', e, hg', -⟩ := HC0.out k hlt; cases e; exact hg'
          have hft := HFT.out k hlt
          obtain ⟨⟨tv, tx, tl, te, tk⟩, hy⟩ : ∃ y, ts[k] = y := ⟨_, rfl⟩
          rw [hy] at c0 c1 c2 c3 c4 hft
          simp only at c0 c1 c2 c3 c4 hft
          clear hy
          have HFT1 := Lib.hid hft
          clear hft
          obtain ⟨E, hE⟩ : ∃ E, changeE jov jox jol false tv tx tl te tk = E := ⟨_, rfl⟩
          have hGs := block_lt HJ.out
          have hWs := block_lt HA.out
          have hsz := HB.out.size
          have h0 : Below W.heap.size W W.drew := (Below.refl _ _).drew
          have HC1 := Lib.hid (And.intro c0 (And.intro c1 (And.intro c2 (And.intro c3 c4))))
          have HK : Hid (∀ w', Below W.heap.size W w' → Below W.heap.size W w' ∧ (∀ j, w'.cell? ⟨G, j, none⟩ = #[.int .u16 jov, .int .u16 jox, .int .u16 jol, .int .i64 joe, .int .i64 jok, Value.int .u16 0, .int .u16 0, .int .u16 0, .int .i64 0, .int .i64 0, .bool false][j]?) ∧ w'.cell? ⟨g, o + k * 5, none⟩ = some (.int .u16 tv) ∧ w'.cell? ⟨g, o + k * 5 + 1, none⟩ = some (.int .u16 tx) ∧ w'.cell? ⟨g, o + k * 5 + 2, none⟩ = some (.int .u16 tl) ∧ w'.cell? ⟨g, o + k * 5 + 3, none⟩ = some (.int .i64 te) ∧ w'.cell? ⟨g, o + k * 5 + 4, none⟩ = some (.int .i64 tk)) := fun w' h => ⟨h, block_cells (below_block h hGs HJ.out), (h.cell (by show g < _; omega)).trans HC1.out.1, (h.cell (by show g < _; omega)).trans HC1.out.2.1, (h.cell (by show g < _; omega)).trans HC1.out.2.2.1, (h.cell (by show g < _; omega)).trans HC1.out.2.2.2.1, (h.cell (by show g < _; omega)).trans HC1.out.2.2.2.2⟩
          clear c0 c1 c2 c3 c4
          by_cases hE0 : E = 0
          · subst hE0
            have HE := Lib.hid hE
            obtain ⟨-, ht, htx, -⟩ := change_zero _ _ _ _ _ _ _ _ _ hE
            have HT := Lib.hid ht; have HTX := Lib.hid htx
            have hmj : mayJ jov jox jol joe jok 0 0 0 0 0 false = true := by simp [mayJ, hm.out]
            obtain ⟨m1, m2⟩ := may_made jov jox jol joe jok 0 0 0 0 0 tv tx tl te tk hmj ht
            have M1 := Lib.hid m1; have M2 := Lib.hid m2
            have HTWO : Hid (changeE jov jox jol true tv tx tl te tk = 10) := rfl
            clear m1 m2 hmj
            clear hE ht htx
            go_wp2_with fail
            go_cut [11, 12] (fun p q wx => ∃ d, p = .pointer (some ⟨d, 0, none⟩) ∧ q = .int .i64 0 ∧ Hid (W.heap.size ≤ d) ∧ Hid (wx.heap[d]? = some (.cells #[.int .u16 jov, .int .u16 jox, .int .u16 jol, .int .i64 joe, .int .i64 jok, .int .u16 tv, .int .u16 tx, .int .u16 tl, .int .i64 te, .int .i64 tk, .bool true] 38 (0, 0))) ∧ Hid (Below W.heap.size W wx))
            case first =>
              refine wp_region_held_drew (S := (fun w' => Below W.heap.size W w' ∧ (∀ j, w'.cell? ⟨G, j, none⟩ = #[.int .u16 jov, .int .u16 jox, .int .u16 jol, .int .i64 joe, .int .i64 jok, Value.int .u16 0, .int .u16 0, .int .u16 0, .int .i64 0, .int .i64 0, .bool false][j]?) ∧ w'.cell? ⟨g, o + k * 5, none⟩ = some (.int .u16 tv) ∧ w'.cell? ⟨g, o + k * 5 + 1, none⟩ = some (.int .u16 tx) ∧ w'.cell? ⟨g, o + k * 5 + 2, none⟩ = some (.int .u16 tl) ∧ w'.cell? ⟨g, o + k * 5 + 3, none⟩ = some (.int .i64 te) ∧ w'.cell? ⟨g, o + k * 5 + 4, none⟩ = some (.int .i64 tk))) (by kernel_rfl) (HK.out _ h0) (fun hHeld => ?_)
              refine wpAnyH_take (i := 0) (v := ?_) rfl (by kernel_rfl) (by kernel_rfl) (by kernel_rfl) (fun _ _ _ h => h) (Or.inl ⟨by rfl, ?_⟩) hHeld ?_
              rotate_left
              · (intro wz hSw; (try dsimp only at hSw); (try simp only [List.getElem_toArray, List.getElem_cons_zero]); go_simp; try with_reducible rfl)
              try simp only [List.getElem_toArray, List.getElem_cons_zero, Act.put, List.setIfInBounds_toArray, List.set_cons_zero, List.set_cons_succ]
              refine wpAnyH_take (i := 1) (v := ?_) rfl (by kernel_rfl) (by kernel_rfl) (by kernel_rfl) (fun _ _ _ h => h) (Or.inl ⟨by rfl, ?_⟩) hHeld ?_
              rotate_left
              · (intro wz hSw; (try dsimp only at hSw); (try simp only [List.getElem_toArray, List.getElem_cons_succ, List.getElem_cons_zero]); go_simp; try with_reducible rfl)
              try simp only [List.getElem_toArray, List.getElem_cons_succ, List.getElem_cons_zero, Act.put, List.setIfInBounds_toArray, List.set_cons_zero, List.set_cons_succ]
              refine wpAnyH_take (i := 2) (v := ?_) rfl (by kernel_rfl) (by kernel_rfl) (by kernel_rfl) (fun _ _ _ h => h) (Or.inl ⟨by rfl, ?_⟩) hHeld ?_
              rotate_left
              · (intro wz hSw; (try dsimp only at hSw); (try simp only [List.getElem_toArray, List.getElem_cons_succ, List.getElem_cons_zero]); go_simp; try with_reducible rfl)
              try simp only [List.getElem_toArray, List.getElem_cons_succ, List.getElem_cons_zero, Act.put, List.setIfInBounds_toArray, List.set_cons_zero, List.set_cons_succ]
              refine wpAnyH_take (i := 3) (v := ?_) rfl (by kernel_rfl) (by kernel_rfl) (by kernel_rfl) (fun _ _ _ h => h) (Or.inl ⟨by rfl, ?_⟩) hHeld ?_
              rotate_left
              · (intro wz hSw; (try dsimp only at hSw); (try simp only [List.getElem_toArray, List.getElem_cons_succ, List.getElem_cons_zero]); go_simp; try with_reducible rfl)
              try simp only [List.getElem_toArray, List.getElem_cons_succ, List.getElem_cons_zero, Act.put, List.setIfInBounds_toArray, List.set_cons_zero, List.set_cons_succ]
              refine wpAnyH_take (i := 4) (v := ?_) rfl (by kernel_rfl) (by kernel_rfl) (by kernel_rfl) (fun _ _ _ h => h) (Or.inl ⟨by rfl, ?_⟩) hHeld ?_
              rotate_left
              · (intro wz hSw; (try dsimp only at hSw); (try simp only [List.getElem_toArray, List.getElem_cons_succ, List.getElem_cons_zero]); go_simp; try with_reducible rfl)
              try simp only [List.getElem_toArray, List.getElem_cons_succ, List.getElem_cons_zero, Act.put, List.setIfInBounds_toArray, List.set_cons_zero, List.set_cons_succ]
              refine wpAnyH_ready (rs := [5, 9]) (by kernel_rfl) (by simp) ?_
              refine AllReadyH.cons rfl (fun K hK => ?_) (AllReadyH.cons rfl (fun K hK => ?_) AllReadyH.nil)
              · (try simp only [List.getElem_toArray, List.getElem_cons_succ, List.getElem_cons_zero]); go_simp
                refine (confChange_ok _ _ _ _ _ _ _ _ _ _ _ _ _ _ _ _ _ HE.out).mono ?_; rintro e wa ⟨rfl, hbX⟩; have hkX := h0.trans (hbX.mono (by simp))
                refine hK.out _ _ (HK.out _ hkX) (fun hHeld' => ?_)
                clear hK K hHeld; have hHeld := hHeld'; clear hHeld'
                try simp only [List.getElem_toArray, List.getElem_cons_succ, List.getElem_cons_zero, Act.put, List.setIfInBounds_toArray, List.set_cons_zero, List.set_cons_succ]
                refine wpAnyH_take (i := 6) (v := ?_) rfl (by kernel_rfl) (by kernel_rfl) (by kernel_rfl) (fun _ _ _ h => h) (Or.inl ⟨by rfl, ?_⟩) hHeld ?_
                rotate_left
                · (intro wz hSw; (try dsimp only at hSw); (try simp only [List.getElem_toArray, List.getElem_cons_succ, List.getElem_cons_zero]); go_simp; try with_reducible rfl)
                try simp only [List.getElem_toArray, List.getElem_cons_succ, List.getElem_cons_zero, Act.put, List.setIfInBounds_toArray, List.set_cons_zero, List.set_cons_succ]
                refine wpAnyH_take (i := 7) (v := ?_) rfl (by kernel_rfl) (by kernel_rfl) (by kernel_rfl) (fun _ _ _ h => h) (Or.inl ⟨by rfl, ?_⟩) hHeld ?_
                rotate_left
                · (intro wz hSw; (try dsimp only at hSw); (try simp only [List.getElem_toArray, List.getElem_cons_succ, List.getElem_cons_zero]); go_simp; try with_reducible rfl)
                try simp only [List.getElem_toArray, List.getElem_cons_succ, List.getElem_cons_zero, Act.put, List.setIfInBounds_toArray, List.set_cons_zero, List.set_cons_succ]
                refine wpAnyH_take (i := 8) (v := ?_) rfl (by kernel_rfl) (by kernel_rfl) (by kernel_rfl) (fun _ _ _ h => h) (Or.inl ⟨by rfl, ?_⟩) hHeld ?_
                rotate_left
                · (intro wz hSw; (try dsimp only at hSw); (try simp only [List.getElem_toArray, List.getElem_cons_succ, List.getElem_cons_zero]); go_simp; try with_reducible rfl)
                try simp only [List.getElem_toArray, List.getElem_cons_succ, List.getElem_cons_zero, Act.put, List.setIfInBounds_toArray, List.set_cons_zero, List.set_cons_succ]
                refine wpAnyH_ready (rs := [9]) (by kernel_rfl) (by simp) ?_; refine AllReadyH.cons rfl (fun K hK => ?_) AllReadyH.nil; (try simp only [List.getElem_toArray, List.getElem_cons_succ, List.getElem_cons_zero]); go_simp
                have hkY := hkX.alloc hkX.size (.cells #[.int .u16 jov, .int .u16 jox, .int .u16 jol, .int .i64 joe, .int .i64 jok, .int .u16 tv, .int .u16 tx, .int .u16 tl, .int .i64 te, .int .i64 tk, .bool true] 38)
                have hkZ := hkX.alloc hkX.size (.cells #[.int .u16 0, .int .u16 0, .int .u16 0, .int .i64 0, .int .i64 0, .int .u16 0, .int .u16 0, .int .u16 0, .int .i64 0, .int .i64 0, .bool false] 38)
                refine hK.out _ _ (HK.out _ hkZ) (fun hHeld' => ?_)
                clear hK K hHeld; have hHeld := hHeld'; clear hHeld'
                try simp only [List.getElem_toArray, List.getElem_cons_succ, List.getElem_cons_zero, Act.put, List.setIfInBounds_toArray, List.set_cons_zero, List.set_cons_succ]
                clear hkZ
                refine wpAnyH_ready (rs := [10]) (by kernel_rfl) (by simp) ?_; refine AllReadyH.cons rfl (fun K hK => ?_) AllReadyH.nil; (try simp only [List.getElem_toArray, List.getElem_cons_succ, List.getElem_cons_zero]); go_simp
                refine hK.out _ _ (HK.out _ hkY) (fun hHeld' => ?_)
                clear hK K hHeld; have hHeld := hHeld'; clear hHeld'
                try simp only [List.getElem_toArray, List.getElem_cons_succ, List.getElem_cons_zero, Act.put, List.setIfInBounds_toArray, List.set_cons_zero, List.set_cons_succ]
                refine wpAnyH_take (i := 11) (v := ?_) rfl (by kernel_rfl) (by kernel_rfl) (by kernel_rfl) (fun _ _ _ h => h) (Or.inl ⟨by rfl, ?_⟩) hHeld ?_
                rotate_left
                · (intro wz hSw; (try dsimp only at hSw); (try simp only [List.getElem_toArray, List.getElem_cons_succ, List.getElem_cons_zero]); go_simp; try with_reducible rfl)
                try simp only [List.getElem_toArray, List.getElem_cons_succ, List.getElem_cons_zero, Act.put, List.setIfInBounds_toArray, List.set_cons_zero, List.set_cons_succ]
                refine wpAnyH_done (by kernel_rfl) ?_ _
                go_wp2_with fail
                go_meet
                exact ⟨wa.heap.size, rfl, rfl, hkX.size, heap_last _ _, hkY⟩
              · (try simp only [List.getElem_toArray, List.getElem_cons_succ, List.getElem_cons_zero]); go_simp
                have hkX := h0.alloc (by simp) (.cells #[.int .u16 0, .int .u16 0, .int .u16 0, .int .i64 0, .int .i64 0, .int .u16 0, .int .u16 0, .int .u16 0, .int .i64 0, .int .i64 0, .bool false] 38)
                refine hK.out _ _ (HK.out _ hkX) (fun hHeld' => ?_)
                clear hK K hHeld; have hHeld := hHeld'; clear hHeld'
                try simp only [List.getElem_toArray, List.getElem_cons_succ, List.getElem_cons_zero, Act.put, List.setIfInBounds_toArray, List.set_cons_zero, List.set_cons_succ]
                refine wpAnyH_ready (rs := [5]) (by kernel_rfl) (by simp) ?_; refine AllReadyH.cons rfl (fun K hK => ?_) AllReadyH.nil; (try simp only [List.getElem_toArray, List.getElem_cons_succ, List.getElem_cons_zero]); go_simp
                refine (confChange_ok _ _ _ _ _ _ _ _ _ _ _ _ _ _ _ _ _ HE.out).mono ?_; rintro e wa ⟨rfl, hbX⟩
                have hD : wa.heap[W.heap.size]? = some (.cells #[.int .u16 0, .int .u16 0, .int .u16 0, .int .i64 0, .int .i64 0, .int .u16 0, .int .u16 0, .int .u16 0, .int .i64 0, .int .i64 0, .bool false] 38 (0, 0)) := below_block hbX (by simp) (heap_last W.drew _)
                have hkY := hkX.trans (hbX.mono hkX.size)
                refine hK.out _ _ (HK.out _ hkY) (fun hHeld' => ?_)
                clear hK K hHeld; have hHeld := hHeld'; clear hHeld'
                try simp only [List.getElem_toArray, List.getElem_cons_succ, List.getElem_cons_zero, Act.put, List.setIfInBounds_toArray, List.set_cons_zero, List.set_cons_succ]
                refine wpAnyH_take (i := 6) (v := ?_) rfl (by kernel_rfl) (by kernel_rfl) (by kernel_rfl) (fun _ _ _ h => h) (Or.inl ⟨by rfl, ?_⟩) hHeld ?_
                rotate_left
                · (intro wz hSw; (try dsimp only at hSw); (try simp only [List.getElem_toArray, List.getElem_cons_succ, List.getElem_cons_zero]); go_simp; try with_reducible rfl)
                try simp only [List.getElem_toArray, List.getElem_cons_succ, List.getElem_cons_zero, Act.put, List.setIfInBounds_toArray, List.set_cons_zero, List.set_cons_succ]
                refine wpAnyH_take (i := 7) (v := ?_) rfl (by kernel_rfl) (by kernel_rfl) (by kernel_rfl) (fun _ _ _ h => h) (Or.inl ⟨by rfl, ?_⟩) hHeld ?_
                rotate_left
                · (intro wz hSw; (try dsimp only at hSw); (try simp only [List.getElem_toArray, List.getElem_cons_succ, List.getElem_cons_zero]); go_simp; try with_reducible rfl)
                try simp only [List.getElem_toArray, List.getElem_cons_succ, List.getElem_cons_zero, Act.put, List.setIfInBounds_toArray, List.set_cons_zero, List.set_cons_succ]
                refine wpAnyH_take (i := 8) (v := ?_) rfl (by kernel_rfl) (by kernel_rfl) (by kernel_rfl) (fun _ _ _ h => h) (Or.inl ⟨by rfl, ?_⟩) hHeld ?_
                rotate_left
                · (intro wz hSw; (try dsimp only at hSw); (try simp only [List.getElem_toArray, List.getElem_cons_succ, List.getElem_cons_zero]); go_simp; try with_reducible rfl)
                try simp only [List.getElem_toArray, List.getElem_cons_succ, List.getElem_cons_zero, Act.put, List.setIfInBounds_toArray, List.set_cons_zero, List.set_cons_succ]
                have kD := block_cells hD
                have kF := block_free hD
                have hszY := hkY.size
                have hkW := hkY.setCell (p := ⟨W.heap.size, 0, none⟩) (Nat.le_refl _) (.int .u16 jov)
                replace hkW := hkW.setCell (p := ⟨W.heap.size, 1, none⟩) (Nat.le_refl _) (.int .u16 jox)
                replace hkW := hkW.setCell (p := ⟨W.heap.size, 2, none⟩) (Nat.le_refl _) (.int .u16 jol)
                replace hkW := hkW.setCell (p := ⟨W.heap.size, 3, none⟩) (Nat.le_refl _) (.int .i64 joe)
                replace hkW := hkW.setCell (p := ⟨W.heap.size, 4, none⟩) (Nat.le_refl _) (.int .i64 jok)
                replace hkW := hkW.setCell (p := ⟨W.heap.size, 5, none⟩) (Nat.le_refl _) (.int .u16 tv)
                replace hkW := hkW.setCell (p := ⟨W.heap.size, 6, none⟩) (Nat.le_refl _) (.int .u16 tx)
                replace hkW := hkW.setCell (p := ⟨W.heap.size, 7, none⟩) (Nat.le_refl _) (.int .u16 tl)
                replace hkW := hkW.setCell (p := ⟨W.heap.size, 8, none⟩) (Nat.le_refl _) (.int .i64 te)
                replace hkW := hkW.setCell (p := ⟨W.heap.size, 9, none⟩) (Nat.le_refl _) (.int .i64 tk)
                replace hkW := hkW.setCell (p := ⟨W.heap.size, 10, none⟩) (Nat.le_refl _) (.bool true)
                refine wpAnyH_ready (rs := [10]) (by kernel_rfl) (by simp) ?_; refine AllReadyH.cons rfl (fun K hK => ?_) AllReadyH.nil; (try simp only [List.getElem_toArray, List.getElem_cons_succ, List.getElem_cons_zero]); go_simp
                refine hK.out _ _ (HK.out _ hkW) (fun hHeld' => ?_)
                clear hK K hHeld; have hHeld := hHeld'; clear hHeld'
                try simp only [List.getElem_toArray, List.getElem_cons_succ, List.getElem_cons_zero, Act.put, List.setIfInBounds_toArray, List.set_cons_zero, List.set_cons_succ]
                refine wpAnyH_take (i := 11) (v := ?_) rfl (by kernel_rfl) (by kernel_rfl) (by kernel_rfl) (fun _ _ _ h => h) (Or.inl ⟨by rfl, ?_⟩) hHeld ?_
                rotate_left
                · (intro wz hSw; (try dsimp only at hSw); (try simp only [List.getElem_toArray, List.getElem_cons_succ, List.getElem_cons_zero]); go_simp; try with_reducible rfl)
                try simp only [List.getElem_toArray, List.getElem_cons_succ, List.getElem_cons_zero, Act.put, List.setIfInBounds_toArray, List.set_cons_zero, List.set_cons_succ]
                refine wpAnyH_done (by kernel_rfl) ?_ _
                go_wp2_with fail
                go_meet
                exact ⟨W.heap.size, rfl, rfl, Nat.le_refl _, set11 hD _ _ _ _ _ _ _ _ _ _ _, hkW⟩
            case rest =>
              obtain ⟨d, rfl, rfl, hd, hN, hb⟩ := hcut
              obtain ⟨W1, rfl⟩ : ∃ W1 : World, W1 = wc := ⟨_, rfl⟩
              have kN := block_cells hN.out
              go_wp2_with fail
              refine (confFinal_two _ _ _ _ _ _ _ _ _ _ _).mono ?_; rintro r W2 ⟨rfl, hb2⟩
              clear kN
              go_wp2_with fail
              have hF3 := heap_last W2 (.cells #[.int .u16 tv, .int .u16 tx, .int .u16 tl, .int .i64 te, .int .i64 tk, .int .u16 0, .int .u16 0, .int .u16 0, .int .i64 0, .int .i64 0, .bool false] 38)
              have hN2 := below_block hb2 (block_lt hN.out) hN.out
              have hN3 := heap_prev (.cells #[.int .u16 tv, .int .u16 tx, .int .u16 tl, .int .i64 te, .int .i64 tk, .int .u16 0, .int .u16 0, .int .u16 0, .int .i64 0, .int .i64 0, .bool false] 38) hN2
              have hB2 : Below W.heap.size W W2 := hb.out.trans (hb2.mono hb.out.size)
              have hB3 : Below W.heap.size W (W2.alloc (.cells #[.int .u16 tv, .int .u16 tx, .int .u16 tl, .int .i64 te, .int .i64 tk, .int .u16 0, .int .u16 0, .int .u16 0, .int .i64 0, .int .i64 0, .bool false] 38)) := hB2.alloc hB2.size _
              have hdD := block_lt hN2
              have hWD := hB2.size
              obtain ⟨D, hD⟩ : ∃ D, W2.heap.size = D := ⟨_, rfl⟩
              rw [hD] at hF3 hdD hWD ⊢
              obtain ⟨W3, hW3⟩ : ∃ W3, W2.alloc (.cells #[.int .u16 tv, .int .u16 tx, .int .u16 tl, .int .i64 te, .int .i64 tk, .int .u16 0, .int .u16 0, .int .u16 0, .int .i64 0, .int .i64 0, .bool false] 38) = W3 := ⟨_, rfl⟩
              rw [hW3] at hF3 hN3 hB3 ⊢
              have HF3 := Lib.hid hF3; have HN3 := Lib.hid hN3; have HB3 := Lib.hid hB3
              clear hF3 hN3 hB3 hN hb hb2 hN2 hB2 hD hW3 h0
              obtain ⟨U, f, hU, hf, hg⟩ := calm_class (W3); obtain ⟨u0, hu0⟩ := hg _ (Below.refl _ _); rw [hu0]; clear hu0
              have kF := fun u => block_cells (calm_heap hf HF3.out u)
              have kN := fun u => block_cells (calm_heap hf HN3.out u)
              have kJ := fun u => block_cells (calm_heap hf (below_block HB3.out hGs HJ.out) u)
              have kA := fun u => block_cells (calm_heap hf (below_block HB3.out hWs HA.out) u)
              have q0 := calm_cell hf ((HK.out _ HB3.out).2.2.1)
              have q1 := calm_cell hf ((HK.out _ HB3.out).2.2.2.1)
              have q2 := calm_cell hf ((HK.out _ HB3.out).2.2.2.2.1)
              have q3 := calm_cell hf ((HK.out _ HB3.out).2.2.2.2.2.1)
              have q4 := calm_cell hf ((HK.out _ HB3.out).2.2.2.2.2.2)
              have htc : (tx != cx) = false := by simp [HTX.out.trans hx.out]
              refine wp_region_calm f (by kernel_rfl) (by kernel_rfl) (calm_drew hf hg _) ?_
              iterate 36 (go_big_quiet_step ((first | (go_at_call_of 26 (Value.agg #[.int .u16 jov, .int .u16 jox, .int .u16 jol, .int .i64 joe, .int .i64 jok, .int .u16 tv, .int .u16 tx, .int .u16 tl, .int .i64 te, .int .i64 tk, .bool true]); exact calm_of hf hg (confMayJoint_is jov jox jol joe jok tv tx tl te tk _ true M1)) | (go_at_call_of 26 (Value.agg #[.int .u16 tv, .int .u16 tx, .int .u16 tl, .int .i64 te, .int .i64 tk, .int .u16 0, .int .u16 0, .int .u16 0, .int .i64 0, .int .i64 0, .bool false]); exact calm_of hf hg (confMayJoint_is tv tx tl te tk 0 0 0 0 0 _ false M2)))))
              refine wpQuiet_nil ?_; rintro _ ⟨u, rfl⟩
              clear kA q0 q1 q2 q3 q4 htc
              go_upto_region 14 with fail
              go_cut [101] (fun r wx => r = .bool false ∧ ∃ u, wx = f u)
              case first =>
                cases hEA : electsJ jov jox jol joe jok tv tx tl te tk true a
                · have HEA := Lib.hid hEA; clear hEA
                  go_wp2_with fail
                  refine (confElects_is _ _ _ _ _ _ _ _ _ _ _ _ _ HEA.out).mono ?_; rintro r w' ⟨rfl, hb⟩; obtain ⟨u, rfl⟩ := calm_step hf hg hb; clear hb
                  go_wp2_with fail
                  go_meet
                  exact ⟨rfl, _, rfl⟩
                · have HEA := Lib.hid hEA; clear hEA
                  cases hKJ : commitsJ jov jox jol joe jok 0 0 0 0 0 false b
                  · have HKJ := Lib.hid hKJ; clear hKJ
                    cases hKF : commitsJ tv tx tl te tk 0 0 0 0 0 false b
                    · have HKF := Lib.hid hKF; clear hKF
                      go_wp2_with fail
                      refine (confElects_is _ _ _ _ _ _ _ _ _ _ _ _ _ HEA.out).mono ?_; rintro r w' ⟨rfl, hb⟩; obtain ⟨u, rfl⟩ := calm_step hf hg hb; clear hb
                      go_wp2_with fail
                      refine (confCommits_is _ _ _ _ _ _ _ _ _ _ _ _ _ HKJ.out).mono ?_; rintro r w' ⟨rfl, hb⟩; obtain ⟨u, rfl⟩ := calm_step hf hg hb; clear hb
                      go_wp2_with fail
                      refine (confCommits_is _ _ _ _ _ _ _ _ _ _ _ _ _ HKF.out).mono ?_; rintro r w' ⟨rfl, hb⟩; obtain ⟨u, rfl⟩ := calm_step hf hg hb; clear hb
                      go_wp2_with fail
                      go_meet
                      exact ⟨rfl, _, rfl⟩
                    · have HKF := Lib.hid hKF; clear hKF
                      have hne := meet_some tv tx tl te tk a b a0 b0 ((mayC_iff _ _ _ _ _).1 HT.out) (electsJ_new _ _ _ _ _ _ _ _ _ _ HEA.out) (commitsJ_old _ _ _ _ _ _ _ _ _ _ _ HKF.out)
                      obtain ⟨M, hM⟩ : ∃ M, meetB a b = M := ⟨_, rfl⟩
                      rw [hM] at hne
                      have HMM := Lib.hid hM
                      clear hM
                      go_wp2_with fail
                      refine (confElects_is _ _ _ _ _ _ _ _ _ _ _ _ _ HEA.out).mono ?_; rintro r w' ⟨rfl, hb⟩; obtain ⟨u, rfl⟩ := calm_step hf hg hb; clear hb
                      go_wp2_with fail
                      refine (confCommits_is _ _ _ _ _ _ _ _ _ _ _ _ _ HKJ.out).mono ?_; rintro r w' ⟨rfl, hb⟩; obtain ⟨u, rfl⟩ := calm_step hf hg hb; clear hb
                      go_wp2_with fail
                      refine (confCommits_is _ _ _ _ _ _ _ _ _ _ _ _ _ HKF.out).mono ?_; rintro r w' ⟨rfl, hb⟩; obtain ⟨u, rfl⟩ := calm_step hf hg hb; clear hb
                      go_wp2_with fail
                      refine (refMeet9_is _ a b a0 a1 b0 b1 HMM).mono ?_; rintro r w' ⟨rfl, rfl⟩
                      go_wp2_with fail
                      go_meet
                      exact ⟨rfl, _, rfl⟩
                  · have HKJ := Lib.hid hKJ; clear hKJ
                    have hne := meet_some jov jox jol joe jok a b a0 b0 ((mayC_iff _ _ _ _ _).1 hm.out) (electsJ_old _ _ _ _ _ _ _ _ _ _ _ HEA.out) (commitsJ_old _ _ _ _ _ _ _ _ _ _ _ HKJ.out)
                    obtain ⟨M, hM⟩ : ∃ M, meetB a b = M := ⟨_, rfl⟩
                    rw [hM] at hne
                    have HMM := Lib.hid hM
                    clear hM
                    go_wp2_with fail
                    refine (confElects_is _ _ _ _ _ _ _ _ _ _ _ _ _ HEA.out).mono ?_; rintro r w' ⟨rfl, hb⟩; obtain ⟨u, rfl⟩ := calm_step hf hg hb; clear hb
                    go_wp2_with fail
                    refine (confCommits_is _ _ _ _ _ _ _ _ _ _ _ _ _ HKJ.out).mono ?_; rintro r w' ⟨rfl, hb⟩; obtain ⟨u, rfl⟩ := calm_step hf hg hb; clear hb
                    go_wp2_with fail
                    refine (refMeet9_is _ a b a0 a1 b0 b1 HMM).mono ?_; rintro r w' ⟨rfl, rfl⟩
                    go_wp2_with fail
                    go_meet
                    exact ⟨rfl, _, rfl⟩
              case rest =>
                obtain ⟨rfl, u5, rfl⟩ := hcut
                have hNV := calm_heap hf HN3.out u5
                have hFV := calm_heap hf HF3.out u5
                have hBV := HB3.out.trans ((hf u5).mono HB3.out.size)
                obtain ⟨V, hV⟩ : ∃ V, f u5 = V := ⟨_, rfl⟩
                rw [hV] at hNV hFV hBV ⊢
                have hsV := hBV.size
                have HNV := Lib.hid hNV; have HFV := Lib.hid hFV; have HBV := Lib.hid hBV
                have hdV := block_lt hNV
                have hDV := block_lt hFV
                clear hNV hFV hBV hV kF kN kJ hf hg hU HF3 HN3 HB3
                have h0V : Below V.heap.size V V.drew := (Below.refl _ _).drew
                have HKV : Hid (∀ w', Below V.heap.size V w' → Below V.heap.size V w' ∧ (∀ j, w'.cell? ⟨d, j, none⟩ = #[.int .u16 jov, .int .u16 jox, .int .u16 jol, .int .i64 joe, .int .i64 jok, Value.int .u16 tv, .int .u16 tx, .int .u16 tl, .int .i64 te, .int .i64 tk, .bool true][j]?) ∧ w'.cell? ⟨g, o + k * 5, none⟩ = some (.int .u16 tv) ∧ w'.cell? ⟨g, o + k * 5 + 1, none⟩ = some (.int .u16 tx) ∧ w'.cell? ⟨g, o + k * 5 + 2, none⟩ = some (.int .u16 tl) ∧ w'.cell? ⟨g, o + k * 5 + 3, none⟩ = some (.int .i64 te) ∧ w'.cell? ⟨g, o + k * 5 + 4, none⟩ = some (.int .i64 tk)) := fun w' h => ⟨h, block_cells (below_block h hdV HNV.out), (HK.out _ (HBV.out.trans (h.mono hsV))).2.2⟩
                go_wp2_with fail
                go_cut [14, 15] (fun p q wx => ∃ d, p = .pointer (some ⟨d, 0, none⟩) ∧ q = .int .i64 10 ∧ Hid (V.heap.size ≤ d) ∧ Hid (wx.heap[d]? = some (.cells #[.int .u16 0, .int .u16 0, .int .u16 0, .int .i64 0, .int .i64 0, .int .u16 0, .int .u16 0, .int .u16 0, .int .i64 0, .int .i64 0, .bool false] 38 (0, 0))) ∧ Hid (Below V.heap.size V wx))
                case first =>
                  refine wp_region_held_drew (S := (fun w' => Below V.heap.size V w' ∧ (∀ j, w'.cell? ⟨d, j, none⟩ = #[.int .u16 jov, .int .u16 jox, .int .u16 jol, .int .i64 joe, .int .i64 jok, Value.int .u16 tv, .int .u16 tx, .int .u16 tl, .int .i64 te, .int .i64 tk, .bool true][j]?) ∧ w'.cell? ⟨g, o + k * 5, none⟩ = some (.int .u16 tv) ∧ w'.cell? ⟨g, o + k * 5 + 1, none⟩ = some (.int .u16 tx) ∧ w'.cell? ⟨g, o + k * 5 + 2, none⟩ = some (.int .u16 tl) ∧ w'.cell? ⟨g, o + k * 5 + 3, none⟩ = some (.int .i64 te) ∧ w'.cell? ⟨g, o + k * 5 + 4, none⟩ = some (.int .i64 tk))) (by kernel_rfl) (HKV.out _ h0V) (fun hHeld => ?_)
                  refine wpAnyH_take (i := 0) (v := ?_) rfl (by kernel_rfl) (by kernel_rfl) (by kernel_rfl) (fun _ _ _ h => h) (Or.inl ⟨by rfl, ?_⟩) hHeld ?_
                  rotate_left
                  · (intro wz hSw; (try dsimp only at hSw); (try simp only [List.getElem_toArray, List.getElem_cons_zero]); go_simp; try with_reducible rfl)
                  try simp only [List.getElem_toArray, List.getElem_cons_zero, Act.put, List.setIfInBounds_toArray, List.set_cons_zero, List.set_cons_succ]
                  refine wpAnyH_take (i := 1) (v := ?_) rfl (by kernel_rfl) (by kernel_rfl) (by kernel_rfl) (fun _ _ _ h => h) (Or.inl ⟨by rfl, ?_⟩) hHeld ?_
                  rotate_left
                  · (intro wz hSw; (try dsimp only at hSw); (try simp only [List.getElem_toArray, List.getElem_cons_succ, List.getElem_cons_zero]); go_simp; try with_reducible rfl)
                  try simp only [List.getElem_toArray, List.getElem_cons_succ, List.getElem_cons_zero, Act.put, List.setIfInBounds_toArray, List.set_cons_zero, List.set_cons_succ]
                  refine wpAnyH_take (i := 2) (v := ?_) rfl (by kernel_rfl) (by kernel_rfl) (by kernel_rfl) (fun _ _ _ h => h) (Or.inl ⟨by rfl, ?_⟩) hHeld ?_
                  rotate_left
                  · (intro wz hSw; (try dsimp only at hSw); (try simp only [List.getElem_toArray, List.getElem_cons_succ, List.getElem_cons_zero]); go_simp; try with_reducible rfl)
                  try simp only [List.getElem_toArray, List.getElem_cons_succ, List.getElem_cons_zero, Act.put, List.setIfInBounds_toArray, List.set_cons_zero, List.set_cons_succ]
                  refine wpAnyH_take (i := 3) (v := ?_) rfl (by kernel_rfl) (by kernel_rfl) (by kernel_rfl) (fun _ _ _ h => h) (Or.inl ⟨by rfl, ?_⟩) hHeld ?_
                  rotate_left
                  · (intro wz hSw; (try dsimp only at hSw); (try simp only [List.getElem_toArray, List.getElem_cons_succ, List.getElem_cons_zero]); go_simp; try with_reducible rfl)
                  try simp only [List.getElem_toArray, List.getElem_cons_succ, List.getElem_cons_zero, Act.put, List.setIfInBounds_toArray, List.set_cons_zero, List.set_cons_succ]
                  refine wpAnyH_take (i := 4) (v := ?_) rfl (by kernel_rfl) (by kernel_rfl) (by kernel_rfl) (fun _ _ _ h => h) (Or.inl ⟨by rfl, ?_⟩) hHeld ?_
                  rotate_left
                  · (intro wz hSw; (try dsimp only at hSw); (try simp only [List.getElem_toArray, List.getElem_cons_succ, List.getElem_cons_zero]); go_simp; try with_reducible rfl)
                  try simp only [List.getElem_toArray, List.getElem_cons_succ, List.getElem_cons_zero, Act.put, List.setIfInBounds_toArray, List.set_cons_zero, List.set_cons_succ]
                  refine wpAnyH_ready (rs := [5, 9]) (by kernel_rfl) (by simp) ?_
                  refine AllReadyH.cons rfl (fun K hK => ?_) (AllReadyH.cons rfl (fun K hK => ?_) AllReadyH.nil)
                  · (try simp only [List.getElem_toArray, List.getElem_cons_succ, List.getElem_cons_zero]); go_simp
                    refine (confChange_no' _ _ _ _ _ _ _ _ _ _ _ _ _ _ _ _ _ HTWO (by decide)).mono ?_; rintro e wa ⟨rfl, hbX⟩; have hkX := h0V.trans (hbX.mono (by simp))
                    refine hK.out _ _ (HKV.out _ hkX) (fun hHeld' => ?_)
                    clear hK K hHeld; have hHeld := hHeld'; clear hHeld'
                    try simp only [List.getElem_toArray, List.getElem_cons_succ, List.getElem_cons_zero, Act.put, List.setIfInBounds_toArray, List.set_cons_zero, List.set_cons_succ]
                    refine wpAnyH_take (i := 6) (v := ?_) rfl (by kernel_rfl) (by kernel_rfl) (by kernel_rfl) (fun _ _ _ h => h) (Or.inl ⟨by rfl, ?_⟩) hHeld ?_
                    rotate_left
                    · (intro wz hSw; (try dsimp only at hSw); (try simp only [List.getElem_toArray, List.getElem_cons_succ, List.getElem_cons_zero]); go_simp; try with_reducible rfl)
                    try simp only [List.getElem_toArray, List.getElem_cons_succ, List.getElem_cons_zero, Act.put, List.setIfInBounds_toArray, List.set_cons_zero, List.set_cons_succ]
                    refine wpAnyH_take (i := 7) (v := ?_) rfl (by kernel_rfl) (by kernel_rfl) (by kernel_rfl) (fun _ _ _ h => h) (Or.inl ⟨by rfl, ?_⟩) hHeld ?_
                    rotate_left
                    · (intro wz hSw; (try dsimp only at hSw); (try simp only [List.getElem_toArray, List.getElem_cons_succ, List.getElem_cons_zero]); go_simp; try with_reducible rfl)
                    try simp only [List.getElem_toArray, List.getElem_cons_succ, List.getElem_cons_zero, Act.put, List.setIfInBounds_toArray, List.set_cons_zero, List.set_cons_succ]
                    refine wpAnyH_take (i := 8) (v := ?_) rfl (by kernel_rfl) (by kernel_rfl) (by kernel_rfl) (fun _ _ _ h => h) (Or.inl ⟨by rfl, ?_⟩) hHeld ?_
                    rotate_left
                    · (intro wz hSw; (try dsimp only at hSw); (try simp only [List.getElem_toArray, List.getElem_cons_succ, List.getElem_cons_zero]); go_simp; try with_reducible rfl)
                    try simp only [List.getElem_toArray, List.getElem_cons_succ, List.getElem_cons_zero, Act.put, List.setIfInBounds_toArray, List.set_cons_zero, List.set_cons_succ]
                    refine wpAnyH_ready (rs := [9]) (by kernel_rfl) (by simp) ?_; refine AllReadyH.cons rfl (fun K hK => ?_) AllReadyH.nil; (try simp only [List.getElem_toArray, List.getElem_cons_succ, List.getElem_cons_zero]); go_simp
                    have hkY := hkX.alloc hkX.size (.cells #[.int .u16 0, .int .u16 0, .int .u16 0, .int .i64 0, .int .i64 0, .int .u16 0, .int .u16 0, .int .u16 0, .int .i64 0, .int .i64 0, .bool false] 38)
                    have hkZ := hkX.alloc hkX.size (.cells #[.int .u16 0, .int .u16 0, .int .u16 0, .int .i64 0, .int .i64 0, .int .u16 0, .int .u16 0, .int .u16 0, .int .i64 0, .int .i64 0, .bool false] 38)
                    refine hK.out _ _ (HKV.out _ hkZ) (fun hHeld' => ?_)
                    clear hK K hHeld; have hHeld := hHeld'; clear hHeld'
                    try simp only [List.getElem_toArray, List.getElem_cons_succ, List.getElem_cons_zero, Act.put, List.setIfInBounds_toArray, List.set_cons_zero, List.set_cons_succ]
                    clear hkZ
                    refine wpAnyH_ready (rs := [10]) (by kernel_rfl) (by simp) ?_; refine AllReadyH.cons rfl (fun K hK => ?_) AllReadyH.nil; (try simp only [List.getElem_toArray, List.getElem_cons_succ, List.getElem_cons_zero]); go_simp
                    refine hK.out _ _ (HKV.out _ hkY) (fun hHeld' => ?_)
                    clear hK K hHeld; have hHeld := hHeld'; clear hHeld'
                    try simp only [List.getElem_toArray, List.getElem_cons_succ, List.getElem_cons_zero, Act.put, List.setIfInBounds_toArray, List.set_cons_zero, List.set_cons_succ]
                    refine wpAnyH_take (i := 11) (v := ?_) rfl (by kernel_rfl) (by kernel_rfl) (by kernel_rfl) (fun _ _ _ h => h) (Or.inl ⟨by rfl, ?_⟩) hHeld ?_
                    rotate_left
                    · (intro wz hSw; (try dsimp only at hSw); (try simp only [List.getElem_toArray, List.getElem_cons_succ, List.getElem_cons_zero]); go_simp; try with_reducible rfl)
                    try simp only [List.getElem_toArray, List.getElem_cons_succ, List.getElem_cons_zero, Act.put, List.setIfInBounds_toArray, List.set_cons_zero, List.set_cons_succ]
                    refine wpAnyH_done (by kernel_rfl) ?_ _
                    go_wp2_with fail
                    go_meet
                    exact ⟨wa.heap.size, rfl, rfl, hkX.size, heap_last _ _, hkY⟩
                  · (try simp only [List.getElem_toArray, List.getElem_cons_succ, List.getElem_cons_zero]); go_simp
                    have hkX := h0V.alloc (by simp) (.cells #[.int .u16 0, .int .u16 0, .int .u16 0, .int .i64 0, .int .i64 0, .int .u16 0, .int .u16 0, .int .u16 0, .int .i64 0, .int .i64 0, .bool false] 38)
                    refine hK.out _ _ (HKV.out _ hkX) (fun hHeld' => ?_)
                    clear hK K hHeld; have hHeld := hHeld'; clear hHeld'
                    try simp only [List.getElem_toArray, List.getElem_cons_succ, List.getElem_cons_zero, Act.put, List.setIfInBounds_toArray, List.set_cons_zero, List.set_cons_succ]
                    refine wpAnyH_ready (rs := [5]) (by kernel_rfl) (by simp) ?_; refine AllReadyH.cons rfl (fun K hK => ?_) AllReadyH.nil; (try simp only [List.getElem_toArray, List.getElem_cons_succ, List.getElem_cons_zero]); go_simp
                    refine (confChange_no' _ _ _ _ _ _ _ _ _ _ _ _ _ _ _ _ _ HTWO (by decide)).mono ?_; rintro e wa ⟨rfl, hbX⟩
                    have hD : wa.heap[V.heap.size]? = some (.cells #[.int .u16 0, .int .u16 0, .int .u16 0, .int .i64 0, .int .i64 0, .int .u16 0, .int .u16 0, .int .u16 0, .int .i64 0, .int .i64 0, .bool false] 38 (0, 0)) := below_block hbX (by simp) (heap_last V.drew _)
                    have hkY := hkX.trans (hbX.mono hkX.size)
                    refine hK.out _ _ (HKV.out _ hkY) (fun hHeld' => ?_)
                    clear hK K hHeld; have hHeld := hHeld'; clear hHeld'
                    try simp only [List.getElem_toArray, List.getElem_cons_succ, List.getElem_cons_zero, Act.put, List.setIfInBounds_toArray, List.set_cons_zero, List.set_cons_succ]
                    refine wpAnyH_take (i := 6) (v := ?_) rfl (by kernel_rfl) (by kernel_rfl) (by kernel_rfl) (fun _ _ _ h => h) (Or.inl ⟨by rfl, ?_⟩) hHeld ?_
                    rotate_left
                    · (intro wz hSw; (try dsimp only at hSw); (try simp only [List.getElem_toArray, List.getElem_cons_succ, List.getElem_cons_zero]); go_simp; try with_reducible rfl)
                    try simp only [List.getElem_toArray, List.getElem_cons_succ, List.getElem_cons_zero, Act.put, List.setIfInBounds_toArray, List.set_cons_zero, List.set_cons_succ]
                    refine wpAnyH_take (i := 7) (v := ?_) rfl (by kernel_rfl) (by kernel_rfl) (by kernel_rfl) (fun _ _ _ h => h) (Or.inl ⟨by rfl, ?_⟩) hHeld ?_
                    rotate_left
                    · (intro wz hSw; (try dsimp only at hSw); (try simp only [List.getElem_toArray, List.getElem_cons_succ, List.getElem_cons_zero]); go_simp; try with_reducible rfl)
                    try simp only [List.getElem_toArray, List.getElem_cons_succ, List.getElem_cons_zero, Act.put, List.setIfInBounds_toArray, List.set_cons_zero, List.set_cons_succ]
                    refine wpAnyH_take (i := 8) (v := ?_) rfl (by kernel_rfl) (by kernel_rfl) (by kernel_rfl) (fun _ _ _ h => h) (Or.inl ⟨by rfl, ?_⟩) hHeld ?_
                    rotate_left
                    · (intro wz hSw; (try dsimp only at hSw); (try simp only [List.getElem_toArray, List.getElem_cons_succ, List.getElem_cons_zero]); go_simp; try with_reducible rfl)
                    try simp only [List.getElem_toArray, List.getElem_cons_succ, List.getElem_cons_zero, Act.put, List.setIfInBounds_toArray, List.set_cons_zero, List.set_cons_succ]
                    have kD := block_cells hD
                    have kF := block_free hD
                    have hszY := hkY.size
                    have hkW := hkY.setCell (p := ⟨V.heap.size, 0, none⟩) (Nat.le_refl _) (.int .u16 0)
                    replace hkW := hkW.setCell (p := ⟨V.heap.size, 1, none⟩) (Nat.le_refl _) (.int .u16 0)
                    replace hkW := hkW.setCell (p := ⟨V.heap.size, 2, none⟩) (Nat.le_refl _) (.int .u16 0)
                    replace hkW := hkW.setCell (p := ⟨V.heap.size, 3, none⟩) (Nat.le_refl _) (.int .i64 0)
                    replace hkW := hkW.setCell (p := ⟨V.heap.size, 4, none⟩) (Nat.le_refl _) (.int .i64 0)
                    replace hkW := hkW.setCell (p := ⟨V.heap.size, 5, none⟩) (Nat.le_refl _) (.int .u16 0)
                    replace hkW := hkW.setCell (p := ⟨V.heap.size, 6, none⟩) (Nat.le_refl _) (.int .u16 0)
                    replace hkW := hkW.setCell (p := ⟨V.heap.size, 7, none⟩) (Nat.le_refl _) (.int .u16 0)
                    replace hkW := hkW.setCell (p := ⟨V.heap.size, 8, none⟩) (Nat.le_refl _) (.int .i64 0)
                    replace hkW := hkW.setCell (p := ⟨V.heap.size, 9, none⟩) (Nat.le_refl _) (.int .i64 0)
                    replace hkW := hkW.setCell (p := ⟨V.heap.size, 10, none⟩) (Nat.le_refl _) (.bool false)
                    refine wpAnyH_ready (rs := [10]) (by kernel_rfl) (by simp) ?_; refine AllReadyH.cons rfl (fun K hK => ?_) AllReadyH.nil; (try simp only [List.getElem_toArray, List.getElem_cons_succ, List.getElem_cons_zero]); go_simp
                    refine hK.out _ _ (HKV.out _ hkW) (fun hHeld' => ?_)
                    clear hK K hHeld; have hHeld := hHeld'; clear hHeld'
                    try simp only [List.getElem_toArray, List.getElem_cons_succ, List.getElem_cons_zero, Act.put, List.setIfInBounds_toArray, List.set_cons_zero, List.set_cons_succ]
                    refine wpAnyH_take (i := 11) (v := ?_) rfl (by kernel_rfl) (by kernel_rfl) (by kernel_rfl) (fun _ _ _ h => h) (Or.inl ⟨by rfl, ?_⟩) hHeld ?_
                    rotate_left
                    · (intro wz hSw; (try dsimp only at hSw); (try simp only [List.getElem_toArray, List.getElem_cons_succ, List.getElem_cons_zero]); go_simp; try with_reducible rfl)
                    try simp only [List.getElem_toArray, List.getElem_cons_succ, List.getElem_cons_zero, Act.put, List.setIfInBounds_toArray, List.set_cons_zero, List.set_cons_succ]
                    refine wpAnyH_done (by kernel_rfl) ?_ _
                    go_wp2_with fail
                    go_meet
                    exact ⟨V.heap.size, rfl, rfl, Nat.le_refl _, set11 hD _ _ _ _ _ _ _ _ _ _ _, hkW⟩
                case rest =>
                  obtain ⟨d, rfl, rfl, hd, hN, hb⟩ := hcut
                  obtain ⟨V1, rfl⟩ : ∃ V1 : World, V1 = wc := ⟨_, rfl⟩
                  have hFV1 := below_block hb.out hDV HFV.out
                  have hJV1 := below_block hb.out (by omega) (below_block HBV.out hGs HJ.out)
                  have kF := block_cells hFV1
                  have kJ := block_cells hJV1
                  have kJf := block_free hJV1
                  have HJN := Lib.hid (set11 hJV1 (.int .u16 tv) (.int .u16 tx) (.int .u16 tl) (.int .i64 te) (.int .i64 tk) (.int .u16 0) (.int .u16 0) (.int .u16 0) (.int .i64 0) (.int .i64 0) (.bool false))
                  have HJA := Lib.hid (below_block hb.out (by omega) (below_block HBV.out hWs HA.out))
                  have HBN := Lib.hid (bstep HB.out (HBV.out.trans (hb.out.mono hsV)))
                  clear hFV1 hJV1
                  go_wp2_with fail
                  go_roundw
                  case rel => exact ⟨k + 1, ⟨tv, tx, tl, te, tk⟩, by omega, by go_num, HT, HTX.out.trans hx.out, set11_far HJA.out (Nat.ne_of_lt hGw) _ _ _ _ _ _ _ _ _ _ _, HJN.out, set11_below HBN.out (Nat.le_of_lt hGw) _ _ _ _ _ _ _ _ _ _ _⟩
                  case measure => simp [intOf]; omega
          · have HE := Lib.hid hE
            have hE1 : (E != 0) = true := by simp [hE0]
            have HE0 := Lib.hid hE0
            clear hE hE0
            go_wp2_with fail
            go_cut [11, 12] (fun p q wx => ∃ d, p = .pointer (some ⟨d, 0, none⟩) ∧ q = .int .i64 E ∧ Hid (W.heap.size ≤ d) ∧ Hid (wx.heap[d]? = some (.cells #[.int .u16 0, .int .u16 0, .int .u16 0, .int .i64 0, .int .i64 0, .int .u16 0, .int .u16 0, .int .u16 0, .int .i64 0, .int .i64 0, .bool false] 38 (0, 0))) ∧ Hid (Below W.heap.size W wx))
            case first =>
              refine wp_region_held_drew (S := (fun w' => Below W.heap.size W w' ∧ (∀ j, w'.cell? ⟨G, j, none⟩ = #[.int .u16 jov, .int .u16 jox, .int .u16 jol, .int .i64 joe, .int .i64 jok, Value.int .u16 0, .int .u16 0, .int .u16 0, .int .i64 0, .int .i64 0, .bool false][j]?) ∧ w'.cell? ⟨g, o + k * 5, none⟩ = some (.int .u16 tv) ∧ w'.cell? ⟨g, o + k * 5 + 1, none⟩ = some (.int .u16 tx) ∧ w'.cell? ⟨g, o + k * 5 + 2, none⟩ = some (.int .u16 tl) ∧ w'.cell? ⟨g, o + k * 5 + 3, none⟩ = some (.int .i64 te) ∧ w'.cell? ⟨g, o + k * 5 + 4, none⟩ = some (.int .i64 tk))) (by kernel_rfl) (HK.out _ h0) (fun hHeld => ?_)
              refine wpAnyH_take (i := 0) (v := ?_) rfl (by kernel_rfl) (by kernel_rfl) (by kernel_rfl) (fun _ _ _ h => h) (Or.inl ⟨by rfl, ?_⟩) hHeld ?_
              rotate_left
              · (intro wz hSw; (try dsimp only at hSw); (try simp only [List.getElem_toArray, List.getElem_cons_zero]); go_simp; try with_reducible rfl)
              try simp only [List.getElem_toArray, List.getElem_cons_zero, Act.put, List.setIfInBounds_toArray, List.set_cons_zero, List.set_cons_succ]
              refine wpAnyH_take (i := 1) (v := ?_) rfl (by kernel_rfl) (by kernel_rfl) (by kernel_rfl) (fun _ _ _ h => h) (Or.inl ⟨by rfl, ?_⟩) hHeld ?_
              rotate_left
              · (intro wz hSw; (try dsimp only at hSw); (try simp only [List.getElem_toArray, List.getElem_cons_succ, List.getElem_cons_zero]); go_simp; try with_reducible rfl)
              try simp only [List.getElem_toArray, List.getElem_cons_succ, List.getElem_cons_zero, Act.put, List.setIfInBounds_toArray, List.set_cons_zero, List.set_cons_succ]
              refine wpAnyH_take (i := 2) (v := ?_) rfl (by kernel_rfl) (by kernel_rfl) (by kernel_rfl) (fun _ _ _ h => h) (Or.inl ⟨by rfl, ?_⟩) hHeld ?_
              rotate_left
              · (intro wz hSw; (try dsimp only at hSw); (try simp only [List.getElem_toArray, List.getElem_cons_succ, List.getElem_cons_zero]); go_simp; try with_reducible rfl)
              try simp only [List.getElem_toArray, List.getElem_cons_succ, List.getElem_cons_zero, Act.put, List.setIfInBounds_toArray, List.set_cons_zero, List.set_cons_succ]
              refine wpAnyH_take (i := 3) (v := ?_) rfl (by kernel_rfl) (by kernel_rfl) (by kernel_rfl) (fun _ _ _ h => h) (Or.inl ⟨by rfl, ?_⟩) hHeld ?_
              rotate_left
              · (intro wz hSw; (try dsimp only at hSw); (try simp only [List.getElem_toArray, List.getElem_cons_succ, List.getElem_cons_zero]); go_simp; try with_reducible rfl)
              try simp only [List.getElem_toArray, List.getElem_cons_succ, List.getElem_cons_zero, Act.put, List.setIfInBounds_toArray, List.set_cons_zero, List.set_cons_succ]
              refine wpAnyH_take (i := 4) (v := ?_) rfl (by kernel_rfl) (by kernel_rfl) (by kernel_rfl) (fun _ _ _ h => h) (Or.inl ⟨by rfl, ?_⟩) hHeld ?_
              rotate_left
              · (intro wz hSw; (try dsimp only at hSw); (try simp only [List.getElem_toArray, List.getElem_cons_succ, List.getElem_cons_zero]); go_simp; try with_reducible rfl)
              try simp only [List.getElem_toArray, List.getElem_cons_succ, List.getElem_cons_zero, Act.put, List.setIfInBounds_toArray, List.set_cons_zero, List.set_cons_succ]
              refine wpAnyH_ready (rs := [5, 9]) (by kernel_rfl) (by simp) ?_
              refine AllReadyH.cons rfl (fun K hK => ?_) (AllReadyH.cons rfl (fun K hK => ?_) AllReadyH.nil)
              · (try simp only [List.getElem_toArray, List.getElem_cons_succ, List.getElem_cons_zero]); go_simp
                refine (confChange_no' _ _ _ _ _ _ _ _ _ _ _ _ _ _ _ _ _ HE HE0.out).mono ?_; rintro e wa ⟨rfl, hbX⟩; have hkX := h0.trans (hbX.mono (by simp))
                refine hK.out _ _ (HK.out _ hkX) (fun hHeld' => ?_)
                clear hK K hHeld; have hHeld := hHeld'; clear hHeld'
                try simp only [List.getElem_toArray, List.getElem_cons_succ, List.getElem_cons_zero, Act.put, List.setIfInBounds_toArray, List.set_cons_zero, List.set_cons_succ]
                refine wpAnyH_take (i := 6) (v := ?_) rfl (by kernel_rfl) (by kernel_rfl) (by kernel_rfl) (fun _ _ _ h => h) (Or.inl ⟨by rfl, ?_⟩) hHeld ?_
                rotate_left
                · (intro wz hSw; (try dsimp only at hSw); (try simp only [List.getElem_toArray, List.getElem_cons_succ, List.getElem_cons_zero]); go_simp; try with_reducible rfl)
                try simp only [List.getElem_toArray, List.getElem_cons_succ, List.getElem_cons_zero, Act.put, List.setIfInBounds_toArray, List.set_cons_zero, List.set_cons_succ]
                refine wpAnyH_take (i := 7) (v := ?_) rfl (by kernel_rfl) (by kernel_rfl) (by kernel_rfl) (fun _ _ _ h => h) (Or.inl ⟨by rfl, ?_⟩) hHeld ?_
                rotate_left
                · (intro wz hSw; (try dsimp only at hSw); (try simp only [List.getElem_toArray, List.getElem_cons_succ, List.getElem_cons_zero]); go_simp; try with_reducible rfl)
                try simp only [List.getElem_toArray, List.getElem_cons_succ, List.getElem_cons_zero, Act.put, List.setIfInBounds_toArray, List.set_cons_zero, List.set_cons_succ]
                refine wpAnyH_take (i := 8) (v := ?_) rfl (by kernel_rfl) (by kernel_rfl) (by kernel_rfl) (fun _ _ _ h => h) (Or.inl ⟨by rfl, ?_⟩) hHeld ?_
                rotate_left
                · (intro wz hSw; (try dsimp only at hSw); (try simp only [List.getElem_toArray, List.getElem_cons_succ, List.getElem_cons_zero]); go_simp; try with_reducible rfl)
                try simp only [List.getElem_toArray, List.getElem_cons_succ, List.getElem_cons_zero, Act.put, List.setIfInBounds_toArray, List.set_cons_zero, List.set_cons_succ]
                refine wpAnyH_ready (rs := [9]) (by kernel_rfl) (by simp) ?_; refine AllReadyH.cons rfl (fun K hK => ?_) AllReadyH.nil; (try simp only [List.getElem_toArray, List.getElem_cons_succ, List.getElem_cons_zero]); go_simp
                have hkY := hkX.alloc hkX.size (.cells #[.int .u16 0, .int .u16 0, .int .u16 0, .int .i64 0, .int .i64 0, .int .u16 0, .int .u16 0, .int .u16 0, .int .i64 0, .int .i64 0, .bool false] 38)
                have hkZ := hkX.alloc hkX.size (.cells #[.int .u16 0, .int .u16 0, .int .u16 0, .int .i64 0, .int .i64 0, .int .u16 0, .int .u16 0, .int .u16 0, .int .i64 0, .int .i64 0, .bool false] 38)
                refine hK.out _ _ (HK.out _ hkZ) (fun hHeld' => ?_)
                clear hK K hHeld; have hHeld := hHeld'; clear hHeld'
                try simp only [List.getElem_toArray, List.getElem_cons_succ, List.getElem_cons_zero, Act.put, List.setIfInBounds_toArray, List.set_cons_zero, List.set_cons_succ]
                clear hkZ
                refine wpAnyH_ready (rs := [10]) (by kernel_rfl) (by simp) ?_; refine AllReadyH.cons rfl (fun K hK => ?_) AllReadyH.nil; (try simp only [List.getElem_toArray, List.getElem_cons_succ, List.getElem_cons_zero]); go_simp
                refine hK.out _ _ (HK.out _ hkY) (fun hHeld' => ?_)
                clear hK K hHeld; have hHeld := hHeld'; clear hHeld'
                try simp only [List.getElem_toArray, List.getElem_cons_succ, List.getElem_cons_zero, Act.put, List.setIfInBounds_toArray, List.set_cons_zero, List.set_cons_succ]
                refine wpAnyH_take (i := 11) (v := ?_) rfl (by kernel_rfl) (by kernel_rfl) (by kernel_rfl) (fun _ _ _ h => h) (Or.inl ⟨by rfl, ?_⟩) hHeld ?_
                rotate_left
                · (intro wz hSw; (try dsimp only at hSw); (try simp only [List.getElem_toArray, List.getElem_cons_succ, List.getElem_cons_zero]); go_simp; try with_reducible rfl)
                try simp only [List.getElem_toArray, List.getElem_cons_succ, List.getElem_cons_zero, Act.put, List.setIfInBounds_toArray, List.set_cons_zero, List.set_cons_succ]
                refine wpAnyH_done (by kernel_rfl) ?_ _
                go_wp2_with fail
                go_meet
                exact ⟨wa.heap.size, rfl, rfl, hkX.size, heap_last _ _, hkY⟩
              · (try simp only [List.getElem_toArray, List.getElem_cons_succ, List.getElem_cons_zero]); go_simp
                have hkX := h0.alloc (by simp) (.cells #[.int .u16 0, .int .u16 0, .int .u16 0, .int .i64 0, .int .i64 0, .int .u16 0, .int .u16 0, .int .u16 0, .int .i64 0, .int .i64 0, .bool false] 38)
                refine hK.out _ _ (HK.out _ hkX) (fun hHeld' => ?_)
                clear hK K hHeld; have hHeld := hHeld'; clear hHeld'
                try simp only [List.getElem_toArray, List.getElem_cons_succ, List.getElem_cons_zero, Act.put, List.setIfInBounds_toArray, List.set_cons_zero, List.set_cons_succ]
                refine wpAnyH_ready (rs := [5]) (by kernel_rfl) (by simp) ?_; refine AllReadyH.cons rfl (fun K hK => ?_) AllReadyH.nil; (try simp only [List.getElem_toArray, List.getElem_cons_succ, List.getElem_cons_zero]); go_simp
                refine (confChange_no' _ _ _ _ _ _ _ _ _ _ _ _ _ _ _ _ _ HE HE0.out).mono ?_; rintro e wa ⟨rfl, hbX⟩
                have hD : wa.heap[W.heap.size]? = some (.cells #[.int .u16 0, .int .u16 0, .int .u16 0, .int .i64 0, .int .i64 0, .int .u16 0, .int .u16 0, .int .u16 0, .int .i64 0, .int .i64 0, .bool false] 38 (0, 0)) := below_block hbX (by simp) (heap_last W.drew _)
                have hkY := hkX.trans (hbX.mono hkX.size)
                refine hK.out _ _ (HK.out _ hkY) (fun hHeld' => ?_)
                clear hK K hHeld; have hHeld := hHeld'; clear hHeld'
                try simp only [List.getElem_toArray, List.getElem_cons_succ, List.getElem_cons_zero, Act.put, List.setIfInBounds_toArray, List.set_cons_zero, List.set_cons_succ]
                refine wpAnyH_take (i := 6) (v := ?_) rfl (by kernel_rfl) (by kernel_rfl) (by kernel_rfl) (fun _ _ _ h => h) (Or.inl ⟨by rfl, ?_⟩) hHeld ?_
                rotate_left
                · (intro wz hSw; (try dsimp only at hSw); (try simp only [List.getElem_toArray, List.getElem_cons_succ, List.getElem_cons_zero]); go_simp; try with_reducible rfl)
                try simp only [List.getElem_toArray, List.getElem_cons_succ, List.getElem_cons_zero, Act.put, List.setIfInBounds_toArray, List.set_cons_zero, List.set_cons_succ]
                refine wpAnyH_take (i := 7) (v := ?_) rfl (by kernel_rfl) (by kernel_rfl) (by kernel_rfl) (fun _ _ _ h => h) (Or.inl ⟨by rfl, ?_⟩) hHeld ?_
                rotate_left
                · (intro wz hSw; (try dsimp only at hSw); (try simp only [List.getElem_toArray, List.getElem_cons_succ, List.getElem_cons_zero]); go_simp; try with_reducible rfl)
                try simp only [List.getElem_toArray, List.getElem_cons_succ, List.getElem_cons_zero, Act.put, List.setIfInBounds_toArray, List.set_cons_zero, List.set_cons_succ]
                refine wpAnyH_take (i := 8) (v := ?_) rfl (by kernel_rfl) (by kernel_rfl) (by kernel_rfl) (fun _ _ _ h => h) (Or.inl ⟨by rfl, ?_⟩) hHeld ?_
                rotate_left
                · (intro wz hSw; (try dsimp only at hSw); (try simp only [List.getElem_toArray, List.getElem_cons_succ, List.getElem_cons_zero]); go_simp; try with_reducible rfl)
                try simp only [List.getElem_toArray, List.getElem_cons_succ, List.getElem_cons_zero, Act.put, List.setIfInBounds_toArray, List.set_cons_zero, List.set_cons_succ]
                have kD := block_cells hD
                have kF := block_free hD
                have hszY := hkY.size
                have hkW := hkY.setCell (p := ⟨W.heap.size, 0, none⟩) (Nat.le_refl _) (.int .u16 0)
                replace hkW := hkW.setCell (p := ⟨W.heap.size, 1, none⟩) (Nat.le_refl _) (.int .u16 0)
                replace hkW := hkW.setCell (p := ⟨W.heap.size, 2, none⟩) (Nat.le_refl _) (.int .u16 0)
                replace hkW := hkW.setCell (p := ⟨W.heap.size, 3, none⟩) (Nat.le_refl _) (.int .i64 0)
                replace hkW := hkW.setCell (p := ⟨W.heap.size, 4, none⟩) (Nat.le_refl _) (.int .i64 0)
                replace hkW := hkW.setCell (p := ⟨W.heap.size, 5, none⟩) (Nat.le_refl _) (.int .u16 0)
                replace hkW := hkW.setCell (p := ⟨W.heap.size, 6, none⟩) (Nat.le_refl _) (.int .u16 0)
                replace hkW := hkW.setCell (p := ⟨W.heap.size, 7, none⟩) (Nat.le_refl _) (.int .u16 0)
                replace hkW := hkW.setCell (p := ⟨W.heap.size, 8, none⟩) (Nat.le_refl _) (.int .i64 0)
                replace hkW := hkW.setCell (p := ⟨W.heap.size, 9, none⟩) (Nat.le_refl _) (.int .i64 0)
                replace hkW := hkW.setCell (p := ⟨W.heap.size, 10, none⟩) (Nat.le_refl _) (.bool false)
                refine wpAnyH_ready (rs := [10]) (by kernel_rfl) (by simp) ?_; refine AllReadyH.cons rfl (fun K hK => ?_) AllReadyH.nil; (try simp only [List.getElem_toArray, List.getElem_cons_succ, List.getElem_cons_zero]); go_simp
                refine hK.out _ _ (HK.out _ hkW) (fun hHeld' => ?_)
                clear hK K hHeld; have hHeld := hHeld'; clear hHeld'
                try simp only [List.getElem_toArray, List.getElem_cons_succ, List.getElem_cons_zero, Act.put, List.setIfInBounds_toArray, List.set_cons_zero, List.set_cons_succ]
                refine wpAnyH_take (i := 11) (v := ?_) rfl (by kernel_rfl) (by kernel_rfl) (by kernel_rfl) (fun _ _ _ h => h) (Or.inl ⟨by rfl, ?_⟩) hHeld ?_
                rotate_left
                · (intro wz hSw; (try dsimp only at hSw); (try simp only [List.getElem_toArray, List.getElem_cons_succ, List.getElem_cons_zero]); go_simp; try with_reducible rfl)
                try simp only [List.getElem_toArray, List.getElem_cons_succ, List.getElem_cons_zero, Act.put, List.setIfInBounds_toArray, List.set_cons_zero, List.set_cons_succ]
                refine wpAnyH_done (by kernel_rfl) ?_ _
                go_wp2_with fail
                go_meet
                exact ⟨W.heap.size, rfl, rfl, Nat.le_refl _, set11 hD _ _ _ _ _ _ _ _ _ _ _, hkW⟩
            case rest =>
              obtain ⟨d, rfl, rfl, hd, hN, hb⟩ := hcut
              go_wp2_with fail
              go_roundw
              case rel => exact ⟨k + 1, ⟨jov, jox, jol, joe, jok⟩, by omega, by go_num, hm, hx, below_block hb.out hWs HA.out, below_block hb.out hGs HJ.out, bstep HB.out hb.out⟩
              case measure => simp [intOf]; omega
        · go_wp2_with fail
          go_ret
          exact ⟨rfl, HB.out⟩

set_option maxRecDepth 100000 in
theorem chain_lifted (os : Os) (started : os.Started) (H : Type) (enc : TypeId × Value → H) :
    ReturnsInHanded {} Try.checked os 8 .any (Rows.confChainSpec.pre6 enc Try.prog Try.f8 Rows.confChainRow.domain false) (Rows.confChainSpec.post enc Try.prog Try.f8 false true false false) := by
  refine lift_law (C := Try.checked) (tb := 4) (by kernel_rfl) started (by kernel_rfl) Try.func8 (ChangeSpec.witness6 (enc := enc) (C := Try.checked) false ⟨#[], #[.agg #[.int .u16 0, .int .u16 0, .int .u16 0, .int .i64 0, .int .i64 0], .slice none 0 0, .int .u16 0, .int .u16 0], []⟩ 8 (by kernel_rfl) (by kernel_rfl) (by kernel_rfl) (by kernel_rfl)) (by kernel_rfl) (by kernel_rfl) rfl Try.underlying4 rfl ?_ ?_
  · intro ds h
    match ds, h with
    | [_, _, _, _], _ => rfl
  · intro W base args ds ps hval0 hA0 hlt hsz
    have hval : ∀ (j : Nat) t v, Try.f8.params[j]? = some t → args[j]? = some v → Value.okWide Try.prog W .any base t v := hval0
    have hA : DataW.TrodAll enc Try.prog W 0 (fun _ => true) true Try.f8.params.toList args.toList ds ps := hA0
    rw [Try.params8] at hA hval
    obtain ⟨v0, v1, v2, v3, d0, d1, d2, d3, p0, p1, p2, p3, rfl, rfl, rfl, h0, h1, h2, h3⟩ := trodAll_four hA
    obtain ⟨cv, cx, cl, ce, ck, rfl, -⟩ := open_cfg (hval 0 33 v0 rfl rfl) h0
    obtain ⟨ts, p, cap, rfl, hts, hft, hcs⟩ := open_cfgs (hval 1 48 v1 rfl rfl) h1
    obtain ⟨a, rfl, rfl, rfl, wa⟩ := open_int Try.underlying23 (hval 2 23 v2 rfl rfl) h2
    obtain ⟨b, rfl, rfl, rfl, wb⟩ := open_int Try.underlying23 (hval 3 23 v3 rfl rfl) h3
    exact chain_walk cv cx cl ce ck ts p cap a b hft hts (wf_u16 wa).1 (wf_u16 wa).2 (wf_u16 wb).1 (wf_u16 wb).2 W hcs

theorem chain_holds : Rows.ConfChainSaid :=
  OpenClaim.holds_of_wide 8 Try.f8 rfl rfl rfl rfl rfl rfl rfl ⟨rfl, rfl, rfl, rfl, rfl⟩ rfl rfl rfl rfl rfl (by kernel_rfl) Try.func8 (by kernel_rfl)
    (of_decide_eq_true (by kernel_rfl)) (by unfold Func.isWrapper; first | (rw [if_pos (by decide +kernel)]; kernel_rfl) | (rw [if_neg (by decide +kernel)]; exact ⟨rfl, rfl⟩))
    (fun os started H enc _ => chain_lifted os started H enc)
#print axioms chain_holds

end Go.Proofs.Ytaaagidooieejaa
