/- Wire: lists of outcomes as bytes: package wire's and the document's. -/
import Derived.Test.YtmhmlpfkdpjlaaaGwA
import Derived.Test.YtmhmlpfkdpjlaaaPlainPart
import Derived.Test.YtmhmlpfkdpjlaaaHeld
import Derived.Test.YtmhmlpfkdpjlaaaWireD
namespace Go.Proofs.Ytmhmlpfkdpjlaaa
open Go.ChangeShapes Go.WideShapes Go.ChangeAt Go.RowKit

theorem Gw.one {base : Nat} {X w : World} (h : Gw base (.slice none 0 0) X (.slice none 0 0) w []) (hb : base ≤ X.heap.size) (x : Int) : Gw base (.slice none 0 0) X (.slice (some ⟨w.heap.size, 0, none⟩) 1 1) (w.alloc (.cells #[.int .u8 x] 5)) [x] :=
  ⟨(own_oneW w x).mono (h.hz hb), (h.alloc _).gr, fun k hk => .inr (by simp only [Value.ownBlock, Option.some.injEq] at hk; have := h.gr.size; omega)⟩
theorem Gw.none (base : Nat) (X : World) : Gw base (.slice none 0 0) X (.slice none 0 0) X [] := Gw.refl ⟨rfl, .inl ⟨rfl, rfl⟩⟩
theorem encY_len {n l s a : Int} (h1 : In64 n) (h2 : In64 l) (h3 : In64 s) (h4 : In64 a) : (encY n l s a).length ≤ 40 := by
  have := (encN_len h1).2; have := (encN_len h2).2; have := (encN_len h3).2; have := (encN_len h4).2
  unfold encY; simp only [List.length_append]; omega
theorem encF_len (b : Bool) : (encF b).length = 1 := rfl
/-- In a world of the class a block that is not the row's is as it was. -/
theorem grown_cells {X w : World} {row : Option Nat} (h : X.grownBy w row) {g : Nat} {cs : Array Value} {t : TypeId} (hq : X.heap[g]? = some (.cells cs t (0, 0))) (hn : row ≠ some g) : ∀ j, w.cell? ⟨g, j, none⟩ = cs[j]? :=
  block_cells ((h.block g (block_lt hq) (fun e => hn e.symm)).trans hq)
theorem Gw.cls {base : Nat} {v0 v : Value} {X w w' : World} {xs ys : List Int} (h : Gw base v0 X v w xs) (ho : X.ownsRow base 5 1 v0 ys.length (byt ys)) (hb : base ≤ X.heap.size) (hw : w.grownBy w' v.ownBlock) : Below base X w' :=
  (h.low ho hb).trans ⟨hw.os, hw.tape, hw.output, hw.size, fun k hk => hw.block k (by have := h.gr.size; omega) (fun e => by have := (h.own.lt k e.symm).1; omega)⟩
set_option maxRecDepth 100000 in
set_option maxHeartbeats 8000000 in
theorem routs_gw (base : Nat) (v : Value) (xs : List Int) (L : List OuX) (p : Option Addr) (c : Nat) (w0 w : World) (ho : w.ownsRow base 5 1 v xs.length (byt xs)) (hB : base ≤ w.heap.size) (h0 : w0.heap.size ≤ base) (hw0 : Below w0.heap.size w0 w) (hL : OusAt w0 p L) (hF : ∀ x ∈ L, OuF x) (hn : L.length ≤ 1000000) (hb : (xs.length : Int) + (encOus L).length ≤ 140737488300000) :
    Calls Try.prog 53 #[v, .slice p L.length c] w (GwE base v w (xs ++ encOus L)) := by
  have HL := Lib.hid hL; have HF := Lib.hid hF; have HW0 := Lib.hid hw0
  have hln := (encN_len (x := (L.length : Int)) ⟨by omega, by omega⟩).2
  have hle : (encOus L).length = (encN L.length).length + (L.flatMap encOu).length := by unfold encOus; rw [List.length_append]
  have HB : Hid (((xs ++ encN L.length ++ L.flatMap encOu).length : Int) ≤ 140737488300000) := by show _ ≤ _; simp only [List.length_append]; omega
  have HE : Hid (xs ++ encN L.length ++ L.flatMap encOu = xs ++ encOus L) := by show _ = _; unfold encOus; simp
  have HN := Lib.hid (rn_gw base v xs (L.length : Int) w ho hB ⟨by omega, by omega⟩ (by omega))
  have HW : Hid (Below w.heap.size w w) := Below.refl _ _
  have HO := Lib.hid ho
  clear hL hF ho hle hb hln hw0
  go_enter Try.func53, Try.ntmps53
  go_wp2_with fail
  refine HN.out.mono ?_; rintro e w1 ⟨v1, rfl, k1⟩
  have G1 : Hid (Gw base v w v1 w1 (xs ++ encN L.length)) := ((Gw.refl HO.out).below HW.out).trans k1
  clear k1 HN HW
  obtain ⟨X1, hX1⟩ : ∃ X, xs ++ encN L.length = X := ⟨_, rfl⟩
  rw [hX1] at G1 HB HE
  have HG0 : Hid (Gw base v w v1 w1 (X1 ++ (L.take 0).flatMap encOu)) := by show Gw _ _ _ _ _ _; simp only [List.take_zero, List.flatMap_nil, List.append_nil]; exact G1.out
  clear hX1 G1
  go_wp2_with fail
  go_loopw [0, 5] (fun u i wr => ∃ k : Nat, k ≤ L.length ∧ i = .int .i64 k ∧ Hid (Gw base v w u wr (X1 ++ (L.take k).flatMap encOu))) (fun _ i _ => L.length - (intOf i).toNat)
  case atStart => exact ⟨0, Nat.zero_le _, rfl, HG0⟩
  case round =>
    clear HG0
    obtain ⟨k, hk, rfl, HG⟩ := hrel
    obtain ⟨wk, rfl⟩ : ∃ wk : World, wk = wr := ⟨_, rfl⟩
    obtain ⟨vk, rfl⟩ : ∃ vk : Value, vk = u0 := ⟨_, rfl⟩
    by_cases hlt : k < L.length
    · have hd : decide ((k : Int) < (L.length : Int)) = true := by simp; omega
      have hgt : (k : Int) < (L.length : Int) := by omega
      obtain ⟨g, o, hpe, hg, q0, q1, q2, q3, q4, q5, q6⟩ := HL.out k hlt
      have hxF := HF.out L[k] (List.getElem_mem hlt)
      have hnx := flat_next (f := encOu) hlt
      have hfl := flat_le (f := encOu) L (k + 1)
      obtain ⟨x, hx⟩ : ∃ x, L[k] = x := ⟨_, rfl⟩
      rw [hx] at q0 q1 q2 q3 q4 q5 q6 hxF hnx
      have HNX : Hid (X1 ++ (L.take k).flatMap encOu ++ encY x.yn x.yl x.ys x.ya ++ stampB x.sw x.st ++ encF x.yes = X1 ++ (L.take (k + 1)).flatMap encOu) := by show _ = _; rw [hnx]; simp [encOu]
      have hen : (encOu x).length = (encY x.yn x.yl x.ys x.ya).length + 16 + 1 := by unfold encOu; rw [List.length_append, List.length_append, stampB_len, encF_len]
      have hbb := HB.out
      rw [hnx, List.length_append, hen] at hfl
      rw [List.length_append] at hbb
      have hyl := encY_len hxF.yn hxF.yl hxF.ys hxF.ya
      obtain ⟨Xk, hXk⟩ : ∃ X, X1 ++ (L.take k).flatMap encOu = X := ⟨_, rfl⟩
      have hlk : (Xk.length : Int) ≤ 140737488300000 := by rw [← hXk, List.length_append]; omega
      have HXK : Hid (Gw base v w vk wk Xk) := by show Gw _ _ _ _ _ _; rw [← hXk]; exact HG.out
      rw [hXk] at HNX
      have HXF := Lib.hid hxF
      have hzk : base ≤ wk.heap.size := HXK.out.hz hB
      have kl : ∀ w', wk.grownBy w' vk.ownBlock → ∀ j, w'.cell? ⟨g, j, none⟩ = w0.cell? ⟨g, j, none⟩ := fun w' h j => (HXK.out.cls HO.out hB h).cell (p := ⟨g, j, none⟩) (by show g < base; omega) |>.trans (HW0.out.cell (p := ⟨g, j, none⟩) hg)
      subst hpe
      clear hx hen hbb hfl hnx hXk HG hxF
      have r0 : ∀ w', wk.grownBy w' vk.ownBlock → w'.cell? ⟨g, o + k * 7, none⟩ = some (.int .i64 x.yn) := fun w' h => (kl w' h _).trans q0
      have r1 : ∀ w', wk.grownBy w' vk.ownBlock → w'.cell? ⟨g, o + k * 7 + 1, none⟩ = some (.int .i64 x.yl) := fun w' h => (kl w' h _).trans q1
      have r2 : ∀ w', wk.grownBy w' vk.ownBlock → w'.cell? ⟨g, o + k * 7 + 2, none⟩ = some (.int .i64 x.ys) := fun w' h => (kl w' h _).trans q2
      have r3 : ∀ w', wk.grownBy w' vk.ownBlock → w'.cell? ⟨g, o + k * 7 + 3, none⟩ = some (.int .i64 x.ya) := fun w' h => (kl w' h _).trans q3
      have r4 : ∀ w', wk.grownBy w' vk.ownBlock → w'.cell? ⟨g, o + k * 7 + 4, none⟩ = some (.int .i64 x.sw) := fun w' h => (kl w' h _).trans q4
      have r5 : ∀ w', wk.grownBy w' vk.ownBlock → w'.cell? ⟨g, o + k * 7 + 5, none⟩ = some (.int .i64 x.st) := fun w' h => (kl w' h _).trans q5
      have r6 : ∀ w', wk.grownBy w' vk.ownBlock → w'.cell? ⟨g, o + k * 7 + 6, none⟩ = some (.bool x.yes) := fun w' h => (kl w' h _).trans q6
      clear kl q0 q1 q2 q3 q4 q5 q6 hg
      go_upto_region 5 with fail
      refine wp_region_noPanic ?_
      have gw0 : Gw base vk wk vk wk.drew _ := (Gw.refl HXK.out.own).drew
      have hh0 := gw0.gr
      refine wp_region_held_drew (S := fun w' => World.grownBy wk w' (Value.ownBlock vk)) (by kernel_rfl) hh0 (fun hHeld => ?_)
      obtain ⟨wd, ewd⟩ : ∃ x, World.drew wk = x := ⟨_, rfl⟩
      rw [ewd] at gw0 hh0 hHeld ⊢
      clear ewd
      refine wpAnyH_take (i := 0) (v := ?_) rfl (by kernel_rfl) (by kernel_rfl) (by kernel_rfl) (fun _ _ _ h => h) (Or.inl ⟨by rfl, ?_⟩) hHeld ?_
      rotate_left
      · (intro wz hSw; (try dsimp only at hSw); (try simp only [List.getElem_toArray, List.getElem_cons_zero]); go_simp; try with_reducible rfl)
      try simp only [List.getElem_toArray, List.getElem_cons_zero, Act.put, List.setIfInBounds_toArray, List.set_cons_zero, List.set_cons_succ]
      refine wpAnyH_take (i := 1) (v := ?_) rfl (by kernel_rfl) (by kernel_rfl) (by kernel_rfl) (fun _ _ _ h => h) (Or.inl ⟨by rfl, ?_⟩) hHeld ?_
      rotate_left
      · (intro wz hSw; (try dsimp only at hSw); (try simp only [List.getElem_toArray, List.getElem_cons_succ, List.getElem_cons_zero]); go_simp; try with_reducible rfl)
      try simp only [List.getElem_toArray, List.getElem_cons_succ, List.getElem_cons_zero, Act.put, List.setIfInBounds_toArray, List.set_cons_zero, List.set_cons_succ]
      refine wpAnyH_take (i := 2) (v := ?_) rfl (by kernel_rfl) (by kernel_rfl) (by kernel_rfl) (fun _ _ _ h => h) (Or.inl ⟨by rfl, ?_⟩) hHeld ?_
      rotate_left
      · (intro wz hSw; (try dsimp only at hSw); (try simp only [List.getElem_toArray, List.getElem_cons_succ, List.getElem_cons_zero]); go_simp; try with_reducible rfl)
      try simp only [List.getElem_toArray, List.getElem_cons_succ, List.getElem_cons_zero, Act.put, List.setIfInBounds_toArray, List.set_cons_zero, List.set_cons_succ]
      refine wpAnyH_take (i := 3) (v := ?_) rfl (by kernel_rfl) (by kernel_rfl) (by kernel_rfl) (fun _ _ _ h => h) (Or.inl ⟨by rfl, ?_⟩) hHeld ?_
      rotate_left
      · (intro wz hSw; (try dsimp only at hSw); (try simp only [List.getElem_toArray, List.getElem_cons_succ, List.getElem_cons_zero]); go_simp; try with_reducible rfl)
      try simp only [List.getElem_toArray, List.getElem_cons_succ, List.getElem_cons_zero, Act.put, List.setIfInBounds_toArray, List.set_cons_zero, List.set_cons_succ]
      refine wpAnyH_take (i := 4) (v := ?_) rfl (by kernel_rfl) (by kernel_rfl) (by kernel_rfl) (fun _ _ _ h => h) (Or.inl ⟨by rfl, ?_⟩) hHeld ?_
      rotate_left
      · (intro wz hSw; (try dsimp only at hSw); (try simp only [List.getElem_toArray, List.getElem_cons_succ, List.getElem_cons_zero]); go_simp; try with_reducible rfl)
      try simp only [List.getElem_toArray, List.getElem_cons_succ, List.getElem_cons_zero, Act.put, List.setIfInBounds_toArray, List.set_cons_zero, List.set_cons_succ]
      refine wpAnyH_take (i := 5) (v := ?_) rfl (by kernel_rfl) (by kernel_rfl) (by kernel_rfl) (fun _ _ _ h => h) (Or.inl ⟨by rfl, ?_⟩) hHeld ?_
      rotate_left
      · (intro wz hSw; (try dsimp only at hSw); (try simp only [List.getElem_toArray, List.getElem_cons_succ, List.getElem_cons_zero]); go_simp; try with_reducible rfl)
      try simp only [List.getElem_toArray, List.getElem_cons_succ, List.getElem_cons_zero, Act.put, List.setIfInBounds_toArray, List.set_cons_zero, List.set_cons_succ]
      refine wpAnyH_take (i := 7) (v := ?_) rfl (by kernel_rfl) (by kernel_rfl) (by kernel_rfl) (fun _ _ _ h => h) (Or.inl ⟨by rfl, ?_⟩) hHeld ?_
      rotate_left
      · (intro wz hSw; (try dsimp only at hSw); (try simp only [List.getElem_toArray, List.getElem_cons_succ, List.getElem_cons_zero]); go_simp; try with_reducible rfl)
      try simp only [List.getElem_toArray, List.getElem_cons_succ, List.getElem_cons_zero, Act.put, List.setIfInBounds_toArray, List.set_cons_zero, List.set_cons_succ]
      refine wpAnyH_take (i := 8) (v := ?_) rfl (by kernel_rfl) (by kernel_rfl) (by kernel_rfl) (fun _ _ _ h => h) (Or.inl ⟨by rfl, ?_⟩) hHeld ?_
      rotate_left
      · (intro wz hSw; (try dsimp only at hSw); (try simp only [List.getElem_toArray, List.getElem_cons_succ, List.getElem_cons_zero]); go_simp; try with_reducible rfl)
      try simp only [List.getElem_toArray, List.getElem_cons_succ, List.getElem_cons_zero, Act.put, List.setIfInBounds_toArray, List.set_cons_zero, List.set_cons_succ]
      refine wpAnyH_take (i := 9) (v := ?_) rfl (by kernel_rfl) (by kernel_rfl) (by kernel_rfl) (fun _ _ _ h => h) (Or.inl ⟨by rfl, ?_⟩) hHeld ?_
      rotate_left
      · (intro wz hSw; (try dsimp only at hSw); (try simp only [List.getElem_toArray, List.getElem_cons_succ, List.getElem_cons_zero]); go_simp; try with_reducible rfl)
      try simp only [List.getElem_toArray, List.getElem_cons_succ, List.getElem_cons_zero, Act.put, List.setIfInBounds_toArray, List.set_cons_zero, List.set_cons_succ]
      refine wpAnyH_take (i := 10) (v := ?_) rfl (by kernel_rfl) (by kernel_rfl) (by kernel_rfl) (fun _ _ _ h => h) (Or.inl ⟨by rfl, ?_⟩) hHeld ?_
      rotate_left
      · (intro wz hSw; (try dsimp only at hSw); (try simp only [List.getElem_toArray, List.getElem_cons_succ, List.getElem_cons_zero]); go_simp; try with_reducible rfl)
      try simp only [List.getElem_toArray, List.getElem_cons_succ, List.getElem_cons_zero, Act.put, List.setIfInBounds_toArray, List.set_cons_zero, List.set_cons_succ]
      refine wpAnyH_take (i := 11) (v := ?_) rfl (by kernel_rfl) (by kernel_rfl) (by kernel_rfl) (fun _ _ _ h => h) (Or.inl ⟨by rfl, ?_⟩) hHeld ?_
      rotate_left
      · (intro wz hSw; (try dsimp only at hSw); (try simp only [List.getElem_toArray, List.getElem_cons_succ, List.getElem_cons_zero]); go_simp; try with_reducible rfl)
      try simp only [List.getElem_toArray, List.getElem_cons_succ, List.getElem_cons_zero, Act.put, List.setIfInBounds_toArray, List.set_cons_zero, List.set_cons_succ]
      refine wpAnyH_take (i := 13) (v := ?_) rfl (by kernel_rfl) (by kernel_rfl) (by kernel_rfl) (fun _ _ _ h => h) (Or.inl ⟨by rfl, ?_⟩) hHeld ?_
      rotate_left
      · (intro wz hSw; (try dsimp only at hSw); (try simp only [List.getElem_toArray, List.getElem_cons_succ, List.getElem_cons_zero]); go_simp; try with_reducible rfl)
      try simp only [List.getElem_toArray, List.getElem_cons_succ, List.getElem_cons_zero, Act.put, List.setIfInBounds_toArray, List.set_cons_zero, List.set_cons_succ]
      refine wpAnyH_take (i := 14) (v := ?_) rfl (by kernel_rfl) (by kernel_rfl) (by kernel_rfl) (fun _ _ _ h => h) (Or.inl ⟨by rfl, ?_⟩) hHeld ?_
      rotate_left
      · (intro wz hSw; (try dsimp only at hSw); (try simp only [List.getElem_toArray, List.getElem_cons_succ, List.getElem_cons_zero]); go_simp; try with_reducible rfl)
      try simp only [List.getElem_toArray, List.getElem_cons_succ, List.getElem_cons_zero, Act.put, List.setIfInBounds_toArray, List.set_cons_zero, List.set_cons_succ]
      refine wpAnyH_take (i := 15) (v := ?_) rfl (by kernel_rfl) (by kernel_rfl) (by kernel_rfl) (fun _ _ _ h => h) (Or.inl ⟨by rfl, ?_⟩) hHeld ?_
      rotate_left
      · (intro wz hSw; (try dsimp only at hSw); (try simp only [List.getElem_toArray, List.getElem_cons_succ, List.getElem_cons_zero]); go_simp; try with_reducible rfl)
      try simp only [List.getElem_toArray, List.getElem_cons_succ, List.getElem_cons_zero, Act.put, List.setIfInBounds_toArray, List.set_cons_zero, List.set_cons_succ]
      refine wpAnyH_take (i := 16) (v := ?_) rfl (by kernel_rfl) (by kernel_rfl) (by kernel_rfl) (fun _ _ _ h => h) (Or.inl ⟨by rfl, ?_⟩) hHeld ?_
      rotate_left
      · (intro wz hSw; (try dsimp only at hSw); (try simp only [List.getElem_toArray, List.getElem_cons_succ, List.getElem_cons_zero]); go_simp; try with_reducible rfl)
      try simp only [List.getElem_toArray, List.getElem_cons_succ, List.getElem_cons_zero, Act.put, List.setIfInBounds_toArray, List.set_cons_zero, List.set_cons_succ]
      refine wpAnyH_take (i := 17) (v := ?_) rfl (by kernel_rfl) (by kernel_rfl) (by kernel_rfl) (fun _ _ _ h => h) (Or.inl ⟨by rfl, ?_⟩) hHeld ?_
      rotate_left
      · (intro wz hSw; (try dsimp only at hSw); (try simp only [List.getElem_toArray, List.getElem_cons_succ, List.getElem_cons_zero]); go_simp; try with_reducible rfl)
      try simp only [List.getElem_toArray, List.getElem_cons_succ, List.getElem_cons_zero, Act.put, List.setIfInBounds_toArray, List.set_cons_zero, List.set_cons_succ]
      refine wpAnyH_ready (rs := [6]) (by kernel_rfl) (by simp) ?_
      refine AllReadyH.cons rfl (fun K hK => ?_) AllReadyH.nil
      try simp only [List.getElem_toArray, List.getElem_cons_succ, List.getElem_cons_zero]
      go_simp
      refine (ry_gw base vk _ x.yn x.yl x.ys x.ya _ gw0.own (gw0.hz hzk) HXF.out.yn HXF.out.yl HXF.out.ys HXF.out.ya (by omega)).mono ?_; rintro r wc1 ⟨vc6, rfl, kw1⟩
      have gw1 := gw0.trans kw1
      refine hK.out _ _ gw1.gr (fun _ => ?_)
      clear hK K hHeld
      try simp only [List.getElem_toArray, List.getElem_cons_succ, List.getElem_cons_zero, Act.put, List.setIfInBounds_toArray, List.set_cons_zero, List.set_cons_succ]
      have hHeld := gw1.gr
      refine wpAnyH_ready (rs := [12]) (by kernel_rfl) (by simp) ?_
      refine AllReadyH.cons rfl (fun K hK => ?_) AllReadyH.nil
      try simp only [List.getElem_toArray, List.getElem_cons_succ, List.getElem_cons_zero]
      go_simp
      refine (rs_gw base vc6 _ x.sw x.st _ gw1.own (gw1.hz hzk) HXF.out.sw HXF.out.st (by have := encY_len HXF.out.yn HXF.out.yl HXF.out.ys HXF.out.ya; simp only [List.length_append]; omega)).mono ?_; rintro r wc2 ⟨vc12, rfl, kw2⟩
      have gw2 := gw1.trans kw2
      refine hK.out _ _ gw2.gr (fun _ => ?_)
      clear hK K hHeld
      try simp only [List.getElem_toArray, List.getElem_cons_succ, List.getElem_cons_zero, Act.put, List.setIfInBounds_toArray, List.set_cons_zero, List.set_cons_succ]
      have hHeld := gw2.gr
      refine wpAnyH_ready (rs := [18]) (by kernel_rfl) (by simp) ?_
      refine AllReadyH.cons rfl (fun K hK => ?_) AllReadyH.nil
      try simp only [List.getElem_toArray, List.getElem_cons_succ, List.getElem_cons_zero]
      go_simp
      refine (rf_gw base vc12 _ x.yes _ gw2.own (gw2.hz hzk) (by have := encY_len HXF.out.yn HXF.out.yl HXF.out.ys HXF.out.ya; have := stampB_len x.sw x.st; simp only [List.length_append]; omega)).mono ?_; rintro r wc3 ⟨vc18, rfl, kw3⟩
      have gw3 := gw2.trans kw3
      refine hK.out _ _ gw3.gr (fun _ => ?_)
      clear hK K hHeld
      try simp only [List.getElem_toArray, List.getElem_cons_succ, List.getElem_cons_zero, Act.put, List.setIfInBounds_toArray, List.set_cons_zero, List.set_cons_succ]
      have hHeld := gw3.gr
      refine wpAnyH_take (i := 19) (v := ?_) rfl (by kernel_rfl) (by kernel_rfl) (by kernel_rfl) (fun _ _ _ h => h) (Or.inl ⟨by rfl, ?_⟩) hHeld ?_
      rotate_left
      · (intro wz hSw; (try dsimp only at hSw); (try simp only [List.getElem_toArray, List.getElem_cons_succ, List.getElem_cons_zero]); go_simp; try with_reducible rfl)
      try simp only [List.getElem_toArray, List.getElem_cons_succ, List.getElem_cons_zero, Act.put, List.setIfInBounds_toArray, List.set_cons_zero]
      refine wpAnyH_done (by kernel_rfl) ?_ _
      refine NoPanic.normal ?_
      have hfin := HXK.out.trans gw3
      rw [HNX.out] at hfin
      have HFIN := Lib.hid hfin
      clear hfin hHeld kw1 gw1 kw2 gw2 kw3 gw3 gw0 hh0 r0 r1 r2 r3 r4 r5 r6 HXK HNX HXF
      go_wp2_with fail
      go_roundw
      case rel => exact ⟨k + 1, by omega, by go_num, HFIN⟩
      case measure => simp [intOf]; omega
    · obtain rfl : k = L.length := by omega
      have hd : decide ((L.length : Int) < (L.length : Int)) = false := by simp
      have hh := HG.out
      rw [flat_all, HE.out] at hh
      have HH := Lib.hid hh
      clear hh HG
      go_wp2_with fail
      go_ret
      exact ⟨_, rfl, HH.out⟩
end Go.Proofs.Ytmhmlpfkdpjlaaa
