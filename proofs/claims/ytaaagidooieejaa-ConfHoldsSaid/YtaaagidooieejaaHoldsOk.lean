/- ConfHolds where the change is told: the walk. -/
import Derived.Test.YtaaagidooieejaaBegun10
import Derived.Test.YtaaagidooieejaaOpenConf
import Derived.Test.YtaaagidooieejaaPlainHolds
import Derived.Test.YtaaagidooieejaaHeld
import Derived.Deep.AppendLies
import Derived.Deep.DeepCutAuto
namespace Go.Proofs.Ytaaagidooieejaa
open Go.ChangeShapes Go.WideShapes Go.ChangeAt Go.RowKit

theorem own_below {B : Nat} {w w' : World} {base : Nat} {e : TypeId} {size : Nat} {v : Value} {n : Nat} {xs : List Value} (h : w.ownsRow base e size v n xs) (hb : Below B w w') (hB : w.heap.size ≤ B) : w'.ownsRow base e size v n xs :=
  h.kept (row := none) ⟨hb.os, hb.tape, hb.output, hb.size, fun k hk _ => hb.block k (by omega)⟩ (by cases v.ownBlock <;> simp)
theorem Try.infoJoint : (Try.prog.info? 38).map (fun i => (i.zero, i.size, i.bytes)) = some (some (.agg #[.int .u16 0, .int .u16 0, .int .u16 0, .int .i64 0, .int .i64 0, .int .u16 0, .int .u16 0, .int .u16 0, .int .i64 0, .int .i64 0, .bool false]), 11, 56) := by kernel_rfl

section
variable (jov jox jol joe jok jnv jnx jnl jne jnk : Int) (w : World)
theorem confFinal_two : Calls Try.prog 22 #[.agg #[.int .u16 jov, .int .u16 jox, .int .u16 jol, .int .i64 joe, .int .i64 jok, .int .u16 jnv, .int .u16 jnx, .int .u16 jnl, .int .i64 jne, .int .i64 jnk, .bool true]] w fun r w' => r = .returned (.agg #[.int .u16 jnv, .int .u16 jnx, .int .u16 jnl, .int .i64 jne, .int .i64 jnk, .int .u16 0, .int .u16 0, .int .u16 0, .int .i64 0, .int .i64 0, .bool false]) ∧ Below w.heap.size w w' := confFinal_any jov jox jol joe jok jnv jnx jnl jne jnk true w
theorem confChange_no' (jt : Bool) (tv tx tl te tk : Int) {E : Int} (h : Hid (changeE jov jox jol jt tv tx tl te tk = E)) (h0 : E ≠ 0) :
    Calls Try.prog 20 #[.agg #[.int .u16 jov, .int .u16 jox, .int .u16 jol, .int .i64 joe, .int .i64 jok, .int .u16 jnv, .int .u16 jnx, .int .u16 jnl, .int .i64 jne, .int .i64 jnk, .bool jt], .agg #[.int .u16 tv, .int .u16 tx, .int .u16 tl, .int .i64 te, .int .i64 tk]] w fun r w' => r = .returned (.tuple #[.agg #[.int .u16 0, .int .u16 0, .int .u16 0, .int .i64 0, .int .i64 0, .int .u16 0, .int .u16 0, .int .u16 0, .int .i64 0, .int .i64 0, .bool false], .int .i64 E]) ∧ Below w.heap.size w w' := by
  have := confChange_no jov jox jol joe jok jnv jnx jnl jne jnk jt tv tx tl te tk w (by rw [h.out]; exact h0)
  rw [h.out] at this; exact this
theorem confMayJoint_is (jt : Bool) {b : Bool} (h : Hid (mayJ jov jox jol joe jok jnv jnx jnl jne jnk jt = b)) : Calls Try.prog 26 #[.agg #[.int .u16 jov, .int .u16 jox, .int .u16 jol, .int .i64 joe, .int .i64 jok, .int .u16 jnv, .int .u16 jnx, .int .u16 jnl, .int .i64 jne, .int .i64 jnk, .bool jt]] w fun r w' => r = .returned (.bool b) ∧ Below w.heap.size w w' := by
  have := confMayJoint_any jov jox jol joe jok jnv jnx jnl jne jnk jt w
  rw [h.out] at this; exact this
end

set_option maxRecDepth 100000 in
set_option maxHeartbeats 8000000 in
theorem holds_ok (jov jox jol joe jok jnv jnx jnl jne jnk : Int) (tv tx tl te tk : Int) (a b : Int) (hm : mayJ jov jox jol joe jok jnv jnx jnl jne jnk false = true) (hc : changeE jov jox jol false tv tx tl te tk = 0) (w : World) :
    Calls Try.prog 7 #[.agg #[.int .u16 jov, .int .u16 jox, .int .u16 jol, .int .i64 joe, .int .i64 jok, .int .u16 jnv, .int .u16 jnx, .int .u16 jnl, .int .i64 jne, .int .i64 jnk, .bool false], .agg #[.int .u16 tv, .int .u16 tx, .int .u16 tl, .int .i64 te, .int .i64 tk], .int .u16 a, .int .u16 b] w fun r w' => r = .returned (.bool true) ∧ Below w.heap.size w w' := by
  obtain ⟨i0, hi, hz0, hz1, hz2⟩ := info_parts Try.infoJoint
  obtain ⟨-, ht, -, -⟩ := change_zero _ _ _ _ _ _ _ _ _ hc
  obtain ⟨m1, m2⟩ := may_made jov jox jol joe jok jnv jnx jnl jne jnk tv tx tl te tk hm ht
  have M1 := Lib.hid m1; have M2 := Lib.hid m2; have HM := Lib.hid hm; have HC := Lib.hid hc; have HT := Lib.hid ht
  obtain ⟨A, hA⟩ : ∃ A, bits .and .u16 a 1022 = A := ⟨_, rfl⟩
  obtain ⟨B, hB⟩ : ∃ B, bits .and .u16 b 1022 = B := ⟨_, rfl⟩
  have A0 : 0 ≤ A := by rw [← hA]; exact (bits_fit _ _ _).1
  have B0 : 0 ≤ B := by rw [← hB]; exact (bits_fit _ _ _).1
  have mo := mayJ_old _ _ _ _ _ _ _ _ _ _ _ hm
  have mt := (mayC_iff _ _ _ _ _).1 ht
  have nk := fun (h : electsC jov jox jol joe jok A = true) hz => no_commit jov jox jol joe jok A B A0 B0 mo hz h
  have ne := fun (h : electsC jov jox jol joe jok A = true) hz => no_elect jov jox jol joe jok A B A0 B0 mo hz h
  have tk' := fun (h : electsC tv tx tl te tk A = true) hz => no_commit tv tx tl te tk A B A0 B0 mt hz h
  have te' := fun (h : electsC tv tx tl te tk A = true) hz => no_elect tv tx tl te tk A B A0 B0 mt hz h
  have X00 : Hid (electsJ jov jox jol joe jok jnv jnx jnl jne jnk false A = true → bits .and .u16 A B = 0 → commitsJ jov jox jol joe jok jnv jnx jnl jne jnk false B = false ∧ electsJ jov jox jol joe jok jnv jnx jnl jne jnk false B = false) := fun h z => ⟨kj_old _ _ _ _ _ _ _ _ _ _ _ _ (nk (electsJ_old _ _ _ _ _ _ _ _ _ _ _ h) z), ej_old _ _ _ _ _ _ _ _ _ _ _ _ (ne (electsJ_old _ _ _ _ _ _ _ _ _ _ _ h) z)⟩
  have X01 : Hid (electsJ jov jox jol joe jok jnv jnx jnl jne jnk false A = true → bits .and .u16 A B = 0 → commitsJ jov jox jol joe jok tv tx tl te tk true B = false ∧ electsJ jov jox jol joe jok tv tx tl te tk true B = false) := fun h z => ⟨kj_old _ _ _ _ _ _ _ _ _ _ _ _ (nk (electsJ_old _ _ _ _ _ _ _ _ _ _ _ h) z), ej_old _ _ _ _ _ _ _ _ _ _ _ _ (ne (electsJ_old _ _ _ _ _ _ _ _ _ _ _ h) z)⟩
  have X10 : Hid (electsJ jov jox jol joe jok tv tx tl te tk true A = true → bits .and .u16 A B = 0 → commitsJ jov jox jol joe jok jnv jnx jnl jne jnk false B = false ∧ electsJ jov jox jol joe jok jnv jnx jnl jne jnk false B = false) := fun h z => ⟨kj_old _ _ _ _ _ _ _ _ _ _ _ _ (nk (electsJ_old _ _ _ _ _ _ _ _ _ _ _ h) z), ej_old _ _ _ _ _ _ _ _ _ _ _ _ (ne (electsJ_old _ _ _ _ _ _ _ _ _ _ _ h) z)⟩
  have X11 : Hid (electsJ jov jox jol joe jok tv tx tl te tk true A = true → bits .and .u16 A B = 0 → commitsJ jov jox jol joe jok tv tx tl te tk true B = false ∧ electsJ jov jox jol joe jok tv tx tl te tk true B = false) := fun h z => ⟨kj_old _ _ _ _ _ _ _ _ _ _ _ _ (nk (electsJ_old _ _ _ _ _ _ _ _ _ _ _ h) z), ej_old _ _ _ _ _ _ _ _ _ _ _ _ (ne (electsJ_old _ _ _ _ _ _ _ _ _ _ _ h) z)⟩
  have X12 : Hid (electsJ jov jox jol joe jok tv tx tl te tk true A = true → bits .and .u16 A B = 0 → commitsJ tv tx tl te tk 0 0 0 0 0 false B = false ∧ electsJ tv tx tl te tk 0 0 0 0 0 false B = false) := fun h z => ⟨kj_old _ _ _ _ _ _ _ _ _ _ _ _ (tk' (electsJ_new _ _ _ _ _ _ _ _ _ _ h) z), ej_old _ _ _ _ _ _ _ _ _ _ _ _ (te' (electsJ_new _ _ _ _ _ _ _ _ _ _ h) z)⟩
  have X21 : Hid (electsJ tv tx tl te tk 0 0 0 0 0 false A = true → bits .and .u16 A B = 0 → commitsJ jov jox jol joe jok tv tx tl te tk true B = false ∧ electsJ jov jox jol joe jok tv tx tl te tk true B = false) := fun h z => ⟨kj_new _ _ _ _ _ _ _ _ _ _ _ (tk' (electsJ_old _ _ _ _ _ _ _ _ _ _ _ h) z), ej_new _ _ _ _ _ _ _ _ _ _ _ (te' (electsJ_old _ _ _ _ _ _ _ _ _ _ _ h) z)⟩
  have X22 : Hid (electsJ tv tx tl te tk 0 0 0 0 0 false A = true → bits .and .u16 A B = 0 → commitsJ tv tx tl te tk 0 0 0 0 0 false B = false ∧ electsJ tv tx tl te tk 0 0 0 0 0 false B = false) := fun h z => ⟨kj_old _ _ _ _ _ _ _ _ _ _ _ _ (tk' (electsJ_old _ _ _ _ _ _ _ _ _ _ _ h) z), ej_old _ _ _ _ _ _ _ _ _ _ _ _ (te' (electsJ_old _ _ _ _ _ _ _ _ _ _ _ h) z)⟩
  clear nk ne tk' te' mo mt
  have HA := Lib.hid hA; have HB := Lib.hid hB
  clear m1 m2 hm hc ht hA hB
  go_enter Try.func7, Try.ntmps7
  go_wp2_with fail
  obtain ⟨U, f, hU, hf, hg⟩ := calm_class ((w.alloc (.cells #[.int .u16 jov, .int .u16 jox, .int .u16 jol, .int .i64 joe, .int .i64 jok, .int .u16 jnv, .int .u16 jnx, .int .u16 jnl, .int .i64 jne, .int .i64 jnk, .bool false] 38)).alloc (.cells #[.int .u16 tv, .int .u16 tx, .int .u16 tl, .int .i64 te, .int .i64 tk] 33)); obtain ⟨u0, hu0⟩ := hg _ (Below.refl _ _); rw [hu0]; clear hu0
  have HBl : Hid (∀ u, Below w.heap.size w (f u)) := fun u => (below_box w _).trans (((below_box _ _).mono (by simp)).trans ((hf u).mono (by simp; omega)))
  have hA := calm_heap hf (heap_prev (.cells #[.int .u16 tv, .int .u16 tx, .int .u16 tl, .int .i64 te, .int .i64 tk] 33) (heap_last w (.cells #[.int .u16 jov, .int .u16 jox, .int .u16 jol, .int .i64 joe, .int .i64 jok, .int .u16 jnv, .int .u16 jnx, .int .u16 jnl, .int .i64 jne, .int .i64 jnk, .bool false] 38)))
  have hB := calm_heap hf (heap_last (w.alloc (.cells #[.int .u16 jov, .int .u16 jox, .int .u16 jol, .int .i64 joe, .int .i64 jok, .int .u16 jnv, .int .u16 jnx, .int .u16 jnl, .int .i64 jne, .int .i64 jnk, .bool false] 38)) (.cells #[.int .u16 tv, .int .u16 tx, .int .u16 tl, .int .i64 te, .int .i64 tk] 33))
  have kA := fun u => block_cells (hA u)
  have kB := fun u => block_cells (hB u)
  have kA' := fun u (o : Obj) => block_cells (heap_prev o (hA u))
  simp only [World.size_alloc] at kB hB
  have HAA := Lib.hid hA; have HBB := Lib.hid hB
  clear hA hB
  refine (begun_any _).mono ?_; rintro r w' ⟨rfl, hb⟩; obtain ⟨u, rfl⟩ := calm_step hf hg hb; clear hb
  go_wp2_with fail
  refine (confMayJoint_is _ _ _ _ _ _ _ _ _ _ _ _ HM).mono ?_; rintro r w' ⟨rfl, hb⟩; obtain ⟨u, rfl⟩ := calm_step hf hg hb; clear hb
  go_wp2_with fail
  rw [HA.out, HB.out]
  go_wp2_with fail
  refine (confChange_ok _ _ _ _ _ _ _ _ _ _ _ _ _ _ _ _ _ HC.out).mono ?_; rintro r w' ⟨rfl, hb⟩; obtain ⟨u, rfl⟩ := calm_step hf hg hb; clear hb
  go_wp2_with fail
  have hN := heap_prev (.cells #[.int .u16 jov, .int .u16 jox, .int .u16 jol, .int .i64 joe, .int .i64 jok, .int .u16 jnv, .int .u16 jnx, .int .u16 jnl, .int .i64 jne, .int .i64 jnk, .bool false] 38) (heap_last (f u) (.cells #[.int .u16 jov, .int .u16 jox, .int .u16 jol, .int .i64 joe, .int .i64 jok, .int .u16 tv, .int .u16 tx, .int .u16 tl, .int .i64 te, .int .i64 tk, .bool true] 38))
  have hL := heap_last ((f u).alloc (.cells #[.int .u16 jov, .int .u16 jox, .int .u16 jol, .int .i64 joe, .int .i64 jok, .int .u16 tv, .int .u16 tx, .int .u16 tl, .int .i64 te, .int .i64 tk, .bool true] 38)) (.cells #[.int .u16 jov, .int .u16 jox, .int .u16 jol, .int .i64 joe, .int .i64 jok, .int .u16 jnv, .int .u16 jnx, .int .u16 jnl, .int .i64 jne, .int .i64 jnk, .bool false] 38)
  simp only [World.size_alloc] at hL
  have hW2 : Below w.heap.size w (((f u).alloc (.cells #[.int .u16 jov, .int .u16 jox, .int .u16 jol, .int .i64 joe, .int .i64 jok, .int .u16 tv, .int .u16 tx, .int .u16 tl, .int .i64 te, .int .i64 tk, .bool true] 38)).alloc (.cells #[.int .u16 jov, .int .u16 jox, .int .u16 jol, .int .i64 joe, .int .i64 jok, .int .u16 jnv, .int .u16 jnx, .int .u16 jnl, .int .i64 jne, .int .i64 jnk, .bool false] 38)) := ((HBl.out u).alloc (HBl.out u).size _).alloc (by have := (HBl.out u).size; simp; omega) _
  obtain ⟨G, hG⟩ : ∃ G, (f u).heap.size = G := ⟨_, rfl⟩
  have hGw : w.heap.size ≤ G := by rw [← hG]; exact (HBl.out u).size
  rw [hG] at hN hL ⊢
  obtain ⟨W2, hW⟩ : ∃ W2, (((f u).alloc (.cells #[.int .u16 jov, .int .u16 jox, .int .u16 jol, .int .i64 joe, .int .i64 jok, .int .u16 tv, .int .u16 tx, .int .u16 tl, .int .i64 te, .int .i64 tk, .bool true] 38)).alloc (.cells #[.int .u16 jov, .int .u16 jox, .int .u16 jol, .int .i64 joe, .int .i64 jok, .int .u16 jnv, .int .u16 jnx, .int .u16 jnl, .int .i64 jne, .int .i64 jnk, .bool false] 38)) = W2 := ⟨_, rfl⟩
  rw [hW] at hN hL hW2 ⊢
  clear kA kB kA' HAA HBB HBl hW hG hf hg hU
  clear f
  have HW2 := Lib.hid hW2
  clear hW2
  have hown0 : W2.ownsRow (G + 1) 38 11 (.slice (some ⟨G + 1, 0, none⟩) 1 1) 1 [.int .u16 jov, .int .u16 jox, .int .u16 jol, .int .i64 joe, .int .i64 jok, .int .u16 jnv, .int .u16 jnx, .int .u16 jnl, .int .i64 jne, .int .i64 jnk, .bool false] := ⟨rfl, .inr ⟨G + 1, 1, _, rfl, Nat.le_refl _, hL, Nat.le_refl _, by decide, rfl, rfl⟩⟩
  have HGL0 := block_lt hL
  have HO := Lib.hid hown0
  have h0 : Below W2.heap.size W2 W2.drew := (Below.refl _ _).drew
  have HN0 := Lib.hid hN
  have HK : Hid (∀ w', Below (G + 1) W2 w' → Below (G + 1) W2 w' ∧ (∀ j, w'.cell? ⟨G, j, none⟩ = #[.int .u16 jov, .int .u16 jox, .int .u16 jol, .int .i64 joe, .int .i64 jok, .int .u16 tv, .int .u16 tx, .int .u16 tl, .int .i64 te, .int .i64 tk, Value.bool true][j]?)) := fun w' h => ⟨h, block_cells (below_block h (by omega) HN0.out)⟩
  clear hL hown0 hN
  go_cut [11] (fun v wx => ∃ g cap, v = .slice (some ⟨g, 0, none⟩) 3 cap ∧ Hid (wx.ownsRow (G + 1) 38 11 (.slice (some ⟨g, 0, none⟩) 3 cap) 3 [.int .u16 jov, .int .u16 jox, .int .u16 jol, .int .i64 joe, .int .i64 jok, .int .u16 jnv, .int .u16 jnx, .int .u16 jnl, .int .i64 jne, .int .i64 jnk, .bool false, .int .u16 jov, .int .u16 jox, .int .u16 jol, .int .i64 joe, .int .i64 jok, .int .u16 tv, .int .u16 tx, .int .u16 tl, .int .i64 te, .int .i64 tk, .bool true, .int .u16 tv, .int .u16 tx, .int .u16 tl, .int .i64 te, .int .i64 tk, .int .u16 0, .int .u16 0, .int .u16 0, .int .i64 0, .int .i64 0, .bool false]) ∧ Hid (wx.heap[G]? = some (.cells #[.int .u16 jov, .int .u16 jox, .int .u16 jol, .int .i64 joe, .int .i64 jok, .int .u16 tv, .int .u16 tx, .int .u16 tl, .int .i64 te, .int .i64 tk, .bool true] 38 (0, 0))) ∧ Hid (Below w.heap.size w wx))
  case first =>
    refine wp_region_held_drew (S := (fun w' => Below (G + 1) W2 w' ∧ (∀ j, w'.cell? ⟨G, j, none⟩ = #[.int .u16 jov, .int .u16 jox, .int .u16 jol, .int .i64 joe, .int .i64 jok, .int .u16 tv, .int .u16 tx, .int .u16 tl, .int .i64 te, .int .i64 tk, Value.bool true][j]?))) (by kernel_rfl) (HK.out _ (h0.mono (by omega))) (fun hHeld => ?_)
    refine wpAnyH_take (i := 0) (v := ?_) rfl (by kernel_rfl) (by kernel_rfl) (by kernel_rfl) (fun _ _ _ h => h) (Or.inl ⟨by rfl, ?_⟩) hHeld ?_
    rotate_left
    · (intro wz hSw; (try dsimp only at hSw); (try simp only [List.getElem_toArray, List.getElem_cons_zero]); go_simp; try with_reducible rfl)
    try simp only [List.getElem_toArray, List.getElem_cons_zero, Act.put, List.setIfInBounds_toArray, List.set_cons_zero, List.set_cons_succ]
    refine wpAnyH_take (i := 1) (v := ?_) rfl (by kernel_rfl) (by kernel_rfl) (by kernel_rfl) (fun _ _ _ h => h) (Or.inl ⟨by rfl, ?_⟩) hHeld ?_
    rotate_left
    · (intro wz hSw; (try dsimp only at hSw); (try simp only [List.getElem_toArray, List.getElem_cons_succ, List.getElem_cons_zero]); go_simp; try with_reducible rfl)
    try simp only [List.getElem_toArray, List.getElem_cons_succ, List.getElem_cons_zero, Act.put, List.setIfInBounds_toArray, List.set_cons_zero, List.set_cons_succ]
    refine wpAnyH_take (i := 2) (v := ?_) rfl (by kernel_rfl) (by kernel_rfl) (by kernel_rfl) (fun _ _ _ h => h) (Or.inl ⟨by rfl, ?_⟩) hHeld ?_
    rotate_left
    · (intro wz hSw; (try dsimp only at hSw); (try simp only [List.getElem_toArray, List.getElem_cons_succ, List.getElem_cons_zero]); go_simp; try with_reducible rfl)
    try simp only [List.getElem_toArray, List.getElem_cons_succ, List.getElem_cons_zero, Act.put, List.setIfInBounds_toArray, List.set_cons_zero, List.set_cons_succ]
    refine wpAnyH_ready (rs := [3]) (by kernel_rfl) (by simp) ?_; refine AllReadyH.cons rfl (fun K hK => ?_) AllReadyH.nil; (try simp only [List.getElem_toArray, List.getElem_cons_succ, List.getElem_cons_zero]); go_simp
    refine (confFinal_two _ _ _ _ _ _ _ _ _ _ _).mono ?_; rintro e wa ⟨rfl, hbX⟩; have hkX := h0.trans (hbX.mono (by simp))
    refine hK.out _ _ (HK.out _ (hkX.mono (by omega))) (fun hHeld' => ?_)
    clear hK K hHeld; have hHeld := hHeld'; clear hHeld'
    try simp only [List.getElem_toArray, List.getElem_cons_succ, List.getElem_cons_zero, Act.put, List.setIfInBounds_toArray, List.set_cons_zero, List.set_cons_succ]
    refine wpAnyH_ready (rs := [4]) (by kernel_rfl) (by simp) ?_; refine AllReadyH.cons rfl (fun K hK => ?_) AllReadyH.nil; (try simp only [List.getElem_toArray, List.getElem_cons_succ, List.getElem_cons_zero]); go_simp
    have hkY := hkX.alloc hkX.size (.cells #[.int .u16 jov, .int .u16 jox, .int .u16 jol, .int .i64 joe, .int .i64 jok, .int .u16 tv, .int .u16 tx, .int .u16 tl, .int .i64 te, .int .i64 tk, .bool true, .int .u16 tv, .int .u16 tx, .int .u16 tl, .int .i64 te, .int .i64 tk, .int .u16 0, .int .u16 0, .int .u16 0, .int .i64 0, .int .i64 0, .bool false] 38)
    refine hK.out _ _ (HK.out _ (hkY.mono (by omega))) (fun hHeld' => ?_)
    clear hK K hHeld; have hHeld := hHeld'; clear hHeld'
    try simp only [List.getElem_toArray, List.getElem_cons_succ, List.getElem_cons_zero, Act.put, List.setIfInBounds_toArray, List.set_cons_zero, List.set_cons_succ]
    have hNa := below_block hkY (by omega) HN0.out
    have hsa := hkX.size
    have HO2 : Hid (wa.ownsRow (G + 1) 38 11 (.slice (some ⟨G + 1, 0, none⟩) 1 1) 1 [.int .u16 jov, .int .u16 jox, .int .u16 jol, .int .i64 joe, .int .i64 jok, .int .u16 jnv, .int .u16 jnx, .int .u16 jnl, .int .i64 jne, .int .i64 jnk, .bool false]) := own_below HO.out hkX (Nat.le_refl _)
    refine wpAnyH_ready (rs := [5]) (by kernel_rfl) (by simp) ?_; refine AllReadyH.cons rfl (fun K hK => ?_) AllReadyH.nil
    try simp only [List.getElem_toArray, List.getElem_cons_succ, List.getElem_cons_zero]
    rw [if_pos (by rfl)]
    refine wp_append_lies _ _ _ 45 (by rfl) (G + 1) 38 i0 (.agg #[.int .u16 0, .int .u16 0, .int .u16 0, .int .i64 0, .int .i64 0, .int .u16 0, .int .u16 0, .int .u16 0, .int .i64 0, .int .i64 0, .bool false]) 11 56 Try.underlying45 hi hz0 hz1 hz2 rfl (by decide) _ 1 [.int .u16 jov, .int .u16 jox, .int .u16 jol, .int .i64 joe, .int .i64 jok, .int .u16 jnv, .int .u16 jnx, .int .u16 jnl, .int .i64 jne, .int .i64 jnk, .bool false] (by rfl) (HO2.out.alloc _) ⟨wa.heap.size, 0, none⟩ 2 2 [.int .u16 jov, .int .u16 jox, .int .u16 jol, .int .i64 joe, .int .i64 jok, .int .u16 tv, .int .u16 tx, .int .u16 tl, .int .i64 te, .int .i64 tk, .bool true, .int .u16 tv, .int .u16 tx, .int .u16 tl, .int .i64 te, .int .i64 tk, .int .u16 0, .int .u16 0, .int .u16 0, .int .i64 0, .int .i64 0, .bool false] (by rfl) rfl ?c1 ?c2 (by decide) ?c3 ?c4 ?c5 _ rfl ?_
    case c1 => exact fun j v hv => by rw [add_plain, Nat.zero_add, block_cells (heap_last _ _)]; simpa using hv
    case c2 => simp [Value.oneCell']
    case c3 => unfold maxLen; omega
    case c4 => omega
    case c5 => simp; omega
    intro g cap w1 hown' hgrow _ _
    have hN1 : w1.heap[G]? = some (.cells #[.int .u16 jov, .int .u16 jox, .int .u16 jol, .int .i64 joe, .int .i64 jok, .int .u16 tv, .int .u16 tx, .int .u16 tl, .int .i64 te, .int .i64 tk, .bool true] 38 (0, 0)) := (hgrow.block G (by simp; omega) (by simp [Value.ownBlock])).trans hNa
    have hB1 : Below w.heap.size w w1 := ((HW2.out.trans (hkX.mono HW2.out.size)).alloc (by have := HW2.out.size; omega) _).grown hgrow (by simp; have := HW2.out.size; omega) (fun j hj => by simp [Value.ownBlock] at hj; omega)
    have hkZ : Below (G + 1) W2 w1 := (hkY.mono (by omega)).grown hgrow (by simp; omega) (fun j hj => by simp [Value.ownBlock] at hj; omega)
    refine hK.out _ _ (HK.out _ hkZ) (fun hHeld' => ?_)
    clear hK K hHeld; have hHeld := hHeld'; clear hHeld'
    try simp only [Act.put, List.setIfInBounds_toArray, List.set_cons_zero, List.set_cons_succ]
    refine wpAnyH_take (i := 6) (v := ?_) rfl (by kernel_rfl) (by kernel_rfl) (by kernel_rfl) (fun _ _ _ h => h) (Or.inl ⟨by rfl, ?_⟩) hHeld ?_
    rotate_left
    · (intro wz hSw; (try dsimp only at hSw); (try simp only [List.getElem_toArray, List.getElem_cons_succ, List.getElem_cons_zero]); go_simp; try with_reducible rfl)
    try simp only [List.getElem_toArray, List.getElem_cons_succ, List.getElem_cons_zero, Act.put, List.setIfInBounds_toArray, List.set_cons_zero, List.set_cons_succ]
    refine wpAnyH_done (by kernel_rfl) ?_ _
    go_wp2_with fail
    go_meet
    exact ⟨g, cap, rfl, hown', hN1, hB1⟩
  case rest =>
  obtain ⟨g, cap, rfl, hown', hN1, hB1⟩ := hcut
  obtain ⟨w1, rfl⟩ : ∃ w1 : World, w1 = wc := ⟨_, rfl⟩
  replace hown' := hown'.out; replace hN1 := hN1.out; replace hB1 := hB1.out
  have hown1 := hown'
  obtain ⟨hl1, hc1⟩ := hown1
  rcases hc1 with ⟨-, hc1⟩ | ⟨g', cap', cur, hv, hb, hgl, hn, hmx, hs, htk⟩
  · omega
  simp only [Value.slice.injEq, Option.some.injEq, Addr.mk.injEq, and_true, true_and] at hv
  obtain ⟨rfl, rfl⟩ := hv
  have HCUR : Hid (∀ j v, ([.int .u16 jov, .int .u16 jox, .int .u16 jol, .int .i64 joe, .int .i64 jok, .int .u16 jnv, .int .u16 jnx, .int .u16 jnl, .int .i64 jne, .int .i64 jnk, .bool false, .int .u16 jov, .int .u16 jox, .int .u16 jol, .int .i64 joe, .int .i64 jok, .int .u16 tv, .int .u16 tx, .int .u16 tl, .int .i64 te, .int .i64 tk, .bool true, .int .u16 tv, .int .u16 tx, .int .u16 tl, .int .i64 te, .int .i64 tk, .int .u16 0, .int .u16 0, .int .u16 0, .int .i64 0, .int .i64 0, .bool false] : List Value)[j]? = some v → cur[j]? = some v) := fun j v hj => by
    have hj33 : j < 33 := (List.getElem?_eq_some_iff.1 hj).1
    have e : (cur.toList.take (3 * 11))[j]? = some v := by rw [htk]; simpa using hj
    rw [List.getElem?_take_of_lt (by omega)] at e
    simpa using e
  have HN1 := Lib.hid hN1; have HB1 := Lib.hid hB1; have HGL := Lib.hid hgl
  clear hown' hN1 hB1 hgl hl1 hb hs htk HO HW2 HK HN0 h0
  obtain ⟨U, f, hU, hf, hg⟩ := calm_class w1; obtain ⟨u0, hu0⟩ := hg _ (Below.refl _ _); rw [hu0]; clear hu0
  have HBF : Hid (∀ u, Below w.heap.size w (f u)) := fun u => HB1.out.trans ((hf u).mono HB1.out.size)
  have hN3 := calm_heap hf HN1.out
  have hC3 := calm_heap hf HGL.out
  have kN := fun u => block_cells (hN3 u)
  clear hN3
  have c0 : ∀ u, (f u).cell? ⟨g, 0, none⟩ = some (.int .u16 jov) := fun u => (block_cells (hC3 u) 0).trans (HCUR.out 0 _ rfl)
  have c1 : ∀ u, (f u).cell? ⟨g, 1, none⟩ = some (.int .u16 jox) := fun u => (block_cells (hC3 u) 1).trans (HCUR.out 1 _ rfl)
  have c2 : ∀ u, (f u).cell? ⟨g, 2, none⟩ = some (.int .u16 jol) := fun u => (block_cells (hC3 u) 2).trans (HCUR.out 2 _ rfl)
  have c3 : ∀ u, (f u).cell? ⟨g, 3, none⟩ = some (.int .i64 joe) := fun u => (block_cells (hC3 u) 3).trans (HCUR.out 3 _ rfl)
  have c4 : ∀ u, (f u).cell? ⟨g, 4, none⟩ = some (.int .i64 jok) := fun u => (block_cells (hC3 u) 4).trans (HCUR.out 4 _ rfl)
  have c5 : ∀ u, (f u).cell? ⟨g, 5, none⟩ = some (.int .u16 jnv) := fun u => (block_cells (hC3 u) 5).trans (HCUR.out 5 _ rfl)
  have c6 : ∀ u, (f u).cell? ⟨g, 6, none⟩ = some (.int .u16 jnx) := fun u => (block_cells (hC3 u) 6).trans (HCUR.out 6 _ rfl)
  have c7 : ∀ u, (f u).cell? ⟨g, 7, none⟩ = some (.int .u16 jnl) := fun u => (block_cells (hC3 u) 7).trans (HCUR.out 7 _ rfl)
  have c8 : ∀ u, (f u).cell? ⟨g, 8, none⟩ = some (.int .i64 jne) := fun u => (block_cells (hC3 u) 8).trans (HCUR.out 8 _ rfl)
  have c9 : ∀ u, (f u).cell? ⟨g, 9, none⟩ = some (.int .i64 jnk) := fun u => (block_cells (hC3 u) 9).trans (HCUR.out 9 _ rfl)
  have c10 : ∀ u, (f u).cell? ⟨g, 10, none⟩ = some (.bool false) := fun u => (block_cells (hC3 u) 10).trans (HCUR.out 10 _ rfl)
  have c11 : ∀ u, (f u).cell? ⟨g, 11, none⟩ = some (.int .u16 jov) := fun u => (block_cells (hC3 u) 11).trans (HCUR.out 11 _ rfl)
  have c12 : ∀ u, (f u).cell? ⟨g, 12, none⟩ = some (.int .u16 jox) := fun u => (block_cells (hC3 u) 12).trans (HCUR.out 12 _ rfl)
  have c13 : ∀ u, (f u).cell? ⟨g, 13, none⟩ = some (.int .u16 jol) := fun u => (block_cells (hC3 u) 13).trans (HCUR.out 13 _ rfl)
  have c14 : ∀ u, (f u).cell? ⟨g, 14, none⟩ = some (.int .i64 joe) := fun u => (block_cells (hC3 u) 14).trans (HCUR.out 14 _ rfl)
  have c15 : ∀ u, (f u).cell? ⟨g, 15, none⟩ = some (.int .i64 jok) := fun u => (block_cells (hC3 u) 15).trans (HCUR.out 15 _ rfl)
  have c16 : ∀ u, (f u).cell? ⟨g, 16, none⟩ = some (.int .u16 tv) := fun u => (block_cells (hC3 u) 16).trans (HCUR.out 16 _ rfl)
  have c17 : ∀ u, (f u).cell? ⟨g, 17, none⟩ = some (.int .u16 tx) := fun u => (block_cells (hC3 u) 17).trans (HCUR.out 17 _ rfl)
  have c18 : ∀ u, (f u).cell? ⟨g, 18, none⟩ = some (.int .u16 tl) := fun u => (block_cells (hC3 u) 18).trans (HCUR.out 18 _ rfl)
  have c19 : ∀ u, (f u).cell? ⟨g, 19, none⟩ = some (.int .i64 te) := fun u => (block_cells (hC3 u) 19).trans (HCUR.out 19 _ rfl)
  have c20 : ∀ u, (f u).cell? ⟨g, 20, none⟩ = some (.int .i64 tk) := fun u => (block_cells (hC3 u) 20).trans (HCUR.out 20 _ rfl)
  have c21 : ∀ u, (f u).cell? ⟨g, 21, none⟩ = some (.bool true) := fun u => (block_cells (hC3 u) 21).trans (HCUR.out 21 _ rfl)
  have c22 : ∀ u, (f u).cell? ⟨g, 22, none⟩ = some (.int .u16 tv) := fun u => (block_cells (hC3 u) 22).trans (HCUR.out 22 _ rfl)
  have c23 : ∀ u, (f u).cell? ⟨g, 23, none⟩ = some (.int .u16 tx) := fun u => (block_cells (hC3 u) 23).trans (HCUR.out 23 _ rfl)
  have c24 : ∀ u, (f u).cell? ⟨g, 24, none⟩ = some (.int .u16 tl) := fun u => (block_cells (hC3 u) 24).trans (HCUR.out 24 _ rfl)
  have c25 : ∀ u, (f u).cell? ⟨g, 25, none⟩ = some (.int .i64 te) := fun u => (block_cells (hC3 u) 25).trans (HCUR.out 25 _ rfl)
  have c26 : ∀ u, (f u).cell? ⟨g, 26, none⟩ = some (.int .i64 tk) := fun u => (block_cells (hC3 u) 26).trans (HCUR.out 26 _ rfl)
  have c27 : ∀ u, (f u).cell? ⟨g, 27, none⟩ = some (.int .u16 0) := fun u => (block_cells (hC3 u) 27).trans (HCUR.out 27 _ rfl)
  have c28 : ∀ u, (f u).cell? ⟨g, 28, none⟩ = some (.int .u16 0) := fun u => (block_cells (hC3 u) 28).trans (HCUR.out 28 _ rfl)
  have c29 : ∀ u, (f u).cell? ⟨g, 29, none⟩ = some (.int .u16 0) := fun u => (block_cells (hC3 u) 29).trans (HCUR.out 29 _ rfl)
  have c30 : ∀ u, (f u).cell? ⟨g, 30, none⟩ = some (.int .i64 0) := fun u => (block_cells (hC3 u) 30).trans (HCUR.out 30 _ rfl)
  have c31 : ∀ u, (f u).cell? ⟨g, 31, none⟩ = some (.int .i64 0) := fun u => (block_cells (hC3 u) 31).trans (HCUR.out 31 _ rfl)
  have c32 : ∀ u, (f u).cell? ⟨g, 32, none⟩ = some (.bool false) := fun u => (block_cells (hC3 u) 32).trans (HCUR.out 32 _ rfl)
  clear hC3
  go_wp2_with fail
  refine (confMayJoint_is _ _ _ _ _ _ _ _ _ _ _ _ M1).mono ?_; rintro r w' ⟨rfl, hb⟩; obtain ⟨u, rfl⟩ := calm_step hf hg hb; clear hb
  go_wp2_with fail
  refine (confFinal_two _ _ _ _ _ _ _ _ _ _ _).mono ?_; rintro r w' ⟨rfl, hb⟩; obtain ⟨u, rfl⟩ := calm_step hf hg hb; clear hb
  go_wp2_with fail
  refine (confMayJoint_is _ _ _ _ _ _ _ _ _ _ _ _ M2).mono ?_; rintro r w' ⟨rfl, hb⟩; obtain ⟨u, rfl⟩ := calm_step hf hg hb; clear hb
  go_wp2_with fail
  clear kN M1 M2 HM HC HT HA HB HN1 HB1 HGL HCUR i0 hi hz0 hz1 hz2
  go_loopw [12] (fun i wr => ∃ k : Nat, k ≤ 3 ∧ i = .int .i64 k ∧ ∃ u, wr = f u) (fun i _ => (3 - intOf i).toNat)
  case atStart => exact ⟨0, by omega, rfl, _, rfl⟩
  case round =>
    obtain ⟨i, hi, rfl, ui, rfl⟩ := hrel
    obtain rfl | rfl | rfl | rfl : i = 0 ∨ i = 1 ∨ i = 2 ∨ i = 3 := by omega
    · (try dsimp only); repeat (first | go_values | go_skip | go_guarded | (refine wpList_skip (by rfl) ?_; simp only [Act.put, List.setIfInBounds_toArray, List.set_cons_zero, List.set_cons_succ]) | go_step | go_upon)
      go_loopw [13] (fun i wr => ∃ k : Nat, k ≤ 3 ∧ i = .int .i64 k ∧ ∃ u, wr = f u) (fun i _ => (3 - intOf i).toNat)
      case atStart => exact ⟨0, by omega, rfl, _, rfl⟩
      case round =>
        obtain ⟨k, hk, rfl, uk, rfl⟩ := hrel
        obtain rfl | rfl | rfl | rfl : k = 0 ∨ k = 1 ∨ k = 2 ∨ k = 3 := by omega
        · as_aux_lemma =>
            clear c11 c12 c13 c14 c15 c16 c17 c18 c19 c20 c21 c22 c23 c24 c25 c26 c27 c28 c29 c30 c31 c32 X01 X10 X11 X12 X21 X22
            cases hE : electsJ jov jox jol joe jok jnv jnx jnl jne jnk false A
            · have HE := Lib.hid hE; clear hE
              (try dsimp only); repeat (first | go_values | go_skip | go_guarded | (refine wpList_skip (by rfl) ?_; simp only [Act.put, List.setIfInBounds_toArray, List.set_cons_zero, List.set_cons_succ]) | go_step | go_upon)
              refine (confElects_is jov jox jol joe jok jnv jnx jnl jne jnk A false _ HE.out).mono ?_; rintro r w' ⟨rfl, hb⟩; obtain ⟨u, rfl⟩ := calm_step hf hg hb; clear hb
              (try dsimp only); repeat (first | go_values | go_skip | go_guarded | (refine wpList_skip (by rfl) ?_; simp only [Act.put, List.setIfInBounds_toArray, List.set_cons_zero, List.set_cons_succ]) | go_step | go_upon)
              go_roundw
              case rel => exact ⟨1, by omega, by go_num, _, rfl⟩
              case measure => simp [intOf]
            · have HE := Lib.hid hE; clear hE
              cases hz : (bits .and .u16 A B == 0)
              · cases hK : commitsJ jov jox jol joe jok jnv jnx jnl jne jnk false B <;> cases hV : electsJ jov jox jol joe jok jnv jnx jnl jne jnk false B
                all_goals
                  have HK := Lib.hid hK; have HV := Lib.hid hV; clear hK hV
                  (try dsimp only); repeat (first | go_values | go_skip | go_guarded | (refine wpList_skip (by rfl) ?_; simp only [Act.put, List.setIfInBounds_toArray, List.set_cons_zero, List.set_cons_succ]) | go_step | go_upon)
                  refine (confElects_is jov jox jol joe jok jnv jnx jnl jne jnk A false _ HE.out).mono ?_; rintro r w' ⟨rfl, hb⟩; obtain ⟨u, rfl⟩ := calm_step hf hg hb; clear hb
                  (try dsimp only); repeat (first | go_values | go_skip | go_guarded | (refine wpList_skip (by rfl) ?_; simp only [Act.put, List.setIfInBounds_toArray, List.set_cons_zero, List.set_cons_succ]) | go_step | go_upon)
                  refine (confCommits_is jov jox jol joe jok jnv jnx jnl jne jnk B false _ HK.out).mono ?_; rintro r w' ⟨rfl, hb⟩; obtain ⟨u, rfl⟩ := calm_step hf hg hb; clear hb
                  (try dsimp only); repeat (first | go_values | go_skip | go_guarded | (refine wpList_skip (by rfl) ?_; simp only [Act.put, List.setIfInBounds_toArray, List.set_cons_zero, List.set_cons_succ]) | go_step | go_upon)
                  refine (confElects_is jov jox jol joe jok jnv jnx jnl jne jnk B false _ HV.out).mono ?_; rintro r w' ⟨rfl, hb⟩; obtain ⟨u, rfl⟩ := calm_step hf hg hb; clear hb
                  (try dsimp only); repeat (first | go_values | go_skip | go_guarded | (refine wpList_skip (by rfl) ?_; simp only [Act.put, List.setIfInBounds_toArray, List.set_cons_zero, List.set_cons_succ]) | go_step | go_upon)
                  go_roundw
                  case rel => exact ⟨1, by omega, by go_num, _, rfl⟩
                  case measure => simp [intOf]
              · obtain ⟨hK, hV⟩ := X00.out HE.out (by simpa using hz)
                have HK := Lib.hid hK; have HV := Lib.hid hV; clear hK hV
                (try dsimp only); repeat (first | go_values | go_skip | go_guarded | (refine wpList_skip (by rfl) ?_; simp only [Act.put, List.setIfInBounds_toArray, List.set_cons_zero, List.set_cons_succ]) | go_step | go_upon)
                refine (confElects_is jov jox jol joe jok jnv jnx jnl jne jnk A false _ HE.out).mono ?_; rintro r w' ⟨rfl, hb⟩; obtain ⟨u, rfl⟩ := calm_step hf hg hb; clear hb
                (try dsimp only); repeat (first | go_values | go_skip | go_guarded | (refine wpList_skip (by rfl) ?_; simp only [Act.put, List.setIfInBounds_toArray, List.set_cons_zero, List.set_cons_succ]) | go_step | go_upon)
                refine (confCommits_is jov jox jol joe jok jnv jnx jnl jne jnk B false _ HK.out).mono ?_; rintro r w' ⟨rfl, hb⟩; obtain ⟨u, rfl⟩ := calm_step hf hg hb; clear hb
                (try dsimp only); repeat (first | go_values | go_skip | go_guarded | (refine wpList_skip (by rfl) ?_; simp only [Act.put, List.setIfInBounds_toArray, List.set_cons_zero, List.set_cons_succ]) | go_step | go_upon)
                refine (confElects_is jov jox jol joe jok jnv jnx jnl jne jnk B false _ HV.out).mono ?_; rintro r w' ⟨rfl, hb⟩; obtain ⟨u, rfl⟩ := calm_step hf hg hb; clear hb
                (try dsimp only); repeat (first | go_values | go_skip | go_guarded | (refine wpList_skip (by rfl) ?_; simp only [Act.put, List.setIfInBounds_toArray, List.set_cons_zero, List.set_cons_succ]) | go_step | go_upon)
                go_roundw
                case rel => exact ⟨1, by omega, by go_num, _, rfl⟩
                case measure => simp [intOf]
        · as_aux_lemma =>
            clear c22 c23 c24 c25 c26 c27 c28 c29 c30 c31 c32 X00 X10 X11 X12 X21 X22
            cases hE : electsJ jov jox jol joe jok jnv jnx jnl jne jnk false A
            · have HE := Lib.hid hE; clear hE
              (try dsimp only); repeat (first | go_values | go_skip | go_guarded | (refine wpList_skip (by rfl) ?_; simp only [Act.put, List.setIfInBounds_toArray, List.set_cons_zero, List.set_cons_succ]) | go_step | go_upon)
              refine (confElects_is jov jox jol joe jok jnv jnx jnl jne jnk A false _ HE.out).mono ?_; rintro r w' ⟨rfl, hb⟩; obtain ⟨u, rfl⟩ := calm_step hf hg hb; clear hb
              (try dsimp only); repeat (first | go_values | go_skip | go_guarded | (refine wpList_skip (by rfl) ?_; simp only [Act.put, List.setIfInBounds_toArray, List.set_cons_zero, List.set_cons_succ]) | go_step | go_upon)
              go_roundw
              case rel => exact ⟨2, by omega, by go_num, _, rfl⟩
              case measure => simp [intOf]
            · have HE := Lib.hid hE; clear hE
              cases hz : (bits .and .u16 A B == 0)
              · cases hK : commitsJ jov jox jol joe jok tv tx tl te tk true B <;> cases hV : electsJ jov jox jol joe jok tv tx tl te tk true B
                all_goals
                  have HK := Lib.hid hK; have HV := Lib.hid hV; clear hK hV
                  (try dsimp only); repeat (first | go_values | go_skip | go_guarded | (refine wpList_skip (by rfl) ?_; simp only [Act.put, List.setIfInBounds_toArray, List.set_cons_zero, List.set_cons_succ]) | go_step | go_upon)
                  refine (confElects_is jov jox jol joe jok jnv jnx jnl jne jnk A false _ HE.out).mono ?_; rintro r w' ⟨rfl, hb⟩; obtain ⟨u, rfl⟩ := calm_step hf hg hb; clear hb
                  (try dsimp only); repeat (first | go_values | go_skip | go_guarded | (refine wpList_skip (by rfl) ?_; simp only [Act.put, List.setIfInBounds_toArray, List.set_cons_zero, List.set_cons_succ]) | go_step | go_upon)
                  refine (confCommits_is jov jox jol joe jok tv tx tl te tk B true _ HK.out).mono ?_; rintro r w' ⟨rfl, hb⟩; obtain ⟨u, rfl⟩ := calm_step hf hg hb; clear hb
                  (try dsimp only); repeat (first | go_values | go_skip | go_guarded | (refine wpList_skip (by rfl) ?_; simp only [Act.put, List.setIfInBounds_toArray, List.set_cons_zero, List.set_cons_succ]) | go_step | go_upon)
                  refine (confElects_is jov jox jol joe jok tv tx tl te tk B true _ HV.out).mono ?_; rintro r w' ⟨rfl, hb⟩; obtain ⟨u, rfl⟩ := calm_step hf hg hb; clear hb
                  (try dsimp only); repeat (first | go_values | go_skip | go_guarded | (refine wpList_skip (by rfl) ?_; simp only [Act.put, List.setIfInBounds_toArray, List.set_cons_zero, List.set_cons_succ]) | go_step | go_upon)
                  go_roundw
                  case rel => exact ⟨2, by omega, by go_num, _, rfl⟩
                  case measure => simp [intOf]
              · obtain ⟨hK, hV⟩ := X01.out HE.out (by simpa using hz)
                have HK := Lib.hid hK; have HV := Lib.hid hV; clear hK hV
                (try dsimp only); repeat (first | go_values | go_skip | go_guarded | (refine wpList_skip (by rfl) ?_; simp only [Act.put, List.setIfInBounds_toArray, List.set_cons_zero, List.set_cons_succ]) | go_step | go_upon)
                refine (confElects_is jov jox jol joe jok jnv jnx jnl jne jnk A false _ HE.out).mono ?_; rintro r w' ⟨rfl, hb⟩; obtain ⟨u, rfl⟩ := calm_step hf hg hb; clear hb
                (try dsimp only); repeat (first | go_values | go_skip | go_guarded | (refine wpList_skip (by rfl) ?_; simp only [Act.put, List.setIfInBounds_toArray, List.set_cons_zero, List.set_cons_succ]) | go_step | go_upon)
                refine (confCommits_is jov jox jol joe jok tv tx tl te tk B true _ HK.out).mono ?_; rintro r w' ⟨rfl, hb⟩; obtain ⟨u, rfl⟩ := calm_step hf hg hb; clear hb
                (try dsimp only); repeat (first | go_values | go_skip | go_guarded | (refine wpList_skip (by rfl) ?_; simp only [Act.put, List.setIfInBounds_toArray, List.set_cons_zero, List.set_cons_succ]) | go_step | go_upon)
                refine (confElects_is jov jox jol joe jok tv tx tl te tk B true _ HV.out).mono ?_; rintro r w' ⟨rfl, hb⟩; obtain ⟨u, rfl⟩ := calm_step hf hg hb; clear hb
                (try dsimp only); repeat (first | go_values | go_skip | go_guarded | (refine wpList_skip (by rfl) ?_; simp only [Act.put, List.setIfInBounds_toArray, List.set_cons_zero, List.set_cons_succ]) | go_step | go_upon)
                go_roundw
                case rel => exact ⟨2, by omega, by go_num, _, rfl⟩
                case measure => simp [intOf]
        · as_aux_lemma =>
            clear c0 c1 c2 c3 c4 c5 c6 c7 c8 c9 c10 c11 c12 c13 c14 c15 c16 c17 c18 c19 c20 c21 c22 c23 c24 c25 c26 c27 c28 c29 c30 c31 c32 X00 X01 X10 X11 X12 X21 X22
            (try dsimp only); repeat (first | go_values | go_skip | go_guarded | (refine wpList_skip (by rfl) ?_; simp only [Act.put, List.setIfInBounds_toArray, List.set_cons_zero, List.set_cons_succ]) | go_step | go_upon)
            go_roundw
            case rel => exact ⟨3, by omega, by go_num, _, rfl⟩
            case measure => simp [intOf]
        · (try dsimp only); repeat (first | go_values | go_skip | go_guarded | (refine wpList_skip (by rfl) ?_; simp only [Act.put, List.setIfInBounds_toArray, List.set_cons_zero, List.set_cons_succ]) | go_step | go_upon)
          go_roundw
          case rel => exact ⟨1, by omega, by go_num, _, rfl⟩
          case measure => simp [intOf]
    · (try dsimp only); repeat (first | go_values | go_skip | go_guarded | (refine wpList_skip (by rfl) ?_; simp only [Act.put, List.setIfInBounds_toArray, List.set_cons_zero, List.set_cons_succ]) | go_step | go_upon)
      go_loopw [13] (fun i wr => ∃ k : Nat, k ≤ 3 ∧ i = .int .i64 k ∧ ∃ u, wr = f u) (fun i _ => (3 - intOf i).toNat)
      case atStart => exact ⟨0, by omega, rfl, _, rfl⟩
      case round =>
        obtain ⟨k, hk, rfl, uk, rfl⟩ := hrel
        obtain rfl | rfl | rfl | rfl : k = 0 ∨ k = 1 ∨ k = 2 ∨ k = 3 := by omega
        · as_aux_lemma =>
            clear c22 c23 c24 c25 c26 c27 c28 c29 c30 c31 c32 X00 X01 X11 X12 X21 X22
            cases hE : electsJ jov jox jol joe jok tv tx tl te tk true A
            · have HE := Lib.hid hE; clear hE
              (try dsimp only); repeat (first | go_values | go_skip | go_guarded | (refine wpList_skip (by rfl) ?_; simp only [Act.put, List.setIfInBounds_toArray, List.set_cons_zero, List.set_cons_succ]) | go_step | go_upon)
              refine (confElects_is jov jox jol joe jok tv tx tl te tk A true _ HE.out).mono ?_; rintro r w' ⟨rfl, hb⟩; obtain ⟨u, rfl⟩ := calm_step hf hg hb; clear hb
              (try dsimp only); repeat (first | go_values | go_skip | go_guarded | (refine wpList_skip (by rfl) ?_; simp only [Act.put, List.setIfInBounds_toArray, List.set_cons_zero, List.set_cons_succ]) | go_step | go_upon)
              go_roundw
              case rel => exact ⟨1, by omega, by go_num, _, rfl⟩
              case measure => simp [intOf]
            · have HE := Lib.hid hE; clear hE
              cases hz : (bits .and .u16 A B == 0)
              · cases hK : commitsJ jov jox jol joe jok jnv jnx jnl jne jnk false B <;> cases hV : electsJ jov jox jol joe jok jnv jnx jnl jne jnk false B
                all_goals
                  have HK := Lib.hid hK; have HV := Lib.hid hV; clear hK hV
                  (try dsimp only); repeat (first | go_values | go_skip | go_guarded | (refine wpList_skip (by rfl) ?_; simp only [Act.put, List.setIfInBounds_toArray, List.set_cons_zero, List.set_cons_succ]) | go_step | go_upon)
                  refine (confElects_is jov jox jol joe jok tv tx tl te tk A true _ HE.out).mono ?_; rintro r w' ⟨rfl, hb⟩; obtain ⟨u, rfl⟩ := calm_step hf hg hb; clear hb
                  (try dsimp only); repeat (first | go_values | go_skip | go_guarded | (refine wpList_skip (by rfl) ?_; simp only [Act.put, List.setIfInBounds_toArray, List.set_cons_zero, List.set_cons_succ]) | go_step | go_upon)
                  refine (confCommits_is jov jox jol joe jok jnv jnx jnl jne jnk B false _ HK.out).mono ?_; rintro r w' ⟨rfl, hb⟩; obtain ⟨u, rfl⟩ := calm_step hf hg hb; clear hb
                  (try dsimp only); repeat (first | go_values | go_skip | go_guarded | (refine wpList_skip (by rfl) ?_; simp only [Act.put, List.setIfInBounds_toArray, List.set_cons_zero, List.set_cons_succ]) | go_step | go_upon)
                  refine (confElects_is jov jox jol joe jok jnv jnx jnl jne jnk B false _ HV.out).mono ?_; rintro r w' ⟨rfl, hb⟩; obtain ⟨u, rfl⟩ := calm_step hf hg hb; clear hb
                  (try dsimp only); repeat (first | go_values | go_skip | go_guarded | (refine wpList_skip (by rfl) ?_; simp only [Act.put, List.setIfInBounds_toArray, List.set_cons_zero, List.set_cons_succ]) | go_step | go_upon)
                  go_roundw
                  case rel => exact ⟨1, by omega, by go_num, _, rfl⟩
                  case measure => simp [intOf]
              · obtain ⟨hK, hV⟩ := X10.out HE.out (by simpa using hz)
                have HK := Lib.hid hK; have HV := Lib.hid hV; clear hK hV
                (try dsimp only); repeat (first | go_values | go_skip | go_guarded | (refine wpList_skip (by rfl) ?_; simp only [Act.put, List.setIfInBounds_toArray, List.set_cons_zero, List.set_cons_succ]) | go_step | go_upon)
                refine (confElects_is jov jox jol joe jok tv tx tl te tk A true _ HE.out).mono ?_; rintro r w' ⟨rfl, hb⟩; obtain ⟨u, rfl⟩ := calm_step hf hg hb; clear hb
                (try dsimp only); repeat (first | go_values | go_skip | go_guarded | (refine wpList_skip (by rfl) ?_; simp only [Act.put, List.setIfInBounds_toArray, List.set_cons_zero, List.set_cons_succ]) | go_step | go_upon)
                refine (confCommits_is jov jox jol joe jok jnv jnx jnl jne jnk B false _ HK.out).mono ?_; rintro r w' ⟨rfl, hb⟩; obtain ⟨u, rfl⟩ := calm_step hf hg hb; clear hb
                (try dsimp only); repeat (first | go_values | go_skip | go_guarded | (refine wpList_skip (by rfl) ?_; simp only [Act.put, List.setIfInBounds_toArray, List.set_cons_zero, List.set_cons_succ]) | go_step | go_upon)
                refine (confElects_is jov jox jol joe jok jnv jnx jnl jne jnk B false _ HV.out).mono ?_; rintro r w' ⟨rfl, hb⟩; obtain ⟨u, rfl⟩ := calm_step hf hg hb; clear hb
                (try dsimp only); repeat (first | go_values | go_skip | go_guarded | (refine wpList_skip (by rfl) ?_; simp only [Act.put, List.setIfInBounds_toArray, List.set_cons_zero, List.set_cons_succ]) | go_step | go_upon)
                go_roundw
                case rel => exact ⟨1, by omega, by go_num, _, rfl⟩
                case measure => simp [intOf]
        · as_aux_lemma =>
            clear c0 c1 c2 c3 c4 c5 c6 c7 c8 c9 c10 c22 c23 c24 c25 c26 c27 c28 c29 c30 c31 c32 X00 X01 X10 X12 X21 X22
            cases hE : electsJ jov jox jol joe jok tv tx tl te tk true A
            · have HE := Lib.hid hE; clear hE
              (try dsimp only); repeat (first | go_values | go_skip | go_guarded | (refine wpList_skip (by rfl) ?_; simp only [Act.put, List.setIfInBounds_toArray, List.set_cons_zero, List.set_cons_succ]) | go_step | go_upon)
              refine (confElects_is jov jox jol joe jok tv tx tl te tk A true _ HE.out).mono ?_; rintro r w' ⟨rfl, hb⟩; obtain ⟨u, rfl⟩ := calm_step hf hg hb; clear hb
              (try dsimp only); repeat (first | go_values | go_skip | go_guarded | (refine wpList_skip (by rfl) ?_; simp only [Act.put, List.setIfInBounds_toArray, List.set_cons_zero, List.set_cons_succ]) | go_step | go_upon)
              go_roundw
              case rel => exact ⟨2, by omega, by go_num, _, rfl⟩
              case measure => simp [intOf]
            · have HE := Lib.hid hE; clear hE
              cases hz : (bits .and .u16 A B == 0)
              · cases hK : commitsJ jov jox jol joe jok tv tx tl te tk true B <;> cases hV : electsJ jov jox jol joe jok tv tx tl te tk true B
                all_goals
                  have HK := Lib.hid hK; have HV := Lib.hid hV; clear hK hV
                  (try dsimp only); repeat (first | go_values | go_skip | go_guarded | (refine wpList_skip (by rfl) ?_; simp only [Act.put, List.setIfInBounds_toArray, List.set_cons_zero, List.set_cons_succ]) | go_step | go_upon)
                  refine (confElects_is jov jox jol joe jok tv tx tl te tk A true _ HE.out).mono ?_; rintro r w' ⟨rfl, hb⟩; obtain ⟨u, rfl⟩ := calm_step hf hg hb; clear hb
                  (try dsimp only); repeat (first | go_values | go_skip | go_guarded | (refine wpList_skip (by rfl) ?_; simp only [Act.put, List.setIfInBounds_toArray, List.set_cons_zero, List.set_cons_succ]) | go_step | go_upon)
                  refine (confCommits_is jov jox jol joe jok tv tx tl te tk B true _ HK.out).mono ?_; rintro r w' ⟨rfl, hb⟩; obtain ⟨u, rfl⟩ := calm_step hf hg hb; clear hb
                  (try dsimp only); repeat (first | go_values | go_skip | go_guarded | (refine wpList_skip (by rfl) ?_; simp only [Act.put, List.setIfInBounds_toArray, List.set_cons_zero, List.set_cons_succ]) | go_step | go_upon)
                  refine (confElects_is jov jox jol joe jok tv tx tl te tk B true _ HV.out).mono ?_; rintro r w' ⟨rfl, hb⟩; obtain ⟨u, rfl⟩ := calm_step hf hg hb; clear hb
                  (try dsimp only); repeat (first | go_values | go_skip | go_guarded | (refine wpList_skip (by rfl) ?_; simp only [Act.put, List.setIfInBounds_toArray, List.set_cons_zero, List.set_cons_succ]) | go_step | go_upon)
                  go_roundw
                  case rel => exact ⟨2, by omega, by go_num, _, rfl⟩
                  case measure => simp [intOf]
              · obtain ⟨hK, hV⟩ := X11.out HE.out (by simpa using hz)
                have HK := Lib.hid hK; have HV := Lib.hid hV; clear hK hV
                (try dsimp only); repeat (first | go_values | go_skip | go_guarded | (refine wpList_skip (by rfl) ?_; simp only [Act.put, List.setIfInBounds_toArray, List.set_cons_zero, List.set_cons_succ]) | go_step | go_upon)
                refine (confElects_is jov jox jol joe jok tv tx tl te tk A true _ HE.out).mono ?_; rintro r w' ⟨rfl, hb⟩; obtain ⟨u, rfl⟩ := calm_step hf hg hb; clear hb
                (try dsimp only); repeat (first | go_values | go_skip | go_guarded | (refine wpList_skip (by rfl) ?_; simp only [Act.put, List.setIfInBounds_toArray, List.set_cons_zero, List.set_cons_succ]) | go_step | go_upon)
                refine (confCommits_is jov jox jol joe jok tv tx tl te tk B true _ HK.out).mono ?_; rintro r w' ⟨rfl, hb⟩; obtain ⟨u, rfl⟩ := calm_step hf hg hb; clear hb
                (try dsimp only); repeat (first | go_values | go_skip | go_guarded | (refine wpList_skip (by rfl) ?_; simp only [Act.put, List.setIfInBounds_toArray, List.set_cons_zero, List.set_cons_succ]) | go_step | go_upon)
                refine (confElects_is jov jox jol joe jok tv tx tl te tk B true _ HV.out).mono ?_; rintro r w' ⟨rfl, hb⟩; obtain ⟨u, rfl⟩ := calm_step hf hg hb; clear hb
                (try dsimp only); repeat (first | go_values | go_skip | go_guarded | (refine wpList_skip (by rfl) ?_; simp only [Act.put, List.setIfInBounds_toArray, List.set_cons_zero, List.set_cons_succ]) | go_step | go_upon)
                go_roundw
                case rel => exact ⟨2, by omega, by go_num, _, rfl⟩
                case measure => simp [intOf]
        · as_aux_lemma =>
            clear c0 c1 c2 c3 c4 c5 c6 c7 c8 c9 c10 X00 X01 X10 X11 X21 X22
            cases hE : electsJ jov jox jol joe jok tv tx tl te tk true A
            · have HE := Lib.hid hE; clear hE
              (try dsimp only); repeat (first | go_values | go_skip | go_guarded | (refine wpList_skip (by rfl) ?_; simp only [Act.put, List.setIfInBounds_toArray, List.set_cons_zero, List.set_cons_succ]) | go_step | go_upon)
              refine (confElects_is jov jox jol joe jok tv tx tl te tk A true _ HE.out).mono ?_; rintro r w' ⟨rfl, hb⟩; obtain ⟨u, rfl⟩ := calm_step hf hg hb; clear hb
              (try dsimp only); repeat (first | go_values | go_skip | go_guarded | (refine wpList_skip (by rfl) ?_; simp only [Act.put, List.setIfInBounds_toArray, List.set_cons_zero, List.set_cons_succ]) | go_step | go_upon)
              go_roundw
              case rel => exact ⟨3, by omega, by go_num, _, rfl⟩
              case measure => simp [intOf]
            · have HE := Lib.hid hE; clear hE
              cases hz : (bits .and .u16 A B == 0)
              · cases hK : commitsJ tv tx tl te tk 0 0 0 0 0 false B <;> cases hV : electsJ tv tx tl te tk 0 0 0 0 0 false B
                all_goals
                  have HK := Lib.hid hK; have HV := Lib.hid hV; clear hK hV
                  (try dsimp only); repeat (first | go_values | go_skip | go_guarded | (refine wpList_skip (by rfl) ?_; simp only [Act.put, List.setIfInBounds_toArray, List.set_cons_zero, List.set_cons_succ]) | go_step | go_upon)
                  refine (confElects_is jov jox jol joe jok tv tx tl te tk A true _ HE.out).mono ?_; rintro r w' ⟨rfl, hb⟩; obtain ⟨u, rfl⟩ := calm_step hf hg hb; clear hb
                  (try dsimp only); repeat (first | go_values | go_skip | go_guarded | (refine wpList_skip (by rfl) ?_; simp only [Act.put, List.setIfInBounds_toArray, List.set_cons_zero, List.set_cons_succ]) | go_step | go_upon)
                  refine (confCommits_is tv tx tl te tk 0 0 0 0 0 B false _ HK.out).mono ?_; rintro r w' ⟨rfl, hb⟩; obtain ⟨u, rfl⟩ := calm_step hf hg hb; clear hb
                  (try dsimp only); repeat (first | go_values | go_skip | go_guarded | (refine wpList_skip (by rfl) ?_; simp only [Act.put, List.setIfInBounds_toArray, List.set_cons_zero, List.set_cons_succ]) | go_step | go_upon)
                  refine (confElects_is tv tx tl te tk 0 0 0 0 0 B false _ HV.out).mono ?_; rintro r w' ⟨rfl, hb⟩; obtain ⟨u, rfl⟩ := calm_step hf hg hb; clear hb
                  (try dsimp only); repeat (first | go_values | go_skip | go_guarded | (refine wpList_skip (by rfl) ?_; simp only [Act.put, List.setIfInBounds_toArray, List.set_cons_zero, List.set_cons_succ]) | go_step | go_upon)
                  go_roundw
                  case rel => exact ⟨3, by omega, by go_num, _, rfl⟩
                  case measure => simp [intOf]
              · obtain ⟨hK, hV⟩ := X12.out HE.out (by simpa using hz)
                have HK := Lib.hid hK; have HV := Lib.hid hV; clear hK hV
                (try dsimp only); repeat (first | go_values | go_skip | go_guarded | (refine wpList_skip (by rfl) ?_; simp only [Act.put, List.setIfInBounds_toArray, List.set_cons_zero, List.set_cons_succ]) | go_step | go_upon)
                refine (confElects_is jov jox jol joe jok tv tx tl te tk A true _ HE.out).mono ?_; rintro r w' ⟨rfl, hb⟩; obtain ⟨u, rfl⟩ := calm_step hf hg hb; clear hb
                (try dsimp only); repeat (first | go_values | go_skip | go_guarded | (refine wpList_skip (by rfl) ?_; simp only [Act.put, List.setIfInBounds_toArray, List.set_cons_zero, List.set_cons_succ]) | go_step | go_upon)
                refine (confCommits_is tv tx tl te tk 0 0 0 0 0 B false _ HK.out).mono ?_; rintro r w' ⟨rfl, hb⟩; obtain ⟨u, rfl⟩ := calm_step hf hg hb; clear hb
                (try dsimp only); repeat (first | go_values | go_skip | go_guarded | (refine wpList_skip (by rfl) ?_; simp only [Act.put, List.setIfInBounds_toArray, List.set_cons_zero, List.set_cons_succ]) | go_step | go_upon)
                refine (confElects_is tv tx tl te tk 0 0 0 0 0 B false _ HV.out).mono ?_; rintro r w' ⟨rfl, hb⟩; obtain ⟨u, rfl⟩ := calm_step hf hg hb; clear hb
                (try dsimp only); repeat (first | go_values | go_skip | go_guarded | (refine wpList_skip (by rfl) ?_; simp only [Act.put, List.setIfInBounds_toArray, List.set_cons_zero, List.set_cons_succ]) | go_step | go_upon)
                go_roundw
                case rel => exact ⟨3, by omega, by go_num, _, rfl⟩
                case measure => simp [intOf]
        · (try dsimp only); repeat (first | go_values | go_skip | go_guarded | (refine wpList_skip (by rfl) ?_; simp only [Act.put, List.setIfInBounds_toArray, List.set_cons_zero, List.set_cons_succ]) | go_step | go_upon)
          go_roundw
          case rel => exact ⟨2, by omega, by go_num, _, rfl⟩
          case measure => simp [intOf]
    · (try dsimp only); repeat (first | go_values | go_skip | go_guarded | (refine wpList_skip (by rfl) ?_; simp only [Act.put, List.setIfInBounds_toArray, List.set_cons_zero, List.set_cons_succ]) | go_step | go_upon)
      go_loopw [13] (fun i wr => ∃ k : Nat, k ≤ 3 ∧ i = .int .i64 k ∧ ∃ u, wr = f u) (fun i _ => (3 - intOf i).toNat)
      case atStart => exact ⟨0, by omega, rfl, _, rfl⟩
      case round =>
        obtain ⟨k, hk, rfl, uk, rfl⟩ := hrel
        obtain rfl | rfl | rfl | rfl : k = 0 ∨ k = 1 ∨ k = 2 ∨ k = 3 := by omega
        · as_aux_lemma =>
            clear c0 c1 c2 c3 c4 c5 c6 c7 c8 c9 c10 c11 c12 c13 c14 c15 c16 c17 c18 c19 c20 c21 c22 c23 c24 c25 c26 c27 c28 c29 c30 c31 c32 X00 X01 X10 X11 X12 X21 X22
            (try dsimp only); repeat (first | go_values | go_skip | go_guarded | (refine wpList_skip (by rfl) ?_; simp only [Act.put, List.setIfInBounds_toArray, List.set_cons_zero, List.set_cons_succ]) | go_step | go_upon)
            go_roundw
            case rel => exact ⟨1, by omega, by go_num, _, rfl⟩
            case measure => simp [intOf]
        · as_aux_lemma =>
            clear c0 c1 c2 c3 c4 c5 c6 c7 c8 c9 c10 X00 X01 X10 X11 X12 X22
            cases hE : electsJ tv tx tl te tk 0 0 0 0 0 false A
            · have HE := Lib.hid hE; clear hE
              (try dsimp only); repeat (first | go_values | go_skip | go_guarded | (refine wpList_skip (by rfl) ?_; simp only [Act.put, List.setIfInBounds_toArray, List.set_cons_zero, List.set_cons_succ]) | go_step | go_upon)
              refine (confElects_is tv tx tl te tk 0 0 0 0 0 A false _ HE.out).mono ?_; rintro r w' ⟨rfl, hb⟩; obtain ⟨u, rfl⟩ := calm_step hf hg hb; clear hb
              (try dsimp only); repeat (first | go_values | go_skip | go_guarded | (refine wpList_skip (by rfl) ?_; simp only [Act.put, List.setIfInBounds_toArray, List.set_cons_zero, List.set_cons_succ]) | go_step | go_upon)
              go_roundw
              case rel => exact ⟨2, by omega, by go_num, _, rfl⟩
              case measure => simp [intOf]
            · have HE := Lib.hid hE; clear hE
              cases hz : (bits .and .u16 A B == 0)
              · cases hK : commitsJ jov jox jol joe jok tv tx tl te tk true B <;> cases hV : electsJ jov jox jol joe jok tv tx tl te tk true B
                all_goals
                  have HK := Lib.hid hK; have HV := Lib.hid hV; clear hK hV
                  (try dsimp only); repeat (first | go_values | go_skip | go_guarded | (refine wpList_skip (by rfl) ?_; simp only [Act.put, List.setIfInBounds_toArray, List.set_cons_zero, List.set_cons_succ]) | go_step | go_upon)
                  refine (confElects_is tv tx tl te tk 0 0 0 0 0 A false _ HE.out).mono ?_; rintro r w' ⟨rfl, hb⟩; obtain ⟨u, rfl⟩ := calm_step hf hg hb; clear hb
                  (try dsimp only); repeat (first | go_values | go_skip | go_guarded | (refine wpList_skip (by rfl) ?_; simp only [Act.put, List.setIfInBounds_toArray, List.set_cons_zero, List.set_cons_succ]) | go_step | go_upon)
                  refine (confCommits_is jov jox jol joe jok tv tx tl te tk B true _ HK.out).mono ?_; rintro r w' ⟨rfl, hb⟩; obtain ⟨u, rfl⟩ := calm_step hf hg hb; clear hb
                  (try dsimp only); repeat (first | go_values | go_skip | go_guarded | (refine wpList_skip (by rfl) ?_; simp only [Act.put, List.setIfInBounds_toArray, List.set_cons_zero, List.set_cons_succ]) | go_step | go_upon)
                  refine (confElects_is jov jox jol joe jok tv tx tl te tk B true _ HV.out).mono ?_; rintro r w' ⟨rfl, hb⟩; obtain ⟨u, rfl⟩ := calm_step hf hg hb; clear hb
                  (try dsimp only); repeat (first | go_values | go_skip | go_guarded | (refine wpList_skip (by rfl) ?_; simp only [Act.put, List.setIfInBounds_toArray, List.set_cons_zero, List.set_cons_succ]) | go_step | go_upon)
                  go_roundw
                  case rel => exact ⟨2, by omega, by go_num, _, rfl⟩
                  case measure => simp [intOf]
              · obtain ⟨hK, hV⟩ := X21.out HE.out (by simpa using hz)
                have HK := Lib.hid hK; have HV := Lib.hid hV; clear hK hV
                (try dsimp only); repeat (first | go_values | go_skip | go_guarded | (refine wpList_skip (by rfl) ?_; simp only [Act.put, List.setIfInBounds_toArray, List.set_cons_zero, List.set_cons_succ]) | go_step | go_upon)
                refine (confElects_is tv tx tl te tk 0 0 0 0 0 A false _ HE.out).mono ?_; rintro r w' ⟨rfl, hb⟩; obtain ⟨u, rfl⟩ := calm_step hf hg hb; clear hb
                (try dsimp only); repeat (first | go_values | go_skip | go_guarded | (refine wpList_skip (by rfl) ?_; simp only [Act.put, List.setIfInBounds_toArray, List.set_cons_zero, List.set_cons_succ]) | go_step | go_upon)
                refine (confCommits_is jov jox jol joe jok tv tx tl te tk B true _ HK.out).mono ?_; rintro r w' ⟨rfl, hb⟩; obtain ⟨u, rfl⟩ := calm_step hf hg hb; clear hb
                (try dsimp only); repeat (first | go_values | go_skip | go_guarded | (refine wpList_skip (by rfl) ?_; simp only [Act.put, List.setIfInBounds_toArray, List.set_cons_zero, List.set_cons_succ]) | go_step | go_upon)
                refine (confElects_is jov jox jol joe jok tv tx tl te tk B true _ HV.out).mono ?_; rintro r w' ⟨rfl, hb⟩; obtain ⟨u, rfl⟩ := calm_step hf hg hb; clear hb
                (try dsimp only); repeat (first | go_values | go_skip | go_guarded | (refine wpList_skip (by rfl) ?_; simp only [Act.put, List.setIfInBounds_toArray, List.set_cons_zero, List.set_cons_succ]) | go_step | go_upon)
                go_roundw
                case rel => exact ⟨2, by omega, by go_num, _, rfl⟩
                case measure => simp [intOf]
        · as_aux_lemma =>
            clear c0 c1 c2 c3 c4 c5 c6 c7 c8 c9 c10 c11 c12 c13 c14 c15 c16 c17 c18 c19 c20 c21 X00 X01 X10 X11 X12 X21
            cases hE : electsJ tv tx tl te tk 0 0 0 0 0 false A
            · have HE := Lib.hid hE; clear hE
              (try dsimp only); repeat (first | go_values | go_skip | go_guarded | (refine wpList_skip (by rfl) ?_; simp only [Act.put, List.setIfInBounds_toArray, List.set_cons_zero, List.set_cons_succ]) | go_step | go_upon)
              refine (confElects_is tv tx tl te tk 0 0 0 0 0 A false _ HE.out).mono ?_; rintro r w' ⟨rfl, hb⟩; obtain ⟨u, rfl⟩ := calm_step hf hg hb; clear hb
              (try dsimp only); repeat (first | go_values | go_skip | go_guarded | (refine wpList_skip (by rfl) ?_; simp only [Act.put, List.setIfInBounds_toArray, List.set_cons_zero, List.set_cons_succ]) | go_step | go_upon)
              go_roundw
              case rel => exact ⟨3, by omega, by go_num, _, rfl⟩
              case measure => simp [intOf]
            · have HE := Lib.hid hE; clear hE
              cases hz : (bits .and .u16 A B == 0)
              · cases hK : commitsJ tv tx tl te tk 0 0 0 0 0 false B <;> cases hV : electsJ tv tx tl te tk 0 0 0 0 0 false B
                all_goals
                  have HK := Lib.hid hK; have HV := Lib.hid hV; clear hK hV
                  (try dsimp only); repeat (first | go_values | go_skip | go_guarded | (refine wpList_skip (by rfl) ?_; simp only [Act.put, List.setIfInBounds_toArray, List.set_cons_zero, List.set_cons_succ]) | go_step | go_upon)
                  refine (confElects_is tv tx tl te tk 0 0 0 0 0 A false _ HE.out).mono ?_; rintro r w' ⟨rfl, hb⟩; obtain ⟨u, rfl⟩ := calm_step hf hg hb; clear hb
                  (try dsimp only); repeat (first | go_values | go_skip | go_guarded | (refine wpList_skip (by rfl) ?_; simp only [Act.put, List.setIfInBounds_toArray, List.set_cons_zero, List.set_cons_succ]) | go_step | go_upon)
                  refine (confCommits_is tv tx tl te tk 0 0 0 0 0 B false _ HK.out).mono ?_; rintro r w' ⟨rfl, hb⟩; obtain ⟨u, rfl⟩ := calm_step hf hg hb; clear hb
                  (try dsimp only); repeat (first | go_values | go_skip | go_guarded | (refine wpList_skip (by rfl) ?_; simp only [Act.put, List.setIfInBounds_toArray, List.set_cons_zero, List.set_cons_succ]) | go_step | go_upon)
                  refine (confElects_is tv tx tl te tk 0 0 0 0 0 B false _ HV.out).mono ?_; rintro r w' ⟨rfl, hb⟩; obtain ⟨u, rfl⟩ := calm_step hf hg hb; clear hb
                  (try dsimp only); repeat (first | go_values | go_skip | go_guarded | (refine wpList_skip (by rfl) ?_; simp only [Act.put, List.setIfInBounds_toArray, List.set_cons_zero, List.set_cons_succ]) | go_step | go_upon)
                  go_roundw
                  case rel => exact ⟨3, by omega, by go_num, _, rfl⟩
                  case measure => simp [intOf]
              · obtain ⟨hK, hV⟩ := X22.out HE.out (by simpa using hz)
                have HK := Lib.hid hK; have HV := Lib.hid hV; clear hK hV
                (try dsimp only); repeat (first | go_values | go_skip | go_guarded | (refine wpList_skip (by rfl) ?_; simp only [Act.put, List.setIfInBounds_toArray, List.set_cons_zero, List.set_cons_succ]) | go_step | go_upon)
                refine (confElects_is tv tx tl te tk 0 0 0 0 0 A false _ HE.out).mono ?_; rintro r w' ⟨rfl, hb⟩; obtain ⟨u, rfl⟩ := calm_step hf hg hb; clear hb
                (try dsimp only); repeat (first | go_values | go_skip | go_guarded | (refine wpList_skip (by rfl) ?_; simp only [Act.put, List.setIfInBounds_toArray, List.set_cons_zero, List.set_cons_succ]) | go_step | go_upon)
                refine (confCommits_is tv tx tl te tk 0 0 0 0 0 B false _ HK.out).mono ?_; rintro r w' ⟨rfl, hb⟩; obtain ⟨u, rfl⟩ := calm_step hf hg hb; clear hb
                (try dsimp only); repeat (first | go_values | go_skip | go_guarded | (refine wpList_skip (by rfl) ?_; simp only [Act.put, List.setIfInBounds_toArray, List.set_cons_zero, List.set_cons_succ]) | go_step | go_upon)
                refine (confElects_is tv tx tl te tk 0 0 0 0 0 B false _ HV.out).mono ?_; rintro r w' ⟨rfl, hb⟩; obtain ⟨u, rfl⟩ := calm_step hf hg hb; clear hb
                (try dsimp only); repeat (first | go_values | go_skip | go_guarded | (refine wpList_skip (by rfl) ?_; simp only [Act.put, List.setIfInBounds_toArray, List.set_cons_zero, List.set_cons_succ]) | go_step | go_upon)
                go_roundw
                case rel => exact ⟨3, by omega, by go_num, _, rfl⟩
                case measure => simp [intOf]
        · (try dsimp only); repeat (first | go_values | go_skip | go_guarded | (refine wpList_skip (by rfl) ?_; simp only [Act.put, List.setIfInBounds_toArray, List.set_cons_zero, List.set_cons_succ]) | go_step | go_upon)
          go_roundw
          case rel => exact ⟨3, by omega, by go_num, _, rfl⟩
          case measure => simp [intOf]
    · (try dsimp only); repeat (first | go_values | go_skip | go_guarded | (refine wpList_skip (by rfl) ?_; simp only [Act.put, List.setIfInBounds_toArray, List.set_cons_zero, List.set_cons_succ]) | go_step | go_upon)
      go_ret
      exact ⟨rfl, HBF.out _⟩

end Go.Proofs.Ytaaagidooieejaa
