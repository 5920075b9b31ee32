/- ConfHolds: for every joint, configuration and two sets: whatever elects meets whatever commits, and whatever elects, in a joint, in what it comes from, and in what it ends in; no condition. -/
import Derived.Test.YtaaagidooieejaaHoldsOk
import Derived.Test.YtaaagidooieejaaRows
namespace Go.Proofs.Ytaaagidooieejaa
open Go.ChangeShapes Go.WideShapes Go.ChangeAt Go.RowKit

set_option maxRecDepth 100000 in
set_option maxHeartbeats 8000000 in
theorem holds_no (jov jox jol joe jok jnv jnx jnl jne jnk : Int) (jt : Bool) (tv tx tl te tk : Int) (a b : Int) (hm : mayJ jov jox jol joe jok jnv jnx jnl jne jnk jt = true) (hc : changeE jov jox jol jt tv tx tl te tk ≠ 0) (w : World) :
    Calls Try.prog 7 #[.agg #[.int .u16 jov, .int .u16 jox, .int .u16 jol, .int .i64 joe, .int .i64 jok, .int .u16 jnv, .int .u16 jnx, .int .u16 jnl, .int .i64 jne, .int .i64 jnk, .bool jt], .agg #[.int .u16 tv, .int .u16 tx, .int .u16 tl, .int .i64 te, .int .i64 tk], .int .u16 a, .int .u16 b] w fun r w' => r = .returned (.bool true) ∧ Below w.heap.size w w' := by
  obtain ⟨E, hE⟩ : ∃ E, changeE jov jox jol jt tv tx tl te tk = E := ⟨_, rfl⟩
  rw [hE] at hc
  have hE1 : (E == 0) = false := by simp [hc]
  have HE := Lib.hid hE; have HE0 := Lib.hid hc; have HM := Lib.hid hm
  have mo := mayJ_old _ _ _ _ _ _ _ _ _ _ _ hm
  obtain ⟨A, hA⟩ : ∃ A, bits .and .u16 a 1022 = A := ⟨_, rfl⟩
  obtain ⟨B, hB⟩ : ∃ B, bits .and .u16 b 1022 = B := ⟨_, rfl⟩
  have A0 : 0 ≤ A := by rw [← hA]; exact (bits_fit _ _ _).1
  have B0 : 0 ≤ B := by rw [← hB]; exact (bits_fit _ _ _).1
  have X00 : Hid (electsJ jov jox jol joe jok jnv jnx jnl jne jnk jt A = true → bits .and .u16 A B = 0 → commitsJ jov jox jol joe jok jnv jnx jnl jne jnk jt B = false ∧ electsJ jov jox jol joe jok jnv jnx jnl jne jnk jt B = false) := fun h z => ⟨kj_old _ _ _ _ _ _ _ _ _ _ _ _ (no_commit jov jox jol joe jok A B A0 B0 mo z (electsJ_old _ _ _ _ _ _ _ _ _ _ _ h)), ej_old _ _ _ _ _ _ _ _ _ _ _ _ (no_elect jov jox jol joe jok A B A0 B0 mo z (electsJ_old _ _ _ _ _ _ _ _ _ _ _ h))⟩
  have HA := Lib.hid hA; have HB := Lib.hid hB
  clear hE hc hm mo hA hB
  go_enter Try.func7, Try.ntmps7
  go_wp2_with fail
  obtain ⟨U, f, hU, hf, hg⟩ := calm_class ((w.alloc (.cells #[.int .u16 jov, .int .u16 jox, .int .u16 jol, .int .i64 joe, .int .i64 jok, .int .u16 jnv, .int .u16 jnx, .int .u16 jnl, .int .i64 jne, .int .i64 jnk, .bool jt] 38)).alloc (.cells #[.int .u16 tv, .int .u16 tx, .int .u16 tl, .int .i64 te, .int .i64 tk] 33)); obtain ⟨u0, hu0⟩ := hg _ (Below.refl _ _); rw [hu0]; clear hu0
  have HBl : Hid (∀ u, Below w.heap.size w (f u)) := fun u => (below_box w _).trans (((below_box _ _).mono (by simp)).trans ((hf u).mono (by simp; omega)))
  have hA := calm_heap hf (heap_prev (.cells #[.int .u16 tv, .int .u16 tx, .int .u16 tl, .int .i64 te, .int .i64 tk] 33) (heap_last w (.cells #[.int .u16 jov, .int .u16 jox, .int .u16 jol, .int .i64 joe, .int .i64 jok, .int .u16 jnv, .int .u16 jnx, .int .u16 jnl, .int .i64 jne, .int .i64 jnk, .bool jt] 38)))
  have hB := calm_heap hf (heap_last (w.alloc (.cells #[.int .u16 jov, .int .u16 jox, .int .u16 jol, .int .i64 joe, .int .i64 jok, .int .u16 jnv, .int .u16 jnx, .int .u16 jnl, .int .i64 jne, .int .i64 jnk, .bool jt] 38)) (.cells #[.int .u16 tv, .int .u16 tx, .int .u16 tl, .int .i64 te, .int .i64 tk] 33))
  have kA := fun u => block_cells (hA u)
  have kB := fun u => block_cells (hB u)
  have kA' := fun u (o : Obj) => block_cells (heap_prev o (hA u))
  simp only [World.size_alloc] at kB hB
  clear hA hB
  refine (begun_any _).mono ?_; rintro r w' ⟨rfl, hb⟩; obtain ⟨u, rfl⟩ := calm_step hf hg hb; clear hb
  go_wp2_with fail
  refine (confMayJoint_is _ _ _ _ _ _ _ _ _ _ _ _ HM).mono ?_; rintro r w' ⟨rfl, hb⟩; obtain ⟨u, rfl⟩ := calm_step hf hg hb; clear hb
  go_wp2_with fail
  rw [HA.out, HB.out]
  go_wp2_with fail
  refine (confChange_no' _ _ _ _ _ _ _ _ _ _ _ _ _ _ _ _ _ HE HE0.out).mono ?_; rintro r w' ⟨rfl, hb⟩; obtain ⟨u, rfl⟩ := calm_step hf hg hb; clear hb
  go_wp2_with fail
  have hL := heap_last ((f u).alloc (.cells #[.int .u16 0, .int .u16 0, .int .u16 0, .int .i64 0, .int .i64 0, .int .u16 0, .int .u16 0, .int .u16 0, .int .i64 0, .int .i64 0, .bool false] 38)) (.cells #[.int .u16 jov, .int .u16 jox, .int .u16 jol, .int .i64 joe, .int .i64 jok, .int .u16 jnv, .int .u16 jnx, .int .u16 jnl, .int .i64 jne, .int .i64 jnk, .bool jt] 38)
  simp only [World.size_alloc] at hL
  have hW2 : Below w.heap.size w (((f u).alloc (.cells #[.int .u16 0, .int .u16 0, .int .u16 0, .int .i64 0, .int .i64 0, .int .u16 0, .int .u16 0, .int .u16 0, .int .i64 0, .int .i64 0, .bool false] 38)).alloc (.cells #[.int .u16 jov, .int .u16 jox, .int .u16 jol, .int .i64 joe, .int .i64 jok, .int .u16 jnv, .int .u16 jnx, .int .u16 jnl, .int .i64 jne, .int .i64 jnk, .bool jt] 38)) := ((HBl.out u).alloc (HBl.out u).size _).alloc (by have := (HBl.out u).size; simp; omega) _
  obtain ⟨G, hG⟩ : ∃ G, (f u).heap.size = G := ⟨_, rfl⟩
  rw [hG] at hL ⊢
  obtain ⟨W2, hW⟩ : ∃ W2, (((f u).alloc (.cells #[.int .u16 0, .int .u16 0, .int .u16 0, .int .i64 0, .int .i64 0, .int .u16 0, .int .u16 0, .int .u16 0, .int .i64 0, .int .i64 0, .bool false] 38)).alloc (.cells #[.int .u16 jov, .int .u16 jox, .int .u16 jol, .int .i64 joe, .int .i64 jok, .int .u16 jnv, .int .u16 jnx, .int .u16 jnl, .int .i64 jne, .int .i64 jnk, .bool jt] 38)) = W2 := ⟨_, rfl⟩
  rw [hW] at hL hW2 ⊢
  clear kA kB kA' HBl hW hG hf hg hU
  clear f
  have HL := Lib.hid hL; have HW2 := Lib.hid hW2
  clear hL hW2
  obtain ⟨U, f, hU, hf, hg⟩ := calm_class W2; obtain ⟨u0, hu0⟩ := hg _ (Below.refl _ _); rw [hu0]; clear hu0
  have HBF : Hid (∀ u, Below w.heap.size w (f u)) := fun u => HW2.out.trans ((hf u).mono HW2.out.size)
  have kL := fun u => block_cells (calm_heap hf HL.out u)
  clear HL HW2 HE HE0 HM HA HB
  go_loopw [12] (fun i wr => ∃ k : Nat, k ≤ 1 ∧ i = .int .i64 k ∧ ∃ u, wr = f u) (fun i _ => (1 - intOf i).toNat)
  case atStart => exact ⟨0, by omega, rfl, _, rfl⟩
  case round =>
    obtain ⟨i, hi, rfl, ui, rfl⟩ := hrel
    obtain rfl | rfl : i = 0 ∨ i = 1 := by omega
    · (try dsimp only); repeat (first | go_values | go_skip | go_guarded | (refine wpList_skip (by rfl) ?_; simp only [Act.put, List.setIfInBounds_toArray, List.set_cons_zero, List.set_cons_succ]) | go_step | go_upon)
      go_loopw [13] (fun i wr => ∃ k : Nat, k ≤ 1 ∧ i = .int .i64 k ∧ ∃ u, wr = f u) (fun i _ => (1 - intOf i).toNat)
      case atStart => exact ⟨0, by omega, rfl, _, rfl⟩
      case round =>
        obtain ⟨k, hk, rfl, uk, rfl⟩ := hrel
        obtain rfl | rfl : k = 0 ∨ k = 1 := by omega
        · as_aux_lemma =>
            cases hE : electsJ jov jox jol joe jok jnv jnx jnl jne jnk jt A
            · have HE := Lib.hid hE; clear hE
              (try dsimp only); repeat (first | go_values | go_skip | go_guarded | (refine wpList_skip (by rfl) ?_; simp only [Act.put, List.setIfInBounds_toArray, List.set_cons_zero, List.set_cons_succ]) | go_step | go_upon)
              refine (confElects_is jov jox jol joe jok jnv jnx jnl jne jnk A jt _ HE.out).mono ?_; rintro r w' ⟨rfl, hb⟩; obtain ⟨u, rfl⟩ := calm_step hf hg hb; clear hb
              (try dsimp only); repeat (first | go_values | go_skip | go_guarded | (refine wpList_skip (by rfl) ?_; simp only [Act.put, List.setIfInBounds_toArray, List.set_cons_zero, List.set_cons_succ]) | go_step | go_upon)
              go_roundw
              case rel => exact ⟨1, by omega, by go_num, _, rfl⟩
              case measure => simp [intOf]
            · have HE := Lib.hid hE; clear hE
              cases hz : (bits .and .u16 A B == 0)
              · cases hK : commitsJ jov jox jol joe jok jnv jnx jnl jne jnk jt B <;> cases hV : electsJ jov jox jol joe jok jnv jnx jnl jne jnk jt B
                all_goals
                  have HK := Lib.hid hK; have HV := Lib.hid hV; clear hK hV
                  (try dsimp only); repeat (first | go_values | go_skip | go_guarded | (refine wpList_skip (by rfl) ?_; simp only [Act.put, List.setIfInBounds_toArray, List.set_cons_zero, List.set_cons_succ]) | go_step | go_upon)
                  refine (confElects_is jov jox jol joe jok jnv jnx jnl jne jnk A jt _ HE.out).mono ?_; rintro r w' ⟨rfl, hb⟩; obtain ⟨u, rfl⟩ := calm_step hf hg hb; clear hb
                  (try dsimp only); repeat (first | go_values | go_skip | go_guarded | (refine wpList_skip (by rfl) ?_; simp only [Act.put, List.setIfInBounds_toArray, List.set_cons_zero, List.set_cons_succ]) | go_step | go_upon)
                  refine (confCommits_is jov jox jol joe jok jnv jnx jnl jne jnk B jt _ HK.out).mono ?_; rintro r w' ⟨rfl, hb⟩; obtain ⟨u, rfl⟩ := calm_step hf hg hb; clear hb
                  (try dsimp only); repeat (first | go_values | go_skip | go_guarded | (refine wpList_skip (by rfl) ?_; simp only [Act.put, List.setIfInBounds_toArray, List.set_cons_zero, List.set_cons_succ]) | go_step | go_upon)
                  refine (confElects_is jov jox jol joe jok jnv jnx jnl jne jnk B jt _ HV.out).mono ?_; rintro r w' ⟨rfl, hb⟩; obtain ⟨u, rfl⟩ := calm_step hf hg hb; clear hb
                  (try dsimp only); repeat (first | go_values | go_skip | go_guarded | (refine wpList_skip (by rfl) ?_; simp only [Act.put, List.setIfInBounds_toArray, List.set_cons_zero, List.set_cons_succ]) | go_step | go_upon)
                  go_roundw
                  case rel => exact ⟨1, by omega, by go_num, _, rfl⟩
                  case measure => simp [intOf]
              · obtain ⟨hK, hV⟩ := X00.out HE.out (by simpa using hz)
                have HK := Lib.hid hK; have HV := Lib.hid hV; clear hK hV
                (try dsimp only); repeat (first | go_values | go_skip | go_guarded | (refine wpList_skip (by rfl) ?_; simp only [Act.put, List.setIfInBounds_toArray, List.set_cons_zero, List.set_cons_succ]) | go_step | go_upon)
                refine (confElects_is jov jox jol joe jok jnv jnx jnl jne jnk A jt _ HE.out).mono ?_; rintro r w' ⟨rfl, hb⟩; obtain ⟨u, rfl⟩ := calm_step hf hg hb; clear hb
                (try dsimp only); repeat (first | go_values | go_skip | go_guarded | (refine wpList_skip (by rfl) ?_; simp only [Act.put, List.setIfInBounds_toArray, List.set_cons_zero, List.set_cons_succ]) | go_step | go_upon)
                refine (confCommits_is jov jox jol joe jok jnv jnx jnl jne jnk B jt _ HK.out).mono ?_; rintro r w' ⟨rfl, hb⟩; obtain ⟨u, rfl⟩ := calm_step hf hg hb; clear hb
                (try dsimp only); repeat (first | go_values | go_skip | go_guarded | (refine wpList_skip (by rfl) ?_; simp only [Act.put, List.setIfInBounds_toArray, List.set_cons_zero, List.set_cons_succ]) | go_step | go_upon)
                refine (confElects_is jov jox jol joe jok jnv jnx jnl jne jnk B jt _ HV.out).mono ?_; rintro r w' ⟨rfl, hb⟩; obtain ⟨u, rfl⟩ := calm_step hf hg hb; clear hb
                (try dsimp only); repeat (first | go_values | go_skip | go_guarded | (refine wpList_skip (by rfl) ?_; simp only [Act.put, List.setIfInBounds_toArray, List.set_cons_zero, List.set_cons_succ]) | go_step | go_upon)
                go_roundw
                case rel => exact ⟨1, by omega, by go_num, _, rfl⟩
                case measure => simp [intOf]
        · (try dsimp only); repeat (first | go_values | go_skip | go_guarded | (refine wpList_skip (by rfl) ?_; simp only [Act.put, List.setIfInBounds_toArray, List.set_cons_zero, List.set_cons_succ]) | go_step | go_upon)
          go_roundw
          case rel => exact ⟨1, by omega, by go_num, _, rfl⟩
          case measure => simp [intOf]
    · (try dsimp only); repeat (first | go_values | go_skip | go_guarded | (refine wpList_skip (by rfl) ?_; simp only [Act.put, List.setIfInBounds_toArray, List.set_cons_zero, List.set_cons_succ]) | go_step | go_upon)
      go_ret
      exact ⟨rfl, HBF.out _⟩

theorem holds_bad (jov jox jol joe jok jnv jnx jnl jne jnk : Int) (jt : Bool) (tv tx tl te tk : Int) (a b : Int) (hm : mayJ jov jox jol joe jok jnv jnx jnl jne jnk jt = false) (w : World) :
    Calls Try.prog 7 #[.agg #[.int .u16 jov, .int .u16 jox, .int .u16 jol, .int .i64 joe, .int .i64 jok, .int .u16 jnv, .int .u16 jnx, .int .u16 jnl, .int .i64 jne, .int .i64 jnk, .bool jt], .agg #[.int .u16 tv, .int .u16 tx, .int .u16 tl, .int .i64 te, .int .i64 tk], .int .u16 a, .int .u16 b] w fun r w' => r = .returned (.bool true) ∧ Below w.heap.size w w' := by
  have HM := Lib.hid hm
  clear hm
  go_enter Try.func7, Try.ntmps7
  go_wp2_with fail
  obtain ⟨U, f, hU, hf, hg⟩ := calm_class ((w.alloc (.cells #[.int .u16 jov, .int .u16 jox, .int .u16 jol, .int .i64 joe, .int .i64 jok, .int .u16 jnv, .int .u16 jnx, .int .u16 jnl, .int .i64 jne, .int .i64 jnk, .bool jt] 38)).alloc (.cells #[.int .u16 tv, .int .u16 tx, .int .u16 tl, .int .i64 te, .int .i64 tk] 33)); obtain ⟨u0, hu0⟩ := hg _ (Below.refl _ _); rw [hu0]; clear hu0
  have HBl : Hid (∀ u, Below w.heap.size w (f u)) := fun u => (below_box w _).trans (((below_box _ _).mono (by simp)).trans ((hf u).mono (by simp; omega)))
  have kA := fun u => block_cells (calm_heap hf (heap_prev (.cells #[.int .u16 tv, .int .u16 tx, .int .u16 tl, .int .i64 te, .int .i64 tk] 33) (heap_last w (.cells #[.int .u16 jov, .int .u16 jox, .int .u16 jol, .int .i64 joe, .int .i64 jok, .int .u16 jnv, .int .u16 jnx, .int .u16 jnl, .int .i64 jne, .int .i64 jnk, .bool jt] 38))) u)
  refine (begun_any _).mono ?_; rintro r w' ⟨rfl, hb⟩; obtain ⟨u, rfl⟩ := calm_step hf hg hb; clear hb
  go_wp2_with fail
  refine (confMayJoint_is _ _ _ _ _ _ _ _ _ _ _ _ HM).mono ?_; rintro r w' ⟨rfl, hb⟩; obtain ⟨u, rfl⟩ := calm_step hf hg hb; clear hb
  go_wp2_with fail
  go_ret
  exact ⟨rfl, HBl.out _⟩

theorem holds_walk (jov jox jol joe jok jnv jnx jnl jne jnk : Int) (jt : Bool) (tv tx tl te tk : Int) (a b : Int) (w : World) :
    Calls Try.prog 7 #[.agg #[.int .u16 jov, .int .u16 jox, .int .u16 jol, .int .i64 joe, .int .i64 jok, .int .u16 jnv, .int .u16 jnx, .int .u16 jnl, .int .i64 jne, .int .i64 jnk, .bool jt], .agg #[.int .u16 tv, .int .u16 tx, .int .u16 tl, .int .i64 te, .int .i64 tk], .int .u16 a, .int .u16 b] w fun r w' => r = .returned (.bool true) ∧ Below w.heap.size w w' := by
  cases hm : mayJ jov jox jol joe jok jnv jnx jnl jne jnk jt
  · exact holds_bad jov jox jol joe jok jnv jnx jnl jne jnk jt tv tx tl te tk a b hm w
  · by_cases hc : changeE jov jox jol jt tv tx tl te tk = 0
    · obtain ⟨rfl, -⟩ := change_zero _ _ _ _ _ _ _ _ _ hc
      exact holds_ok jov jox jol joe jok jnv jnx jnl jne jnk tv tx tl te tk a b hm hc w
    · exact holds_no jov jox jol joe jok jnv jnx jnl jne jnk jt tv tx tl te tk a b hm hc w

set_option maxRecDepth 100000 in
theorem holds_lifted (os : Os) (started : os.Started) (H : Type) (enc : TypeId × Value → H) :
    ReturnsInHanded {} Try.checked os 7 .any (Rows.confHoldsSpec.pre6 enc Try.prog Try.f7 Rows.confHoldsRow.domain false) (Rows.confHoldsSpec.post enc Try.prog Try.f7 false true false false) := by
  refine lift_law (C := Try.checked) (tb := 4) (by kernel_rfl) started (by kernel_rfl) Try.func7 (ChangeSpec.witness6 (enc := enc) (C := Try.checked) false ⟨#[], #[.agg #[.int .u16 0, .int .u16 0, .int .u16 0, .int .i64 0, .int .i64 0, .int .u16 0, .int .u16 0, .int .u16 0, .int .i64 0, .int .i64 0, .bool false], .agg #[.int .u16 0, .int .u16 0, .int .u16 0, .int .i64 0, .int .i64 0], .int .u16 0, .int .u16 0], []⟩ 8 (by kernel_rfl) (by kernel_rfl) (by kernel_rfl) (by kernel_rfl)) (by kernel_rfl) (by kernel_rfl) rfl Try.underlying4 rfl ?_ ?_
  · intro ds h
    match ds, h with
    | [_, _, _, _], _ => rfl
  · intro W base args ds ps hval0 hA0 hlt hsz
    have hval : ∀ (j : Nat) t v, Try.f7.params[j]? = some t → args[j]? = some v → Value.okWide Try.prog W .any base t v := hval0
    have hA : DataW.TrodAll enc Try.prog W 0 (fun _ => true) true Try.f7.params.toList args.toList ds ps := hA0
    rw [Try.params7] at hA hval
    obtain ⟨v0, v1, v2, v3, d0, d1, d2, d3, p0, p1, p2, p3, rfl, rfl, rfl, h0, h1, h2, h3⟩ := trodAll_four hA
    obtain ⟨jov, jox, jol, joe, jok, jnv, jnx, jnl, jne, jnk, jt, rfl, -, -⟩ := open_joint (hval 0 38 v0 rfl rfl) h0
    obtain ⟨tv, tx, tl, te, tk, rfl, -⟩ := open_cfg (hval 1 33 v1 rfl rfl) h1
    obtain ⟨a, rfl, rfl, rfl, wa⟩ := open_int Try.underlying23 (hval 2 23 v2 rfl rfl) h2
    obtain ⟨b, rfl, rfl, rfl, wb⟩ := open_int Try.underlying23 (hval 3 23 v3 rfl rfl) h3
    exact holds_walk jov jox jol joe jok jnv jnx jnl jne jnk jt tv tx tl te tk a b W

theorem holds_holds : Rows.ConfHoldsSaid :=
  OpenClaim.holds_of_wide 7 Try.f7 rfl rfl rfl rfl rfl rfl rfl ⟨rfl, rfl, rfl, rfl, rfl⟩ rfl rfl rfl rfl rfl (by kernel_rfl) Try.func7 (by kernel_rfl)
    (of_decide_eq_true (by kernel_rfl)) (by unfold Func.isWrapper; first | (rw [if_pos (by decide +kernel)]; kernel_rfl) | (rw [if_neg (by decide +kernel)]; exact ⟨rfl, rfl⟩))
    (fun os started H enc _ => holds_lifted os started H enc)
#print axioms holds_holds

end Go.Proofs.Ytaaagidooieejaa
