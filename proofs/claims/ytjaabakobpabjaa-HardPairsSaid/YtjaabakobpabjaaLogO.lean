import Derived.Test.YtjaabakobpabjaaRef10c
import Derived.Test.YtjaabakobpabjaaLogN0
/- Contracts of the reference of conf, four. -/
namespace Go.Proofs.Ytjaabakobpabjaa
open Go.RowKit


set_option maxRecDepth 100000 in
set_option maxHeartbeats 4000000 in
theorem refMayJoint_any (jov jox jol joe jok jnv jnx jnl jne jnk : Int) (jt : Bool) (fo : FitC jov jox jol) (fn : FitC jnv jnx jnl) (w : World) :
    Calls Try.prog 79 #[.agg #[.int .u16 jov, .int .u16 jox, .int .u16 jol, .int .i64 joe, .int .i64 jok, .int .u16 jnv, .int .u16 jnx, .int .u16 jnl, .int .i64 jne, .int .i64 jnk, .bool jt]] w fun r w' => r = .returned (.bool (mayJ jov jox jol joe jok jnv jnx jnl jne jnk jt)) ∧ Below w.heap.size w w' := by
  cases ho : mayC jov jox jol joe jok
  · have HO := Lib.hid ho; clear ho
    cases jt
    · by_cases hz : jnv = 0 ∧ jnx = 0 ∧ jnl = 0 ∧ jne = 0 ∧ jnk = 0
      · obtain ⟨rfl, rfl, rfl, rfl, rfl⟩ := hz
        go_enter Try.func79, Try.ntmps79
        go_wp2_with (go_at_call 91; refine (refTwo_one _ _ _ _ _ _ _ _ _ _ _).mono ?_; rintro r w' ⟨rfl, rfl⟩)
        obtain ⟨U, f, hU, hf, hg⟩ := calm_class (((w.alloc (.cells #[.int .u16 jov, .int .u16 jox, .int .u16 jol, .int .i64 joe, .int .i64 jok, .int .u16 0, .int .u16 0, .int .u16 0, .int .i64 0, .int .i64 0, .bool false] 42)).alloc (.cells #[.int .u16 jov, .int .u16 jox, .int .u16 jol, .int .i64 joe, .int .i64 jok, .int .u16 0, .int .u16 0, .int .u16 0, .int .i64 0, .int .i64 0, .bool false] 42)).alloc (.cells #[.int .u16 jov, .int .u16 jox, .int .u16 jol, .int .i64 joe, .int .i64 jok] 40)); obtain ⟨u0, hu0⟩ := hg _ (Below.refl _ _); rw [hu0]; clear hu0
        have kA := calm_block hf (heap_last ((w.alloc (.cells #[.int .u16 jov, .int .u16 jox, .int .u16 jol, .int .i64 joe, .int .i64 jok, .int .u16 0, .int .u16 0, .int .u16 0, .int .i64 0, .int .i64 0, .bool false] 42)).alloc (.cells #[.int .u16 jov, .int .u16 jox, .int .u16 jol, .int .i64 joe, .int .i64 jok, .int .u16 0, .int .u16 0, .int .u16 0, .int .i64 0, .int .i64 0, .bool false] 42)) (.cells #[.int .u16 jov, .int .u16 jox, .int .u16 jol, .int .i64 joe, .int .i64 jok] 40))
        have HB : Hid (∀ u, Below w.heap.size w (f u)) := fun u => below_threeR w _ _ _ (hf u)
        simp only [World.size_alloc] at kA
        refine wp_loop_rounds 2 ?_
        rw [rounds_succ]
        go_wp2_with (go_at_call 92; refine (refMay10_any _ _ _ _ _ fo _).mono ?_; rintro r w' ⟨rfl, hb⟩; obtain ⟨u, rfl⟩ := calm_step hf hg hb; clear hb; rw [HO.out])
        go_ret
        exact ⟨ret_boolS (by simp [mayJ, HO.out]), HB.out _⟩
      · have HZ := Lib.hid hz
        clear hz
        go_enter Try.func79, Try.ntmps79
        go_wp2_with fail
        all_goals first | (go_ret; exact ⟨ret_boolS (by have h := HZ.out; simp [mayJ, *]), below_box _ _⟩) | (exfalso; apply HZ.out; simp [*])
    · go_enter Try.func79, Try.ntmps79
      go_wp2_with (go_at_call 91; refine (refTwo_two _ _ _ _ _ _ _ _ _ _ _).mono ?_; rintro r w' ⟨rfl, rfl⟩)
      obtain ⟨U, f, hU, hf, hg⟩ := calm_class (((w.alloc (.cells #[.int .u16 jov, .int .u16 jox, .int .u16 jol, .int .i64 joe, .int .i64 jok, .int .u16 jnv, .int .u16 jnx, .int .u16 jnl, .int .i64 jne, .int .i64 jnk, .bool true] 42)).alloc (.cells #[.int .u16 jov, .int .u16 jox, .int .u16 jol, .int .i64 joe, .int .i64 jok, .int .u16 jnv, .int .u16 jnx, .int .u16 jnl, .int .i64 jne, .int .i64 jnk, .bool true] 42)).alloc (.cells #[.int .u16 jov, .int .u16 jox, .int .u16 jol, .int .i64 joe, .int .i64 jok, .int .u16 jnv, .int .u16 jnx, .int .u16 jnl, .int .i64 jne, .int .i64 jnk] 40)); obtain ⟨u0, hu0⟩ := hg _ (Below.refl _ _); rw [hu0]; clear hu0
      have kA := calm_block hf (heap_last ((w.alloc (.cells #[.int .u16 jov, .int .u16 jox, .int .u16 jol, .int .i64 joe, .int .i64 jok, .int .u16 jnv, .int .u16 jnx, .int .u16 jnl, .int .i64 jne, .int .i64 jnk, .bool true] 42)).alloc (.cells #[.int .u16 jov, .int .u16 jox, .int .u16 jol, .int .i64 joe, .int .i64 jok, .int .u16 jnv, .int .u16 jnx, .int .u16 jnl, .int .i64 jne, .int .i64 jnk, .bool true] 42)) (.cells #[.int .u16 jov, .int .u16 jox, .int .u16 jol, .int .i64 joe, .int .i64 jok, .int .u16 jnv, .int .u16 jnx, .int .u16 jnl, .int .i64 jne, .int .i64 jnk] 40))
      have HB : Hid (∀ u, Below w.heap.size w (f u)) := fun u => below_threeR w _ _ _ (hf u)
      simp only [World.size_alloc] at kA
      refine wp_loop_rounds 3 ?_
      rw [rounds_succ]
      go_wp2_with (go_at_call 92; refine (refMay10_any _ _ _ _ _ fo _).mono ?_; rintro r w' ⟨rfl, hb⟩; obtain ⟨u, rfl⟩ := calm_step hf hg hb; clear hb; rw [HO.out])
      go_ret
      exact ⟨ret_boolS (by simp [mayJ, HO.out]), HB.out _⟩
  · have HO := Lib.hid ho; clear ho
    cases jt
    · by_cases hz : jnv = 0 ∧ jnx = 0 ∧ jnl = 0 ∧ jne = 0 ∧ jnk = 0
      · obtain ⟨rfl, rfl, rfl, rfl, rfl⟩ := hz
        go_enter Try.func79, Try.ntmps79
        go_wp2_with (go_at_call 91; refine (refTwo_one _ _ _ _ _ _ _ _ _ _ _).mono ?_; rintro r w' ⟨rfl, rfl⟩)
        obtain ⟨U, f, hU, hf, hg⟩ := calm_class (((w.alloc (.cells #[.int .u16 jov, .int .u16 jox, .int .u16 jol, .int .i64 joe, .int .i64 jok, .int .u16 0, .int .u16 0, .int .u16 0, .int .i64 0, .int .i64 0, .bool false] 42)).alloc (.cells #[.int .u16 jov, .int .u16 jox, .int .u16 jol, .int .i64 joe, .int .i64 jok, .int .u16 0, .int .u16 0, .int .u16 0, .int .i64 0, .int .i64 0, .bool false] 42)).alloc (.cells #[.int .u16 jov, .int .u16 jox, .int .u16 jol, .int .i64 joe, .int .i64 jok] 40)); obtain ⟨u0, hu0⟩ := hg _ (Below.refl _ _); rw [hu0]; clear hu0
        have kA := calm_block hf (heap_last ((w.alloc (.cells #[.int .u16 jov, .int .u16 jox, .int .u16 jol, .int .i64 joe, .int .i64 jok, .int .u16 0, .int .u16 0, .int .u16 0, .int .i64 0, .int .i64 0, .bool false] 42)).alloc (.cells #[.int .u16 jov, .int .u16 jox, .int .u16 jol, .int .i64 joe, .int .i64 jok, .int .u16 0, .int .u16 0, .int .u16 0, .int .i64 0, .int .i64 0, .bool false] 42)) (.cells #[.int .u16 jov, .int .u16 jox, .int .u16 jol, .int .i64 joe, .int .i64 jok] 40))
        have HB : Hid (∀ u, Below w.heap.size w (f u)) := fun u => below_threeR w _ _ _ (hf u)
        simp only [World.size_alloc] at kA
        refine wp_loop_rounds 2 ?_
        rw [rounds_succ]
        go_wp2_with (go_at_call 92; refine (refMay10_any _ _ _ _ _ fo _).mono ?_; rintro r w' ⟨rfl, hb⟩; obtain ⟨u, rfl⟩ := calm_step hf hg hb; clear hb; rw [HO.out])
        rw [rounds_succ]
        go_wp2
        go_ret
        exact ⟨ret_boolS (by simp [mayJ, HO.out]), HB.out _⟩
      · have HZ := Lib.hid hz
        clear hz
        go_enter Try.func79, Try.ntmps79
        go_wp2_with fail
        all_goals first | (go_ret; exact ⟨ret_boolS (by have h := HZ.out; simp [mayJ, *]), below_box _ _⟩) | (exfalso; apply HZ.out; simp [*])
    · cases hn : mayC jnv jnx jnl jne jnk
      · have HN := Lib.hid hn; clear hn
        go_enter Try.func79, Try.ntmps79
        go_wp2_with (go_at_call 91; refine (refTwo_two _ _ _ _ _ _ _ _ _ _ _).mono ?_; rintro r w' ⟨rfl, rfl⟩)
        obtain ⟨U, f, hU, hf, hg⟩ := calm_class (((w.alloc (.cells #[.int .u16 jov, .int .u16 jox, .int .u16 jol, .int .i64 joe, .int .i64 jok, .int .u16 jnv, .int .u16 jnx, .int .u16 jnl, .int .i64 jne, .int .i64 jnk, .bool true] 42)).alloc (.cells #[.int .u16 jov, .int .u16 jox, .int .u16 jol, .int .i64 joe, .int .i64 jok, .int .u16 jnv, .int .u16 jnx, .int .u16 jnl, .int .i64 jne, .int .i64 jnk, .bool true] 42)).alloc (.cells #[.int .u16 jov, .int .u16 jox, .int .u16 jol, .int .i64 joe, .int .i64 jok, .int .u16 jnv, .int .u16 jnx, .int .u16 jnl, .int .i64 jne, .int .i64 jnk] 40)); obtain ⟨u0, hu0⟩ := hg _ (Below.refl _ _); rw [hu0]; clear hu0
        have kA := calm_block hf (heap_last ((w.alloc (.cells #[.int .u16 jov, .int .u16 jox, .int .u16 jol, .int .i64 joe, .int .i64 jok, .int .u16 jnv, .int .u16 jnx, .int .u16 jnl, .int .i64 jne, .int .i64 jnk, .bool true] 42)).alloc (.cells #[.int .u16 jov, .int .u16 jox, .int .u16 jol, .int .i64 joe, .int .i64 jok, .int .u16 jnv, .int .u16 jnx, .int .u16 jnl, .int .i64 jne, .int .i64 jnk, .bool true] 42)) (.cells #[.int .u16 jov, .int .u16 jox, .int .u16 jol, .int .i64 joe, .int .i64 jok, .int .u16 jnv, .int .u16 jnx, .int .u16 jnl, .int .i64 jne, .int .i64 jnk] 40))
        have HB : Hid (∀ u, Below w.heap.size w (f u)) := fun u => below_threeR w _ _ _ (hf u)
        simp only [World.size_alloc] at kA
        refine wp_loop_rounds 3 ?_
        rw [rounds_succ]
        go_wp2_with (go_at_call 92; refine (refMay10_any _ _ _ _ _ fo _).mono ?_; rintro r w' ⟨rfl, hb⟩; obtain ⟨u, rfl⟩ := calm_step hf hg hb; clear hb; rw [HO.out])
        rw [rounds_succ]
        go_wp2_with (go_at_call 92; refine (refMay10_any _ _ _ _ _ fn _).mono ?_; rintro r w' ⟨rfl, hb⟩; obtain ⟨u, rfl⟩ := calm_step hf hg hb; clear hb; rw [HN.out])
        go_ret
        exact ⟨ret_boolS (by simp [mayJ, HO.out, HN.out]), HB.out _⟩
      · have HN := Lib.hid hn; clear hn
        go_enter Try.func79, Try.ntmps79
        go_wp2_with (go_at_call 91; refine (refTwo_two _ _ _ _ _ _ _ _ _ _ _).mono ?_; rintro r w' ⟨rfl, rfl⟩)
        obtain ⟨U, f, hU, hf, hg⟩ := calm_class (((w.alloc (.cells #[.int .u16 jov, .int .u16 jox, .int .u16 jol, .int .i64 joe, .int .i64 jok, .int .u16 jnv, .int .u16 jnx, .int .u16 jnl, .int .i64 jne, .int .i64 jnk, .bool true] 42)).alloc (.cells #[.int .u16 jov, .int .u16 jox, .int .u16 jol, .int .i64 joe, .int .i64 jok, .int .u16 jnv, .int .u16 jnx, .int .u16 jnl, .int .i64 jne, .int .i64 jnk, .bool true] 42)).alloc (.cells #[.int .u16 jov, .int .u16 jox, .int .u16 jol, .int .i64 joe, .int .i64 jok, .int .u16 jnv, .int .u16 jnx, .int .u16 jnl, .int .i64 jne, .int .i64 jnk] 40)); obtain ⟨u0, hu0⟩ := hg _ (Below.refl _ _); rw [hu0]; clear hu0
        have kA := calm_block hf (heap_last ((w.alloc (.cells #[.int .u16 jov, .int .u16 jox, .int .u16 jol, .int .i64 joe, .int .i64 jok, .int .u16 jnv, .int .u16 jnx, .int .u16 jnl, .int .i64 jne, .int .i64 jnk, .bool true] 42)).alloc (.cells #[.int .u16 jov, .int .u16 jox, .int .u16 jol, .int .i64 joe, .int .i64 jok, .int .u16 jnv, .int .u16 jnx, .int .u16 jnl, .int .i64 jne, .int .i64 jnk, .bool true] 42)) (.cells #[.int .u16 jov, .int .u16 jox, .int .u16 jol, .int .i64 joe, .int .i64 jok, .int .u16 jnv, .int .u16 jnx, .int .u16 jnl, .int .i64 jne, .int .i64 jnk] 40))
        have HB : Hid (∀ u, Below w.heap.size w (f u)) := fun u => below_threeR w _ _ _ (hf u)
        simp only [World.size_alloc] at kA
        refine wp_loop_rounds 3 ?_
        rw [rounds_succ]
        go_wp2_with (go_at_call 92; refine (refMay10_any _ _ _ _ _ fo _).mono ?_; rintro r w' ⟨rfl, hb⟩; obtain ⟨u, rfl⟩ := calm_step hf hg hb; clear hb; rw [HO.out])
        rw [rounds_succ]
        go_wp2_with (go_at_call 92; refine (refMay10_any _ _ _ _ _ fn _).mono ?_; rintro r w' ⟨rfl, hb⟩; obtain ⟨u, rfl⟩ := calm_step hf hg hb; clear hb; rw [HN.out])
        rw [rounds_succ]
        go_wp2
        go_ret
        exact ⟨ret_boolS (by simp [mayJ, HO.out, HN.out]), HB.out _⟩

end Go.Proofs.Ytjaabakobpabjaa
/- entries: Merge, where nothing is taken. -/
namespace Go.Proofs.Ytjaabakobpabjaa
open Go.ChangeShapes Go.WideShapes Go.ChangeAt Go.RowKit

end Go.Proofs.Ytjaabakobpabjaa
/- entries: Merge, behind the base: no entries. -/
namespace Go.Proofs.Ytjaabakobpabjaa
open Go.ChangeShapes Go.WideShapes Go.ChangeAt Go.RowKit

end Go.Proofs.Ytjaabakobpabjaa
/- entries: Merge, behind the base (none). -/
namespace Go.Proofs.Ytjaabakobpabjaa
open Go.ChangeShapes Go.WideShapes Go.ChangeAt Go.RowKit

end Go.Proofs.Ytjaabakobpabjaa
/- entries: Merge, from ahead of the base: nothing is left. -/
namespace Go.Proofs.Ytjaabakobpabjaa
open Go.ChangeShapes Go.WideShapes Go.ChangeAt Go.RowKit

end Go.Proofs.Ytjaabakobpabjaa
/- entries: Merge, behind the base (false). -/
namespace Go.Proofs.Ytjaabakobpabjaa
open Go.ChangeShapes Go.WideShapes Go.ChangeAt Go.RowKit

end Go.Proofs.Ytjaabakobpabjaa
/- entries: Merge, behind the base (true). -/
namespace Go.Proofs.Ytjaabakobpabjaa
open Go.ChangeShapes Go.WideShapes Go.ChangeAt Go.RowKit

end Go.Proofs.Ytjaabakobpabjaa
/- entries: Merge, from ahead of the base (none). -/
namespace Go.Proofs.Ytjaabakobpabjaa
open Go.ChangeShapes Go.WideShapes Go.ChangeAt Go.RowKit

end Go.Proofs.Ytjaabakobpabjaa
/- entries: Merge, from ahead of the base (false). -/
namespace Go.Proofs.Ytjaabakobpabjaa
open Go.ChangeShapes Go.WideShapes Go.ChangeAt Go.RowKit

end Go.Proofs.Ytjaabakobpabjaa
/- entries: Merge, from ahead of the base (true). -/
namespace Go.Proofs.Ytjaabakobpabjaa
open Go.ChangeShapes Go.WideShapes Go.ChangeAt Go.RowKit

end Go.Proofs.Ytjaabakobpabjaa
/- entries: Merge. -/
namespace Go.Proofs.Ytjaabakobpabjaa
open Go.ChangeShapes Go.WideShapes Go.ChangeAt Go.RowKit

end Go.Proofs.Ytjaabakobpabjaa
/- The law: begun; newer. -/
namespace Go.Proofs.Ytjaabakobpabjaa
open Go.ChangeShapes Go.WideShapes Go.ChangeAt Go.RowKit

theorem EnSl.two {w : World} {g : Nat} {e f : Ent} {t : TypeId} (h : w.heap[g]? = some (.cells #[.int .i64 e.t, .int .i64 e.k, .string e.d, .int .u16 e.j.ov, .int .u16 e.j.ox, .int .u16 e.j.ol, .int .i64 e.j.oe, .int .i64 e.j.ok, .int .u16 e.j.nv, .int .u16 e.j.nx, .int .u16 e.j.nl, .int .i64 e.j.ne, .int .i64 e.j.nk, .bool e.j.two, .int .i64 f.t, .int .i64 f.k, .string f.d, .int .u16 f.j.ov, .int .u16 f.j.ox, .int .u16 f.j.ol, .int .i64 f.j.oe, .int .i64 f.j.ok, .int .u16 f.j.nv, .int .u16 f.j.nx, .int .u16 f.j.nl, .int .i64 f.j.ne, .int .i64 f.j.nk, .bool f.j.two] t (0, 0))) : EnSl w (.slice (some ⟨g, 0, none⟩) 2 2) [e, f] := by
  refine ⟨rfl, .inr ⟨⟨g, 0, none⟩, 2, rfl, Nat.le_refl _, by unfold maxLen; omega, fun _ => ⟨g, 0, rfl, block_lt h, fun j hj => ?_⟩⟩⟩
  rw [Nat.zero_add, block_cells h j]
  simp [entRow, entC]
end Go.Proofs.Ytjaabakobpabjaa
