/- ConfMeets: for every two configurations that may be: whether quorums meet, as all of them tell, one by one; no condition. -/
import Derived.Test.YtaaagidooieejaaBegun10
import Derived.Test.YtaaagidooieejaaOpenConf
import Derived.Test.YtaaagidooieejaaMeet2
import Derived.Test.YtaaagidooieejaaRows
namespace Go.Proofs.Ytaaagidooieejaa
open Go.ChangeShapes Go.WideShapes Go.ChangeAt Go.RowKit

theorem refMeet10_is (av ax al ae ak bv bx bl be bk : Int) (fa : FitC av ax al) (fb : FitC bv bx bl) (w : World) {r : Bool} (h : pairsB (qs (joinB av ax) ae) (qs (joinB bv bx) bk) = r) :
    Calls Try.prog 17 #[.agg #[.int .u16 av, .int .u16 ax, .int .u16 al, .int .i64 ae, .int .i64 ak], .agg #[.int .u16 bv, .int .u16 bx, .int .u16 bl, .int .i64 be, .int .i64 bk]] w fun e w' => e = .returned (.bool r) ∧ Below w.heap.size w w' := by subst h; exact refMeet10_any av ax al ae ak bv bx bl be bk fa fb w
set_option maxHeartbeats 8000000 in
theorem meets_walk (av ax al ae ak bv bx bl be bk : Int) (fa : FitC av ax al) (fb : FitC bv bx bl) (w : World) :
    Calls Try.prog 6 #[.agg #[.int .u16 av, .int .u16 ax, .int .u16 al, .int .i64 ae, .int .i64 ak], .agg #[.int .u16 bv, .int .u16 bx, .int .u16 bl, .int .i64 be, .int .i64 bk]] w fun r w' => r = .returned (.bool true) ∧ Below w.heap.size w w' := by
  have out : ∀ w' : World, Below (w.heap.size + 2) ((w.alloc (.cells #[.int .u16 av, .int .u16 ax, .int .u16 al, .int .i64 ae, .int .i64 ak] 33)).alloc (.cells #[.int .u16 bv, .int .u16 bx, .int .u16 bl, .int .i64 be, .int .i64 bk] 33)) w' → Below w.heap.size w w' := fun w' h => ((below_box w _).trans ((below_box _ _).mono (by simp))).trans (h.mono (by omega))
  have OUT := Lib.hid out
  clear out
  cases ha : mayC av ax al ae ak
  · have HA := Lib.hid ha; clear ha
    go_enter Try.func6, Try.ntmps6
    go_wp2_with fail
    obtain ⟨U, f, hU, hf, hg⟩ := calm_class ((w.alloc (.cells #[.int .u16 av, .int .u16 ax, .int .u16 al, .int .i64 ae, .int .i64 ak] 33)).alloc (.cells #[.int .u16 bv, .int .u16 bx, .int .u16 bl, .int .i64 be, .int .i64 bk] 33)); obtain ⟨u0, hu0⟩ := hg _ (Below.refl _ _); rw [hu0]; clear hu0
    have kA := calm_block hf (heap_prev _ (heap_last w (.cells #[.int .u16 av, .int .u16 ax, .int .u16 al, .int .i64 ae, .int .i64 ak] 33)))
    refine (begun_any _).mono ?_; rintro r w' ⟨rfl, hb⟩; obtain ⟨u, rfl⟩ := calm_step hf hg hb; clear hb
    go_wp2_with fail
    refine (refMay10_any _ _ _ _ _ fa _).mono ?_; rintro r w' ⟨rfl, hb⟩; obtain ⟨u, rfl⟩ := calm_step hf hg hb; clear hb; rw [HA.out]
    go_wp2_with fail
    go_ret
    exact ⟨rfl, OUT.out _ (by have := hf u; simpa using this)⟩
  cases hb : mayC bv bx bl be bk
  · have HA := Lib.hid ha; clear ha
    have HB := Lib.hid hb; clear hb
    go_enter Try.func6, Try.ntmps6
    go_wp2_with fail
    obtain ⟨U, f, hU, hf, hg⟩ := calm_class ((w.alloc (.cells #[.int .u16 av, .int .u16 ax, .int .u16 al, .int .i64 ae, .int .i64 ak] 33)).alloc (.cells #[.int .u16 bv, .int .u16 bx, .int .u16 bl, .int .i64 be, .int .i64 bk] 33)); obtain ⟨u0, hu0⟩ := hg _ (Below.refl _ _); rw [hu0]; clear hu0
    have kA := calm_block hf (heap_prev _ (heap_last w (.cells #[.int .u16 av, .int .u16 ax, .int .u16 al, .int .i64 ae, .int .i64 ak] 33)))
    have kB := calm_block hf (heap_last (w.alloc (.cells #[.int .u16 av, .int .u16 ax, .int .u16 al, .int .i64 ae, .int .i64 ak] 33)) (.cells #[.int .u16 bv, .int .u16 bx, .int .u16 bl, .int .i64 be, .int .i64 bk] 33))
    simp only [World.size_alloc] at kB
    refine (begun_any _).mono ?_; rintro r w' ⟨rfl, hb⟩; obtain ⟨u, rfl⟩ := calm_step hf hg hb; clear hb
    go_wp2_with fail
    refine (refMay10_any _ _ _ _ _ fa _).mono ?_; rintro r w' ⟨rfl, hb⟩; obtain ⟨u, rfl⟩ := calm_step hf hg hb; clear hb; rw [HA.out]
    go_wp2_with fail
    refine (refMay10_any _ _ _ _ _ fb _).mono ?_; rintro r w' ⟨rfl, hb⟩; obtain ⟨u, rfl⟩ := calm_step hf hg hb; clear hb; rw [HB.out]
    go_wp2_with fail
    go_ret
    exact ⟨rfl, OUT.out _ (by have := hf u; simpa using this)⟩
  · have MA := (mayC_iff _ _ _ _ _).1 ha
    have MB := (mayC_iff _ _ _ _ _).1 hb
    have HM := Lib.hid (meets_plain av ax al ae ak bv bx bl be bk fa fb MA MB)
    have n1 := cnt_nonneg (bits .or .u16 av ax)
    have n2 := cnt_nonneg (bits .or .u16 bv bx)
    have e1 : 1 ≤ ae := MA.e1
    have e2 : ae ≤ 9 := by have := MA.en; omega
    have k1 : 1 ≤ bk := MB.k1
    have k2 : bk ≤ 9 := by have := MB.kn; omega
    clear n1 n2 MA MB
    have HA := Lib.hid ha; clear ha
    have HB := Lib.hid hb; clear hb
    go_enter Try.func6, Try.ntmps6
    go_wp2_with fail
    obtain ⟨U, f, hU, hf, hg⟩ := calm_class ((w.alloc (.cells #[.int .u16 av, .int .u16 ax, .int .u16 al, .int .i64 ae, .int .i64 ak] 33)).alloc (.cells #[.int .u16 bv, .int .u16 bx, .int .u16 bl, .int .i64 be, .int .i64 bk] 33)); obtain ⟨u0, hu0⟩ := hg _ (Below.refl _ _); rw [hu0]; clear hu0
    have kA := calm_block hf (heap_prev _ (heap_last w (.cells #[.int .u16 av, .int .u16 ax, .int .u16 al, .int .i64 ae, .int .i64 ak] 33)))
    have kB := calm_block hf (heap_last (w.alloc (.cells #[.int .u16 av, .int .u16 ax, .int .u16 al, .int .i64 ae, .int .i64 ak] 33)) (.cells #[.int .u16 bv, .int .u16 bx, .int .u16 bl, .int .i64 be, .int .i64 bk] 33))
    simp only [World.size_alloc] at kB
    refine (begun_any _).mono ?_; rintro r w' ⟨rfl, hb⟩; obtain ⟨u, rfl⟩ := calm_step hf hg hb; clear hb
    go_wp2_with fail
    refine (refMay10_any _ _ _ _ _ fa _).mono ?_; rintro r w' ⟨rfl, hb⟩; obtain ⟨u, rfl⟩ := calm_step hf hg hb; clear hb; rw [HA.out]
    go_wp2_with fail
    refine (refMay10_any _ _ _ _ _ fb _).mono ?_; rintro r w' ⟨rfl, hb⟩; obtain ⟨u, rfl⟩ := calm_step hf hg hb; clear hb; rw [HB.out]
    go_wp2_with fail
    refine wp_region_calm f (by kernel_rfl) (by kernel_rfl) (calm_drew hf hg _) ?_
    repeat (go_big_quiet_step ((first | (go_at_call 25; exact calm_of hf hg (confMeet_any _ _ _ _ _ _ _ _ _ _ _ e1 e2 k1 k2)) | (go_at_call 17; exact calm_of hf hg (refMeet10_is av ax al ae ak bv bx bl be bk fa fb _ HM.out)))))
    refine wpQuiet_nil ?_; rintro _ ⟨u, rfl⟩
    go_wp2
    go_ret
    exact ⟨ret_bool (by simp), OUT.out _ (by have := hf u; simpa using this)⟩


set_option maxRecDepth 100000 in
theorem meets_lifted (os : Os) (started : os.Started) (H : Type) (enc : TypeId × Value → H) :
    ReturnsInHanded {} Try.checked os 6 .any (Rows.confMeetsSpec.pre6 enc Try.prog Try.f6 Rows.confMeetsRow.domain false) (Rows.confMeetsSpec.post enc Try.prog Try.f6 false true false false) := by
  refine lift_law (C := Try.checked) (tb := 4) (by kernel_rfl) started (by kernel_rfl) Try.func6 (ChangeSpec.witness6 (enc := enc) (C := Try.checked) false ⟨#[], #[.agg #[.int .u16 0, .int .u16 0, .int .u16 0, .int .i64 0, .int .i64 0], .agg #[.int .u16 0, .int .u16 0, .int .u16 0, .int .i64 0, .int .i64 0]], []⟩ 8 (by kernel_rfl) (by kernel_rfl) (by kernel_rfl) (by kernel_rfl)) (by kernel_rfl) (by kernel_rfl) rfl Try.underlying4 rfl ?_ ?_
  · intro ds h
    match ds, h with
    | [_, _], _ => rfl
  · intro W base args ds ps hval0 hA0 hlt hsz
    have hval : ∀ (j : Nat) t v, Try.f6.params[j]? = some t → args[j]? = some v → Value.okWide Try.prog W .any base t v := hval0
    have hA : DataW.TrodAll enc Try.prog W 0 (fun _ => true) true Try.f6.params.toList args.toList ds ps := hA0
    rw [Try.params6] at hA hval
    obtain ⟨v0, v1, d0, d1, p0, p1, rfl, rfl, rfl, h0, h1⟩ := trodAll_two hA
    obtain ⟨av, ax, al, ae, ak, rfl, fa⟩ := open_cfg (hval 0 33 v0 rfl rfl) h0
    obtain ⟨bv, bx, bl, be, bk, rfl, fb⟩ := open_cfg (hval 1 33 v1 rfl rfl) h1
    exact meets_walk av ax al ae ak bv bx bl be bk fa fb W

theorem meets_holds : Rows.ConfMeetsSaid :=
  OpenClaim.holds_of_wide 6 Try.f6 rfl rfl rfl rfl rfl rfl rfl ⟨rfl, rfl, rfl, rfl, rfl⟩ rfl rfl rfl rfl rfl (by kernel_rfl) Try.func6 (by kernel_rfl)
    (of_decide_eq_true (by kernel_rfl)) (by unfold Func.isWrapper; first | (rw [if_pos (by decide +kernel)]; kernel_rfl) | (rw [if_neg (by decide +kernel)]; exact ⟨rfl, rfl⟩))
    (fun os started H enc _ => meets_lifted os started H enc)
#print axioms meets_holds

end Go.Proofs.Ytaaagidooieejaa
