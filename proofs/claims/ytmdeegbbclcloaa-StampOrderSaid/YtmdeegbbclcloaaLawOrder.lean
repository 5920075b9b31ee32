/- StampOrder: for any two stamps and any two attempts: which is the lesser one, and the later stamp, as the document has it; no condition. -/
import Derived.Test.YtmdeegbbclcloaaBegun6
import Derived.Test.YtmdeegbbclcloaaStampC
import Derived.Test.YtmdeegbbclcloaaOpenStamp
import Derived.Test.YtmdeegbbclcloaaRows
namespace Go.Proofs.Ytmdeegbbclcloaa
open Go.ChangeShapes Go.WideShapes Go.ChangeAt Go.RowKit

set_option maxRecDepth 100000 in
set_option maxHeartbeats 8000000 in
theorem order_walk (aw at' bw bt a b c d x y z u : Int) (w : World) :
    Calls Try.prog 6 #[.agg #[.int .i64 aw, .int .i64 at'], .agg #[.int .i64 bw, .int .i64 bt], .agg #[.int .i64 a, .int .i64 b, .int .i64 c, .int .i64 d], .agg #[.int .i64 x, .int .i64 y, .int .i64 z, .int .i64 u]] w fun r w' => r = .returned (.bool true) ∧ Below w.heap.size w w' := by
  go_enter Try.func6, Try.ntmps6
  go_wp2_with fail
  obtain ⟨W, hW, B0, HA, HB, HC, HD⟩ := four_boxes w (.cells #[.int .i64 aw, .int .i64 at'] 40) (.cells #[.int .i64 bw, .int .i64 bt] 40) (.cells #[.int .i64 a, .int .i64 b, .int .i64 c, .int .i64 d] 23) (.cells #[.int .i64 x, .int .i64 y, .int .i64 z, .int .i64 u] 23)
  rw [← hW]
  clear hW
  obtain ⟨U, f, hU, hf, hg⟩ := calm_class (W); obtain ⟨u0, hu0⟩ := hg _ (Below.refl _ _); rw [hu0]; clear hu0
  have kA := fun u => block_cells (calm_heap hf HA u)
  have kB := fun u => block_cells (calm_heap hf HB u)
  have kC := fun u => block_cells (calm_heap hf HC u)
  have kD := fun u => block_cells (calm_heap hf HD u)
  clear HA HB HC HD
  refine wp_region_calm f (by kernel_rfl) (by kernel_rfl) (calm_drew hf hg _) ?_
  repeat (go_big_quiet_step ((first | (go_at_call 10; exact calm_of hf hg (begun_any _)) | (go_at_call 18; exact calm_of hf hg (less_any _ _ _ _ _)) | (go_at_call 19; exact calm_of hf hg (refLess_any _ _ _ _ _)) | (go_at_call 20; exact calm_of hf hg (max_any _ _ _ _ _)) | (go_at_call 21; exact calm_of hf hg (refMax_any _ _ _ _ _)) | (go_at_call 22; exact calm_of hf hg (lessTry_any _ _ _ _ _ _ _ _ _)) | (go_at_call 23; exact calm_of hf hg (refLessTry_any _ _ _ _ _ _ _ _ _)))))
  refine wpQuiet_nil ?_
  rintro _ ⟨v, rfl⟩
  go_wp2_with fail
  go_ret
  exact ⟨rfl, B0.trans ((hf v).mono B0.size)⟩


set_option maxRecDepth 100000 in
theorem order_lifted (os : Os) (started : os.Started) (H : Type) (enc : TypeId × Value → H) :
    ReturnsInHanded {} Try.checked os 6 .any (Rows.stampOrderSpec.pre6 enc Try.prog Try.f6 Rows.stampOrderRow.domain false) (Rows.stampOrderSpec.post enc Try.prog Try.f6 false true false false) := by
  refine lift_law (C := Try.checked) (tb := 4) (by kernel_rfl) started (by kernel_rfl) Try.func6 (ChangeSpec.witness6 (enc := enc) (C := Try.checked) false ⟨#[], #[.agg #[.int .i64 0, .int .i64 0], .agg #[.int .i64 0, .int .i64 0], .agg #[.int .i64 0, .int .i64 0, .int .i64 0, .int .i64 0], .agg #[.int .i64 0, .int .i64 0, .int .i64 0, .int .i64 0]], []⟩ 8 (by kernel_rfl) (by kernel_rfl) (by kernel_rfl) (by kernel_rfl)) (by kernel_rfl) (by kernel_rfl) rfl Try.underlying4 rfl ?_ ?_
  · intro ds h
    match ds, h with
    | [_, _, _, _], _ => rfl
  · intro W base args ds ps hval0 hA0 hlt hsz
    have hval : ∀ (j : Nat) t v, Try.f6.params[j]? = some t → args[j]? = some v → Value.okWide Try.prog W .any base t v := hval0
    have hA : DataW.TrodAll enc Try.prog W 0 (fun _ => true) true Try.f6.params.toList args.toList ds ps := hA0
    rw [Try.params6] at hA hval
    obtain ⟨v0, v1, v2, v3, d0, d1, d2, d3, p0, p1, p2, p3, rfl, rfl, rfl, h0, h1, h2, h3⟩ := trodAll_four hA
    obtain ⟨aw, at', rfl, -⟩ := open_stamp (hval 0 40 v0 rfl rfl) h0
    obtain ⟨bw, bt, rfl, -⟩ := open_stamp (hval 1 40 v1 rfl rfl) h1
    obtain ⟨a, b, c, d, rfl⟩ := open_try (hval 2 23 v2 rfl rfl) h2
    obtain ⟨x, y, z, u, rfl⟩ := open_try (hval 3 23 v3 rfl rfl) h3
    exact order_walk aw at' bw bt a b c d x y z u W

theorem order_holds : Rows.StampOrderSaid :=
  OpenClaim.holds_of_wide 6 Try.f6 rfl rfl rfl rfl rfl rfl rfl ⟨rfl, rfl, rfl, rfl, rfl⟩ rfl rfl rfl rfl rfl (by kernel_rfl) Try.func6 (by kernel_rfl)
    (of_decide_eq_true (by kernel_rfl)) (by unfold Func.isWrapper; first | (rw [if_pos (by decide +kernel)]; kernel_rfl) | (rw [if_neg (by decide +kernel)]; exact ⟨rfl, rfl⟩))
    (fun os started H enc _ => order_lifted os started H enc)
#print axioms order_holds

end Go.Proofs.Ytmdeegbbclcloaa
