/- ConfMore: for every joint and any two sets: more nodes never elect or commit less; all that vote elect and commit, and none does not; no condition. -/
import Derived.Test.YtaaagidooieejaaBegun10
import Derived.Test.YtaaagidooieejaaOpenConf
import Derived.Test.YtaaagidooieejaaRows
namespace Go.Proofs.Ytaaagidooieejaa
open Go.ChangeShapes Go.WideShapes Go.ChangeAt Go.RowKit

set_option maxHeartbeats 8000000 in
theorem more_walk (jov jox jol joe jok jnv jnx jnl jne jnk : Int) (jt : Bool) (g m : Int) (fo : FitC jov jox jol) (fn : FitC jnv jnx jnl) (g0 : 0 ≤ g) (m0 : 0 ≤ m) (w : World) :
    Calls Try.prog 9 #[.agg #[.int .u16 jov, .int .u16 jox, .int .u16 jol, .int .i64 joe, .int .i64 jok, .int .u16 jnv, .int .u16 jnx, .int .u16 jnl, .int .i64 jne, .int .i64 jnk, .bool jt], .int .u16 g, .int .u16 m] w fun r w' => r = .returned (.bool true) ∧ Below w.heap.size w w' := by
  cases hm : mayJ jov jox jol joe jok jnv jnx jnl jne jnk jt
  · have HM := Lib.hid hm
    clear hm
    go_enter Try.func9, Try.ntmps9
    go_wp2_with fail
    refine (begun_any _).mono ?_; rintro r w1 ⟨rfl, hb⟩
    replace hb := box_first hb
    have HA := below_block hb (by omega) (heap_last w _)
    have kA := block_cells HA
    go_wp2_with fail
    refine (confMayJoint_any _ _ _ _ _ _ _ _ _ _ _ _).mono ?_; rintro r w2 ⟨rfl, hb2⟩; rw [HM.out]
    replace hb2 := box_step hb hb2
    clear hb
    go_wp2_with fail
    go_ret
    exact ⟨rfl, box_out hb2⟩
  · obtain ⟨p1, p2, p3, p4, p5, p6, p7⟩ := more_plain jov jox jol joe jok jnv jnx jnl jne jnk jt g m fo fn g0 m0 hm
    have P1 := Lib.hid p1; have P2 := Lib.hid p2; have P3 := Lib.hid p3; have P4 := Lib.hid p4; have P5 := Lib.hid p5; have P6 := Lib.hid p6
    have hmem0 : 0 ≤ pickB jt (bits .or .u16 (bits .or .u16 jov jox) jol) (bits .or .u16 (bits .or .u16 jnv jnx) jnl) := pickB_0 _ _ _ (bits_fit _ _ _).1
    have hmem1 : pickB jt (bits .or .u16 (bits .or .u16 jov jox) jol) (bits .or .u16 (bits .or .u16 jnv jnx) jnl) ≤ 65535 := pickB_1 _ _ _ (bits_fit _ _ _).2
    have HM := Lib.hid hm
    clear hm p1 p2 p3 p4 p5 p6
    cases he : electsJ jov jox jol joe jok jnv jnx jnl jne jnk jt (bits .and .u16 g 1022) <;> cases hc : commitsJ jov jox jol joe jok jnv jnx jnl jne jnk jt (bits .and .u16 g 1022)
    all_goals
      have HE := Lib.hid he; have HC := Lib.hid hc
      clear he hc
      go_enter Try.func9, Try.ntmps9
      go_wp2_with fail
      refine (begun_any _).mono ?_; rintro r w1 ⟨rfl, hb⟩
      replace hb := box_first hb
      have HA := below_block hb (by omega) (heap_last w _)
      have kA := block_cells HA
      go_wp2_with fail
      refine (confMayJoint_any _ _ _ _ _ _ _ _ _ _ _ _).mono ?_; rintro r w2 ⟨rfl, hb2⟩; rw [HM.out]
      replace HA := below_block hb2 (block_lt HA) HA
      replace hb2 := box_step hb hb2
      clear hb kA
      go_wp2_with fail
      obtain ⟨U, f, hU, hf, hg⟩ := calm_class w2
      refine wp_region_calm f (by kernel_rfl) (by kernel_rfl) (hg _ (Below.refl _ _).drew) ?_
      have kA := calm_block hf HA
      repeat (go_big_quiet_step ((first | (go_at_call 30; exact calm_of hf hg (confVoting_any _ _ _ _ _ _ _ _ _ _ _ _)) | (go_at_call 32; exact calm_of hf hg (confMembers_any _ _ _ _ _ _ _ _ _ _ _ _)) | (go_at_call 31; exact calm_of hf hg (refCount_any _ _ hmem0 hmem1)) | (go_at_call_of 27 (Value.int .u16 (bits .and .u16 g 1022)); exact calm_of hf hg (confElects_is _ _ _ _ _ _ _ _ _ _ _ _ _ HE.out)) | (go_at_call_of 27 (Value.int .u16 0); exact calm_of hf hg (confElects_is _ _ _ _ _ _ _ _ _ _ _ _ _ P5.out)) | (go_at_call_of 27 (Value.int .u16 (pickB jt (bits .or .u16 jov jox) (bits .or .u16 jnv jnx))); exact calm_of hf hg (confElects_is _ _ _ _ _ _ _ _ _ _ _ _ _ P3.out)) | (go_at_call 27; exact calm_of hf hg (confElects_is _ _ _ _ _ _ _ _ _ _ _ _ _ (P1.out HE.out))) | (go_at_call_of 28 (Value.int .u16 (bits .and .u16 g 1022)); exact calm_of hf hg (confCommits_is _ _ _ _ _ _ _ _ _ _ _ _ _ HC.out)) | (go_at_call_of 28 (Value.int .u16 0); exact calm_of hf hg (confCommits_is _ _ _ _ _ _ _ _ _ _ _ _ _ P6.out)) | (go_at_call_of 28 (Value.int .u16 (pickB jt (bits .or .u16 jov jox) (bits .or .u16 jnv jnx))); exact calm_of hf hg (confCommits_is _ _ _ _ _ _ _ _ _ _ _ _ _ P4.out)) | (go_at_call 28; exact calm_of hf hg (confCommits_is _ _ _ _ _ _ _ _ _ _ _ _ _ (P2.out HC.out))))))
      refine wpQuiet_nil ?_
      rintro _ ⟨u1, rfl⟩
      go_wp2
      go_ret
      exact ⟨ret_bool (by simp), box_out (hb2.trans ((hf u1).mono (by have := hb2.size; simpa using this)))⟩

theorem Try.own : ownKnob Try.prog.godebug = none := by kernel_rfl
theorem Try.laidOut : laidOutB Try.prog = true := by kernel_rfl

set_option maxRecDepth 100000 in
theorem more_lifted (os : Os) (started : os.Started) (H : Type) (enc : TypeId × Value → H) :
    ReturnsInHanded {} Try.checked os 9 .any (Rows.confMoreSpec.pre6 enc Try.prog Try.f9 Rows.confMoreRow.domain false) (Rows.confMoreSpec.post enc Try.prog Try.f9 false true false false) := by
  refine lift_law (C := Try.checked) (tb := 4) Try.own started (by kernel_rfl) Try.func9 (ChangeSpec.witness6 (enc := enc) (C := Try.checked) false ⟨#[], #[.agg #[.int .u16 0, .int .u16 0, .int .u16 0, .int .i64 0, .int .i64 0, .int .u16 0, .int .u16 0, .int .u16 0, .int .i64 0, .int .i64 0, .bool false], .int .u16 0, .int .u16 0], []⟩ 8 (by kernel_rfl) (by kernel_rfl) (by kernel_rfl) (by kernel_rfl)) Try.laidOut (by kernel_rfl) rfl Try.underlying4 rfl ?_ ?_
  · intro ds h
    match ds, h with
    | [_, _, _], _ => rfl
  · intro W base args ds ps hval0 hA0 _ _
    have hval : ∀ (j : Nat) t v, Try.f9.params[j]? = some t → args[j]? = some v → Value.okWide Try.prog W .any base t v := hval0
    have hA : DataW.TrodAll enc Try.prog W 0 (fun _ => true) true Try.f9.params.toList args.toList ds ps := hA0
    rw [Try.params9] at hA hval
    obtain ⟨v0, v1, v2, d0, d1, d2, p0, p1, p2, rfl, rfl, rfl, h0, h1, h2⟩ := trodAll_three hA
    obtain ⟨jov, jox, jol, joe, jok, jnv, jnx, jnl, jne, jnk, jt, rfl, fo, fn⟩ := open_joint (hval 0 38 v0 rfl rfl) h0
    obtain ⟨g, rfl, rfl, rfl, wg⟩ := open_int Try.underlying23 (hval 1 23 v1 rfl rfl) h1
    obtain ⟨m, rfl, rfl, rfl, wm⟩ := open_int Try.underlying23 (hval 2 23 v2 rfl rfl) h2
    exact more_walk jov jox jol joe jok jnv jnx jnl jne jnk jt g m fo fn (wf_u16 wg).1 (wf_u16 wm).1 W

theorem more_holds : Rows.ConfMoreSaid :=
  OpenClaim.holds_of_wide 9 Try.f9 rfl rfl rfl rfl rfl rfl rfl ⟨rfl, rfl, rfl, rfl, rfl⟩ rfl rfl rfl rfl rfl (by kernel_rfl) Try.func9 (by kernel_rfl)
    (of_decide_eq_true (by kernel_rfl)) (by unfold Func.isWrapper; first | (rw [if_pos (by decide +kernel)]; kernel_rfl) | (rw [if_neg (by decide +kernel)]; exact ⟨rfl, rfl⟩))
    (fun os started H enc _ => more_lifted os started H enc)
#print axioms more_holds
end Go.Proofs.Ytaaagidooieejaa
