/- ConfAll: for every joint, set and node: which configurations may be, who is in a joint and which sets elect and commit is what the reference answers; no condition. -/
import Derived.Test.YtaaagidooieejaaBegun10
import Derived.Test.YtaaagidooieejaaOpenConf
import Derived.Test.YtaaagidooieejaaRef10d
import Derived.Test.YtaaagidooieejaaPlainConf2
import Derived.Test.YtaaagidooieejaaRows
namespace Go.Proofs.Ytaaagidooieejaa
open Go.ChangeShapes Go.WideShapes Go.ChangeAt Go.RowKit

section
variable (jov jox jol joe jok jnv jnx jnl jne jnk : Int) (jt : Bool) (fo : FitC jov jox jol) (fn : FitC jnv jnx jnl) (w : World)
include fo fn
theorem refVoting_is (hm : mayJ jov jox jol joe jok jnv jnx jnl jne jnk jt = true) : Calls Try.prog 34 #[.agg #[.int .u16 jov, .int .u16 jox, .int .u16 jol, .int .i64 joe, .int .i64 jok, .int .u16 jnv, .int .u16 jnx, .int .u16 jnl, .int .i64 jne, .int .i64 jnk, .bool jt]] w fun r w' => r = .returned (.int .u16 (pickB jt (bits .or .u16 jov jox) (bits .or .u16 jnv jnx))) ∧ Below w.heap.size w w' := by
  have := refVoting_any jov jox jol joe jok jnv jnx jnl jne jnk jt fo fn w
  rw [voting_same jov jox jol joe jok jnv jnx jnl jne jnk jt fo fn hm] at this; exact this
theorem refData_is (hm : mayJ jov jox jol joe jok jnv jnx jnl jne jnk jt = true) : Calls Try.prog 36 #[.agg #[.int .u16 jov, .int .u16 jox, .int .u16 jol, .int .i64 joe, .int .i64 jok, .int .u16 jnv, .int .u16 jnx, .int .u16 jnl, .int .i64 jne, .int .i64 jnk, .bool jt]] w fun r w' => r = .returned (.int .u16 (pickB jt (bits .or .u16 jov jol) (bits .or .u16 jnv jnl))) ∧ Below w.heap.size w w' := by
  have := refData_any jov jox jol joe jok jnv jnx jnl jne jnk jt fo fn w
  rw [data_same jov jox jol joe jok jnv jnx jnl jne jnk jt fo fn hm] at this; exact this
theorem refMembers_is (hm : mayJ jov jox jol joe jok jnv jnx jnl jne jnk jt = true) : Calls Try.prog 33 #[.agg #[.int .u16 jov, .int .u16 jox, .int .u16 jol, .int .i64 joe, .int .i64 jok, .int .u16 jnv, .int .u16 jnx, .int .u16 jnl, .int .i64 jne, .int .i64 jnk, .bool jt]] w fun r w' => r = .returned (.int .u16 (pickB jt (bits .or .u16 (bits .or .u16 jov jox) jol) (bits .or .u16 (bits .or .u16 jnv jnx) jnl))) ∧ Below w.heap.size w w' := by
  have := refMembers_any jov jox jol joe jok jnv jnx jnl jne jnk jt fo fn w
  rw [voting_same jov jox jol joe jok jnv jnx jnl jne jnk jt fo fn hm, data_same jov jox jol joe jok jnv jnx jnl jne jnk jt fo fn hm, members_same jov jox jol joe jok jnv jnx jnl jne jnk jt fo fn hm] at this; exact this
theorem refLeads_is (n : Int) : Calls Try.prog 38 #[.agg #[.int .u16 jov, .int .u16 jox, .int .u16 jol, .int .i64 joe, .int .i64 jok, .int .u16 jnv, .int .u16 jnx, .int .u16 jnl, .int .i64 jne, .int .i64 jnk, .bool jt], .int .i64 n] w fun r w' => r = .returned (.bool (hasB (pickB jt jov jnv) n)) ∧ Below w.heap.size w w' := by
  have := refLeads_any jov jox jol joe jok jnv jnx jnl jne jnk n jt fo fn w
  rw [leads_same jov jnv n jt fo.v0 fn.v0] at this; exact this
theorem refElects_is (g : Int) (g0 : 0 ≤ g) (g1 : g ≤ 65535) : Calls Try.prog 39 #[.agg #[.int .u16 jov, .int .u16 jox, .int .u16 jol, .int .i64 joe, .int .i64 jok, .int .u16 jnv, .int .u16 jnx, .int .u16 jnl, .int .i64 jne, .int .i64 jnk, .bool jt], .int .u16 g] w fun r w' => r = .returned (.bool (electsJ jov jox jol joe jok jnv jnx jnl jne jnk jt g)) ∧ Below w.heap.size w w' := by
  have := refElects_any jov jox jol joe jok jnv jnx jnl jne jnk g jt fo fn g0 g1 w
  rw [elects_same jov jox jol joe jok jnv jnx jnl jne jnk g jt fo fn g0] at this; exact this
theorem refCommits_is (g : Int) (g0 : 0 ≤ g) (g1 : g ≤ 65535) : Calls Try.prog 40 #[.agg #[.int .u16 jov, .int .u16 jox, .int .u16 jol, .int .i64 joe, .int .i64 jok, .int .u16 jnv, .int .u16 jnx, .int .u16 jnl, .int .i64 jne, .int .i64 jnk, .bool jt], .int .u16 g] w fun r w' => r = .returned (.bool (commitsJ jov jox jol joe jok jnv jnx jnl jne jnk jt g)) ∧ Below w.heap.size w w' := by
  have := refCommits_any jov jox jol joe jok jnv jnx jnl jne jnk g jt fo fn g0 g1 w
  rw [commits_same jov jox jol joe jok jnv jnx jnl jne jnk g jt fo fn g0] at this; exact this
end

set_option maxHeartbeats 8000000 in
theorem all_walk (jov jox jol joe jok jnv jnx jnl jne jnk : Int) (jt : Bool) (g n : Int) (fo : FitC jov jox jol) (fn : FitC jnv jnx jnl) (g0 : 0 ≤ g) (g1 : g ≤ 65535) (w : World) :
    Calls Try.prog 10 #[.agg #[.int .u16 jov, .int .u16 jox, .int .u16 jol, .int .i64 joe, .int .i64 jok, .int .u16 jnv, .int .u16 jnx, .int .u16 jnl, .int .i64 jne, .int .i64 jnk, .bool jt], .int .u16 g, .int .i64 n] w fun r w' => r = .returned (.bool true) ∧ Below w.heap.size w w' := by
  cases hm : mayJ jov jox jol joe jok jnv jnx jnl jne jnk jt
  · have HM := Lib.hid hm; clear hm
    go_enter Try.func10, Try.ntmps10
    go_wp2_with fail
    obtain ⟨U, f, hU, hf, hg⟩ := calm_class (w.alloc (.cells #[.int .u16 jov, .int .u16 jox, .int .u16 jol, .int .i64 joe, .int .i64 jok, .int .u16 jnv, .int .u16 jnx, .int .u16 jnl, .int .i64 jne, .int .i64 jnk, .bool jt] 38)); obtain ⟨u0, hu0⟩ := hg _ (Below.refl _ _); rw [hu0]; clear hu0
    have kA := calm_block hf (heap_last w (.cells #[.int .u16 jov, .int .u16 jox, .int .u16 jol, .int .i64 joe, .int .i64 jok, .int .u16 jnv, .int .u16 jnx, .int .u16 jnl, .int .i64 jne, .int .i64 jnk, .bool jt] 38))
    refine (begun_any _).mono ?_; rintro r w' ⟨rfl, hb⟩; obtain ⟨u, rfl⟩ := calm_step hf hg hb; clear hb
    go_wp2_with fail
    refine wp_region_calm f (by kernel_rfl) (by kernel_rfl) (calm_drew hf hg _) ?_
    repeat (go_big_quiet_step ((first | (go_at_call 18; exact calm_of hf hg (confMay_any _ _ _ _ _ _)) | (go_at_call 24; exact calm_of hf hg (refMay10_any _ _ _ _ _ fo _)) | (go_at_call 26; exact calm_of hf hg (confMayJoint_any _ _ _ _ _ _ _ _ _ _ _ _)) | (go_at_call 19; exact calm_of hf hg (refMayJoint_any _ _ _ _ _ _ _ _ _ _ _ fo fn _)))))
    refine wpQuiet_nil ?_; rintro _ ⟨u, rfl⟩
    go_wp2_with (go_at_call 19; refine (refMayJoint_any _ _ _ _ _ _ _ _ _ _ _ fo fn _).mono ?_; rintro r w' ⟨rfl, hb⟩; obtain ⟨u, rfl⟩ := calm_step hf hg hb; clear hb; rw [HM.out])
    go_ret
    exact ⟨rfl, box_out (box_first (hf _))⟩
  · have HM := Lib.hid hm; clear hm
    go_enter Try.func10, Try.ntmps10
    go_wp2_with fail
    obtain ⟨U, f, hU, hf, hg⟩ := calm_class (w.alloc (.cells #[.int .u16 jov, .int .u16 jox, .int .u16 jol, .int .i64 joe, .int .i64 jok, .int .u16 jnv, .int .u16 jnx, .int .u16 jnl, .int .i64 jne, .int .i64 jnk, .bool jt] 38)); obtain ⟨u0, hu0⟩ := hg _ (Below.refl _ _); rw [hu0]; clear hu0
    have kA := calm_block hf (heap_last w (.cells #[.int .u16 jov, .int .u16 jox, .int .u16 jol, .int .i64 joe, .int .i64 jok, .int .u16 jnv, .int .u16 jnx, .int .u16 jnl, .int .i64 jne, .int .i64 jnk, .bool jt] 38))
    refine (begun_any _).mono ?_; rintro r w' ⟨rfl, hb⟩; obtain ⟨u, rfl⟩ := calm_step hf hg hb; clear hb
    go_wp2_with fail
    refine wp_region_calm f (by kernel_rfl) (by kernel_rfl) (calm_drew hf hg _) ?_
    repeat (go_big_quiet_step ((first | (go_at_call 18; exact calm_of hf hg (confMay_any _ _ _ _ _ _)) | (go_at_call 24; exact calm_of hf hg (refMay10_any _ _ _ _ _ fo _)) | (go_at_call 26; exact calm_of hf hg (confMayJoint_any _ _ _ _ _ _ _ _ _ _ _ _)) | (go_at_call 19; exact calm_of hf hg (refMayJoint_any _ _ _ _ _ _ _ _ _ _ _ fo fn _)))))
    refine wpQuiet_nil ?_; rintro _ ⟨u, rfl⟩
    go_wp2_with (go_at_call 19; refine (refMayJoint_any _ _ _ _ _ _ _ _ _ _ _ fo fn _).mono ?_; rintro r w' ⟨rfl, hb⟩; obtain ⟨u, rfl⟩ := calm_step hf hg hb; clear hb; rw [HM.out])
    refine wp_region_calm f (by kernel_rfl) (by kernel_rfl) (calm_drew hf hg _) ?_
    repeat (go_big_quiet_step ((first | (go_at_call 32; exact calm_of hf hg (confMembers_any _ _ _ _ _ _ _ _ _ _ _ _)) | (go_at_call 33; exact calm_of hf hg (refMembers_is _ _ _ _ _ _ _ _ _ _ _ fo fn _ HM.out)) | (go_at_call 30; exact calm_of hf hg (confVoting_any _ _ _ _ _ _ _ _ _ _ _ _)) | (go_at_call 34; exact calm_of hf hg (refVoting_is _ _ _ _ _ _ _ _ _ _ _ fo fn _ HM.out)) | (go_at_call 35; exact calm_of hf hg (confData_any _ _ _ _ _ _ _ _ _ _ _ _)) | (go_at_call 36; exact calm_of hf hg (refData_is _ _ _ _ _ _ _ _ _ _ _ fo fn _ HM.out)) | (go_at_call 37; exact calm_of hf hg (confLeads_any _ _ _ _ _ _ _ _ _ _ _ _ _ fo.v0)) | (go_at_call 38; exact calm_of hf hg (refLeads_is _ _ _ _ _ _ _ _ _ _ _ fo fn _ _)) | (go_at_call 27; exact calm_of hf hg (confElects_any _ _ _ _ _ _ _ _ _ _ _ _ _)) | (go_at_call 39; exact calm_of hf hg (refElects_is _ _ _ _ _ _ _ _ _ _ _ fo fn _ _ g0 g1)) | (go_at_call 28; exact calm_of hf hg (confCommits_any _ _ _ _ _ _ _ _ _ _ _ _ _)) | (go_at_call 40; exact calm_of hf hg (refCommits_is _ _ _ _ _ _ _ _ _ _ _ fo fn _ _ g0 g1)))))
    refine wpQuiet_nil ?_; rintro _ ⟨u, rfl⟩
    go_wp2
    go_ret
    exact ⟨rfl, box_out (box_first (hf _))⟩

set_option maxRecDepth 100000 in
theorem all_lifted (os : Os) (started : os.Started) (H : Type) (enc : TypeId × Value → H) :
    ReturnsInHanded {} Try.checked os 10 .any (Rows.confAllSpec.pre6 enc Try.prog Try.f10 Rows.confAllRow.domain false) (Rows.confAllSpec.post enc Try.prog Try.f10 false true false false) := by
  refine lift_law (C := Try.checked) (tb := 4) (by kernel_rfl) started (by kernel_rfl) Try.func10 (ChangeSpec.witness6 (enc := enc) (C := Try.checked) false ⟨#[], #[.agg #[.int .u16 0, .int .u16 0, .int .u16 0, .int .i64 0, .int .i64 0, .int .u16 0, .int .u16 0, .int .u16 0, .int .i64 0, .int .i64 0, .bool false], .int .u16 0, .int .i64 0], []⟩ 8 (by kernel_rfl) (by kernel_rfl) (by kernel_rfl) (by kernel_rfl)) (by kernel_rfl) (by kernel_rfl) rfl Try.underlying4 rfl ?_ ?_
  · intro ds h
    match ds, h with
    | [_, _, _], _ => rfl
  · intro W base args ds ps hval0 hA0 hlt hsz
    have hval : ∀ (j : Nat) t v, Try.f10.params[j]? = some t → args[j]? = some v → Value.okWide Try.prog W .any base t v := hval0
    have hA : DataW.TrodAll enc Try.prog W 0 (fun _ => true) true Try.f10.params.toList args.toList ds ps := hA0
    rw [Try.params10] at hA hval
    obtain ⟨v0, v1, v2, d0, d1, d2, p0, p1, p2, rfl, rfl, rfl, h0, h1, h2⟩ := trodAll_three hA
    obtain ⟨jov, jox, jol, joe, jok, jnv, jnx, jnl, jne, jnk, jt, rfl, fo, fn⟩ := open_joint (hval 0 38 v0 rfl rfl) h0
    obtain ⟨g, rfl, rfl, rfl, wg⟩ := open_int Try.underlying23 (hval 1 23 v1 rfl rfl) h1
    obtain ⟨n, rfl, rfl, rfl, wn⟩ := open_int Try.underlying3 (hval 2 3 v2 rfl rfl) h2
    exact all_walk jov jox jol joe jok jnv jnx jnl jne jnk jt g n fo fn (wf_u16 wg).1 (wf_u16 wg).2 W

theorem all_holds : Rows.ConfAllSaid :=
  OpenClaim.holds_of_wide 10 Try.f10 rfl rfl rfl rfl rfl rfl rfl ⟨rfl, rfl, rfl, rfl, rfl⟩ rfl rfl rfl rfl rfl (by kernel_rfl) Try.func10 (by kernel_rfl)
    (of_decide_eq_true (by kernel_rfl)) (by unfold Func.isWrapper; first | (rw [if_pos (by decide +kernel)]; kernel_rfl) | (rw [if_neg (by decide +kernel)]; exact ⟨rfl, rfl⟩))
    (fun os started H enc _ => all_lifted os started H enc)
#print axioms all_holds
end Go.Proofs.Ytaaagidooieejaa
