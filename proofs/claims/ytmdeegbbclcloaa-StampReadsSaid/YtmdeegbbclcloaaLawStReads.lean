/- StampReads: whatever bytes: whether they are a stamp, and which, as the document has it, and the bytes are kept; no condition. -/
import Derived.Test.YtmdeegbbclcloaaStampTk
import Derived.Test.YtmdeegbbclcloaaBegun6
import Derived.Test.YtmdeegbbclcloaaOpenStamp
import Derived.Test.YtmdeegbbclcloaaRows
namespace Go.Proofs.Ytmdeegbbclcloaa
open Go.ChangeShapes Go.WideShapes Go.ChangeAt Go.RowKit

theorem wf_u8 {n : Int} (h : (Lit.int .u8 n).wf = true) : 0 ≤ n ∧ n ≤ 255 := by
  have h1 : IntKind.u8.min = 0 := rfl
  have h2 : IntKind.u8.max = 255 := rfl
  simp only [Lit.wf, Bool.and_eq_true, decide_eq_true_eq] at h; omega

set_option maxRecDepth 100000 in
set_option maxHeartbeats 4000000 in
theorem reads_walk (v : Value) (xs : List Int) (hx : ∀ x ∈ xs, 0 ≤ x ∧ x ≤ 255) (w : World) (hs : Sl w.heap.size w v 1 xs.length (byt xs)) :
    Calls Try.prog 8 #[v] w fun r w' => r = .returned (.bool true) ∧ Below w.heap.size w w' := by
  have HS := Lib.hid hs
  have HX := Lib.hid hx
  obtain ⟨a, cap, rfl, h1, h2, -, -⟩ := hs.form
  unfold maxLen at h2
  clear hs hx
  by_cases hn : 100 < xs.length
  · go_enter Try.func8, Try.ntmps8
    go_wp2_with fail
    refine (begun_any _).mono ?_; rintro r w1 ⟨rfl, hb⟩
    go_wp2_with fail
    go_ret
    exact ⟨rfl, hb⟩
  · go_enter Try.func8, Try.ntmps8
    go_wp2_with fail
    refine (begun_any _).mono ?_; rintro r w1 ⟨rfl, hb1⟩
    have S1 := Lib.hid (HS.out.keep hb1)
    go_wp2_with fail
    refine (twin_any w.heap.size _ xs _ S1.out hb1.size (by omega)).mono ?_; rintro r w2 ⟨g, rfl, hg, hrow, hb2⟩
    have S2 := Lib.hid (sl_row (n := xs.length) (cap := xs.length + 3) (xs := byt xs) hrow (by simp [byt]) (by simp [byt]) (by omega) (by unfold maxLen; omega))
    have S3 := Lib.hid (S1.out.keep (hb2.mono hb1.size))
    replace hb2 := hb1.trans (hb2.mono hb1.size)
    have hgl := block_lt hrow
    clear hb1 S1
    go_wp2_with fail
    refine (take_any _ _ xs HX.out _ S2.out (Nat.le_refl _)).mono ?_; rintro r w3 ⟨rfl, hb3⟩
    replace hrow := below_block hb3 hgl hrow
    replace hb3 := hb2.trans (hb3.mono hb2.size)
    have S4 := Lib.hid (HS.out.keep (hb3.alloc hb3.size (.cells #[.int .i64 (takeW xs), .int .i64 (takeT xs)] 40)))
    have HA := heap_last w3 (.cells #[.int .i64 (takeW xs), .int .i64 (takeT xs)] 40)
    replace hrow := heap_prev (.cells #[.int .i64 (takeW xs), .int .i64 (takeT xs)] 40) hrow
    have hsz3 := hb3.size
    clear hb2 S2 S3
    go_wp2_with fail
    refine (refTake_any w.heap.size _ xs HX.out _ S4.out (by simp; omega)).mono ?_; rintro r w4 ⟨rfl, hb4⟩
    simp only [World.size_alloc] at hb4
    replace HA := below_block hb4 (by omega) HA
    replace hrow := below_block hb4 (by have := (block_lt hrow); simp at this; omega) hrow
    replace hb4 := (hb3.alloc hb3.size (.cells #[.int .i64 (takeW xs), .int .i64 (takeT xs)] 40)).trans (hb4.mono (by omega))
    replace HA := heap_prev (.cells #[.int .i64 (takeW xs), .int .i64 (takeT xs)] 40) HA
    replace hrow := heap_prev (.cells #[.int .i64 (takeW xs), .int .i64 (takeT xs)] 40) hrow
    have HB := heap_last w4 (.cells #[.int .i64 (takeW xs), .int .i64 (takeT xs)] 40)
    have hb5 := hb4.alloc hb4.size (.cells #[.int .i64 (takeW xs), .int .i64 (takeT xs)] 40)
    have S5 := Lib.hid (HS.out.keep hb5)
    have HR := Lib.hid hrow
    have HB5 := Lib.hid hb5
    have kA := block_cells HA
    have kB := block_cells HB
    clear hb3 hb4 S4 HA HB hrow hb5
    go_wp2_with fail
    refine (kept_any w.heap.size _ xs g _ S5.out (by omega) HR.out).mono ?_; rintro r w5 ⟨rfl, rfl⟩
    go_wp2_with fail
    go_ret
    exact ⟨rfl, HB5.out⟩


set_option maxRecDepth 100000 in
theorem stReads_lifted (os : Os) (started : os.Started) (H : Type) (enc : TypeId × Value → H) :
    ReturnsInHanded {} Try.checked os 8 .any (Rows.stampReadsSpec.pre6 enc Try.prog Try.f8 Rows.stampReadsRow.domain false) (Rows.stampReadsSpec.post enc Try.prog Try.f8 false true false false) := by
  refine lift_law (C := Try.checked) (tb := 4) (by kernel_rfl) started (by kernel_rfl) Try.func8 (ChangeSpec.witness6 (enc := enc) (C := Try.checked) false ⟨#[], #[.slice none 0 0], []⟩ 8 (by kernel_rfl) (by kernel_rfl) (by kernel_rfl) (by kernel_rfl)) (by kernel_rfl) (by kernel_rfl) rfl Try.underlying4 rfl ?_ ?_
  · intro ds h
    match ds, h with
    | [_], _ => rfl
  · intro W base args ds ps hval0 hA0 hlt hsz
    have hval : ∀ (j : Nat) t v, Try.f8.params[j]? = some t → args[j]? = some v → Value.okWide Try.prog W .any base t v := hval0
    have hA : DataW.TrodAll enc Try.prog W 0 (fun _ => true) true Try.f8.params.toList args.toList ds ps := hA0
    rw [Try.params8] at hA hval
    obtain ⟨v0, d0, rfl, rfl, h0⟩ := trodAll_one hA
    obtain ⟨xs, hs, hw⟩ := open_nums Try.underlying45 Try.underlying5 (by kernel_rfl) (hval 0 45 v0 rfl rfl) h0
    exact reads_walk v0 xs (fun x hm => wf_u8 (hw x hm)) W hs

theorem stReads_holds : Rows.StampReadsSaid :=
  OpenClaim.holds_of_wide 8 Try.f8 rfl rfl rfl rfl rfl rfl rfl ⟨rfl, rfl, rfl, rfl, rfl⟩ rfl rfl rfl rfl rfl (by kernel_rfl) Try.func8 (by kernel_rfl)
    (of_decide_eq_true (by kernel_rfl)) (by unfold Func.isWrapper; first | (rw [if_pos (by decide +kernel)]; kernel_rfl) | (rw [if_neg (by decide +kernel)]; exact ⟨rfl, rfl⟩))
    (fun os started H enc _ => stReads_lifted os started H enc)
#print axioms stReads_holds

end Go.Proofs.Ytmdeegbbclcloaa
