/- ScriptWrites: for all lists of events (100 at most, of texts of 1000 bytes and lists of 10 numbers at most; others are let through): they are written as the bytes that the document's answer writes; no condition. -/
import Derived.Test.YtihkkoldjllifaaScriptL
import Derived.Test.YtihkkoldjllifaaOpenEvs
import Derived.Test.YtihkkoldjllifaaHeld
import Derived.Test.YtihkkoldjllifaaFrame
import Derived.Test.YtihkkoldjllifaaRows
import Derived.Deep.DeepCutAuto
namespace Go.Proofs.Ytihkkoldjllifaa
open Go.ChangeShapes Go.WideShapes Go.ChangeAt Go.RowKit

theorem own_text {w w' : World} {B : Nat} {v : Value} {ys : List Int} {s : ByteArray} (hs : strOfNums ys = s) (h : w.ownsRow B 5 1 v ys.length (byt ys)) (hb : Below w.heap.size w w') : (convert 22 9 v).run Try.prog w' = .ok (.string s) w' := by
  rw [← hs]; exact run_convert_sl ((Sl.of_own h).keep hb) 22 5 Try.underlying22 Try.underlying5 9 Try.underlying9
theorem light29_fit {L : List EvX} (h : light29 L 100 = true) : L.length ≤ 100 ∧ ∀ x ∈ L, x.1.ks.length ≤ 1000 ∧ x.1.t.size ≤ 100000 := by
  simp only [light29, Bool.and_eq_true, decide_eq_true_eq, List.all_eq_true, okE] at h
  exact ⟨by omega, fun x hx => by have := h.2 x hx; omega⟩
set_option maxRecDepth 100000 in
set_option maxHeartbeats 8000000 in
theorem scwrites_walk (v : Value) (L : List EvX) (w : World) (hL : EvSl w v L) (hks : ∀ x ∈ L, x.1.ks.length ≤ maxLen ∧ x.1.t.size ≤ maxLen) :
    Calls Try.prog 4 #[v] w fun r w' => r = .returned (.bool true) ∧ Below w.heap.size w w' := by
  have HL := Lib.hid hL; have HKS := Lib.hid hks
  clear hL hks
  cases hlt : light29 L 100
  · have HLT := Lib.hid hlt
    clear hlt
    go_enter Try.func4, Try.ntmps4
    go_wp2_with fail
    refine (begun29_any _).mono ?_; rintro r w1 ⟨rfl, hb1⟩
    have L1 := Lib.hid (HL.out.keep hb1 (Nat.le_refl _))
    have B1 := Lib.hid hb1
    clear hb1
    go_wp2_with fail
    refine (light29_any _ L 100 _ L1.out HKS.out).mono ?_; rintro r w' ⟨rfl, rfl⟩
    rw [HLT.out]
    go_wp2_with fail
    go_ret
    exact ⟨rfl, B1.out⟩
  · obtain ⟨hl, hfit⟩ := light29_fit hlt
    have HLT := Lib.hid hlt; have HF := Lib.hid hfit
    clear hlt hfit
    go_enter Try.func4, Try.ntmps4
    go_wp2_with fail
    refine (begun29_any _).mono ?_; rintro r w1 ⟨rfl, hb1⟩
    have L1 := Lib.hid (HL.out.keep hb1 (Nat.le_refl _))
    have B1 := Lib.hid hb1
    clear hb1
    go_wp2_with fail
    refine (light29_any _ L 100 _ L1.out HKS.out).mono ?_; rintro r w' ⟨rfl, rfl⟩
    rw [HLT.out]
    go_wp2_with fail
    refine (encode_any _ L _ L1.out (by omega) HF.out).mono ?_; rintro r w3 ⟨v3, rfl, hown, hb3⟩
    have L3 := Lib.hid (L1.out.keep hb3 (Nat.le_refl _))
    have B3 := Lib.hid (B1.out.trans (hb3.mono B1.out.size))
    have O3 := Lib.hid hown
    have hs1 := B1.out.size
    obtain ⟨s, es⟩ : ∃ s, strOfNums (encAll (L.map (·.1))) = s := ⟨_, rfl⟩
    have kb := fun w' h => own_text (w' := w') es hown h
    have ES := Lib.hid es
    clear hown hb3 es
    go_upto_region 6 with fail
    have h0 : Below w3.heap.size w3 w3.drew := (Below.refl _ _).drew
    go_cut [4] (fun r we => r = .bool true ∧ Below w3.heap.size w3 we)
    case first =>
      refine wp_region_held_drew (S := fun w' => Below w3.heap.size w3 w') (by kernel_rfl) h0 (fun hHeld => ?_)
      refine wpAnyH_take (i := 0) (v := ?_) rfl (by kernel_rfl) (by kernel_rfl) (by kernel_rfl) (fun _ _ _ h => h) (Or.inl ⟨by rfl, ?_⟩) hHeld ?_
      rotate_left
      · (intro wz hSw; (try dsimp only at hSw); (try simp only [List.getElem_toArray, List.getElem_cons_zero]); go_simp; try with_reducible rfl)
      try simp only [List.getElem_toArray, List.getElem_cons_zero, Act.put, List.setIfInBounds_toArray, List.set_cons_zero, List.set_cons_succ]
      refine wpAnyH_take (i := 1) (v := ?_) rfl (by kernel_rfl) (by kernel_rfl) (by kernel_rfl) (fun _ _ _ h => h) (Or.inl ⟨by rfl, ?_⟩) hHeld ?_
      rotate_left
      · (intro wz hSw; (try dsimp only at hSw); (try simp only [List.getElem_toArray, List.getElem_cons_succ, List.getElem_cons_zero]); go_simp; try with_reducible rfl)
      try simp only [List.getElem_toArray, List.getElem_cons_succ, List.getElem_cons_zero, Act.put, List.setIfInBounds_toArray, List.set_cons_zero, List.set_cons_succ]
      refine wpAnyH_take (i := 2) (v := ?_) rfl (by kernel_rfl) (by kernel_rfl) (by kernel_rfl) (fun _ _ _ h => h) (Or.inl ⟨by rfl, ?_⟩) hHeld ?_
      rotate_left
      · (intro wz hSw; (try dsimp only at hSw); (try simp only [List.getElem_toArray, List.getElem_cons_succ, List.getElem_cons_zero]); go_simp; try with_reducible rfl)
      try simp only [List.getElem_toArray, List.getElem_cons_succ, List.getElem_cons_zero, Act.put, List.setIfInBounds_toArray, List.set_cons_zero, List.set_cons_succ]
      clear kb
      refine wpAnyH_ready (rs := [3]) (by kernel_rfl) (by simp) ?_; refine AllReadyH.cons rfl (fun K hK => ?_) AllReadyH.nil; (try simp only [List.getElem_toArray, List.getElem_cons_succ, List.getElem_cons_zero]); go_simp
      refine (refEncode_any _ L _ (L3.out.keep h0 (Nat.le_refl _)) (by omega) HF.out).mono ?_; rintro e we ⟨ve, rfl, oe, hbe⟩
      have hke := h0.trans (hbe.mono (by simp))
      refine hK.out _ _ hke (fun _ => ?_)
      clear hK K hHeld
      try simp only [List.getElem_toArray, List.getElem_cons_succ, List.getElem_cons_zero, Act.put, List.setIfInBounds_toArray, List.set_cons_zero, List.set_cons_succ]
      have ke := fun w' h => own_text (w' := w') ES.out oe h
      refine wpAnyH_sub (S' := fun w' => Below w3.heap.size w3 w' ∧ Below we.heap.size we w') (fun w' h => h.1) ?_
      have hHeld : Below w3.heap.size w3 we ∧ Below we.heap.size we we := ⟨hke, Below.refl _ _⟩
      refine wpAnyH_take (i := 4) (v := ?_) rfl (by kernel_rfl) (by kernel_rfl) (by kernel_rfl) (fun _ _ _ h => h) (Or.inl ⟨by rfl, ?_⟩) hHeld ?_
      rotate_left
      · (intro wz hSw; (try dsimp only at hSw); (try simp only [List.getElem_toArray, List.getElem_cons_succ, List.getElem_cons_zero]); go_simp; try with_reducible rfl)
      try simp only [List.getElem_toArray, List.getElem_cons_succ, List.getElem_cons_zero, Act.put, List.setIfInBounds_toArray, List.set_cons_zero, List.set_cons_succ]
      refine wpAnyH_take (i := 5) (v := ?_) rfl (by kernel_rfl) (by kernel_rfl) (by kernel_rfl) (fun _ _ _ h => h) (Or.inl ⟨by rfl, ?_⟩) hHeld ?_
      rotate_left
      · (intro wz hSw; (try dsimp only at hSw); (try simp only [List.getElem_toArray, List.getElem_cons_succ, List.getElem_cons_zero]); go_simp; try with_reducible rfl)
      try simp only [List.getElem_toArray, List.getElem_cons_succ, List.getElem_cons_zero, Act.put, List.setIfInBounds_toArray, List.set_cons_zero, List.set_cons_succ]
      refine wpAnyH_take (i := 6) (v := ?_) rfl (by kernel_rfl) (by kernel_rfl) (by kernel_rfl) (fun _ _ _ h => h) (Or.inl ⟨by rfl, ?_⟩) hHeld ?_
      rotate_left
      · (intro wz hSw; (try dsimp only at hSw); (try simp only [List.getElem_toArray, List.getElem_cons_succ, List.getElem_cons_zero]); go_simp; try with_reducible rfl)
      try simp only [List.getElem_toArray, List.getElem_cons_succ, List.getElem_cons_zero, Act.put, List.setIfInBounds_toArray, List.set_cons_zero, List.set_cons_succ]
      refine wpAnyH_done (by kernel_rfl) ?_ _
      go_wp2_with fail
      go_meet
      exact ⟨rfl, hke⟩
    case rest =>
      obtain ⟨rfl, hbe⟩ := hcut
      obtain ⟨we, rfl⟩ : ∃ we : World, we = wc := ⟨_, rfl⟩
      have oe := own_below' O3.out hbe (Nat.le_refl _)
      have BE := Lib.hid (B3.out.trans (hbe.mono B3.out.size))
      clear kb hbe
      go_wp2_with fail
      refine (spoil_any _ _ _ _ _ oe).mono ?_; rintro r w4 ⟨rfl, gx⟩
      have B4 := Lib.hid (BE.out.grown gx BE.out.size (fun k h => by have := (oe.lt k h).1; omega))
      clear oe gx
      go_wp2_with fail
      go_ret
      exact ⟨rfl, B4.out⟩

set_option maxRecDepth 100000 in
theorem scwrites_lifted (os : Os) (started : os.Started) (H : Type) (enc : TypeId × Value → H) :
    ReturnsInHanded {} Try.checked os 4 .any (Rows.scriptWritesSpec.pre6 enc Try.prog Try.f4 Rows.scriptWritesRow.domain false) (Rows.scriptWritesSpec.post enc Try.prog Try.f4 false true false false) := by
  refine lift_law (C := Try.checked) (tb := 4) (by kernel_rfl) started (by kernel_rfl) Try.func4 (ChangeSpec.witness6 (enc := enc) (C := Try.checked) false ⟨#[], #[.slice none 0 0], []⟩ 8 (by kernel_rfl) (by kernel_rfl) (by kernel_rfl) (by kernel_rfl)) (by kernel_rfl) (by kernel_rfl) rfl Try.underlying4 rfl ?_ ?_
  · intro ds h
    match ds, h with
    | [_], _ => rfl
  · intro W base args ds ps hval0 hA0 hlt hsz
    have hval : ∀ (j : Nat) t v, Try.f4.params[j]? = some t → args[j]? = some v → Value.okWide Try.prog W .any base t v := hval0
    have hA : DataW.TrodAll enc Try.prog W 0 (fun _ => true) true Try.f4.params.toList args.toList ds ps := hA0
    rw [Try.params4] at hA hval
    obtain ⟨v0, d0, rfl, rfl, h0⟩ := trodAll_one hA
    obtain ⟨L, hL, hks⟩ := open_evs (hval 0 25 v0 rfl rfl) h0
    exact scwrites_walk v0 L W hL hks

theorem scwrites_holds : Rows.ScriptWritesSaid :=
  OpenClaim.holds_of_wide 4 Try.f4 rfl rfl rfl rfl rfl rfl rfl ⟨rfl, rfl, rfl, rfl, rfl⟩ rfl rfl rfl rfl rfl (by kernel_rfl) Try.func4 (by kernel_rfl)
    (of_decide_eq_true (by kernel_rfl)) (by unfold Func.isWrapper; first | (rw [if_pos (by decide +kernel)]; kernel_rfl) | (rw [if_neg (by decide +kernel)]; exact ⟨rfl, rfl⟩))
    (fun os started H enc _ => scwrites_lifted os started H enc)
#print axioms scwrites_holds

end Go.Proofs.Ytihkkoldjllifaa
