/- ScriptBack: for all bytes (4096 at most; more are let through): what they say is said by the bytes that are made of it, these are made again, and they are no more; no condition. -/
import Derived.Test.YtihkkoldjllifaaLawScReads
import Derived.Test.YtihkkoldjllifaaHeld
import Derived.Deep.DeepCutAuto
namespace Go.Proofs.Ytihkkoldjllifaa
open Go.ChangeShapes Go.WideShapes Go.ChangeAt Go.RowKit

theorem own_text {w w' : World} {B : Nat} {v : Value} {ys : List Int} {s : ByteArray} (hs : strOfNums ys = s) (h : w.ownsRow B 5 1 v ys.length (byt ys)) (hb : Below w.heap.size w w') : (convert 22 9 v).run Try.prog w' = .ok (.string s) w' := by
  rw [← hs]; exact run_convert_sl ((Sl.of_own h).keep hb) 22 5 Try.underlying22 Try.underlying5 9 Try.underlying9
theorem rdT_size {s : List Int × Bool} (h : Oct s.1) : (rdT s).1.size ≤ 255 := by
  unfold rdT
  split
  · show ByteArray.size ⟨#[]⟩ ≤ 255; decide
  · show (strOfNums _).size ≤ 255
    rw [strOfNums_size, List.length_take]
    have := rdB_fit h
    omega
theorem evP_size {n : Int} {s : List Int × Bool} (h : Oct s.1) : (evP n s).1.1.t.size ≤ 255 := by
  have h0 : ByteArray.size ⟨#[]⟩ ≤ 255 := by decide
  have h1 := rdT_size (rdN_oct (n := n) (rdB_oct h))
  unfold evP
  simp only []
  repeat' split
  all_goals first | exact h0 | exact h1
theorem dec_fit (n : Int) (xs : List Int) (hx : Oct xs) : ∀ e ∈ decA n xs, e.ks.length ≤ 1000 ∧ e.t.size ≤ 100000 :=
  decP_all _ _ (fun s hs _ => ⟨by have := evP_ks (normN n) s; omega, by have := evP_size (n := normN n) hs; omega⟩) _ xs hx
set_option maxRecDepth 100000 in
set_option maxHeartbeats 8000000 in
theorem scback_walk (bv : Value) (xs : List Int) (hx : Oct xs) (w : World) (hs : Sl w.heap.size w bv 1 xs.length (byt xs)) :
    Calls Try.prog 5 #[bv] w fun r w' => r = .returned (.bool true) ∧ Below w.heap.size w w' := by
  have HS := Lib.hid hs
  have HX := Lib.hid hx
  obtain ⟨pa, ca, rfl, h1, h2, -, -⟩ := hs.form
  unfold maxLen at h2
  clear hs hx
  by_cases hl : 4096 < xs.length
  · go_enter Try.func5, Try.ntmps5
    go_wp2_with fail
    refine (begun29_any _).mono ?_; rintro r w1 ⟨rfl, hb⟩
    go_wp2_with fail
    go_ret
    exact ⟨rfl, hb⟩
  obtain ⟨hbk, hbl⟩ := back_all xs.length xs (Nat.le_refl _) HX.out
  have hfit := dec_fit 9 xs HX.out
  have hlen := decA_len 9 xs
  rw [decA_nine] at hfit hlen
  have hoct := encAll_oct (decE 9 xs)
  obtain ⟨l, hle⟩ : ∃ l, decE 9 xs = l := ⟨_, rfl⟩
  have HL := Lib.hid hle
  rw [hle] at hbk hbl hfit hlen hoct
  obtain ⟨X, hX⟩ : ∃ X, encAll l = X := ⟨_, rfl⟩
  have HXX := Lib.hid hX
  rw [hX] at hbk hbl hoct
  have HBK := Lib.hid hbk; have HFIT := Lib.hid hfit; have HOC : Hid (Oct X) := hoct
  clear hle hX hbk hfit hoct
  go_enter Try.func5, Try.ntmps5
  go_wp2_with fail
  refine (begun29_any _).mono ?_; rintro r w1 ⟨rfl, hb1⟩
  have S1 := Lib.hid ((HS.out.keep hb1).mono hb1.size)
  have B1 := Lib.hid hb1
  clear hb1
  go_wp2_with fail
  refine (decode_any _ xs 9 _ HX.out S1.out (by omega)).mono ?_; rintro r w2 ⟨v2, L, rfl, hmap, hown, hkp, hb2⟩
  rw [decA_nine, HL.out] at hmap
  have B2 := Lib.hid (B1.out.trans (hb2.mono B1.out.size))
  have E2 := Lib.hid (EvSl.of_own hown hkp)
  have hLl : L.length ≤ 4096 := by have := congrArg List.length hmap; rw [List.length_map] at this; omega
  have HM2 := Lib.hid hmap
  have HF2 : Hid (∀ x ∈ L, x.1.ks.length ≤ 1000 ∧ x.1.t.size ≤ 100000) := fun x hx => HFIT.out x.1 (by rw [← HM2.out]; exact List.mem_map_of_mem hx)
  clear hmap hown hkp hb2
  go_wp2_with fail
  refine (encode_any _ L _ E2.out (by omega) HF2.out).mono ?_; rintro r w3 ⟨v3, rfl, hown, hb3⟩
  rw [HM2.out, HXX.out] at hown
  have B3 := Lib.hid (B2.out.trans (hb3.mono B2.out.size))
  have E3 := Lib.hid (E2.out.keep hb3 (Nat.le_refl _))
  have O3 := Lib.hid hown
  obtain ⟨pc, cc, hv3, hc1, hc2, -, -⟩ := (Sl.of_own hown).form
  subst hv3
  unfold maxLen at hc2
  clear hown hb3
  go_wp2_with fail
  refine (decode_any _ X 9 _ HOC.out (Sl.of_own O3.out) (by omega)).mono ?_; rintro r w5 ⟨v5, M, rfl, hmap, hown, hkp, hb5⟩
  rw [decA_nine, HBK.out] at hmap
  have B5 := Lib.hid (B3.out.trans (hb5.mono B3.out.size))
  have E5 := Lib.hid (E3.out.keep hb5 (Nat.le_refl _))
  have EM := Lib.hid (EvSl.of_own hown hkp)
  have O5 := Lib.hid (own_below' O3.out hb5 (Nat.le_refl _))
  have hMl : M.length ≤ 4096 := by have := congrArg List.length hmap; rw [List.length_map] at this; omega
  have HMM : Hid (L.map (·.1) = M.map (·.1)) := by show _ = _; rw [HM2.out, hmap]
  have HME : Hid (encAll (M.map (·.1)) = X) := by show _ = _; rw [hmap, HXX.out]
  have HF5 : Hid (∀ x ∈ M, x.1.ks.length ≤ 1000 ∧ x.1.t.size ≤ 100000) := fun x hx => HFIT.out x.1 (by rw [← hmap]; exact List.mem_map_of_mem hx)
  clear hmap hown hkp hb5
  obtain ⟨s, es⟩ : ∃ s, strOfNums X = s := ⟨_, rfl⟩
  have ES := Lib.hid es
  have kc := fun w' h => own_text (w' := w') es O5.out h
  have hle : decide ((X.length : Int) ≤ (xs.length : Int)) = true := by simp; omega
  have hle2 : decide (X.length ≤ xs.length) = true := by simp; omega
  clear es
  go_upto_region 8 with fail
  have h0 : Below w5.heap.size w5 w5.drew := (Below.refl _ _).drew
  go_cut [2] (fun r we => r = .bool true ∧ Below w5.heap.size w5 we)
  case first =>
    refine wp_region_held_drew (S := fun w' => Below w5.heap.size w5 w') (by kernel_rfl) h0 (fun hHeld => ?_)
    refine wpAnyH_take (i := 0) (v := ?_) rfl (by kernel_rfl) (by kernel_rfl) (by kernel_rfl) (fun _ _ _ h => h) (Or.inl ⟨by rfl, ?_⟩) hHeld ?_
    rotate_left
    · (intro wz hSw; (try dsimp only at hSw); (try simp only [List.getElem_toArray, List.getElem_cons_zero]); go_simp; try with_reducible rfl)
    try simp only [List.getElem_toArray, List.getElem_cons_zero, Act.put, List.setIfInBounds_toArray, List.set_cons_zero, List.set_cons_succ]
    refine wpAnyH_take (i := 1) (v := ?_) rfl (by kernel_rfl) (by kernel_rfl) (by kernel_rfl) (fun _ _ _ h => h) (Or.inl ⟨by rfl, ?_⟩) hHeld ?_
    rotate_left
    · (intro wz hSw; (try dsimp only at hSw); (try simp only [List.getElem_toArray, List.getElem_cons_succ, List.getElem_cons_zero]); go_simp; try with_reducible rfl)
    try simp only [List.getElem_toArray, List.getElem_cons_succ, List.getElem_cons_zero, Act.put, List.setIfInBounds_toArray, List.set_cons_zero, List.set_cons_succ]
    refine wpAnyH_ready (rs := [2]) (by kernel_rfl) (by simp) ?_; refine AllReadyH.cons rfl (fun K hK => ?_) AllReadyH.nil; (try simp only [List.getElem_toArray, List.getElem_cons_succ, List.getElem_cons_zero]); go_simp
    refine (sameAll_yes _ _ L M _ HMM.out (E5.out.keep h0 (Nat.le_refl _)) (EM.out.keep h0 (Nat.le_refl _)) (fun x hx => by have := HF2.out x hx; omega)).mono ?_; rintro e wa ⟨rfl, hba⟩
    have hka := h0.trans (hba.mono (by simp))
    refine hK.out _ _ hka (fun hHeld' => ?_)
    clear hK K hHeld; have hHeld := hHeld'; clear hHeld'
    try simp only [List.getElem_toArray, List.getElem_cons_succ, List.getElem_cons_zero, Act.put, List.setIfInBounds_toArray, List.set_cons_zero, List.set_cons_succ]
    refine wpAnyH_take (i := 3) (v := ?_) rfl (by kernel_rfl) (by kernel_rfl) (by kernel_rfl) (fun _ _ _ h => h) (Or.inl ⟨by rfl, ?_⟩) hHeld ?_
    rotate_left
    · (intro wz hSw; (try dsimp only at hSw); (try simp only [List.getElem_toArray, List.getElem_cons_succ, List.getElem_cons_zero]); go_simp; try with_reducible rfl)
    try simp only [List.getElem_toArray, List.getElem_cons_succ, List.getElem_cons_zero, Act.put, List.setIfInBounds_toArray, List.set_cons_zero, List.set_cons_succ]
    refine wpAnyH_take (i := 4) (v := ?_) rfl (by kernel_rfl) (by kernel_rfl) (by kernel_rfl) (fun _ _ _ h => h) (Or.inl ⟨by rfl, ?_⟩) hHeld ?_
    rotate_left
    · (intro wz hSw; (try dsimp only at hSw); (try simp only [List.getElem_toArray, List.getElem_cons_succ, List.getElem_cons_zero]); go_simp; try with_reducible rfl)
    try simp only [List.getElem_toArray, List.getElem_cons_succ, List.getElem_cons_zero, Act.put, List.setIfInBounds_toArray, List.set_cons_zero, List.set_cons_succ]
    refine wpAnyH_take (i := 7) (v := ?_) rfl (by kernel_rfl) (by kernel_rfl) (by kernel_rfl) (fun _ _ _ h => h) (Or.inl ⟨by rfl, ?_⟩) hHeld ?_
    rotate_left
    · (intro wz hSw; (try dsimp only at hSw); (try simp only [List.getElem_toArray, List.getElem_cons_succ, List.getElem_cons_zero]); go_simp; try with_reducible rfl)
    try simp only [List.getElem_toArray, List.getElem_cons_succ, List.getElem_cons_zero, Act.put, List.setIfInBounds_toArray, List.set_cons_zero, List.set_cons_succ]
    refine wpAnyH_take (i := 8) (v := ?_) rfl (by kernel_rfl) (by kernel_rfl) (by kernel_rfl) (fun _ _ _ h => h) (Or.inl ⟨by rfl, ?_⟩) hHeld ?_
    rotate_left
    · (intro wz hSw; (try dsimp only at hSw); (try simp only [List.getElem_toArray, List.getElem_cons_succ, List.getElem_cons_zero]); go_simp; try with_reducible rfl)
    try simp only [List.getElem_toArray, List.getElem_cons_succ, List.getElem_cons_zero, Act.put, List.setIfInBounds_toArray, List.set_cons_zero, List.set_cons_succ]
    refine wpAnyH_ready (rs := [5]) (by kernel_rfl) (by simp) ?_; refine AllReadyH.cons rfl (fun K hK => ?_) AllReadyH.nil; (try simp only [List.getElem_toArray, List.getElem_cons_succ, List.getElem_cons_zero]); go_simp
    refine (encode_any _ M _ (EM.out.keep hka (Nat.le_refl _)) (by omega) HF5.out).mono ?_; rintro e we ⟨ve, rfl, oe, hbe⟩
    rw [HME.out] at oe
    have hke := hka.trans (hbe.mono hka.size)
    refine hK.out _ _ hke (fun _ => ?_)
    clear hK K hHeld
    try simp only [List.getElem_toArray, List.getElem_cons_succ, List.getElem_cons_zero, Act.put, List.setIfInBounds_toArray, List.set_cons_zero, List.set_cons_succ]
    have ke := fun w' h => own_text (w' := w') ES.out oe h
    refine wpAnyH_sub (S' := fun w' => Below w5.heap.size w5 w' ∧ Below we.heap.size we w') (fun w' h => h.1) ?_
    have hHeld : Below w5.heap.size w5 we ∧ Below we.heap.size we we := ⟨hke, Below.refl _ _⟩
    clear kc
    refine wpAnyH_take (i := 6) (v := ?_) rfl (by kernel_rfl) (by kernel_rfl) (by kernel_rfl) (fun _ _ _ h => h) (Or.inl ⟨by rfl, ?_⟩) hHeld ?_
    rotate_left
    · (intro wz hSw; (try dsimp only at hSw); (try simp only [List.getElem_toArray, List.getElem_cons_succ, List.getElem_cons_zero]); go_simp; try with_reducible rfl)
    try simp only [List.getElem_toArray, List.getElem_cons_succ, List.getElem_cons_zero, Act.put, List.setIfInBounds_toArray, List.set_cons_zero, List.set_cons_succ]
    refine wpAnyH_take (i := 9) (v := ?_) rfl (by kernel_rfl) (by kernel_rfl) (by kernel_rfl) (fun _ _ _ h => h) (Or.inl ⟨by rfl, ?_⟩) hHeld ?_
    rotate_left
    · (intro wz hSw; (try dsimp only at hSw); (try simp only [List.getElem_toArray, List.getElem_cons_succ, List.getElem_cons_zero]); go_simp; try with_reducible rfl)
    try simp only [List.getElem_toArray, List.getElem_cons_succ, List.getElem_cons_zero, Act.put, List.setIfInBounds_toArray, List.set_cons_zero, List.set_cons_succ]
    refine wpAnyH_take (i := 10) (v := ?_) rfl (by kernel_rfl) (by kernel_rfl) (by kernel_rfl) (fun _ _ _ h => h) (Or.inl ⟨by rfl, ?_⟩) hHeld ?_
    rotate_left
    · (intro wz hSw; (try dsimp only at hSw); (try simp only [List.getElem_toArray, List.getElem_cons_succ, List.getElem_cons_zero]); go_simp; try with_reducible rfl)
    try simp only [List.getElem_toArray, List.getElem_cons_succ, List.getElem_cons_zero, Act.put, List.setIfInBounds_toArray, List.set_cons_zero, List.set_cons_succ]
    refine wpAnyH_take (i := 11) (v := ?_) rfl (by kernel_rfl) (by kernel_rfl) (by kernel_rfl) (fun _ _ _ h => h) (Or.inl ⟨by rfl, ?_⟩) hHeld ?_
    rotate_left
    · (intro wz hSw; (try dsimp only at hSw); (try simp only [List.getElem_toArray, List.getElem_cons_succ, List.getElem_cons_zero]); go_simp; try with_reducible rfl)
    try simp only [List.getElem_toArray, List.getElem_cons_succ, List.getElem_cons_zero, Act.put, List.setIfInBounds_toArray, List.set_cons_zero, List.set_cons_succ]
    refine wpAnyH_take (i := 12) (v := ?_) rfl (by kernel_rfl) (by kernel_rfl) (by kernel_rfl) (fun _ _ _ h => h) (Or.inl ⟨by rfl, ?_⟩) hHeld ?_
    rotate_left
    · (intro wz hSw; (try dsimp only at hSw); (try simp only [List.getElem_toArray, List.getElem_cons_succ, List.getElem_cons_zero]); go_simp; try with_reducible rfl)
    try simp only [List.getElem_toArray, List.getElem_cons_succ, List.getElem_cons_zero, Act.put, List.setIfInBounds_toArray, List.set_cons_zero, List.set_cons_succ]
    refine wpAnyH_take (i := 13) (v := ?_) rfl (by kernel_rfl) (by kernel_rfl) (by kernel_rfl) (fun _ _ _ h => h) (Or.inl ⟨by rfl, ?_⟩) hHeld ?_
    rotate_left
    · (intro wz hSw; (try dsimp only at hSw); (try simp only [List.getElem_toArray, List.getElem_cons_succ, List.getElem_cons_zero]); go_simp; try with_reducible rfl)
    try simp only [List.getElem_toArray, List.getElem_cons_succ, List.getElem_cons_zero, Act.put, List.setIfInBounds_toArray, List.set_cons_zero, List.set_cons_succ]
    refine wpAnyH_take (i := 14) (v := ?_) rfl (by kernel_rfl) (by kernel_rfl) (by kernel_rfl) (fun _ _ _ h => h) (Or.inl ⟨by rfl, ?_⟩) hHeld ?_
    rotate_left
    · (intro wz hSw; (try dsimp only at hSw); (try simp only [List.getElem_toArray, List.getElem_cons_succ, List.getElem_cons_zero]); go_simp; try with_reducible rfl)
    try simp only [List.getElem_toArray, List.getElem_cons_succ, List.getElem_cons_zero, Act.put, List.setIfInBounds_toArray, List.set_cons_zero, List.set_cons_succ]
    refine wpAnyH_take (i := 15) (v := ?_) rfl (by kernel_rfl) (by kernel_rfl) (by kernel_rfl) (fun _ _ _ h => h) (Or.inl ⟨by rfl, ?_⟩) hHeld ?_
    rotate_left
    · (intro wz hSw; (try dsimp only at hSw); (try simp only [List.getElem_toArray, List.getElem_cons_succ, List.getElem_cons_zero]); go_simp; try with_reducible rfl)
    try simp only [List.getElem_toArray, List.getElem_cons_succ, List.getElem_cons_zero, Act.put, List.setIfInBounds_toArray, List.set_cons_zero, List.set_cons_succ]
    refine wpAnyH_take (i := 16) (v := ?_) rfl (by kernel_rfl) (by kernel_rfl) (by kernel_rfl) (fun _ _ _ h => h) (Or.inl ⟨by rfl, ?_⟩) hHeld ?_
    rotate_left
    · (intro wz hSw; (try dsimp only at hSw); (try simp only [List.getElem_toArray, List.getElem_cons_succ, List.getElem_cons_zero]); go_simp; try with_reducible rfl)
    try simp only [List.getElem_toArray, List.getElem_cons_succ, List.getElem_cons_zero, Act.put, List.setIfInBounds_toArray, List.set_cons_zero, List.set_cons_succ]
    refine wpAnyH_take (i := 17) (v := ?_) rfl (by kernel_rfl) (by kernel_rfl) (by kernel_rfl) (fun _ _ _ h => h) (Or.inl ⟨by rfl, ?_⟩) hHeld ?_
    rotate_left
    · (intro wz hSw; (try dsimp only at hSw); (try simp only [List.getElem_toArray, List.getElem_cons_succ, List.getElem_cons_zero]); go_simp; try with_reducible rfl)
    try simp only [List.getElem_toArray, List.getElem_cons_succ, List.getElem_cons_zero, Act.put, List.setIfInBounds_toArray, List.set_cons_zero, List.set_cons_succ]
    refine wpAnyH_take (i := 18) (v := ?_) rfl (by kernel_rfl) (by kernel_rfl) (by kernel_rfl) (fun _ _ _ h => h) (Or.inl ⟨by rfl, ?_⟩) hHeld ?_
    rotate_left
    · (intro wz hSw; (try dsimp only at hSw); (try simp only [List.getElem_toArray, List.getElem_cons_succ, List.getElem_cons_zero]); go_simp; try with_reducible rfl)
    try simp only [List.getElem_toArray, List.getElem_cons_succ, List.getElem_cons_zero, Act.put, List.setIfInBounds_toArray, List.set_cons_zero, List.set_cons_succ]
    refine wpAnyH_done (by kernel_rfl) ?_ _
    go_wp2_with fail
    go_meet
    exact ⟨rfl, hke⟩
  case rest =>
    obtain ⟨rfl, hbe⟩ := hcut
    obtain ⟨we, rfl⟩ : ∃ we : World, we = wc := ⟨_, rfl⟩
    have BE := Lib.hid (B5.out.trans (hbe.mono B5.out.size))
    clear kc hbe
    go_wp2_with fail
    go_ret
    exact ⟨rfl, BE.out⟩

set_option maxRecDepth 100000 in
theorem scback_lifted (os : Os) (started : os.Started) (H : Type) (enc : TypeId × Value → H) :
    ReturnsInHanded {} Try.checked os 5 .any (Rows.scriptBackSpec.pre6 enc Try.prog Try.f5 Rows.scriptBackRow.domain false) (Rows.scriptBackSpec.post enc Try.prog Try.f5 false true false false) := by
  refine lift_law (C := Try.checked) (tb := 4) (by kernel_rfl) started (by kernel_rfl) Try.func5 (ChangeSpec.witness6 (enc := enc) (C := Try.checked) false ⟨#[], #[.slice none 0 0], []⟩ 8 (by kernel_rfl) (by kernel_rfl) (by kernel_rfl) (by kernel_rfl)) (by kernel_rfl) (by kernel_rfl) rfl Try.underlying4 rfl ?_ ?_
  · intro ds h
    match ds, h with
    | [_], _ => rfl
  · intro W base args ds ps hval0 hA0 hlt hsz
    have hval : ∀ (j : Nat) t v, Try.f5.params[j]? = some t → args[j]? = some v → Value.okWide Try.prog W .any base t v := hval0
    have hA : DataW.TrodAll enc Try.prog W 0 (fun _ => true) true Try.f5.params.toList args.toList ds ps := hA0
    rw [Try.params5] at hA hval
    obtain ⟨v0, d0, rfl, rfl, h0⟩ := trodAll_one hA
    obtain ⟨xs, hs, hw⟩ := open_nums Try.underlying22 Try.underlying5 (by kernel_rfl) (hval 0 22 v0 rfl rfl) h0
    exact scback_walk v0 xs (fun x hm => wf_u8 (hw x hm)) W hs

theorem scback_holds : Rows.ScriptBackSaid :=
  OpenClaim.holds_of_wide 5 Try.f5 rfl rfl rfl rfl rfl rfl rfl ⟨rfl, rfl, rfl, rfl, rfl⟩ rfl rfl rfl rfl rfl (by kernel_rfl) Try.func5 (by kernel_rfl)
    (of_decide_eq_true (by kernel_rfl)) (by unfold Func.isWrapper; first | (rw [if_pos (by decide +kernel)]; kernel_rfl) | (rw [if_neg (by decide +kernel)]; exact ⟨rfl, rfl⟩))
    (fun os started H enc _ => scback_lifted os started H enc)
#print axioms scback_holds

end Go.Proofs.Ytihkkoldjllifaa
