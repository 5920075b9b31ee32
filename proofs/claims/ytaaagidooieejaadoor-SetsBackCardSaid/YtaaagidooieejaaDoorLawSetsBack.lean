/- SetsBack: for every set and every two nodes: a set is that of its list, what is put in is in, what is taken out is not, and nothing else is turned; no condition. -/
import Derived.Test.YtaaagidooieejaaDoorBegun9
import Derived.Test.YtaaagidooieejaaDoorPlainBack9
import Derived.Test.YtaaagidooieejaaDoorTab
import Derived.Test.YtaaagidooieejaaDoorFrame
import Derived.Test.YtaaagidooieejaaDoorCards
import Derived.Test.YtaaagidooieejaaDoorTie
import Derived.SevenTiedAt
namespace Go.Proofs.YtaaagidooieejaaDoor
open Go.ChangeShapes Go.WideShapes Go.ChangeAt Go.RowKit

theorem wf_u16 {n : Int} (h : (Lit.int .u16 n).wf = true) : 0 ≤ n ∧ n ≤ 65535 := by
  have h1 : IntKind.u16.min = 0 := rfl
  have h2 : IntKind.u16.max = 65535 := rfl
  simp only [Lit.wf, Bool.and_eq_true, decide_eq_true_eq] at h; omega
theorem own_nums {w : World} {base : Nat} {e : TypeId} {v : Value} {xs : List Int} (h : w.ownsRow base e 1 v xs.length (xs.map (Value.int .i64))) :
    ∃ a cap, v = .slice a xs.length cap ∧ ∀ j, (hj : j < xs.length) → ∃ g, a = some g ∧ w.cell? (g.add j) = some (.int .i64 xs[j]) := by
  obtain ⟨a, cap, rfl, h1⟩ := own_slice h
  refine ⟨a, cap, rfl, fun j hj => ?_⟩
  obtain ⟨g, rfl, -, -, hc⟩ := h1 j hj
  refine ⟨_, rfl, ?_⟩
  rw [add_plain, Nat.zero_add, hc]; simp [hj]
theorem has_is (s n : Int) (w : World) (h0 : 0 ≤ s) {b : Bool} (h : Hid (hasB s n = b)) :
    Calls Tryd.prog 11 #[.int .u16 s, .int .i64 n] w fun e w' => e = .returned (.bool b) ∧ w = w' := by
  have := has_any s n w h0
  rw [h.out] at this; exact this
theorem may_is (s : Int) (w : World) {b : Bool} (h : Hid (mayB s = b)) :
    Calls Tryd.prog 17 #[.int .u16 s] w fun e w' => e = .returned (.bool b) ∧ w = w' := by
  have := may_any s w
  rw [show (bits .andNot .u16 s 1022 == 0) = b from h.out] at this; exact this

set_option maxRecDepth 100000 in
set_option maxHeartbeats 2000000 in
theorem back_walk (s n m : Int) (s0 : 0 ≤ s) (w : World) (ht : Tab w) :
    Calls Tryd.prog 4 #[.int .u16 s, .int .i64 n, .int .i64 m] w fun r w' => r = .returned (.bool true) ∧ Below w.heap.size w w' := by
  obtain ⟨he, h1⟩ := even_and s s0
  have h3 := (bits_fit .and s 1022).1
  have hmy := may_and s s0
  obtain ⟨S, hS⟩ : ∃ S, bits .and .u16 s 1022 = S := ⟨_, rfl⟩
  rw [hS] at he h1 h3 hmy
  have HS := Lib.hid hS
  have HOF := Lib.hid (of_lst S h3 h1 he)
  have a0 := (bits_fit .or S (oneB n)).1
  have b0 := (bits_fit .andNot S (oneB n)).1
  have HA := Lib.hid (may_with S n h3 hmy)
  have HB := Lib.hid (may_less S n h3 hmy)
  have hW := fun m => has_with S n m h3
  have hL := fun m => has_less S n m h3
  obtain ⟨N, hN⟩ : ∃ N : Bool, (decide (1 ≤ n) && decide (n ≤ 9)) = N := ⟨_, rfl⟩
  have HN : Hid (hasB (bits .or .u16 S (oneB n)) n = N) := by
    show _ = _; rw [hW n, ← hN]
    have : hasB S n = true → (decide (1 ≤ n) && decide (n ≤ 9)) = true := by unfold hasB; simp; intro a b _; exact ⟨a, b⟩
    cases h : hasB S n <;> simp_all
  have HNB : Hid (hasB (bits .andNot .u16 S (oneB n)) n = false) := by show _ = _; rw [hL n]; simp
  have HM1 : m ≠ n → Hid (hasB (bits .or .u16 S (oneB n)) m = hasB S m) := fun h => by
    show _ = _; rw [hW m]; have : decide (n = m) = false := by simp; omega
    rw [this]; simp
  have HM2 : m ≠ n → Hid (hasB (bits .andNot .u16 S (oneB n)) m = hasB S m) := fun h => by
    show _ = _; rw [hL m]; have : decide (n = m) = false := by simp; omega
    rw [this]; simp
  obtain ⟨M, hM⟩ : ∃ M : Bool, hasB S m = M := ⟨_, rfl⟩
  rw [hM] at HM1 HM2
  have HM := Lib.hid hM
  have HT := Lib.hid ht
  have hlen := lst_len S
  clear hW hL hM hmy he ht hS
  have cs : (decide (1 ≤ n) = false ∧ N = false) ∨ (decide (1 ≤ n) = true ∧ decide (n ≤ 9) = false ∧ N = false) ∨ (decide (1 ≤ n) = true ∧ decide (n ≤ 9) = true ∧ N = true) := by
    rw [← hN]; clear hN
    cases decide (1 ≤ n) <;> cases decide (n ≤ 9) <;> simp
  clear hN
  rcases cs with ⟨e1, rfl⟩ | ⟨e1, e2, rfl⟩ | ⟨e1, e2, rfl⟩
  all_goals
    by_cases hmn : m = n
    · subst hmn
      go_enter Tryd.func4, Tryd.ntmps4
      go_wp2_with fail
      refine (begun9_any _).mono ?_; rintro r w1 ⟨rfl, hb1⟩
      go_wp2_with fail
      rw [HS.out]
      go_wp2_with fail
      refine (list_any S _ h3 (HT.out.keep hb1)).mono ?_; rintro e w2 ⟨v, rfl, hown, hb2⟩
      obtain ⟨a, cap, rfl, hcells⟩ := own_nums hown
      have HC := Lib.hid hcells
      have HB2 := Lib.hid (hb1.trans (hb2.mono hb1.size))
      clear hown hcells hb1 hb2
      go_wp2_with fail
      refine (of_any (lst S 9) a cap _ (by omega) HC.out).mono ?_; rintro r w' ⟨rfl, rfl⟩; rw [HOF.out]
      go_wp2_with fail
      repeat (first
        | ((with_reducible refine (has_is _ _ _ a0 HN).mono ?_); rintro r w' ⟨rfl, rfl⟩; go_wp2_with fail)
        | ((with_reducible refine (has_is _ _ _ b0 HNB).mono ?_); rintro r w' ⟨rfl, rfl⟩; go_wp2_with fail)
        | ((with_reducible refine (may_is _ _ HA).mono ?_); rintro r w' ⟨rfl, rfl⟩; go_wp2_with fail)
        | ((with_reducible refine (may_is _ _ HB).mono ?_); rintro r w' ⟨rfl, rfl⟩; go_wp2_with fail)
        | ((with_reducible refine (with_any _ _ _).mono ?_); rintro r w' ⟨rfl, rfl⟩; go_wp2_with fail)
        | ((with_reducible refine (less_any _ _ _).mono ?_); rintro r w' ⟨rfl, rfl⟩; go_wp2_with fail))
      go_ret
      exact ⟨rfl, HB2.out⟩
    · have hq : (m == n) = false := by simp [hmn]
      have K1 := HM1 hmn
      have K2 := HM2 hmn
      clear hmn HM1 HM2
      go_enter Tryd.func4, Tryd.ntmps4
      go_wp2_with fail
      refine (begun9_any _).mono ?_; rintro r w1 ⟨rfl, hb1⟩
      go_wp2_with fail
      rw [HS.out]
      go_wp2_with fail
      refine (list_any S _ h3 (HT.out.keep hb1)).mono ?_; rintro e w2 ⟨v, rfl, hown, hb2⟩
      obtain ⟨a, cap, rfl, hcells⟩ := own_nums hown
      have HC := Lib.hid hcells
      have HB2 := Lib.hid (hb1.trans (hb2.mono hb1.size))
      clear hown hcells hb1 hb2
      go_wp2_with fail
      refine (of_any (lst S 9) a cap _ (by omega) HC.out).mono ?_; rintro r w' ⟨rfl, rfl⟩; rw [HOF.out]
      go_wp2_with fail
      repeat (first
        | ((with_reducible refine (has_is _ _ _ a0 HN).mono ?_); rintro r w' ⟨rfl, rfl⟩; go_wp2_with fail)
        | ((with_reducible refine (has_is _ _ _ b0 HNB).mono ?_); rintro r w' ⟨rfl, rfl⟩; go_wp2_with fail)
        | ((with_reducible refine (has_is _ _ _ a0 K1).mono ?_); rintro r w' ⟨rfl, rfl⟩; go_wp2_with fail)
        | ((with_reducible refine (has_is _ _ _ b0 K2).mono ?_); rintro r w' ⟨rfl, rfl⟩; go_wp2_with fail)
        | ((with_reducible refine (has_is _ _ _ h3 HM).mono ?_); rintro r w' ⟨rfl, rfl⟩; go_wp2_with fail)
        | ((with_reducible refine (may_is _ _ HA).mono ?_); rintro r w' ⟨rfl, rfl⟩; go_wp2_with fail)
        | ((with_reducible refine (may_is _ _ HB).mono ?_); rintro r w' ⟨rfl, rfl⟩; go_wp2_with fail)
        | ((with_reducible refine (with_any _ _ _).mono ?_); rintro r w' ⟨rfl, rfl⟩; go_wp2_with fail)
        | ((with_reducible refine (less_any _ _ _).mono ?_); rintro r w' ⟨rfl, rfl⟩; go_wp2_with fail))
      go_ret
      exact ⟨rfl, HB2.out⟩

set_option maxRecDepth 100000 in
theorem sback_lifted (os : Os) (started : os.Started) (H : Type) (enc : TypeId × Value → H) :
    ReturnsInHanded {} Tryd.checked os 4 .any (fun w args => (Rows.setsBackSpec.pre enc Tryd.prog Tryd.f4 [] false w args ∧ laidMetH Tryd.prog laidD w) ∧ sizedMet enc Tryd.prog Tryd.f4 (OpenSpec.ofChange Rows.setsBackSpec) false w args)
      (Rows.setsBackSpec.post enc Tryd.prog Tryd.f4 false true false false) := by
  refine lift_laid (C := Tryd.checked) (X := fun w => laidMetH Tryd.prog laidD w) tab_heap (tb := 4) (by kernel_rfl) started (by kernel_rfl) Tryd.func4 (ChangeSpec.witness_shaped (enc := enc) (C := Tryd.checked) (os := os) (X := fun w _ => laidMetH Tryd.prog laidD w) false (World.doorLaid Tryd.prog 400 os) #[.int .u16 0, .int .i64 0, .int .i64 0] 8 rfl (World.shaped_of_RefB (by kernel_rfl) (by kernel_rfl)) (by kernel_rfl) (by kernel_rfl) (by kernel_rfl) (door_met os _)) (by kernel_rfl) (by kernel_rfl) rfl Tryd.underlying4 rfl ?_ ?_
  · intro ds h
    match ds, h with
    | [_, _, _], _ => rfl
  · intro W base args ds ps hval0 hA0 hlt hsz hX
    have hval : ∀ (j : Nat) t v, Tryd.f4.params[j]? = some t → args[j]? = some v → Value.okWide Tryd.prog W .any base t v := hval0
    have hA : DataW.TrodAll enc Tryd.prog W 0 (fun _ => true) true Tryd.f4.params.toList args.toList ds ps := hA0
    rw [Tryd.params4] at hA hval
    obtain ⟨v0, v1, v2, d0, d1, d2, p0, p1, p2, rfl, rfl, rfl, h0, h1, h2⟩ := trodAll_three hA
    obtain ⟨s, rfl, rfl, rfl, ws⟩ := open_int Tryd.underlying24 (hval 0 24 v0 rfl rfl) h0
    obtain ⟨n, rfl, rfl, rfl, wn⟩ := open_int Tryd.underlying3 (hval 1 3 v1 rfl rfl) h1
    obtain ⟨m, rfl, rfl, rfl, wm⟩ := open_int Tryd.underlying3 (hval 2 3 v2 rfl rfl) h2
    exact back_walk s n m (wf_u16 ws).1 W (tab_of_laid hX)

theorem sback_holds : Rows.SetsBackSaid :=
  OpenClaim.holds_of_wide 4 Tryd.f4 rfl rfl rfl rfl rfl rfl rfl ⟨rfl, rfl, rfl, rfl, rfl⟩ rfl rfl rfl rfl rfl (by kernel_rfl) Tryd.func4 (by kernel_rfl)
    (of_decide_eq_true (by kernel_rfl)) (by unfold Func.isWrapper; first | (rw [if_pos (by decide +kernel)]; kernel_rfl) | (rw [if_neg (by decide +kernel)]; exact ⟨rfl, rfl⟩))
    (fun os started H enc _ => sback_lifted os started H enc)
theorem sback_card : Rows.SetsBackCardSaid :=
  Claim7.holds_tied_plain_at .later [] [.data] true (true, "2c37426e5871a29e352ac5a0095f777a39334ca82190d3581708861b5a7a9afd") false
    sback_holds (fun _ h => by cases h) (by kernel_rfl) (fun _ h => by cases h) setsBack_row_tie rfl ⟨rfl, rfl⟩ (by kernel_rfl) rfl
    (fun f fn hf hfn => by
      obtain rfl : f = 4 := Option.some.inj ((show Tryd.prog.funcNamed "antipode/antipodelaw9.SetsBack" = some 4 by kernel_rfl).symm.trans hf) |>.symm
      obtain rfl : fn = Tryd.f4 := (Option.some.inj (Tryd.func4.symm.trans hfn)).symm
      exact ⟨by kernel_rfl, fun j t ht => by
        rw [Tryd.params4] at ht
        have hm : t ∈ [24, 3, 3] := by simpa using Array.mem_of_getElem? ht
        have hall : ([24, 3, 3].all fun u => !Tryd.prog.wantsStandIn u) = true := by kernel_rfl
        exact (show Tryd.prog.wantsStandIn t = false by simpa using List.all_eq_true.1 hall t hm)⟩)
    (by kernel_rfl)
#print axioms sback_card

end Go.Proofs.YtaaagidooieejaaDoor
