/- BitsApart: no number's bytes are the beginning of another one's, and the order is kept; for all numbers, no condition. -/
import Derived.Test.YtejcihffmhmpcaaVar
import Derived.Test.YtejcihffmhmpcaaBits
import Derived.Test.YtejcihffmhmpcaaHeld
import Derived.Test.YtejcihffmhmpcaaFrame
import Derived.Test.YtejcihffmhmpcaaCalm
import Derived.Deep.DeepCutAuto
import Derived.Test.YtejcihffmhmpcaaRows
namespace Go.Proofs.Ytejcihffmhmpcaa
open Go.ChangeShapes Go.WideShapes Go.ChangeAt Go.RowKit

theorem nil_sl (w : World) : Sl 0 w (.slice none 0 0) 1 ([] : List Int).length (byt []) := ⟨rfl, .inl ⟨rfl, rfl⟩⟩
theorem ret_bool {a b : Bool} (h : a = b) : Ending.returned (.bool a) = .returned (.bool b) := by rw [h]
theorem wf_i64 {n : Int} (h : (Lit.int .i64 n).wf = true) : -9223372036854775808 ≤ n ∧ n ≤ 9223372036854775807 := by
  have h1 : IntKind.i64.min = -9223372036854775808 := rfl
  have h2 : IntKind.i64.max = 9223372036854775807 := rfl
  simp only [Lit.wf, Bool.and_eq_true, decide_eq_true_eq] at h; omega
theorem wf_u64 {n : Int} (h : (Lit.int .u64 n).wf = true) : 0 ≤ n ∧ n ≤ 18446744073709551615 := by
  have h1 : IntKind.u64.min = 0 := rfl
  have h2 : IntKind.u64.max = 18446744073709551615 := rfl
  simp only [Lit.wf, Bool.and_eq_true, decide_eq_true_eq] at h; omega
theorem str_size (xs : List Int) : (strOfNums xs).size = xs.length := by simp [strOfNums, ByteArray.size]
theorem ext_toList (s : ByteArray) (n : Nat) : (s.extract 0 n).toList = s.toList.take n := by
  rw [ByteArray.toList_eq, ByteArray.toList_eq, ByteArray.data_extract, Array.toList_extract]; simp
theorem str_take (xs : List Int) (hx : ∀ x ∈ xs, 0 ≤ x ∧ x ≤ 255) (n : Nat) : ((strOfNums xs).toList.take n).map (fun c => (c.toNat : Int)) = xs.take n := by
  rw [ByteArray.toList_eq]
  simp only [strOfNums, List.toList_toArray, ← List.map_take, List.map_map]
  conv => rhs; rw [← List.map_id (xs.take n)]
  refine List.map_congr_left fun x hm => ?_
  have := hx x (List.mem_of_mem_take hm)
  simp; omega
theorem apart_str (a b : Int) (a0 : 0 ≤ a) (a1 : a ≤ 18446744073709551615) (b0 : 0 ≤ b) (b1 : b ≤ 18446744073709551615) (h : ¬ a = b) :
    (strOfNums (varN a.toNat)).toList.take (min (varN a.toNat).length (varN b.toNat).length) ≠ (strOfNums (varN b.toNat)).toList.take (min (varN a.toNat).length (varN b.toNat).length) := fun e => by
  have h1 := congrArg (List.map fun c : UInt8 => (c.toNat : Int)) e
  rw [str_take _ (varN_bd _), str_take _ (varN_bd _)] at h1
  have := varN_apart a.toNat b.toNat (by omega) (by omega) h1
  omega
theorem varEnd_nil (x : Int) (w : World) (h0 : 0 ≤ x) (h1 : x ≤ 18446744073709551615) :
    Calls Try.prog 19 #[.slice none 0 0, .int .u64 x] w (VarEnd w (varN x.toNat)) := var_any 0 _ [] x w (nil_sl w) (Nat.zero_le _) (by decide) h0 h1

set_option maxRecDepth 100000 in
set_option maxHeartbeats 8000000 in
theorem apart_walk (a b x y : Int) (w : World) (a0 : 0 ≤ a) (a1 : a ≤ 18446744073709551615) (b0 : 0 ≤ b) (b1 : b ≤ 18446744073709551615) (x0 : -9223372036854775808 ≤ x) (x1 : x ≤ 9223372036854775807) (y0 : -9223372036854775808 ≤ y) (y1 : y ≤ 9223372036854775807) :
    Calls Try.prog 4 #[.int .u64 a, .int .u64 b, .int .i64 x, .int .i64 y] w fun r w' => r = .returned (.bool true) ∧ Below w.heap.size w w' := by
  go_enter Try.func4, Try.ntmps4
  go_wp2_with fail
  refine (begun_any _).mono ?_; rintro r w1 ⟨rfl, hb1⟩
  go_wp2_with fail
  obtain ⟨sa, hsa⟩ : ∃ s, strOfNums (varN a.toNat) = s := ⟨_, rfl⟩
  obtain ⟨sb, hsb⟩ : ∃ s, strOfNums (varN b.toNat) = s := ⟨_, rfl⟩
  have KA : Hid (∀ (w' : World) (v : Value) (B : Nat), w'.ownsRow B 5 1 v (varN a.toNat).length (byt (varN a.toNat)) → ∀ w'', Below w'.heap.size w' w'' → (convert 27 9 v).run Try.prog w'' = .ok (.string sa) w'') := fun w' v B h w'' hb => by
    rw [← hsa]; exact run_convert_sl ((Sl.of_own h).keep hb) 27 5 Try.underlying27 Try.underlying5 9 Try.underlying9
  have KB : Hid (∀ (w' : World) (v : Value) (B : Nat), w'.ownsRow B 5 1 v (varN b.toNat).length (byt (varN b.toNat)) → ∀ w'', Below w'.heap.size w' w'' → (convert 27 9 v).run Try.prog w'' = .ok (.string sb) w'') := fun w' v B h w'' hb => by
    rw [← hsb]; exact run_convert_sl ((Sl.of_own h).keep hb) 27 5 Try.underlying27 Try.underlying5 9 Try.underlying9
  go_cut [9, 10] (fun p q wx => p = .string sa ∧ q = .string sb ∧ Below w1.heap.size w1 wx)
  case first =>
    have h0 : Below w1.heap.size w1 w1.drew := (Below.refl _ _).drew
    refine wp_region_held_drew (S := fun w' => Below w1.heap.size w1 w') (by kernel_rfl) h0 (fun hHeld => ?_)
    refine wpAnyH_take (i := 0) (v := ?_) rfl (by kernel_rfl) (by kernel_rfl) (by kernel_rfl) (fun _ _ _ h => h) (Or.inl ⟨by rfl, ?_⟩) hHeld ?_
    rotate_left
    · (intro wz hSw; (try dsimp only at hSw); (try simp only [List.getElem_toArray, List.getElem_cons_zero]); go_simp; try with_reducible rfl)
    try simp only [List.getElem_toArray, List.getElem_cons_zero, Act.put, List.setIfInBounds_toArray, List.set_cons_zero, List.set_cons_succ]

    refine wpAnyH_take (i := 3) (v := ?_) rfl (by kernel_rfl) (by kernel_rfl) (by kernel_rfl) (fun _ _ _ h => h) (Or.inl ⟨by rfl, ?_⟩) hHeld ?_
    rotate_left
    · (intro wz hSw; (try dsimp only at hSw); (try simp only [List.getElem_toArray, List.getElem_cons_succ, List.getElem_cons_zero]); go_simp; try with_reducible rfl)
    try simp only [List.getElem_toArray, List.getElem_cons_succ, List.getElem_cons_zero, Act.put, List.setIfInBounds_toArray, List.set_cons_zero, List.set_cons_succ]
    refine wpAnyH_ready (rs := [1]) (by kernel_rfl) (by simp) ?_; refine AllReadyH.cons rfl (fun K hK => ?_) AllReadyH.nil; (try simp only [List.getElem_toArray, List.getElem_cons_succ, List.getElem_cons_zero]); go_simp
    refine (varEnd_nil a _ a0 a1).mono ?_; rintro e wa ⟨va, rfl, hX, hbX⟩
    have hkX := h0.trans (hbX.mono (by simp))
    refine hK.out _ _ hkX (fun _ => ?_)
    clear hK K hHeld
    try simp only [List.getElem_toArray, List.getElem_cons_succ, List.getElem_cons_zero, Act.put, List.setIfInBounds_toArray, List.set_cons_zero, List.set_cons_succ]
    refine wpAnyH_sub (S' := fun w' => Below wa.heap.size wa w') (fun w' h => hkX.trans (h.mono hkX.size)) ?_
    have hHeld : Below wa.heap.size wa wa := Below.refl _ _
    have kv := KA.out _ _ _ hX
    refine wpAnyH_take (i := 2) (v := ?_) rfl (by kernel_rfl) (by kernel_rfl) (by kernel_rfl) (fun _ _ _ h => h) (Or.inl ⟨by rfl, ?_⟩) hHeld ?_
    rotate_left
    · (intro wz hSw; (try dsimp only at hSw); (try simp only [List.getElem_toArray, List.getElem_cons_succ, List.getElem_cons_zero]); go_simp; try with_reducible rfl)
    try simp only [List.getElem_toArray, List.getElem_cons_succ, List.getElem_cons_zero, Act.put, List.setIfInBounds_toArray, List.set_cons_zero, List.set_cons_succ]
    clear kv
    refine wpAnyH_ready (rs := [4]) (by kernel_rfl) (by simp) ?_; refine AllReadyH.cons rfl (fun K hK => ?_) AllReadyH.nil; (try simp only [List.getElem_toArray, List.getElem_cons_succ, List.getElem_cons_zero]); go_simp
    refine (varEnd_nil b _ b0 b1).mono ?_; rintro e wb ⟨vb, rfl, hY, hbY⟩
    have hkY := hkX.trans (hbY.mono hkX.size)
    refine hK.out _ _ hbY (fun _ => ?_)
    clear hK K hHeld
    try simp only [List.getElem_toArray, List.getElem_cons_succ, List.getElem_cons_zero, Act.put, List.setIfInBounds_toArray, List.set_cons_zero, List.set_cons_succ]
    refine wpAnyH_sub (S' := fun w' => Below wb.heap.size wb w') (fun w' h => hbY.trans (h.mono hbY.size)) ?_
    have hHeld : Below wb.heap.size wb wb := Below.refl _ _
    have kv := KB.out _ _ _ hY
    refine wpAnyH_take (i := 5) (v := ?_) rfl (by kernel_rfl) (by kernel_rfl) (by kernel_rfl) (fun _ _ _ h => h) (Or.inl ⟨by rfl, ?_⟩) hHeld ?_
    rotate_left
    · (intro wz hSw; (try dsimp only at hSw); (try simp only [List.getElem_toArray, List.getElem_cons_succ, List.getElem_cons_zero]); go_simp; try with_reducible rfl)
    try simp only [List.getElem_toArray, List.getElem_cons_succ, List.getElem_cons_zero, Act.put, List.setIfInBounds_toArray, List.set_cons_zero, List.set_cons_succ]
    refine wpAnyH_take (i := 6) (v := ?_) rfl (by kernel_rfl) (by kernel_rfl) (by kernel_rfl) (fun _ _ _ h => h) (Or.inl ⟨by rfl, ?_⟩) hHeld ?_
    rotate_left
    · (intro wz hSw; (try dsimp only at hSw); (try simp only [List.getElem_toArray, List.getElem_cons_succ, List.getElem_cons_zero]); go_simp; try with_reducible rfl)
    try simp only [List.getElem_toArray, List.getElem_cons_succ, List.getElem_cons_zero, Act.put, List.setIfInBounds_toArray, List.set_cons_zero, List.set_cons_succ]
    refine wpAnyH_take (i := 7) (v := ?_) rfl (by kernel_rfl) (by kernel_rfl) (by kernel_rfl) (fun _ _ _ h => h) (Or.inl ⟨by rfl, ?_⟩) hHeld ?_
    rotate_left
    · (intro wz hSw; (try dsimp only at hSw); (try simp only [List.getElem_toArray, List.getElem_cons_succ, List.getElem_cons_zero]); go_simp; try with_reducible rfl)
    try simp only [List.getElem_toArray, List.getElem_cons_succ, List.getElem_cons_zero, Act.put, List.setIfInBounds_toArray, List.set_cons_zero, List.set_cons_succ]
    refine wpAnyH_done (by kernel_rfl) ?_ _
    go_wp2_with fail
    go_meet
    exact ⟨rfl, rfl, hkY⟩
  case rest =>
    obtain ⟨rfl, rfl, hb⟩ := hcut
    obtain ⟨w2, rfl⟩ : ∃ w2 : World, w2 = wc := ⟨_, rfl⟩
    have ha := str_size (varN a.toNat)
    have hb' := str_size (varN b.toNat)
    rw [hsa] at ha
    rw [hsb] at hb'
    obtain ⟨la0, la1⟩ := varN_len 10 a.toNat (by have : 128 ^ 10 = 1180591620717411303424 := (by decide); omega) (by omega)
    obtain ⟨lb0, lb1⟩ := varN_len 10 b.toNat (by have : 128 ^ 10 = 1180591620717411303424 := (by decide); omega) (by omega)
    rw [← ha] at la0 la1
    rw [← hb'] at lb0 lb1
    have hap := fun h => apart_str a b a0 a1 b0 b1 h
    rw [hsa, hsb, ← ha, ← hb'] at hap
    have sa1 : sa.toList.length = sa.size := by rw [ByteArray.toList_eq]; rfl
    have sb1 : sb.toList.length = sb.size := by rw [ByteArray.toList_eq]; rfl
    have E1 : Hid (¬ a = b → sb.size ≤ sa.size → ((sa.extract 0 sb.size).toList == sb.toList) = false) := fun h hl => by
      have := hap h; rw [Nat.min_eq_right hl, List.take_of_length_le (Nat.le_of_eq sb1), ← ext_toList] at this
      simpa using this
    have E2 : Hid (¬ a = b → sa.size ≤ sb.size → (sa.toList == (sb.extract 0 sa.size).toList) = false) := fun h hl => by
      have := hap h; rw [Nat.min_eq_left hl, List.take_of_length_le (Nat.le_of_eq sa1), ← ext_toList] at this
      simpa using this
    have hO : decide (orderI x < orderI y) = decide (x < y) := by rw [decide_eq_decide]; unfold orderI; omega
    clear ha hb' hsa hsb hap sa1 sb1
    have ga : decide (0 < sa.size) = true := by simp; omega
    have gb : decide (0 < sb.size) = true := by simp; omega
    have FIN := Lib.hid (hb1.trans (hb.mono hb1.size))
    clear hb hb1 KA KB
    go_wp2_with fail
    all_goals
      obtain ⟨U, f, hU, hf, hg⟩ := calm_class (w2); obtain ⟨u0, hu0⟩ := hg _ (Below.refl _ _); rw [hu0]; clear hu0
      by_cases hab : a = b
      · have h1 : (a == b) = true := by simpa using hab
        refine wp_region_calm f (by kernel_rfl) (by kernel_rfl) (calm_drew hf hg _) ?_
        repeat (go_big_quiet_step ((first | (go_at_call 15; exact calm_same (order_any _ _ (by assumption) (by assumption))))))
        refine wpQuiet_nil ?_
        rintro _ ⟨u, rfl⟩
        go_wp2_with fail
        go_ret
        exact ⟨ret_bool (by simp), FIN.out.trans ((hf u).mono FIN.out.size)⟩
      · have h1 : (a == b) = false := by simpa using hab
        have E := E1.out hab
        have E' := E2.out hab
        first | have e := E (by omega) | have e := E' (by omega)
        clear E E' hab
        refine wp_region_calm f (by kernel_rfl) (by kernel_rfl) (calm_drew hf hg _) ?_
        repeat (go_big_quiet_step ((first | (go_at_call 15; exact calm_same (order_any _ _ (by assumption) (by assumption))))))
        refine wpQuiet_nil ?_
        rintro _ ⟨u, rfl⟩
        go_wp2_with fail
        go_ret
        exact ⟨ret_bool (by simp), FIN.out.trans ((hf u).mono FIN.out.size)⟩


set_option maxRecDepth 100000 in
theorem apart_lifted (os : Os) (started : os.Started) (H : Type) (enc : TypeId × Value → H) :
    ReturnsInHanded {} Try.checked os 4 .any (Rows.bitsApartSpec.pre6 enc Try.prog Try.f4 Rows.bitsApartRow.domain false) (Rows.bitsApartSpec.post enc Try.prog Try.f4 false true false false) := by
  refine lift_law (C := Try.checked) (tb := 4) (by kernel_rfl) started (by kernel_rfl) Try.func4 (ChangeSpec.witness6 (enc := enc) (C := Try.checked) false ⟨#[], #[.int .u64 0, .int .u64 0, .int .i64 0, .int .i64 0], []⟩ 8 (by kernel_rfl) (by kernel_rfl) (by kernel_rfl) (by kernel_rfl)) (by kernel_rfl) (by kernel_rfl) rfl Try.underlying4 rfl ?_ ?_
  · intro ds h
    match ds, h with
    | [_, _, _, _], _ => rfl
  · intro W base args ds ps hval0 hA0 hlt hsz
    have hval : ∀ (j : Nat) t v, Try.f4.params[j]? = some t → args[j]? = some v → Value.okWide Try.prog W .any base t v := hval0
    have hA : DataW.TrodAll enc Try.prog W 0 (fun _ => true) true Try.f4.params.toList args.toList ds ps := hA0
    rw [Try.params4] at hA hval
    obtain ⟨v0, v1, v2, v3, d0, d1, d2, d3, p0, p1, p2, p3, rfl, rfl, rfl, h0, h1, h2, h3⟩ := trodAll_four hA
    obtain ⟨a, rfl, rfl, rfl, wa⟩ := open_int Try.underlying22 (hval 0 22 v0 rfl rfl) h0
    obtain ⟨b, rfl, rfl, rfl, wb⟩ := open_int Try.underlying22 (hval 1 22 v1 rfl rfl) h1
    obtain ⟨x, rfl, rfl, rfl, wx⟩ := open_int Try.underlying2 (hval 2 2 v2 rfl rfl) h2
    obtain ⟨y, rfl, rfl, rfl, wy⟩ := open_int Try.underlying2 (hval 3 2 v3 rfl rfl) h3
    exact apart_walk a b x y W (wf_u64 wa).1 (wf_u64 wa).2 (wf_u64 wb).1 (wf_u64 wb).2 (wf_i64 wx).1 (wf_i64 wx).2 (wf_i64 wy).1 (wf_i64 wy).2

theorem apart_holds : Rows.BitsApartSaid :=
  OpenClaim.holds_of_wide 4 Try.f4 rfl rfl rfl rfl rfl rfl rfl ⟨rfl, rfl, rfl, rfl, rfl⟩ rfl rfl rfl rfl rfl (by kernel_rfl) Try.func4 (by kernel_rfl)
    (of_decide_eq_true (by kernel_rfl)) (by unfold Func.isWrapper; first | (rw [if_pos (by decide +kernel)]; kernel_rfl) | (rw [if_neg (by decide +kernel)]; exact ⟨rfl, rfl⟩))
    (fun os started H enc _ => apart_lifted os started H enc)
#print axioms apart_holds

end Go.Proofs.Ytejcihffmhmpcaa
