/- StampBytes: for any two stamps and any bytes: their bytes are read back, one byte more is none, they stand in the order of the stamps, and are the document's; no condition. -/
import Derived.Test.YtmdeegbbclcloaaStampTk
import Derived.Test.YtmdeegbbclcloaaPlainLex
import Derived.Test.YtmdeegbbclcloaaBegun6
import Derived.Test.YtmdeegbbclcloaaOpenStamp
import Derived.Test.YtmdeegbbclcloaaRows
namespace Go.Proofs.Ytmdeegbbclcloaa
open Go.ChangeShapes Go.WideShapes Go.ChangeAt Go.RowKit

def InI (a : Int) : Prop := -9223372036854775808 ≤ a ∧ a ≤ 9223372036854775807
theorem wf_u8 {n : Int} (h : (Lit.int .u8 n).wf = true) : 0 ≤ n ∧ n ≤ 255 := by
  have h1 : IntKind.u8.min = 0 := rfl
  have h2 : IntKind.u8.max = 255 := rfl
  simp only [Lit.wf, Bool.and_eq_true, decide_eq_true_eq] at h; omega
theorem order_in (a : Int) (h : InI a) : 0 ≤ orderI a ∧ orderI a ≤ 18446744073709551615 ∧ backI (orderI a) = a := by
  obtain ⟨h0, h1⟩ := h
  refine ⟨?_, ?_, ?_⟩
  · unfold orderI; omega
  · unfold orderI; omega
  · unfold orderI backI; (repeat' split) <;> omega
theorem stampB_bd (a b : Int) : ∀ x ∈ stampB a b, 0 ≤ x ∧ x ≤ 255 := fun x hx => by
  rcases List.mem_append.1 hx with h | h
  · exact bePre_bd _ _ _ x h
  · exact bePre_bd _ _ _ x h
theorem stampB_take (a b : Int) (ha : InI a) (hb : InI b) : takeE (stampB a b) = 0 ∧ takeW (stampB a b) = a ∧ takeT (stampB a b) = b := by
  have h0 : takeE (stampB a b) = 0 := by unfold takeE; rw [stampB_len]; rfl
  refine ⟨h0, ?_, ?_⟩
  · unfold takeW; rw [if_pos h0, List.drop_zero]
    unfold stampB
    rw [List.take_left' (bePre_len _ _ _), beVal_8 _ (order_in a ha).1 (order_in a ha).2.1, (order_in a ha).2.2]
  · unfold takeT; rw [if_pos h0]
    unfold stampB
    rw [List.drop_left' (bePre_len _ _ _), List.take_of_length_le (by rw [bePre_len]; decide), beVal_8 _ (order_in b hb).1 (order_in b hb).2.1, (order_in b hb).2.2]
theorem stampB_more (a b : Int) (xs : List Int) (h : 0 < xs.length) : takeE (stampB a b ++ xs) = 3 := by
  unfold takeE; rw [List.length_append, stampB_len, if_neg (by omega), if_pos (by omega)]
theorem stampB_val (a b : Int) (ha : InI a) (hb : InI b) : beVal (stampB a b) = orderI a * 18446744073709551616 + orderI b := by
  unfold stampB
  rw [beVal_app, beVal_8 _ (order_in a ha).1 (order_in a ha).2.1, beVal_8 _ (order_in b hb).1 (order_in b hb).2.1, bePre_len]; rfl
theorem stampB_less (a b c d : Int) (ha : InI a) (hb : InI b) (hc : InI c) (hd : InI d) : Op.bytesLess (strOfNums (stampB a b)).toList (strOfNums (stampB c d)).toList = lessS a b c d := by
  rw [str_toList, str_toList, bytesLess_val _ _ (by rw [stampB_len, stampB_len]) (stampB_bd a b) (stampB_bd c d), stampB_val a b ha hb, stampB_val c d hc hd]
  obtain ⟨a0, a1⟩ := ha; obtain ⟨b0, b1⟩ := hb; obtain ⟨c0, c1⟩ := hc; obtain ⟨d0, d1⟩ := hd
  unfold lessS orderI
  rw [Bool.eq_iff_iff]; simp; omega

/-- Two rows of sixteen bytes. -/
def TwoMade (W : World) (ys zs : List Int) (v u : Value) (wx : World) : Prop :=
  wx.ownsRow W.heap.size 5 1 v 16 (byt ys) ∧ wx.ownsRow W.heap.size 5 1 u 16 (byt zs) ∧ Below W.heap.size W wx
theorem own_some {w : World} {base n : Nat} {e : TypeId} {v : Value} {xs : List Value} (h : w.ownsRow base e 1 v n xs) (hn : 0 < n) : ∃ g cap, v = .slice (some ⟨g, 0, none⟩) n cap ∧ base ≤ g ∧ n ≤ cap := by
  rcases h.2 with ⟨_, h⟩ | ⟨g, cap, cur, rfl, hb, _, hc, _⟩
  · omega
  · exact ⟨g, cap, rfl, hb, hc⟩

set_option maxRecDepth 100000 in
set_option maxHeartbeats 8000000 in
theorem bytes_walk (a b c d : Int) (v : Value) (xs : List Int) (ha : InI a) (hb' : InI b) (hc : InI c) (hd : InI d) (hx : ∀ x ∈ xs, 0 ≤ x ∧ x ≤ 255) (w : World) (hs : Sl w.heap.size w v 1 xs.length (byt xs)) :
    Calls Try.prog 9 #[.agg #[.int .i64 a, .int .i64 b], .agg #[.int .i64 c, .int .i64 d], v] w fun r w' => r = .returned (.bool true) ∧ Below w.heap.size w w' := by
  obtain ⟨i0, hi, hz0, hz1, hz2⟩ := info_parts Try.infoU8
  have HS := Lib.hid hs
  have HX := Lib.hid hx
  obtain ⟨p, cap, rfl, h1, h2, -, -⟩ := hs.form
  unfold maxLen at h2
  clear hs hx
  by_cases hn : 100 < xs.length
  · go_enter Try.func9, Try.ntmps9
    go_wp2_with fail
    refine (begun_any _).mono ?_; rintro r w1 ⟨rfl, hb⟩
    go_wp2_with fail
    go_ret
    simp only [World.size_alloc] at hb
    exact ⟨rfl, (below_two w _ _).trans (hb.mono (by omega))⟩
  · go_enter Try.func9, Try.ntmps9
    go_wp2_with fail
    refine (begun_any _).mono ?_; rintro r w1 ⟨rfl, hb⟩
    simp only [World.size_alloc] at hb
    have HA := below_block hb (by omega) (heap_prev _ (heap_last w _))
    have HB := below_block hb (by simp) (heap_last (w.alloc _) _)
    simp only [World.size_alloc] at HB
    have B1 := Lib.hid ((below_two w (.cells #[.int .i64 a, .int .i64 b] 40) (.cells #[.int .i64 c, .int .i64 d] 40)).trans (hb.mono (by omega)))
    have hsz1 : w.heap.size + 1 < w1.heap.size := by have := hb.size; simp only [World.size_alloc] at this; omega
    clear hb
    go_wp2_with fail
    have h0 : Below w1.heap.size w1 w1.drew := (Below.refl _ _).drew
    have HK : Hid (∀ w', Below w1.heap.size w1 w' → Below w1.heap.size w1 w' ∧ (∀ j, w'.cell? ⟨w.heap.size, j, none⟩ = #[Value.int .i64 a, .int .i64 b][j]?) ∧ (∀ j, w'.cell? ⟨w.heap.size + 1, j, none⟩ = #[Value.int .i64 c, .int .i64 d][j]?)) := fun w' h => ⟨h, block_cells (below_block h (by omega) HA), block_cells (below_block h (by omega) HB)⟩
    go_cut [7, 8] (fun x y wx => TwoMade w1 (stampB a b) (stampB c d) x y wx)
    case first =>
      go_region_held3 (fun w' => Below w1.heap.size w1 w' ∧ (∀ j, w'.cell? ⟨w.heap.size, j, none⟩ = #[Value.int .i64 a, .int .i64 b][j]?) ∧ (∀ j, w'.cell? ⟨w.heap.size + 1, j, none⟩ = #[Value.int .i64 c, .int .i64 d][j]?)) ((refine HK.out _ ?_; first | exact h0 | assumption))
        (first
          | (go_at_call_of 28 (#[Value.agg #[Value.int .i64 a, Value.int .i64 b]] : Array Value); refine (bytes_any a b _ ha.1 ha.2 hb'.1 hb'.2).mono ?_; rintro e wa ⟨va, rfl, hX, hbX⟩; have hkX := (h0.trans (hbX.mono (by simp))))
          | (go_at_call_of 28 (#[Value.agg #[Value.int .i64 c, Value.int .i64 d]] : Array Value); refine (bytes_any c d _ hc.1 hc.2 hd.1 hd.2).mono ?_; rintro e wb ⟨vb, rfl, hY, hbY⟩; have hkY := (hkX.trans (hbY.mono hkX.size)); have hX2 := own_below hX hbY (Nat.le_refl _)))
      all_goals
        go_wp2_with fail
        go_meet
        exact ⟨by rw [stampB_len] at hX2; exact hX2, by have h := hY.mono hkX.size; rw [stampB_len] at h; exact h, hkY⟩
    case rest =>
      obtain ⟨hX, hY, hb2⟩ := hcut
      obtain ⟨w2, rfl⟩ : ∃ w2 : World, w2 = wc := ⟨_, rfl⟩
      obtain ⟨gx, cx, rfl, hgx, hcx⟩ := own_some hX (by decide)
      obtain ⟨gy, cy, rfl, hgy, hcy⟩ := own_some hY (by decide)
      have SX : Sl w2.heap.size w2 (.slice (some ⟨gx, 0, none⟩) 16 cx) 1 (stampB a b).length (byt (stampB a b)) := by rw [stampB_len]; exact Sl.of_own hX
      have SY : Sl w2.heap.size w2 (.slice (some ⟨gy, 0, none⟩) 16 cy) 1 (stampB c d).length (byt (stampB c d)) := by rw [stampB_len]; exact Sl.of_own hY
      replace SX := Lib.hid SX
      replace SY := Lib.hid SY
      obtain ⟨t0, t1, t2⟩ := stampB_take a b ha hb'
      have T0 := Lib.hid t0; have T1 := Lib.hid t1; have T2 := Lib.hid t2
      have B2 := Lib.hid (B1.out.trans (hb2.mono B1.out.size))
      have HA2 := below_block hb2 (by omega) HA
      have HB2 := below_block hb2 (by omega) HB
      have hs12 := hb2.size
      clear HA HB HK h0 hX hY hb2 t0 t1 t2
      go_wp2_with fail
      refine (take_any w2.heap.size _ (stampB a b) (stampB_bd a b) _ SX.out (Nat.le_refl _)).mono ?_; rintro r w3 ⟨rfl, hb3⟩; rw [T0.out, T1.out, T2.out]
      have hs3 := hb3.size
      have HM := heap_last w3 (.cells #[.int .i64 a, .int .i64 b] 40)
      have S3 := Lib.hid (((hb3.alloc hs3 (.cells #[.int .i64 a, .int .i64 b] 40)).alloc (by simp; omega) (.cells #[] 5)))
      have SX3 := Lib.hid (SX.out.keep S3.out)
      have OE := own_empty (w3.alloc (.cells #[.int .i64 a, .int .i64 b] 40)) 5 (w3.heap.size + 1) (by simp)
      simp only [World.size_alloc] at OE
      go_wp2_with (at_builtin; refine wpList_append_sl rfl (.tmp 28) (.tmp 29) 45 rfl (w3.heap.size + 1) 5 i0 (.int .u8 0) 1 1 Try.underlying45 hi hz0 hz1 hz2 rfl (by decide) _ 0 [] rfl OE w2.heap.size _ 16 (byt (stampB a b)) rfl (by have := SX3.out; rwa [stampB_len] at this) (byt_one _) ?d1 ?d2 ?d3 ?_)
      case d1 => unfold maxLen; omega
      case d2 => omega
      case d3 => simp
      intro v4 w4 hown4 hgrow4
      try simp only [Nat.zero_add, List.nil_append] at hown4
      have hb4 : Below (w3.heap.size + 1) (w3.alloc (.cells #[.int .i64 a, .int .i64 b] 40)) w4 := (below_alloc (w3.alloc (.cells #[.int .i64 a, .int .i64 b] 40)) (.cells #[] 5) (by simp)).grown hgrow4 (by simp) (fun k hk => by simp [Value.ownBlock] at hk; omega)
      have hs4 := hb4.size
      simp only [World.size_alloc] at hs4
      have B3 := Lib.hid (B2.out.trans ((hb3.alloc hs3 (.cells #[.int .i64 a, .int .i64 b] 40)).mono B2.out.size))
      have SV4 := Lib.hid ((HS.out.keep B3.out).keep (hb4.mono (by have := B2.out.size; omega)))
      clear S3 SX3 hgrow4 OE
      go_wp2_with (at_builtin; refine wpList_append_sl rfl (.tmp 30) (.tmp 31) 45 rfl (w3.heap.size + 1) 5 i0 (.int .u8 0) 1 1 Try.underlying45 hi hz0 hz1 hz2 rfl (by decide) _ 16 (byt (stampB a b)) rfl hown4 w.heap.size _ xs.length (byt xs) rfl SV4.out (byt_one _) ?e1 ?e2 ?e3 ?_)
      case e1 => unfold maxLen; omega
      case e2 => omega
      case e3 => exact hs4
      intro v5 w5 hown5 hgrow5
      have hb5 : Below (w3.heap.size + 1) (w3.alloc (.cells #[.int .i64 a, .int .i64 b] 40)) w5 := hb4.grown hgrow5 hs4 (fun k hk => (hown4.lt k hk).1)
      rw [byt_app] at hown5
      have hs5 := hb5.size
      simp only [World.size_alloc] at hs5
      obtain ⟨gv, cv, rfl, hgv, hcv⟩ := own_some hown5 (by omega)
      have S5 := Lib.hid (Sl.of_own hown5)
      replace HM := below_block hb5 (by omega) HM
      have hall : ∀ x ∈ stampB a b ++ xs, 0 ≤ x ∧ x ≤ 255 := fun x hx => (List.mem_append.1 hx).elim (stampB_bd a b x) (HX.out x)
      have TK := Lib.hid (take_any w5.heap.size _ (stampB a b ++ xs) hall w5 (by rw [List.length_append, stampB_len]; exact S5.out) (Nat.le_refl _))
      replace B3 := Lib.hid (B3.out.trans (hb5.mono (by have := B2.out.size; omega)))
      have hb25 : Below w2.heap.size w2 w5 := (hb3.alloc hs3 (.cells #[.int .i64 a, .int .i64 b] 40)).trans (hb5.mono (by omega))
      clear hb4 hown4 hown5 hgrow5 SV4 S5 hall hb3 hb5
      go_wp2_with fail
      refine TK.out.mono ?_; rintro r w6 ⟨rfl, hb6⟩
      replace HM := below_block hb6 (by omega) HM
      replace B3 := Lib.hid (B3.out.trans (hb6.mono B3.out.size))
      replace hb6 := hb25.trans (hb6.mono hb25.size)
      clear hb25 TK
      obtain ⟨e, t3, hfe⟩ : ∃ e, takeE (stampB a b ++ xs) = e ∧ (e == 0) = ((xs.length : Int) == 0) := by
        by_cases hz : xs.length = 0
        · obtain rfl : xs = [] := List.eq_nil_of_length_eq_zero hz
          exact ⟨0, by rw [List.append_nil]; exact T0.out, rfl⟩
        · exact ⟨3, stampB_more a b xs (by omega), by rw [beq_eq_false_iff_ne.2 (show (xs.length : Int) ≠ 0 by omega)]; rfl⟩
      obtain ⟨q1, eq1⟩ : ∃ q, takeW (stampB a b ++ xs) = q := ⟨_, rfl⟩
      obtain ⟨q2, eq2⟩ : ∃ q, takeT (stampB a b ++ xs) = q := ⟨_, rfl⟩
      rw [t3, eq1, eq2]
      clear t3 eq1 eq2
      have HA6 := heap_prev (.cells #[.int .i64 q1, .int .i64 q2] 40) (below_block hb6 (by omega) HA2)
      have HB6 := heap_prev (.cells #[.int .i64 q1, .int .i64 q2] 40) (below_block hb6 (by omega) HB2)
      have HM6 := heap_prev (.cells #[.int .i64 q1, .int .i64 q2] 40) HM
      have B6 := hb6.alloc hb6.size (.cells #[.int .i64 q1, .int .i64 q2] 40)
      have SX6 := Lib.hid (SX.out.keep B6)
      have SY6 := Lib.hid (SY.out.keep B6)
      replace B3 := Lib.hid (B3.out.alloc B3.out.size (.cells #[.int .i64 q1, .int .i64 q2] 40))
      have hs6 : w6.heap.size < (w6.alloc (.cells #[.int .i64 q1, .int .i64 q2] 40)).heap.size := by simp
      have hs26 := hb6.size
      have hlM := block_lt HM
      clear HA2 HB2 HM B6 SX SY B2 hb6
      go_wp2_with fail
      obtain ⟨W, hW⟩ : ∃ W, w6.alloc (.cells #[.int .i64 q1, .int .i64 q2] 40) = W := ⟨_, rfl⟩
      rw [hW] at HA6 HB6 HM6 SX6 SY6 B3 hs6 ⊢
      clear hW
      obtain ⟨l, hl⟩ : ∃ l, lessS a b c d = l := ⟨_, rfl⟩
      have hbl := stampB_less a b c d ha hb' hc hd
      rw [hl] at hbl
      obtain ⟨sx, hsx⟩ : ∃ s, strOfNums (stampB a b) = s := ⟨_, rfl⟩
      obtain ⟨sy, hsy⟩ : ∃ s, strOfNums (stampB c d) = s := ⟨_, rfl⟩
      rw [hsx, hsy] at hbl
      have KX : Hid (∀ w', Below W.heap.size W w' → (convert 45 9 (.slice (some ⟨gx, 0, none⟩) 16 cx)).run Try.prog w' = .ok (.string sx) w') := fun w' h => by
        rw [← hsx]; exact run_convert_sl (by have := SX6.out.keep (h.mono (by omega)); rwa [stampB_len] at this ⊢) 45 5 Try.underlying45 Try.underlying5 9 Try.underlying9
      have KY : Hid (∀ w', Below W.heap.size W w' → (convert 45 9 (.slice (some ⟨gy, 0, none⟩) 16 cy)).run Try.prog w' = .ok (.string sy) w') := fun w' h => by
        rw [← hsy]; exact run_convert_sl (by have := SY6.out.keep (h.mono (by omega)); rwa [stampB_len] at this ⊢) 45 5 Try.underlying45 Try.underlying5 9 Try.underlying9
      have KS : Hid (∀ (w' : World) (v : Value) (B : Nat), w'.ownsRow B 5 1 v (stampB a b).length (byt (stampB a b)) → (convert 45 9 v).run Try.prog w' = .ok (.string sx) w') := fun w' v B h => by
        rw [← hsx]; exact run_convert_sl (Sl.of_own h) 45 5 Try.underlying45 Try.underlying5 9 Try.underlying9
      have HL := Lib.hid hl
      have h0 : Below W.heap.size W W.drew := (Below.refl _ _).drew
      have HK : Hid (∀ w', Below W.heap.size W w' → Below W.heap.size W w' ∧ (∀ j, w'.cell? ⟨w.heap.size, j, none⟩ = #[Value.int .i64 a, .int .i64 b][j]?) ∧ (∀ j, w'.cell? ⟨w.heap.size + 1, j, none⟩ = #[Value.int .i64 c, .int .i64 d][j]?) ∧ (∀ j, w'.cell? ⟨w3.heap.size, j, none⟩ = #[Value.int .i64 a, .int .i64 b][j]?) ∧ (convert 45 9 (.slice (some ⟨gx, 0, none⟩) 16 cx)).run Try.prog w' = .ok (.string sx) w' ∧ (convert 45 9 (.slice (some ⟨gy, 0, none⟩) 16 cy)).run Try.prog w' = .ok (.string sy) w') := fun w' h => ⟨h, block_cells (below_block h (by omega) HA6), block_cells (below_block h (by omega) HB6), block_cells (below_block h (by omega) HM6), KX.out w' h, KY.out w' h⟩
      clear HA6 HB6 HM6 SX6 SY6 hl hsx hsy KX KY
      have BW := B3
      go_cut [6] (fun r wx => r = .bool true ∧ Below W.heap.size W wx)
      case first =>
        refine wp_region_held_drew (S := (fun w' => Below W.heap.size W w' ∧ (∀ j, w'.cell? ⟨w.heap.size, j, none⟩ = #[Value.int .i64 a, .int .i64 b][j]?) ∧ (∀ j, w'.cell? ⟨w.heap.size + 1, j, none⟩ = #[Value.int .i64 c, .int .i64 d][j]?) ∧ (∀ j, w'.cell? ⟨w3.heap.size, j, none⟩ = #[Value.int .i64 a, .int .i64 b][j]?) ∧ (convert 45 9 (.slice (some ⟨gx, 0, none⟩) 16 cx)).run Try.prog w' = .ok (.string sx) w' ∧ (convert 45 9 (.slice (some ⟨gy, 0, none⟩) 16 cy)).run Try.prog w' = .ok (.string sy) w')) (by kernel_rfl) (HK.out _ h0) (fun hHeld => ?_)
        refine wpAnyH_take (i := 0) (v := ?_) rfl (by kernel_rfl) (by kernel_rfl) (by kernel_rfl) (fun _ _ _ h => h) (Or.inl ⟨by rfl, ?_⟩) hHeld ?_
        rotate_left
        · (intro wz hSw; (try dsimp only at hSw); (try simp only [List.getElem_toArray, List.getElem_cons_succ, List.getElem_cons_zero]); go_simp; try with_reducible rfl)
        try simp only [List.getElem_toArray, List.getElem_cons_succ, List.getElem_cons_zero, Act.put, List.setIfInBounds_toArray, List.set_cons_zero, List.set_cons_succ]
        refine wpAnyH_take (i := 1) (v := ?_) rfl (by kernel_rfl) (by kernel_rfl) (by kernel_rfl) (fun _ _ _ h => h) (Or.inl ⟨by rfl, ?_⟩) hHeld ?_
        rotate_left
        · (intro wz hSw; (try dsimp only at hSw); (try simp only [List.getElem_toArray, List.getElem_cons_succ, List.getElem_cons_zero]); go_simp; try with_reducible rfl)
        try simp only [List.getElem_toArray, List.getElem_cons_succ, List.getElem_cons_zero, Act.put, List.setIfInBounds_toArray, List.set_cons_zero, List.set_cons_succ]
        refine wpAnyH_take (i := 2) (v := ?_) rfl (by kernel_rfl) (by kernel_rfl) (by kernel_rfl) (fun _ _ _ h => h) (Or.inl ⟨by rfl, ?_⟩) hHeld ?_
        rotate_left
        · (intro wz hSw; (try dsimp only at hSw); (try simp only [List.getElem_toArray, List.getElem_cons_succ, List.getElem_cons_zero]); go_simp; try with_reducible rfl)
        try simp only [List.getElem_toArray, List.getElem_cons_succ, List.getElem_cons_zero, Act.put, List.setIfInBounds_toArray, List.set_cons_zero, List.set_cons_succ]
        refine wpAnyH_take (i := 3) (v := ?_) rfl (by kernel_rfl) (by kernel_rfl) (by kernel_rfl) (fun _ _ _ h => h) (Or.inl ⟨by rfl, ?_⟩) hHeld ?_
        rotate_left
        · (intro wz hSw; (try dsimp only at hSw); (try simp only [List.getElem_toArray, List.getElem_cons_succ, List.getElem_cons_zero]); go_simp; try with_reducible rfl)
        try simp only [List.getElem_toArray, List.getElem_cons_succ, List.getElem_cons_zero, Act.put, List.setIfInBounds_toArray, List.set_cons_zero, List.set_cons_succ]
        refine wpAnyH_take (i := 4) (v := ?_) rfl (by kernel_rfl) (by kernel_rfl) (by kernel_rfl) (fun _ _ _ h => h) (Or.inl ⟨by rfl, ?_⟩) hHeld ?_
        rotate_left
        · (intro wz hSw; (try dsimp only at hSw); (try simp only [List.getElem_toArray, List.getElem_cons_succ, List.getElem_cons_zero]); go_simp; try with_reducible rfl)
        try simp only [List.getElem_toArray, List.getElem_cons_succ, List.getElem_cons_zero, Act.put, List.setIfInBounds_toArray, List.set_cons_zero, List.set_cons_succ]
        refine wpAnyH_take (i := 5) (v := ?_) rfl (by kernel_rfl) (by kernel_rfl) (by kernel_rfl) (fun _ _ _ h => h) (Or.inl ⟨by rfl, ?_⟩) hHeld ?_
        rotate_left
        · (intro wz hSw; (try dsimp only at hSw); (try simp only [List.getElem_toArray, List.getElem_cons_succ, List.getElem_cons_zero]); go_simp; try with_reducible rfl)
        try simp only [List.getElem_toArray, List.getElem_cons_succ, List.getElem_cons_zero, Act.put, List.setIfInBounds_toArray, List.set_cons_zero, List.set_cons_succ]
        refine wpAnyH_take (i := 6) (v := ?_) rfl (by kernel_rfl) (by kernel_rfl) (by kernel_rfl) (fun _ _ _ h => h) (Or.inl ⟨by rfl, ?_⟩) hHeld ?_
        rotate_left
        · (intro wz hSw; (try dsimp only at hSw); (try simp only [List.getElem_toArray, List.getElem_cons_succ, List.getElem_cons_zero]); go_simp; try with_reducible rfl)
        try simp only [List.getElem_toArray, List.getElem_cons_succ, List.getElem_cons_zero, Act.put, List.setIfInBounds_toArray, List.set_cons_zero, List.set_cons_succ]
        refine wpAnyH_take (i := 7) (v := ?_) rfl (by kernel_rfl) (by kernel_rfl) (by kernel_rfl) (fun _ _ _ h => h) (Or.inl ⟨by rfl, ?_⟩) hHeld ?_
        rotate_left
        · (intro wz hSw; (try dsimp only at hSw); (try simp only [List.getElem_toArray, List.getElem_cons_succ, List.getElem_cons_zero]); go_simp; try with_reducible rfl)
        try simp only [List.getElem_toArray, List.getElem_cons_succ, List.getElem_cons_zero, Act.put, List.setIfInBounds_toArray, List.set_cons_zero, List.set_cons_succ]
        refine wpAnyH_take (i := 8) (v := ?_) rfl (by kernel_rfl) (by kernel_rfl) (by kernel_rfl) (fun _ _ _ h => h) (Or.inl ⟨by rfl, ?_⟩) hHeld ?_
        rotate_left
        · (intro wz hSw; (try dsimp only at hSw); (try simp only [List.getElem_toArray, List.getElem_cons_succ, List.getElem_cons_zero]); go_simp; try with_reducible rfl)
        try simp only [List.getElem_toArray, List.getElem_cons_succ, List.getElem_cons_zero, Act.put, List.setIfInBounds_toArray, List.set_cons_zero, List.set_cons_succ]
        refine wpAnyH_take (i := 9) (v := ?_) rfl (by kernel_rfl) (by kernel_rfl) (by kernel_rfl) (fun _ _ _ h => h) (Or.inl ⟨by rfl, ?_⟩) hHeld ?_
        rotate_left
        · (intro wz hSw; (try dsimp only at hSw); (try simp only [List.getElem_toArray, List.getElem_cons_succ, List.getElem_cons_zero]); go_simp; try with_reducible rfl)
        try simp only [List.getElem_toArray, List.getElem_cons_succ, List.getElem_cons_zero, Act.put, List.setIfInBounds_toArray, List.set_cons_zero, List.set_cons_succ]
        refine wpAnyH_take (i := 10) (v := ?_) rfl (by kernel_rfl) (by kernel_rfl) (by kernel_rfl) (fun _ _ _ h => h) (Or.inl ⟨by rfl, ?_⟩) hHeld ?_
        rotate_left
        · (intro wz hSw; (try dsimp only at hSw); (try simp only [List.getElem_toArray, List.getElem_cons_succ, List.getElem_cons_zero]); go_simp; try with_reducible rfl)
        try simp only [List.getElem_toArray, List.getElem_cons_succ, List.getElem_cons_zero, Act.put, List.setIfInBounds_toArray, List.set_cons_zero, List.set_cons_succ]
        refine wpAnyH_take (i := 11) (v := ?_) rfl (by kernel_rfl) (by kernel_rfl) (by kernel_rfl) (fun _ _ _ h => h) (Or.inl ⟨by rfl, ?_⟩) hHeld ?_
        rotate_left
        · (intro wz hSw; (try dsimp only at hSw); (try simp only [List.getElem_toArray, List.getElem_cons_succ, List.getElem_cons_zero]); go_simp; try with_reducible rfl)
        try simp only [List.getElem_toArray, List.getElem_cons_succ, List.getElem_cons_zero, Act.put, List.setIfInBounds_toArray, List.set_cons_zero, List.set_cons_succ]
        refine wpAnyH_take (i := 12) (v := ?_) rfl (by kernel_rfl) (by kernel_rfl) (by kernel_rfl) (fun _ _ _ h => h) (Or.inl ⟨by rfl, ?_⟩) hHeld ?_
        rotate_left
        · (intro wz hSw; (try dsimp only at hSw); (try simp only [List.getElem_toArray, List.getElem_cons_succ, List.getElem_cons_zero]); go_simp; try with_reducible rfl)
        try simp only [List.getElem_toArray, List.getElem_cons_succ, List.getElem_cons_zero, Act.put, List.setIfInBounds_toArray, List.set_cons_zero, List.set_cons_succ]
        refine wpAnyH_take (i := 13) (v := ?_) rfl (by kernel_rfl) (by kernel_rfl) (by kernel_rfl) (fun _ _ _ h => h) (Or.inl ⟨by rfl, ?_⟩) hHeld ?_
        rotate_left
        · (intro wz hSw; (try dsimp only at hSw); (try simp only [List.getElem_toArray, List.getElem_cons_succ, List.getElem_cons_zero]); go_simp; try with_reducible rfl)
        try simp only [List.getElem_toArray, List.getElem_cons_succ, List.getElem_cons_zero, Act.put, List.setIfInBounds_toArray, List.set_cons_zero, List.set_cons_succ]
        refine wpAnyH_take (i := 14) (v := ?_) rfl (by kernel_rfl) (by kernel_rfl) (by kernel_rfl) (fun _ _ _ h => h) (Or.inl ⟨by rfl, ?_⟩) hHeld ?_
        rotate_left
        · (intro wz hSw; (try dsimp only at hSw); (try simp only [List.getElem_toArray, List.getElem_cons_succ, List.getElem_cons_zero]); go_simp; try with_reducible rfl)
        try simp only [List.getElem_toArray, List.getElem_cons_succ, List.getElem_cons_zero, Act.put, List.setIfInBounds_toArray, List.set_cons_zero, List.set_cons_succ]
        refine wpAnyH_take (i := 15) (v := ?_) rfl (by kernel_rfl) (by kernel_rfl) (by kernel_rfl) (fun _ _ _ h => h) (Or.inl ⟨by rfl, ?_⟩) hHeld ?_
        rotate_left
        · (intro wz hSw; (try dsimp only at hSw); (try simp only [List.getElem_toArray, List.getElem_cons_succ, List.getElem_cons_zero]); go_simp; try with_reducible rfl)
        try simp only [List.getElem_toArray, List.getElem_cons_succ, List.getElem_cons_zero, Act.put, List.setIfInBounds_toArray, List.set_cons_zero, List.set_cons_succ]
        refine wpAnyH_take (i := 16) (v := ?_) rfl (by kernel_rfl) (by kernel_rfl) (by kernel_rfl) (fun _ _ _ h => h) (Or.inl ⟨by rfl, ?_⟩) hHeld ?_
        rotate_left
        · (intro wz hSw; (try dsimp only at hSw); (try simp only [List.getElem_toArray, List.getElem_cons_succ, List.getElem_cons_zero]); go_simp; try with_reducible rfl)
        try simp only [List.getElem_toArray, List.getElem_cons_succ, List.getElem_cons_zero, Act.put, List.setIfInBounds_toArray, List.set_cons_zero, List.set_cons_succ]
        refine wpAnyH_take (i := 17) (v := ?_) rfl (by kernel_rfl) (by kernel_rfl) (by kernel_rfl) (fun _ _ _ h => h) (Or.inl ⟨by rfl, ?_⟩) hHeld ?_
        rotate_left
        · (intro wz hSw; (try dsimp only at hSw); (try simp only [List.getElem_toArray, List.getElem_cons_succ, List.getElem_cons_zero]); go_simp; try with_reducible rfl)
        try simp only [List.getElem_toArray, List.getElem_cons_succ, List.getElem_cons_zero, Act.put, List.setIfInBounds_toArray, List.set_cons_zero, List.set_cons_succ]
        refine wpAnyH_take (i := 18) (v := ?_) rfl (by kernel_rfl) (by kernel_rfl) (by kernel_rfl) (fun _ _ _ h => h) (Or.inl ⟨by rfl, ?_⟩) hHeld ?_
        rotate_left
        · (intro wz hSw; (try dsimp only at hSw); (try simp only [List.getElem_toArray, List.getElem_cons_succ, List.getElem_cons_zero]); go_simp; try with_reducible rfl)
        try simp only [List.getElem_toArray, List.getElem_cons_succ, List.getElem_cons_zero, Act.put, List.setIfInBounds_toArray, List.set_cons_zero, List.set_cons_succ]
        refine wpAnyH_take (i := 19) (v := ?_) rfl (by kernel_rfl) (by kernel_rfl) (by kernel_rfl) (fun _ _ _ h => h) (Or.inl ⟨by rfl, ?_⟩) hHeld ?_
        rotate_left
        · (intro wz hSw; (try dsimp only at hSw); (try simp only [List.getElem_toArray, List.getElem_cons_succ, List.getElem_cons_zero]); go_simp; try with_reducible rfl)
        try simp only [List.getElem_toArray, List.getElem_cons_succ, List.getElem_cons_zero, Act.put, List.setIfInBounds_toArray, List.set_cons_zero, List.set_cons_succ]
        refine wpAnyH_take (i := 20) (v := ?_) rfl (by kernel_rfl) (by kernel_rfl) (by kernel_rfl) (fun _ _ _ h => h) (Or.inl ⟨by rfl, ?_⟩) hHeld ?_
        rotate_left
        · (intro wz hSw; (try dsimp only at hSw); (try simp only [List.getElem_toArray, List.getElem_cons_succ, List.getElem_cons_zero]); go_simp; try with_reducible rfl)
        try simp only [List.getElem_toArray, List.getElem_cons_succ, List.getElem_cons_zero, Act.put, List.setIfInBounds_toArray, List.set_cons_zero, List.set_cons_succ]
        refine wpAnyH_take (i := 21) (v := ?_) rfl (by kernel_rfl) (by kernel_rfl) (by kernel_rfl) (fun _ _ _ h => h) (Or.inl ⟨by rfl, ?_⟩) hHeld ?_
        rotate_left
        · (intro wz hSw; (try dsimp only at hSw); (try simp only [List.getElem_toArray, List.getElem_cons_succ, List.getElem_cons_zero]); go_simp; try with_reducible rfl)
        try simp only [List.getElem_toArray, List.getElem_cons_succ, List.getElem_cons_zero, Act.put, List.setIfInBounds_toArray, List.set_cons_zero, List.set_cons_succ]
        refine wpAnyH_take (i := 22) (v := ?_) rfl (by kernel_rfl) (by kernel_rfl) (by kernel_rfl) (fun _ _ _ h => h) (Or.inl ⟨by rfl, ?_⟩) hHeld ?_
        rotate_left
        · (intro wz hSw; (try dsimp only at hSw); (try simp only [List.getElem_toArray, List.getElem_cons_succ, List.getElem_cons_zero]); go_simp; try with_reducible rfl)
        try simp only [List.getElem_toArray, List.getElem_cons_succ, List.getElem_cons_zero, Act.put, List.setIfInBounds_toArray, List.set_cons_zero, List.set_cons_succ]
        refine wpAnyH_take (i := 23) (v := ?_) rfl (by kernel_rfl) (by kernel_rfl) (by kernel_rfl) (fun _ _ _ h => h) (Or.inl ⟨by rfl, ?_⟩) hHeld ?_
        rotate_left
        · (intro wz hSw; (try dsimp only at hSw); (try simp only [List.getElem_toArray, List.getElem_cons_succ, List.getElem_cons_zero]); go_simp; try with_reducible rfl)
        try simp only [List.getElem_toArray, List.getElem_cons_succ, List.getElem_cons_zero, Act.put, List.setIfInBounds_toArray, List.set_cons_zero, List.set_cons_succ]
        refine wpAnyH_take (i := 24) (v := ?_) rfl (by kernel_rfl) (by kernel_rfl) (by kernel_rfl) (fun _ _ _ h => h) (Or.inl ⟨by rfl, ?_⟩) hHeld ?_
        rotate_left
        · (intro wz hSw; (try dsimp only at hSw); (try simp only [List.getElem_toArray, List.getElem_cons_succ, List.getElem_cons_zero]); go_simp; try with_reducible rfl)
        try simp only [List.getElem_toArray, List.getElem_cons_succ, List.getElem_cons_zero, Act.put, List.setIfInBounds_toArray, List.set_cons_zero, List.set_cons_succ]
        refine wpAnyH_take (i := 25) (v := ?_) rfl (by kernel_rfl) (by kernel_rfl) (by kernel_rfl) (fun _ _ _ h => h) (Or.inl ⟨by rfl, ?_⟩) hHeld ?_
        rotate_left
        · (intro wz hSw; (try dsimp only at hSw); (try simp only [List.getElem_toArray, List.getElem_cons_succ, List.getElem_cons_zero]); go_simp; try with_reducible rfl)
        try simp only [List.getElem_toArray, List.getElem_cons_succ, List.getElem_cons_zero, Act.put, List.setIfInBounds_toArray, List.set_cons_zero, List.set_cons_succ]
        refine wpAnyH_take (i := 26) (v := ?_) rfl (by kernel_rfl) (by kernel_rfl) (by kernel_rfl) (fun _ _ _ h => h) (Or.inl ⟨by rfl, ?_⟩) hHeld ?_
        rotate_left
        · (intro wz hSw; (try dsimp only at hSw); (try simp only [List.getElem_toArray, List.getElem_cons_succ, List.getElem_cons_zero]); go_simp; try with_reducible rfl)
        try simp only [List.getElem_toArray, List.getElem_cons_succ, List.getElem_cons_zero, Act.put, List.setIfInBounds_toArray, List.set_cons_zero, List.set_cons_succ]
        refine wpAnyH_take (i := 27) (v := ?_) rfl (by kernel_rfl) (by kernel_rfl) (by kernel_rfl) (fun _ _ _ h => h) (Or.inl ⟨by rfl, ?_⟩) hHeld ?_
        rotate_left
        · (intro wz hSw; (try dsimp only at hSw); (try simp only [List.getElem_toArray, List.getElem_cons_succ, List.getElem_cons_zero]); go_simp; try with_reducible rfl)
        try simp only [List.getElem_toArray, List.getElem_cons_succ, List.getElem_cons_zero, Act.put, List.setIfInBounds_toArray, List.set_cons_zero, List.set_cons_succ]
        refine wpAnyH_ready (rs := [28]) (by kernel_rfl) (by simp) ?_; refine AllReadyH.cons rfl (fun K hK => ?_) AllReadyH.nil; (try simp only [List.getElem_toArray, List.getElem_cons_succ, List.getElem_cons_zero]); go_simp
        refine (less_any a b c d _).mono ?_; rintro e wa ⟨rfl, hbX⟩; rw [HL.out]; have hkX := (h0.trans (hbX.mono (by simp)))
        refine hK.out _ _ (HK.out _ hkX) (fun hHeld' => ?_)
        clear hK K hHeld; have hHeld := hHeld'; clear hHeld'
        try simp only [List.getElem_toArray, List.getElem_cons_succ, List.getElem_cons_zero, Act.put, List.setIfInBounds_toArray, List.set_cons_zero, List.set_cons_succ]
        refine wpAnyH_take (i := 29) (v := ?_) rfl (by kernel_rfl) (by kernel_rfl) (by kernel_rfl) (fun _ _ _ h => h) (Or.inl ⟨by rfl, ?_⟩) hHeld ?_
        rotate_left
        · (intro wz hSw; (try dsimp only at hSw); (try simp only [List.getElem_toArray, List.getElem_cons_succ, List.getElem_cons_zero]); go_simp; try with_reducible rfl)
        try simp only [List.getElem_toArray, List.getElem_cons_succ, List.getElem_cons_zero, Act.put, List.setIfInBounds_toArray, List.set_cons_zero, List.set_cons_succ]
        refine wpAnyH_take (i := 30) (v := ?_) rfl (by kernel_rfl) (by kernel_rfl) (by kernel_rfl) (fun _ _ _ h => h) (Or.inl ⟨by rfl, ?_⟩) hHeld ?_
        rotate_left
        · (intro wz hSw; (try dsimp only at hSw); (try simp only [List.getElem_toArray, List.getElem_cons_succ, List.getElem_cons_zero]); go_simp; try with_reducible rfl)
        try simp only [List.getElem_toArray, List.getElem_cons_succ, List.getElem_cons_zero, Act.put, List.setIfInBounds_toArray, List.set_cons_zero, List.set_cons_succ]
        refine wpAnyH_take (i := 31) (v := ?_) rfl (by kernel_rfl) (by kernel_rfl) (by kernel_rfl) (fun _ _ _ h => h) (Or.inl ⟨by rfl, ?_⟩) hHeld ?_
        rotate_left
        · (intro wz hSw; (try dsimp only at hSw); (try simp only [List.getElem_toArray, List.getElem_cons_succ, List.getElem_cons_zero]); go_simp; try with_reducible rfl)
        try simp only [List.getElem_toArray, List.getElem_cons_succ, List.getElem_cons_zero, Act.put, List.setIfInBounds_toArray, List.set_cons_zero, List.set_cons_succ]
        refine wpAnyH_take (i := 32) (v := ?_) rfl (by kernel_rfl) (by kernel_rfl) (by kernel_rfl) (fun _ _ _ h => h) (Or.inl ⟨by rfl, ?_⟩) hHeld ?_
        rotate_left
        · (intro wz hSw; (try dsimp only at hSw); (try simp only [List.getElem_toArray, List.getElem_cons_succ, List.getElem_cons_zero]); go_simp; try with_reducible rfl)
        try simp only [List.getElem_toArray, List.getElem_cons_succ, List.getElem_cons_zero, Act.put, List.setIfInBounds_toArray, List.set_cons_zero, List.set_cons_succ]
        refine wpAnyH_take (i := 33) (v := ?_) rfl (by kernel_rfl) (by kernel_rfl) (by kernel_rfl) (fun _ _ _ h => h) (Or.inl ⟨by rfl, ?_⟩) hHeld ?_
        rotate_left
        · (intro wz hSw; (try dsimp only at hSw); (try simp only [List.getElem_toArray, List.getElem_cons_succ, List.getElem_cons_zero]); go_simp; try with_reducible rfl)
        try simp only [List.getElem_toArray, List.getElem_cons_succ, List.getElem_cons_zero, Act.put, List.setIfInBounds_toArray, List.set_cons_zero, List.set_cons_succ]
        refine wpAnyH_take (i := 34) (v := ?_) rfl (by kernel_rfl) (by kernel_rfl) (by kernel_rfl) (fun _ _ _ h => h) (Or.inl ⟨by rfl, ?_⟩) hHeld ?_
        rotate_left
        · (intro wz hSw; (try dsimp only at hSw); (try simp only [List.getElem_toArray, List.getElem_cons_succ, List.getElem_cons_zero]); go_simp; try with_reducible rfl)
        try simp only [List.getElem_toArray, List.getElem_cons_succ, List.getElem_cons_zero, Act.put, List.setIfInBounds_toArray, List.set_cons_zero, List.set_cons_succ]
        refine wpAnyH_ready (rs := [35]) (by kernel_rfl) (by simp) ?_; refine AllReadyH.cons rfl (fun K hK => ?_) AllReadyH.nil; (try simp only [List.getElem_toArray, List.getElem_cons_succ, List.getElem_cons_zero]); go_simp
        refine (refBytes_any a b _ ha.1 ha.2 hb'.1 hb'.2).mono ?_; rintro e wb ⟨vb, rfl, hY, hbY⟩; have hkY := (hkX.trans (hbY.mono hkX.size)); have kv := KS.out _ _ _ hY
        refine hK.out _ _ (HK.out _ hkY) (fun hHeld' => ?_)
        clear hK K hHeld; have hHeld := hHeld'; clear hHeld'
        try simp only [List.getElem_toArray, List.getElem_cons_succ, List.getElem_cons_zero, Act.put, List.setIfInBounds_toArray, List.set_cons_zero, List.set_cons_succ]
        refine wpAnyH_ready (rs := [36]) (by kernel_rfl) (by simp) ?_; refine AllReadyH.cons rfl (fun K hK => ?_) AllReadyH.nil; (try simp only [List.getElem_toArray, List.getElem_cons_succ, List.getElem_cons_zero]); go_simp
        refine hK.out _ _ (HK.out _ hkY) (fun hHeld' => ?_)
        clear hK K hHeld; have hHeld := hHeld'; clear hHeld'
        try simp only [List.getElem_toArray, List.getElem_cons_succ, List.getElem_cons_zero, Act.put, List.setIfInBounds_toArray, List.set_cons_zero, List.set_cons_succ]
        refine wpAnyH_take (i := 37) (v := ?_) rfl (by kernel_rfl) (by kernel_rfl) (by kernel_rfl) (fun _ _ _ h => h) (Or.inl ⟨by rfl, ?_⟩) hHeld ?_
        rotate_left
        · (intro wz hSw; (try dsimp only at hSw); (try simp only [List.getElem_toArray, List.getElem_cons_succ, List.getElem_cons_zero]); go_simp; try with_reducible rfl)
        try simp only [List.getElem_toArray, List.getElem_cons_succ, List.getElem_cons_zero, Act.put, List.setIfInBounds_toArray, List.set_cons_zero, List.set_cons_succ]
        refine wpAnyH_take (i := 38) (v := ?_) rfl (by kernel_rfl) (by kernel_rfl) (by kernel_rfl) (fun _ _ _ h => h) (Or.inl ⟨by rfl, ?_⟩) hHeld ?_
        rotate_left
        · (intro wz hSw; (try dsimp only at hSw); (try simp only [List.getElem_toArray, List.getElem_cons_succ, List.getElem_cons_zero]); go_simp; try with_reducible rfl)
        try simp only [List.getElem_toArray, List.getElem_cons_succ, List.getElem_cons_zero, Act.put, List.setIfInBounds_toArray, List.set_cons_zero, List.set_cons_succ]
        refine wpAnyH_take (i := 39) (v := ?_) rfl (by kernel_rfl) (by kernel_rfl) (by kernel_rfl) (fun _ _ _ h => h) (Or.inl ⟨by rfl, ?_⟩) hHeld ?_
        rotate_left
        · (intro wz hSw; (try dsimp only at hSw); (try simp only [List.getElem_toArray, List.getElem_cons_succ, List.getElem_cons_zero]); go_simp; try with_reducible rfl)
        try simp only [List.getElem_toArray, List.getElem_cons_succ, List.getElem_cons_zero, Act.put, List.setIfInBounds_toArray, List.set_cons_zero, List.set_cons_succ]
        refine wpAnyH_done (by kernel_rfl) ?_ _
        go_wp2_with fail
        go_meet
        exact ⟨rfl, hkY⟩
      case rest =>
        obtain ⟨rfl, hbe⟩ := hcut
        go_wp2_with fail
        go_ret
        exact ⟨rfl, BW.out.trans (hbe.mono BW.out.size)⟩


set_option maxRecDepth 100000 in
theorem stBytes_lifted (os : Os) (started : os.Started) (H : Type) (enc : TypeId × Value → H) :
    ReturnsInHanded {} Try.checked os 9 .any (Rows.stampBytesSpec.pre6 enc Try.prog Try.f9 Rows.stampBytesRow.domain false) (Rows.stampBytesSpec.post enc Try.prog Try.f9 false true false false) := by
  refine lift_law (C := Try.checked) (tb := 4) (by kernel_rfl) started (by kernel_rfl) Try.func9 (ChangeSpec.witness6 (enc := enc) (C := Try.checked) false ⟨#[], #[.agg #[.int .i64 0, .int .i64 0], .agg #[.int .i64 0, .int .i64 0], .slice none 0 0], []⟩ 8 (by kernel_rfl) (by kernel_rfl) (by kernel_rfl) (by kernel_rfl)) (by kernel_rfl) (by kernel_rfl) rfl Try.underlying4 rfl ?_ ?_
  · intro ds h
    match ds, h with
    | [_, _, _], _ => rfl
  · intro W base args ds ps hval0 hA0 hlt hsz
    have hval : ∀ (j : Nat) t v, Try.f9.params[j]? = some t → args[j]? = some v → Value.okWide Try.prog W .any base t v := hval0
    have hA : DataW.TrodAll enc Try.prog W 0 (fun _ => true) true Try.f9.params.toList args.toList ds ps := hA0
    rw [Try.params9] at hA hval
    obtain ⟨v0, v1, v2, d0, d1, d2, p0, p1, p2, rfl, rfl, rfl, h0, h1, h2⟩ := trodAll_three hA
    obtain ⟨a, b, rfl, wa, wb⟩ := open_stamp (hval 0 40 v0 rfl rfl) h0
    obtain ⟨c, d, rfl, wc, wd⟩ := open_stamp (hval 1 40 v1 rfl rfl) h1
    obtain ⟨xs, hs, hw⟩ := open_nums Try.underlying45 Try.underlying5 (by kernel_rfl) (hval 2 45 v2 rfl rfl) h2
    exact bytes_walk a b c d v2 xs (wf_i64 wa) (wf_i64 wb) (wf_i64 wc) (wf_i64 wd) (fun x hm => wf_u8 (hw x hm)) W hs

theorem stBytes_holds : Rows.StampBytesSaid :=
  OpenClaim.holds_of_wide 9 Try.f9 rfl rfl rfl rfl rfl rfl rfl ⟨rfl, rfl, rfl, rfl, rfl⟩ rfl rfl rfl rfl rfl (by kernel_rfl) Try.func9 (by kernel_rfl)
    (of_decide_eq_true (by kernel_rfl)) (by unfold Func.isWrapper; first | (rw [if_pos (by decide +kernel)]; kernel_rfl) | (rw [if_neg (by decide +kernel)]; exact ⟨rfl, rfl⟩))
    (fun os started H enc _ => stBytes_lifted os started H enc)
#print axioms stBytes_holds

end Go.Proofs.Ytmdeegbbclcloaa
