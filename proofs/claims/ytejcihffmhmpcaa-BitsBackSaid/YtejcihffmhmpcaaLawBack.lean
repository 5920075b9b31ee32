/- BitsBack: for any bytes and numbers: what was written is read, whatever stands behind it; signs and orders are laid aside and back; no condition. -/
import Derived.Test.YtejcihffmhmpcaaTakeT
import Derived.Test.YtejcihffmhmpcaaBits
import Derived.Test.YtejcihffmhmpcaaFrame
import Derived.Test.YtejcihffmhmpcaaCalm
import Derived.Test.YtejcihffmhmpcaaRows
namespace Go.Proofs.Ytejcihffmhmpcaa
open Go.ChangeShapes Go.WideShapes Go.ChangeAt Go.RowKit

theorem own_below {B : Nat} {w w' : World} {base : Nat} {e : TypeId} {size : Nat} {v : Value} {n : Nat} {xs : List Value} (h : w.ownsRow base e size v n xs) (hb : Below B w w') (hB : w.heap.size ≤ B) : w'.ownsRow base e size v n xs :=
  h.kept (row := none) ⟨hb.os, hb.tape, hb.output, hb.size, fun k hk _ => hb.block k (by omega)⟩ (by cases v.ownBlock <;> simp)
theorem wf_u8 {n : Int} (h : (Lit.int .u8 n).wf = true) : 0 ≤ n ∧ n ≤ 255 := by
  have h1 : IntKind.u8.min = 0 := rfl
  have h2 : IntKind.u8.max = 255 := rfl
  simp only [Lit.wf, Bool.and_eq_true, decide_eq_true_eq] at h; omega
theorem wf_i64 {n : Int} (h : (Lit.int .i64 n).wf = true) : -9223372036854775808 ≤ n ∧ n ≤ 9223372036854775807 := by
  have h1 : IntKind.i64.min = -9223372036854775808 := rfl
  have h2 : IntKind.i64.max = 9223372036854775807 := rfl
  simp only [Lit.wf, Bool.and_eq_true, decide_eq_true_eq] at h; omega
theorem wf_u64 {n : Int} (h : (Lit.int .u64 n).wf = true) : 0 ≤ n ∧ n ≤ 18446744073709551615 := by
  have h1 : IntKind.u64.min = 0 := rfl
  have h2 : IntKind.u64.max = 18446744073709551615 := rfl
  simp only [Lit.wf, Bool.and_eq_true, decide_eq_true_eq] at h; omega
theorem nil_sl (w : World) : Sl 0 w (.slice none 0 0) 1 ([] : List Int).length (byt []) := ⟨rfl, .inl ⟨rfl, rfl⟩⟩
theorem own_some {w : World} {base n : Nat} {e : TypeId} {v : Value} {xs : List Value} (h : w.ownsRow base e 1 v n xs) (hn : 0 < n) : ∃ g cap, v = .slice (some ⟨g, 0, none⟩) n cap ∧ base ≤ g ∧ n ≤ cap := by
  rcases h.2 with ⟨_, h⟩ | ⟨g, cap, cur, rfl, hb, _, hc, _⟩
  · omega
  · exact ⟨g, cap, rfl, hb, hc⟩
theorem textR_back (ys rest : List Int) (h : ys.length ≤ 16384) : textR (varN ys.length ++ ys ++ rest) = (ys, ((varN ys.length ++ ys).length : Int), 0) := by
  have e : takeV (varN ys.length ++ ys ++ rest) = (((ys.length : Nat) : Int), ((varN ys.length).length : Int), 0) := by
    rw [List.append_assoc]; exact takeV_var ys.length (by omega) (ys ++ rest)
  rw [textR_eq _ e, if_neg (by decide), if_neg (by omega), if_neg (by simp only [List.length_append]; omega)]
  refine Prod.ext ?_ (Prod.ext ?_ rfl)
  · show List.take _ (List.drop _ _) = ys
    rw [Int.toNat_natCast, Int.toNat_natCast, List.append_assoc, List.drop_left' rfl, List.take_left' rfl]
  · show ((varN ys.length).length : Int) + (ys.length : Int) = ((varN ys.length ++ ys).length : Int)
    rw [List.length_append]; omega
theorem zag_zig (z : Int) (h0 : -9223372036854775808 ≤ z) (h1 : z ≤ 9223372036854775807) : zagI (zigI z) = z ∧ 0 ≤ zigI z ∧ zigI z ≤ 18446744073709551615 := by
  unfold zagI zigI; (repeat' split) <;> omega
theorem zig_zag (u : Int) (h0 : 0 ≤ u) (h1 : u ≤ 18446744073709551615) : zigI (zagI u) = u ∧ -9223372036854775808 ≤ zagI u ∧ zagI u ≤ 9223372036854775807 := by
  unfold zagI zigI; (repeat' split) <;> omega
theorem back_order (z : Int) (h0 : -9223372036854775808 ≤ z) (h1 : z ≤ 9223372036854775807) : backI (orderI z) = z ∧ 0 ≤ orderI z ∧ orderI z ≤ 18446744073709551615 := by
  unfold backI orderI; (repeat' split) <;> omega
theorem order_back (u : Int) (h0 : 0 ≤ u) (h1 : u ≤ 18446744073709551615) : orderI (backI u) = u ∧ -9223372036854775808 ≤ backI u ∧ backI u ≤ 9223372036854775807 := by
  unfold backI orderI; (repeat' split) <;> omega

set_option maxRecDepth 100000 in
set_option maxHeartbeats 8000000 in
theorem back_walk (sv rv : Value) (x z : Int) (ys rs : List Int) (hy : ∀ y ∈ ys, 0 ≤ y ∧ y ≤ 255) (hr : ∀ y ∈ rs, 0 ≤ y ∧ y ≤ 255) (w : World) (x0 : 0 ≤ x) (x1 : x ≤ 18446744073709551615) (z0 : -9223372036854775808 ≤ z) (z1 : z ≤ 9223372036854775807)
    (hs : Sl w.heap.size w sv 1 ys.length (byt ys)) (hu : Sl w.heap.size w rv 1 rs.length (byt rs)) :
    Calls Try.prog 9 #[sv, rv, .int .u64 x, .int .i64 z] w fun r w' => r = .returned (.bool true) ∧ Below w.heap.size w w' := by
  obtain ⟨i0, hi, hz0, hz1, hz2⟩ := info_parts Try.infoU8
  have HS := Lib.hid hs
  have HU := Lib.hid hu
  have HY := Lib.hid hy
  have HRR := Lib.hid hr
  obtain ⟨pa, ca, rfl, h1, h2, -, -⟩ := hs.form
  obtain ⟨pb, cb, rfl, g1, g2, -, -⟩ := hu.form
  unfold maxLen at h2 g2
  clear hs hu hy hr
  by_cases hl : 16384 < ys.length
  · go_enter Try.func9, Try.ntmps9
    go_wp2_with fail
    refine (begun_any _).mono ?_; rintro r w1 ⟨rfl, hb⟩
    go_wp2_with fail
    go_ret
    exact ⟨rfl, hb⟩
  by_cases hl2 : 16384 < rs.length
  · go_enter Try.func9, Try.ntmps9
    go_wp2_with fail
    refine (begun_any _).mono ?_; rintro r w1 ⟨rfl, hb⟩
    go_wp2_with fail
    go_ret
    exact ⟨rfl, hb⟩
  obtain ⟨zz0, zz1, zz2⟩ := zag_zig z z0 z1
  obtain ⟨zx0, zx1, zx2⟩ := zig_zag x x0 x1
  obtain ⟨oz0, oz1, oz2⟩ := back_order z z0 z1
  obtain ⟨ox0, ox1, ox2⟩ := order_back x x0 x1
  have ZZ := Lib.hid zz0; have ZX := Lib.hid zx0; have OZ := Lib.hid oz0; have OX := Lib.hid ox0
  obtain ⟨l0, l1⟩ := varN_len 10 x.toNat (by have : 128 ^ 10 = 1180591620717411303424 := (by decide); omega) (by omega)
  obtain ⟨m0, m1⟩ := varN_len 10 ys.length (by have : 128 ^ 10 = 1180591620717411303424 := (by decide); omega) (by omega)
  clear zz0 zx0 oz0 ox0
  go_enter Try.func9, Try.ntmps9
  go_wp2_with fail
  refine (begun_any _).mono ?_; rintro r w1 ⟨rfl, hb1⟩
  go_wp2_with fail
  refine (var_any 0 _ [] x _ (nil_sl _) (Nat.zero_le _) (by decide) x0 x1).mono ?_; rintro r w2 ⟨v2, rfl, oc, hb2⟩
  rw [List.nil_append] at oc
  obtain ⟨gc, cc, rfl, hgc, hcc⟩ := own_some oc l0
  replace hb2 := hb1.trans (hb2.mono hb1.size)
  have hs12 := hb1.size
  have HU2 := Lib.hid (HU.out.keep hb2)
  have hs2 := hb2.size
  obtain ⟨n, hn⟩ : ∃ n, (varN x.toNat).length = n := ⟨_, rfl⟩
  rw [hn] at oc hcc l0 l1 ⊢
  have TV := takeV_var x.toNat (by omega) rs
  rw [hn, Int.toNat_of_nonneg x0] at TV
  have TVH := Lib.hid TV
  have HN := Lib.hid hn
  clear hb1 TV hn
  go_wp2_with (at_builtin; refine wpList_append_sl rfl (.tmp 34) (.tmp 35) 27 rfl w1.heap.size 5 i0 (.int .u8 0) 1 1 Try.underlying27 hi hz0 hz1 hz2 rfl (by decide) _ n (byt (varN x.toNat)) rfl oc w.heap.size _ rs.length (byt rs) rfl HU2.out (byt_one _) ?d1 ?d2 ?d3 ?_)
  case d1 => unfold maxLen; omega
  case d2 => omega
  case d3 => have := (oc.lt gc rfl).2; omega
  intro v3 w3 oc3 gr3
  have hb3 : Below w.heap.size w w3 := hb2.grown gr3 hs2 (fun k hk => Nat.le_trans hs12 (oc.lt k hk).1)
  rw [byt_app] at oc3
  have S3 : Sl w3.heap.size w3 v3 1 (n + rs.length) (byt (varN x.toNat ++ rs)) := Sl.of_own oc3
  have TK := Lib.hid (takeVar_any _ v3 (varN x.toNat ++ rs) (fun y hm => (List.mem_append.1 hm).elim (varN_bd _ y) (HRR.out y)) w3 (by rw [List.length_append, HN.out]; exact S3))
  rw [TVH.out] at TK
  have hs3 := hb3.size
  obtain ⟨p3, c3, rfl, -, -, -, -⟩ := S3.form
  clear oc3 gr3 oc hb2 HU2 S3 TVH HN
  go_wp2_with fail
  refine TK.out.mono ?_; rintro r w' ⟨rfl, rfl⟩
  have HS3 := HS.out.keep hb3
  have TX := Lib.hid (text_any w.heap.size _ _ [] ys w3 ((nil_sl w3).mono (Nat.zero_le _)) HS3 hs3 (by simp only [List.length_nil]; omega))
  clear TK HS3
  go_wp2_with fail
  refine TX.out.mono ?_; rintro r w4 ⟨v4, rfl, od, hb4⟩
  rw [List.nil_append] at od
  have hlen4 : (varN ys.length ++ ys).length = (varN ys.length).length + ys.length := List.length_append
  obtain ⟨gd, cd, rfl, hgd, hcd⟩ := own_some od (by omega)
  replace hb4 := hb3.trans (hb4.mono hs3)
  have hs4 := hb4.size
  have HU4 := Lib.hid (HU.out.keep hb4)
  obtain ⟨m, hm⟩ : ∃ m, (varN ys.length ++ ys).length = m := ⟨_, rfl⟩
  have RB := textR_back ys rs (by omega)
  rw [hm] at od hcd hlen4 RB ⊢
  have HM := Lib.hid hm
  have RBH := Lib.hid RB
  have hm1 : 1 ≤ m := by omega
  have hm2 : m ≤ 16394 := by omega
  clear TX hm hb3 RB hlen4
  go_wp2_with (at_builtin; refine wpList_append_sl rfl (.tmp 46) (.tmp 47) 27 rfl w3.heap.size 5 i0 (.int .u8 0) 1 1 Try.underlying27 hi hz0 hz1 hz2 rfl (by decide) _ m (byt (varN ys.length ++ ys)) rfl od w.heap.size _ rs.length (byt rs) rfl HU4.out (byt_one _) ?e1 ?e2 ?e3 ?_)
  case e1 => unfold maxLen; omega
  case e2 => omega
  case e3 => have := (od.lt gd rfl).2; omega
  intro v5 w5 od5 gr5
  have hb5 : Below w.heap.size w w5 := hb4.grown gr5 hs4 (fun k hk => Nat.le_trans hs3 (od.lt k hk).1)
  rw [byt_app] at od5
  have S5 : Sl w5.heap.size w5 v5 1 (m + rs.length) (byt (varN ys.length ++ ys ++ rs)) := Sl.of_own od5
  have TT := Lib.hid (takeText_any _ v5 (varN ys.length ++ ys ++ rs) (fun y hm => (List.mem_append.1 hm).elim (fun h => (List.mem_append.1 h).elim (varN_bd _ y) (HY.out y)) (HRR.out y)) w5 (by rw [List.length_append, HM.out]; exact S5) (Nat.le_refl _) (by rw [List.length_append, HM.out]; omega))
  rw [RBH.out] at TT
  have hs5 := hb5.size
  obtain ⟨p5, c5, rfl, -, -, -, -⟩ := S5.form
  clear od5 gr5 od hb4 HU4 S5 RBH HM
  go_wp2_with fail
  refine TT.out.mono ?_; rintro r w6 ⟨v6, rfl, ot, hb6⟩
  replace hb6 := hb5.trans (hb6.mono hs5)
  obtain ⟨s, hstr⟩ : ∃ s, strOfNums ys = s := ⟨_, rfl⟩
  have k1 := run_convert_sl (P := Try.prog) (Sl.of_own ot) 27 5 Try.underlying27 Try.underlying5 9 Try.underlying9
  have k2 := run_convert_sl (P := Try.prog) (HS.out.keep hb6) 27 5 Try.underlying27 Try.underlying5 9 Try.underlying9
  rw [hstr] at k1 k2
  have HB6 := Lib.hid hb6
  clear TT ot hb5 hb6 hstr
  go_wp2_with fail
  refine (zig_any _ _ z0 z1).mono ?_; rintro r w' ⟨rfl, rfl⟩
  go_wp2_with fail
  refine (zag_any _ _ zz1 zz2).mono ?_; rintro r w' ⟨rfl, rfl⟩; rw [ZZ.out]
  go_wp2_with fail
  refine (zag_any _ _ x0 x1).mono ?_; rintro r w' ⟨rfl, rfl⟩
  go_wp2_with fail
  refine (zig_any _ _ zx1 zx2).mono ?_; rintro r w' ⟨rfl, rfl⟩; rw [ZX.out]
  go_wp2_with fail
  refine (order_any _ _ z0 z1).mono ?_; rintro r w' ⟨rfl, rfl⟩
  go_wp2_with fail
  refine (back_any _ _ oz1 oz2).mono ?_; rintro r w' ⟨rfl, rfl⟩; rw [OZ.out]
  go_wp2_with fail
  refine (back_any _ _ x0 x1).mono ?_; rintro r w' ⟨rfl, rfl⟩
  go_wp2_with fail
  refine (order_any _ _ ox1 ox2).mono ?_; rintro r w' ⟨rfl, rfl⟩; rw [OX.out]
  go_wp2_with fail
  go_ret
  exact ⟨rfl, HB6.out⟩


set_option maxRecDepth 100000 in
theorem bback_lifted (os : Os) (started : os.Started) (H : Type) (enc : TypeId × Value → H) :
    ReturnsInHanded {} Try.checked os 9 .any (Rows.bitsBackSpec.pre6 enc Try.prog Try.f9 Rows.bitsBackRow.domain false) (Rows.bitsBackSpec.post enc Try.prog Try.f9 false true false false) := by
  refine lift_law (C := Try.checked) (tb := 4) (by kernel_rfl) started (by kernel_rfl) Try.func9 (ChangeSpec.witness6 (enc := enc) (C := Try.checked) false ⟨#[], #[.slice none 0 0, .slice none 0 0, .int .u64 0, .int .i64 0], []⟩ 8 (by kernel_rfl) (by kernel_rfl) (by kernel_rfl) (by kernel_rfl)) (by kernel_rfl) (by kernel_rfl) rfl Try.underlying4 rfl ?_ ?_
  · intro ds h
    match ds, h with
    | [_, _, _, _], _ => rfl
  · intro W base args ds ps hval0 hA0 hlt hsz
    have hval : ∀ (j : Nat) t v, Try.f9.params[j]? = some t → args[j]? = some v → Value.okWide Try.prog W .any base t v := hval0
    have hA : DataW.TrodAll enc Try.prog W 0 (fun _ => true) true Try.f9.params.toList args.toList ds ps := hA0
    rw [Try.params9] at hA hval
    obtain ⟨v0, v1, v2, v3, d0, d1, d2, d3, p0, p1, p2, p3, rfl, rfl, rfl, h0, h1, h2, h3⟩ := trodAll_four hA
    obtain ⟨ys, hs, hw⟩ := open_nums Try.underlying27 Try.underlying5 (by kernel_rfl) (hval 0 27 v0 rfl rfl) h0
    obtain ⟨rs, hu, hw2⟩ := open_nums Try.underlying27 Try.underlying5 (by kernel_rfl) (hval 1 27 v1 rfl rfl) h1
    obtain ⟨x, rfl, rfl, rfl, wx⟩ := open_int Try.underlying22 (hval 2 22 v2 rfl rfl) h2
    obtain ⟨z, rfl, rfl, rfl, wz⟩ := open_int Try.underlying2 (hval 3 2 v3 rfl rfl) h3
    exact back_walk v0 v1 x z ys rs (fun y hm => wf_u8 (hw y hm)) (fun y hm => wf_u8 (hw2 y hm)) W (wf_u64 wx).1 (wf_u64 wx).2 (wf_i64 wz).1 (wf_i64 wz).2 hs hu

theorem bback_holds : Rows.BitsBackSaid :=
  OpenClaim.holds_of_wide 9 Try.f9 rfl rfl rfl rfl rfl rfl rfl ⟨rfl, rfl, rfl, rfl, rfl⟩ rfl rfl rfl rfl rfl (by kernel_rfl) Try.func9 (by kernel_rfl)
    (of_decide_eq_true (by kernel_rfl)) (by unfold Func.isWrapper; first | (rw [if_pos (by decide +kernel)]; kernel_rfl) | (rw [if_neg (by decide +kernel)]; exact ⟨rfl, rfl⟩))
    (fun os started H enc _ => bback_lifted os started H enc)
#print axioms bback_holds

end Go.Proofs.Ytejcihffmhmpcaa
