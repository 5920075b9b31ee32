/- script: slices compared, events compared. -/
import Derived.Test.YtihkkoldjllifaaScriptG
namespace Go.Proofs.Ytihkkoldjllifaa
open Go.ChangeShapes Go.WideShapes Go.ChangeAt Go.RowKit

set_option maxRecDepth 100000 in
set_option maxHeartbeats 4000000 in
theorem equal_any (xs ys : List Int) (p q : Option Addr) (c d : Nat) (w : World) (hlen : xs.length ≤ 1000000) (hlen2 : ys.length ≤ maxLen) (ha : NumsAt w p xs) (hb : NumsAt w q ys) :
    Calls Try.prog 76 #[.slice p xs.length c, .slice q ys.length d] w fun r w' => r = .returned (.bool (decide (xs = ys))) ∧ Below w.heap.size w w' := by
  have HA0 := Lib.hid ha; have HB0 := Lib.hid hb
  unfold maxLen at hlen2
  clear ha hb
  by_cases h : ys.length = xs.length
  · have hne : (xs.length != ys.length) = false := by simp [h]
    have hne2 : ((xs.length : Int) != (ys.length : Int)) = false := by simp [h]
    have hll : ys.length ≤ xs.length ∧ xs.length ≤ ys.length := by omega
    obtain ⟨hl1, hl2⟩ := hll
    clear h
    go_enter Try.func76, Try.ntmps76
    go_upto_region 4 with fail
    obtain ⟨U, f, hU, hf, hg⟩ := calm_class (w); obtain ⟨u0, hu0⟩ := hg _ (Below.refl _ _); rw [hu0]; clear hu0
    have HBF : Hid (∀ u, Below w.heap.size w (f u)) := hf
    have HNA : Hid (∀ u, NumsAt (f u) p xs) := fun u => HA0.out.keep (HBF.out u) (Nat.le_refl _)
    have HNB : Hid (∀ u, NumsAt (f u) q ys) := fun u => HB0.out.keep (HBF.out u) (Nat.le_refl _)
    go_wp2_with fail
    go_loopw [13] (fun i wr => ∃ k : Nat, k ≤ xs.length ∧ i = .int .i64 k ∧ Hid (xs.take k = ys.take k) ∧ ∃ u, wr = f u) (fun i _ => xs.length - (intOf i).toNat)
    case atStart => exact ⟨0, Nat.zero_le _, rfl, rfl, _, rfl⟩
    case round =>
      obtain ⟨k, hk, rfl, HT, u, rfl⟩ := hrel
      by_cases hlt : k < xs.length
      · have hlt' : k < ys.length := by omega
        obtain ⟨ga, oa, hpa, -, hca⟩ := HNA.out u k hlt
        obtain ⟨gb, ob, hpb, -, hcb⟩ := HNB.out u k hlt'
        obtain ⟨y, hy⟩ : ∃ y, xs[k] = y := ⟨_, rfl⟩
        obtain ⟨z, hz⟩ : ∃ z, ys[k] = z := ⟨_, rfl⟩
        have hua : ∀ u, (f u).cell? ⟨ga, oa + k, none⟩ = some (.int .i64 y) := fun u => by
          obtain ⟨g', o', e, -, h'⟩ := HNA.out u k hlt
          have := hpa.symm.trans e
          simp only [Option.some.injEq, Addr.mk.injEq, and_true] at this
          obtain ⟨rfl, rfl⟩ := this; rw [← hy]; exact h'
        have hub : ∀ u, (f u).cell? ⟨gb, ob + k, none⟩ = some (.int .i64 z) := fun u => by
          obtain ⟨g', o', e, -, h'⟩ := HNB.out u k hlt'
          have := hpb.symm.trans e
          simp only [Option.some.injEq, Addr.mk.injEq, and_true] at this
          obtain ⟨rfl, rfl⟩ := this; rw [← hz]; exact h'
        have hd1 : decide ((k : Int) < (xs.length : Int)) = true := by simp; omega
        have hd2 : decide ((k : Int) < (ys.length : Int)) = true := by simp; omega
        by_cases hyz : y = z
        · subst hyz
          have HT' : Hid (xs.take (k + 1) = ys.take (k + 1)) := take_next HT.out hlt hlt' (by rw [hy, hz])
          clear hca hcb hy hz
          subst hpa; subst hpb
          go_wp2_with fail
          refine wp_region_calm f (by kernel_rfl) (by kernel_rfl) (calm_drew hf hg _) ?_
          repeat (go_big_quiet_step ((first | fail)))
          refine wpQuiet_nil ?_; rintro _ ⟨u, rfl⟩
          go_wp2_with fail
          go_roundw
          case rel => exact ⟨k + 1, by omega, by go_num, HT', _, rfl⟩
          case measure => simp [intOf]; omega
        · have HN : Hid (decide (xs = ys) = false) := by
            show _ = _; rw [decide_eq_false_iff_not]; intro e; subst e; rw [hy] at hz; exact hyz hz
          have hq : (y != z) = true := by simpa using hyz
          clear hca hcb hy hz hyz
          subst hpa; subst hpb
          go_wp2_with fail
          refine wp_region_calm f (by kernel_rfl) (by kernel_rfl) (calm_drew hf hg _) ?_
          repeat (go_big_quiet_step ((first | fail)))
          refine wpQuiet_nil ?_; rintro _ ⟨u, rfl⟩
          go_wp2_with fail
          go_ret
          exact ⟨ret_boolS HN.out.symm, HBF.out _⟩
      · obtain rfl : k = xs.length := by omega
        have HN : Hid (decide (xs = ys) = true) := by
          show _ = _; rw [decide_eq_true_iff]
          have := HT.out
          rw [List.take_of_length_le (Nat.le_refl _), List.take_of_length_le (by omega)] at this; exact this
        go_wp2_with fail
        go_ret
        exact ⟨ret_boolS HN.out.symm, HBF.out _⟩
  · have hne : (xs.length != ys.length) = true := by simp; omega
    have hne2 : ((xs.length : Int) != (ys.length : Int)) = true := by simp; omega
    have HN : Hid (decide (xs = ys) = false) := by
      show _ = _; rw [decide_eq_false_iff_not]; intro e; rw [e] at h; exact h rfl
    clear h
    go_enter Try.func76, Try.ntmps76
    go_wp2_with fail
    go_ret
    exact ⟨ret_boolS HN.out.symm, Below.refl _ _⟩
section
variable (ak an ai aw : Int) (at' : ByteArray) (aks : List Int) (av ax al ae ac : Int) (bk bn bi bw : Int) (bt : ByteArray) (bks : List Int) (bv bx bl be bc : Int) (p q : Option Addr) (c d : Nat)
set_option maxRecDepth 100000 in
set_option maxHeartbeats 4000000 in
theorem sameS_no (w : World) (h : ak ≠ bk ∨ an ≠ bn ∨ ai ≠ bi ∨ aw ≠ bw ∨ at' ≠ bt ∨ ¬ (av = bv ∧ ax = bx ∧ al = bl ∧ ae = be ∧ ac = bc)) :
    Calls Try.prog 66 #[.agg #[.int .i64 ak, .int .i64 an, .int .i64 ai, .int .i64 aw, .string at', .slice p aks.length c, .int .u16 av, .int .u16 ax, .int .u16 al, .int .i64 ae, .int .i64 ac], .agg #[.int .i64 bk, .int .i64 bn, .int .i64 bi, .int .i64 bw, .string bt, .slice q bks.length d, .int .u16 bv, .int .u16 bx, .int .u16 bl, .int .i64 be, .int .i64 bc]] w fun r w' => r = .returned (.bool false) ∧ Below w.heap.size w w' := by
  by_cases hq : ak = bk
  rotate_left
  · have hd : (ak == bk) = false := by simpa using hq
    clear h hq
    go_enter Try.func66, Try.ntmps66
    go_wp2_with fail
    all_goals (go_ret; exact ⟨rfl, ((Below.refl _ _).alloc (Nat.le_refl _) _).alloc (by simp) _⟩)
  subst hq
  by_cases hq : an = bn
  rotate_left
  · have hd : (an == bn) = false := by simpa using hq
    clear h hq
    go_enter Try.func66, Try.ntmps66
    go_wp2_with fail
    all_goals (go_ret; exact ⟨rfl, ((Below.refl _ _).alloc (Nat.le_refl _) _).alloc (by simp) _⟩)
  subst hq
  by_cases hq : ai = bi
  rotate_left
  · have hd : (ai == bi) = false := by simpa using hq
    clear h hq
    go_enter Try.func66, Try.ntmps66
    go_wp2_with fail
    all_goals (go_ret; exact ⟨rfl, ((Below.refl _ _).alloc (Nat.le_refl _) _).alloc (by simp) _⟩)
  subst hq
  by_cases hq : aw = bw
  rotate_left
  · have hd : (aw == bw) = false := by simpa using hq
    clear h hq
    go_enter Try.func66, Try.ntmps66
    go_wp2_with fail
    all_goals (go_ret; exact ⟨rfl, ((Below.refl _ _).alloc (Nat.le_refl _) _).alloc (by simp) _⟩)
  subst hq
  by_cases hq : at' = bt
  rotate_left
  · have hd := toList_ne hq
    clear h hq
    go_enter Try.func66, Try.ntmps66
    go_wp2_with fail
    all_goals (go_ret; exact ⟨rfl, ((Below.refl _ _).alloc (Nat.le_refl _) _).alloc (by simp) _⟩)
  subst hq
  have hc : ¬ (av = bv ∧ ax = bx ∧ al = bl ∧ ae = be ∧ ac = bc) := by simpa using h
  clear h
  go_enter Try.func66, Try.ntmps66
  go_wp2_with fail
  all_goals (go_ret; exact ⟨rfl, ((Below.refl _ _).alloc (Nat.le_refl _) _).alloc (by simp) _⟩)
set_option maxRecDepth 100000 in
set_option maxHeartbeats 4000000 in
theorem sameS_ks (w : World) (hlen : aks.length ≤ 1000000) (hlen2 : bks.length ≤ maxLen) (ha : NumsAt w p aks) (hb : NumsAt w q bks) :
    Calls Try.prog 66 #[.agg #[.int .i64 ak, .int .i64 an, .int .i64 ai, .int .i64 aw, .string at', .slice p aks.length c, .int .u16 av, .int .u16 ax, .int .u16 al, .int .i64 ae, .int .i64 ac], .agg #[.int .i64 ak, .int .i64 an, .int .i64 ai, .int .i64 aw, .string at', .slice q bks.length d, .int .u16 av, .int .u16 ax, .int .u16 al, .int .i64 ae, .int .i64 ac]] w fun r w' => r = .returned (.bool (decide (aks = bks))) ∧ Below w.heap.size w w' := by
  have hBW : Below w.heap.size w ((w.alloc (.cells #[.int .i64 ak, .int .i64 an, .int .i64 ai, .int .i64 aw, .string at', .slice p aks.length c, .int .u16 av, .int .u16 ax, .int .u16 al, .int .i64 ae, .int .i64 ac] 41)).alloc (.cells #[.int .i64 ak, .int .i64 an, .int .i64 ai, .int .i64 aw, .string at', .slice q bks.length d, .int .u16 av, .int .u16 ax, .int .u16 al, .int .i64 ae, .int .i64 ac] 41)) := ((Below.refl _ _).alloc (Nat.le_refl _) _).alloc (by simp) _
  have HW := Lib.hid hBW
  have NA : Hid (NumsAt ((w.alloc (.cells #[.int .i64 ak, .int .i64 an, .int .i64 ai, .int .i64 aw, .string at', .slice p aks.length c, .int .u16 av, .int .u16 ax, .int .u16 al, .int .i64 ae, .int .i64 ac] 41)).alloc (.cells #[.int .i64 ak, .int .i64 an, .int .i64 ai, .int .i64 aw, .string at', .slice q bks.length d, .int .u16 av, .int .u16 ax, .int .u16 al, .int .i64 ae, .int .i64 ac] 41)) p aks) := ha.keep hBW (Nat.le_refl _)
  have NB : Hid (NumsAt ((w.alloc (.cells #[.int .i64 ak, .int .i64 an, .int .i64 ai, .int .i64 aw, .string at', .slice p aks.length c, .int .u16 av, .int .u16 ax, .int .u16 al, .int .i64 ae, .int .i64 ac] 41)).alloc (.cells #[.int .i64 ak, .int .i64 an, .int .i64 ai, .int .i64 aw, .string at', .slice q bks.length d, .int .u16 av, .int .u16 ax, .int .u16 al, .int .i64 ae, .int .i64 ac] 41)) q bks) := hb.keep hBW (Nat.le_refl _)
  clear hBW ha hb
  go_enter Try.func66, Try.ntmps66
  go_wp2_with fail
  refine (equal_any aks bks p q c d _ hlen hlen2 NA.out NB.out).mono ?_; rintro r w2 ⟨rfl, hb2⟩
  have HB2 := Lib.hid (HW.out.trans (hb2.mono HW.out.size))
  clear hb2
  go_wp2_with fail
  go_ret
  exact ⟨rfl, HB2.out⟩
theorem sameS_any (w : World) (hlen : aks.length ≤ 1000000) (hlen2 : bks.length ≤ maxLen) (ha : NumsAt w p aks) (hb : NumsAt w q bks) :
    Calls Try.prog 66 #[.agg #[.int .i64 ak, .int .i64 an, .int .i64 ai, .int .i64 aw, .string at', .slice p aks.length c, .int .u16 av, .int .u16 ax, .int .u16 al, .int .i64 ae, .int .i64 ac], .agg #[.int .i64 bk, .int .i64 bn, .int .i64 bi, .int .i64 bw, .string bt, .slice q bks.length d, .int .u16 bv, .int .u16 bx, .int .u16 bl, .int .i64 be, .int .i64 bc]] w fun r w' => r = .returned (.bool (decide ((⟨ak, an, ai, aw, at', aks, av, ax, al, ae, ac⟩ : Ev) = ⟨bk, bn, bi, bw, bt, bks, bv, bx, bl, be, bc⟩))) ∧ Below w.heap.size w w' := by
  by_cases h : ak ≠ bk ∨ an ≠ bn ∨ ai ≠ bi ∨ aw ≠ bw ∨ at' ≠ bt ∨ ¬ (av = bv ∧ ax = bx ∧ al = bl ∧ ae = be ∧ ac = bc)
  · have e : decide ((⟨ak, an, ai, aw, at', aks, av, ax, al, ae, ac⟩ : Ev) = ⟨bk, bn, bi, bw, bt, bks, bv, bx, bl, be, bc⟩) = false := by
      rw [decide_eq_false_iff_not]; intro e; injection e; subst_vars; simp at h
    rw [e]; exact sameS_no ak an ai aw at' aks av ax al ae ac bk bn bi bw bt bks bv bx bl be bc p q c d w h
  · simp only [ne_eq, not_or, Decidable.not_not] at h
    obtain ⟨rfl, rfl, rfl, rfl, rfl, rfl, rfl, rfl, rfl, rfl⟩ := h
    have e : decide ((⟨ak, an, ai, aw, at', aks, av, ax, al, ae, ac⟩ : Ev) = ⟨ak, an, ai, aw, at', bks, av, ax, al, ae, ac⟩) = decide (aks = bks) := by simp
    rw [e]; exact sameS_ks ak an ai aw at' aks av ax al ae ac bks p q c d w hlen hlen2 ha hb
end
theorem sameS_ev (a b : Ev) (p q : Option Addr) (c d : Nat) (w : World) (hlen : a.ks.length ≤ 1000000) (hlen2 : b.ks.length ≤ maxLen) (ha : NumsAt w p a.ks) (hb : NumsAt w q b.ks) :
    Calls Try.prog 66 #[.agg #[.int .i64 a.k, .int .i64 a.n, .int .i64 a.i, .int .i64 a.w, .string a.t, .slice p a.ks.length c, .int .u16 a.cv, .int .u16 a.cx, .int .u16 a.cl, .int .i64 a.ce, .int .i64 a.ck], .agg #[.int .i64 b.k, .int .i64 b.n, .int .i64 b.i, .int .i64 b.w, .string b.t, .slice q b.ks.length d, .int .u16 b.cv, .int .u16 b.cx, .int .u16 b.cl, .int .i64 b.ce, .int .i64 b.ck]] w fun r w' => r = .returned (.bool (decide (a = b))) ∧ Below w.heap.size w w' := by
  obtain ⟨ak, an, ai, aw, at', aks, av, ax, al, ae, ac⟩ := a
  obtain ⟨bk, bn, bi, bw, bt, bks, bv, bx, bl, be, bc⟩ := b
  exact sameS_any ak an ai aw at' aks av ax al ae ac bk bn bi bw bt bks bv bx bl be bc p q c d w hlen hlen2 ha hb
end Go.Proofs.Ytihkkoldjllifaa
