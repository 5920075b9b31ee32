/- The reference of script: are two events the same? -/
import Derived.Test.YtihkkoldjllifaaScriptE
namespace Go.Proofs.Ytihkkoldjllifaa
open Go.ChangeShapes Go.WideShapes Go.ChangeAt Go.RowKit

theorem toList_ne {s t : ByteArray} (h : s ≠ t) : ¬ s.toList = t.toList := fun e => h (bytes_inj (by rw [← ByteArray.toList_eq, ← ByteArray.toList_eq, e]))
theorem ret_boolS {a b : Bool} (h : a = b) : Ending.returned (.bool a) = .returned (.bool b) := by rw [h]
section
variable (ak an ai aw : Int) (at' : ByteArray) (aks : List Int) (av ax al ae ac : Int) (bk bn bi bw : Int) (bt : ByteArray) (bks : List Int) (bv bx bl be bc : Int) (p q : Option Addr) (c d : Nat)
set_option maxRecDepth 100000 in
set_option maxHeartbeats 4000000 in
theorem same29_no (w : World) (h : ak ≠ bk ∨ an ≠ bn ∨ ai ≠ bi ∨ aw ≠ bw ∨ at' ≠ bt ∨ ¬ (av = bv ∧ ax = bx ∧ al = bl ∧ ae = be ∧ ac = bc) ∨ aks.length ≠ bks.length) :
    Calls Try.prog 39 #[.agg #[.int .i64 ak, .int .i64 an, .int .i64 ai, .int .i64 aw, .string at', .slice p aks.length c, .int .u16 av, .int .u16 ax, .int .u16 al, .int .i64 ae, .int .i64 ac], .agg #[.int .i64 bk, .int .i64 bn, .int .i64 bi, .int .i64 bw, .string bt, .slice q bks.length d, .int .u16 bv, .int .u16 bx, .int .u16 bl, .int .i64 be, .int .i64 bc]] w fun r w' => r = .returned (.bool false) ∧ Below w.heap.size w w' := by
  by_cases hq : ak = bk
  rotate_left
  · have hd : (ak != bk) = true := by simpa using hq
    clear h hq
    go_enter Try.func39, Try.ntmps39
    go_wp2_with fail
    all_goals (go_ret; exact ⟨rfl, ((Below.refl _ _).alloc (Nat.le_refl _) _).alloc (by simp) _⟩)
  subst hq
  by_cases hq : an = bn
  rotate_left
  · have hd : (an != bn) = true := by simpa using hq
    clear h hq
    go_enter Try.func39, Try.ntmps39
    go_wp2_with fail
    all_goals (go_ret; exact ⟨rfl, ((Below.refl _ _).alloc (Nat.le_refl _) _).alloc (by simp) _⟩)
  subst hq
  by_cases hq : ai = bi
  rotate_left
  · have hd : (ai != bi) = true := by simpa using hq
    clear h hq
    go_enter Try.func39, Try.ntmps39
    go_wp2_with fail
    all_goals (go_ret; exact ⟨rfl, ((Below.refl _ _).alloc (Nat.le_refl _) _).alloc (by simp) _⟩)
  subst hq
  by_cases hq : aw = bw
  rotate_left
  · have hd : (aw != bw) = true := by simpa using hq
    clear h hq
    go_enter Try.func39, Try.ntmps39
    go_wp2_with fail
    all_goals (go_ret; exact ⟨rfl, ((Below.refl _ _).alloc (Nat.le_refl _) _).alloc (by simp) _⟩)
  subst hq
  by_cases hq : at' = bt
  rotate_left
  · have hd := toList_ne hq
    clear h hq
    go_enter Try.func39, Try.ntmps39
    go_wp2_with fail
    all_goals (go_ret; exact ⟨rfl, ((Below.refl _ _).alloc (Nat.le_refl _) _).alloc (by simp) _⟩)
  subst hq
  by_cases hc : av = bv ∧ ax = bx ∧ al = bl ∧ ae = be ∧ ac = bc
  rotate_left
  · clear h
    go_enter Try.func39, Try.ntmps39
    go_wp2_with fail
    all_goals (go_ret; exact ⟨rfl, ((Below.refl _ _).alloc (Nat.le_refl _) _).alloc (by simp) _⟩)
  obtain ⟨rfl, rfl, rfl, rfl, rfl⟩ := hc
  have hl : aks.length ≠ bks.length := by simpa using h
  have hd : ((aks.length : Int) != (bks.length : Int)) = true := by simp; omega
  have hd2 : (aks.length != bks.length) = true := by simpa using hl
  clear h hl
  go_enter Try.func39, Try.ntmps39
  go_wp2_with fail
  all_goals (go_ret; exact ⟨rfl, ((Below.refl _ _).alloc (Nat.le_refl _) _).alloc (by simp) _⟩)
theorem take_next {xs ys : List Int} {k : Nat} (h : xs.take k = ys.take k) (hk : k < xs.length) (hk' : k < ys.length) (e : xs[k] = ys[k]) : xs.take (k + 1) = ys.take (k + 1) := by
  rw [List.take_succ_eq_append_getElem hk, List.take_succ_eq_append_getElem hk', h, e]
set_option maxRecDepth 100000 in
set_option maxHeartbeats 4000000 in
theorem same29_ks (w : World) (h : bks.length = aks.length) (hlen : aks.length ≤ 1000000) (ha : NumsAt w p aks) (hb : NumsAt w q bks) :
    Calls Try.prog 39 #[.agg #[.int .i64 ak, .int .i64 an, .int .i64 ai, .int .i64 aw, .string at', .slice p aks.length c, .int .u16 av, .int .u16 ax, .int .u16 al, .int .i64 ae, .int .i64 ac], .agg #[.int .i64 ak, .int .i64 an, .int .i64 ai, .int .i64 aw, .string at', .slice q bks.length d, .int .u16 av, .int .u16 ax, .int .u16 al, .int .i64 ae, .int .i64 ac]] w fun r w' => r = .returned (.bool (decide (aks = bks))) ∧ Below w.heap.size w w' := by
  have hA : ((w.alloc (.cells #[.int .i64 ak, .int .i64 an, .int .i64 ai, .int .i64 aw, .string at', .slice p aks.length c, .int .u16 av, .int .u16 ax, .int .u16 al, .int .i64 ae, .int .i64 ac] 41)).alloc (.cells #[.int .i64 ak, .int .i64 an, .int .i64 ai, .int .i64 aw, .string at', .slice q bks.length d, .int .u16 av, .int .u16 ax, .int .u16 al, .int .i64 ae, .int .i64 ac] 41)).heap[w.heap.size]? = some (.cells #[.int .i64 ak, .int .i64 an, .int .i64 ai, .int .i64 aw, .string at', .slice p aks.length c, .int .u16 av, .int .u16 ax, .int .u16 al, .int .i64 ae, .int .i64 ac] 41) := heap_prev _ (heap_last w _)
  have hC : ((w.alloc (.cells #[.int .i64 ak, .int .i64 an, .int .i64 ai, .int .i64 aw, .string at', .slice p aks.length c, .int .u16 av, .int .u16 ax, .int .u16 al, .int .i64 ae, .int .i64 ac] 41)).alloc (.cells #[.int .i64 ak, .int .i64 an, .int .i64 ai, .int .i64 aw, .string at', .slice q bks.length d, .int .u16 av, .int .u16 ax, .int .u16 al, .int .i64 ae, .int .i64 ac] 41)).heap[w.heap.size + 1]? = some (.cells #[.int .i64 ak, .int .i64 an, .int .i64 ai, .int .i64 aw, .string at', .slice q bks.length d, .int .u16 av, .int .u16 ax, .int .u16 al, .int .i64 ae, .int .i64 ac] 41) := by have := heap_last (w.alloc (.cells #[.int .i64 ak, .int .i64 an, .int .i64 ai, .int .i64 aw, .string at', .slice p aks.length c, .int .u16 av, .int .u16 ax, .int .u16 al, .int .i64 ae, .int .i64 ac] 41)) (.cells #[.int .i64 ak, .int .i64 an, .int .i64 ai, .int .i64 aw, .string at', .slice q bks.length d, .int .u16 av, .int .u16 ax, .int .u16 al, .int .i64 ae, .int .i64 ac] 41); simp only [World.size_alloc] at this; exact this
  have hBW : Below w.heap.size w ((w.alloc (.cells #[.int .i64 ak, .int .i64 an, .int .i64 ai, .int .i64 aw, .string at', .slice p aks.length c, .int .u16 av, .int .u16 ax, .int .u16 al, .int .i64 ae, .int .i64 ac] 41)).alloc (.cells #[.int .i64 ak, .int .i64 an, .int .i64 ai, .int .i64 aw, .string at', .slice q bks.length d, .int .u16 av, .int .u16 ax, .int .u16 al, .int .i64 ae, .int .i64 ac] 41)) := ((Below.refl _ _).alloc (Nat.le_refl _) _).alloc (by simp) _
  have hne : (aks.length != bks.length) = false := by simp [h]
  have hne2 : ((aks.length : Int) != (bks.length : Int)) = false := by simp [h]
  have hll : bks.length ≤ aks.length ∧ aks.length ≤ bks.length := by omega
  obtain ⟨hl1, hl2⟩ := hll
  clear h
  have HW := Lib.hid (And.intro hA (And.intro hC hBW))
  have HA0 := Lib.hid ha; have HB0 := Lib.hid hb
  clear hA hC hBW ha hb
  go_enter Try.func39, Try.ntmps39
  go_upto_region 4 with fail
  obtain ⟨W, hW⟩ : ∃ W, (w.alloc (.cells #[.int .i64 ak, .int .i64 an, .int .i64 ai, .int .i64 aw, .string at', .slice p aks.length c, .int .u16 av, .int .u16 ax, .int .u16 al, .int .i64 ae, .int .i64 ac] 41)).alloc (.cells #[.int .i64 ak, .int .i64 an, .int .i64 ai, .int .i64 aw, .string at', .slice q bks.length d, .int .u16 av, .int .u16 ax, .int .u16 al, .int .i64 ae, .int .i64 ac] 41) = W := ⟨_, rfl⟩
  rw [hW] at HW ⊢
  clear hW
  obtain ⟨U, f, hU, hf, hg⟩ := calm_class (W); obtain ⟨u0, hu0⟩ := hg _ (Below.refl _ _); rw [hu0]; clear hu0
  have HBF : Hid (∀ u, Below w.heap.size w (f u)) := fun u => HW.out.2.2.trans ((hf u).mono HW.out.2.2.size)
  have HNA : Hid (∀ u, NumsAt (f u) p aks) := fun u => HA0.out.keep (HBF.out u) (Nat.le_refl _)
  have HNB : Hid (∀ u, NumsAt (f u) q bks) := fun u => HB0.out.keep (HBF.out u) (Nat.le_refl _)
  have hA := calm_heap hf HW.out.1
  have hC := calm_heap hf HW.out.2.1
  have kA := fun u => block_cells (hA u)
  have kC := fun u => block_cells (hC u)
  clear hA hC
  go_wp2_with fail
  go_loopw [5] (fun i wr => ∃ k : Nat, k ≤ aks.length ∧ i = .int .i64 k ∧ Hid (aks.take k = bks.take k) ∧ ∃ u, wr = f u) (fun i _ => aks.length - (intOf i).toNat)
  case atStart => exact ⟨0, Nat.zero_le _, rfl, rfl, _, rfl⟩
  case round =>
    obtain ⟨k, hk, rfl, HT, u, rfl⟩ := hrel
    by_cases hlt : k < aks.length
    · have hlt' : k < bks.length := by omega
      obtain ⟨ga, oa, hpa, -, hca⟩ := HNA.out u k hlt
      obtain ⟨gb, ob, hpb, -, hcb⟩ := HNB.out u k hlt'
      obtain ⟨y, hy⟩ : ∃ y, aks[k] = y := ⟨_, rfl⟩
      obtain ⟨z, hz⟩ : ∃ z, bks[k] = z := ⟨_, rfl⟩
      have hua : ∀ u, (f u).cell? ⟨ga, oa + k, none⟩ = some (.int .i64 y) := fun u => by
        obtain ⟨g', o', e, -, h'⟩ := HNA.out u k hlt
        have := hpa.symm.trans e
        simp only [Option.some.injEq, Addr.mk.injEq, and_true] at this
        obtain ⟨rfl, rfl⟩ := this; rw [← hy]; exact h'
      have hub : ∀ u, (f u).cell? ⟨gb, ob + k, none⟩ = some (.int .i64 z) := fun u => by
        obtain ⟨g', o', e, -, h'⟩ := HNB.out u k hlt'
        have := hpb.symm.trans e
        simp only [Option.some.injEq, Addr.mk.injEq, and_true] at this
        obtain ⟨rfl, rfl⟩ := this; rw [← hz]; exact h'
      have hd1 : decide ((k : Int) < (aks.length : Int)) = true := by simp; omega
      have hd2 : decide ((k : Int) < (bks.length : Int)) = true := by simp; omega
      by_cases hyz : y = z
      · subst hyz
        have HT' : Hid (aks.take (k + 1) = bks.take (k + 1)) := take_next HT.out hlt hlt' (by rw [hy, hz])
        clear hca hcb hy hz
        subst hpa; subst hpb
        go_wp2_with fail
        refine wp_region_calm f (by kernel_rfl) (by kernel_rfl) (calm_drew hf hg _) ?_
        repeat (go_big_quiet_step ((first | fail)))
        refine wpQuiet_nil ?_; rintro _ ⟨u, rfl⟩
        go_wp2_with fail
        go_roundw
        case rel => exact ⟨k + 1, by omega, by go_num, HT', _, rfl⟩
        case measure => simp [intOf]; omega
      · have HN : Hid (decide (aks = bks) = false) := by
          show _ = _; rw [decide_eq_false_iff_not]; intro e; subst e; rw [hy] at hz; exact hyz hz
        have hq : (y != z) = true := by simpa using hyz
        clear hca hcb hy hz hyz
        subst hpa; subst hpb
        go_wp2_with fail
        refine wp_region_calm f (by kernel_rfl) (by kernel_rfl) (calm_drew hf hg _) ?_
        repeat (go_big_quiet_step ((first | fail)))
        refine wpQuiet_nil ?_; rintro _ ⟨u, rfl⟩
        go_wp2_with fail
        go_ret
        exact ⟨ret_boolS HN.out.symm, HBF.out _⟩
    · obtain rfl : k = aks.length := by omega
      have HN : Hid (decide (aks = bks) = true) := by
        show _ = _; rw [decide_eq_true_iff]
        have := HT.out
        rw [List.take_of_length_le (Nat.le_refl _), List.take_of_length_le (by omega)] at this; exact this
      go_wp2_with fail
      go_ret
      exact ⟨ret_boolS HN.out.symm, HBF.out _⟩
theorem same29_any (w : World) (hlen : aks.length ≤ 1000000) (ha : NumsAt w p aks) (hb : NumsAt w q bks) :
    Calls Try.prog 39 #[.agg #[.int .i64 ak, .int .i64 an, .int .i64 ai, .int .i64 aw, .string at', .slice p aks.length c, .int .u16 av, .int .u16 ax, .int .u16 al, .int .i64 ae, .int .i64 ac], .agg #[.int .i64 bk, .int .i64 bn, .int .i64 bi, .int .i64 bw, .string bt, .slice q bks.length d, .int .u16 bv, .int .u16 bx, .int .u16 bl, .int .i64 be, .int .i64 bc]] w fun r w' => r = .returned (.bool (decide ((⟨ak, an, ai, aw, at', aks, av, ax, al, ae, ac⟩ : Ev) = ⟨bk, bn, bi, bw, bt, bks, bv, bx, bl, be, bc⟩))) ∧ Below w.heap.size w w' := by
  by_cases h : ak ≠ bk ∨ an ≠ bn ∨ ai ≠ bi ∨ aw ≠ bw ∨ at' ≠ bt ∨ ¬ (av = bv ∧ ax = bx ∧ al = bl ∧ ae = be ∧ ac = bc) ∨ aks.length ≠ bks.length
  · have e : decide ((⟨ak, an, ai, aw, at', aks, av, ax, al, ae, ac⟩ : Ev) = ⟨bk, bn, bi, bw, bt, bks, bv, bx, bl, be, bc⟩) = false := by
      rw [decide_eq_false_iff_not]; intro e; injection e; subst_vars; simp at h
    rw [e]; exact same29_no ak an ai aw at' aks av ax al ae ac bk bn bi bw bt bks bv bx bl be bc p q c d w h
  · simp only [ne_eq, not_or, Decidable.not_not] at h
    obtain ⟨rfl, rfl, rfl, rfl, rfl, ⟨rfl, rfl, rfl, rfl, rfl⟩, h⟩ := h
    have e : decide ((⟨ak, an, ai, aw, at', aks, av, ax, al, ae, ac⟩ : Ev) = ⟨ak, an, ai, aw, at', bks, av, ax, al, ae, ac⟩) = decide (aks = bks) := by simp
    rw [e]; exact same29_ks ak an ai aw at' aks av ax al ae ac bks p q c d w h.symm hlen ha hb
end
theorem same29_ev (a b : Ev) (p q : Option Addr) (c d : Nat) (w : World) (hlen : a.ks.length ≤ 1000000) (ha : NumsAt w p a.ks) (hb : NumsAt w q b.ks) :
    Calls Try.prog 39 #[.agg #[.int .i64 a.k, .int .i64 a.n, .int .i64 a.i, .int .i64 a.w, .string a.t, .slice p a.ks.length c, .int .u16 a.cv, .int .u16 a.cx, .int .u16 a.cl, .int .i64 a.ce, .int .i64 a.ck], .agg #[.int .i64 b.k, .int .i64 b.n, .int .i64 b.i, .int .i64 b.w, .string b.t, .slice q b.ks.length d, .int .u16 b.cv, .int .u16 b.cx, .int .u16 b.cl, .int .i64 b.ce, .int .i64 b.ck]] w fun r w' => r = .returned (.bool (decide (a = b))) ∧ Below w.heap.size w w' := by
  obtain ⟨ak, an, ai, aw, at', aks, av, ax, al, ae, ac⟩ := a
  obtain ⟨bk, bn, bi, bw, bt, bks, bv, bx, bl, be, bc⟩ := b
  exact same29_any ak an ai aw at' aks av ax al ae ac bk bn bi bw bt bks bv bx bl be bc p q c d w hlen ha hb
end Go.Proofs.Ytihkkoldjllifaa
