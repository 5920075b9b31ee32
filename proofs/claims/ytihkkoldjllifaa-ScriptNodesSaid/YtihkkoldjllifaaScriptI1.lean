/- script: an event's bytes, some kinds. -/
import Derived.Test.YtihkkoldjllifaaScriptI0
namespace Go.Proofs.Ytihkkoldjllifaa
open Go.ChangeShapes Go.WideShapes Go.ChangeAt Go.RowKit

set_option maxRecDepth 100000 in
set_option maxHeartbeats 32000000 in
theorem bytes_a (e : Ev) (p : Option Addr) (c : Nat) (w : World) (hlen : e.ks.length ≤ 1000) (_htl : e.t.size ≤ 100000) (ha : NumsAt w p e.ks) (hkk : e.k = 1 ∨ e.k = 2 ∨ e.k = 3) :
    Calls Try.prog 42 #[.agg #[.int .i64 e.k, .int .i64 e.n, .int .i64 e.i, .int .i64 e.w, .string e.t, .slice p e.ks.length c, .int .u16 e.cv, .int .u16 e.cx, .int .u16 e.cl, .int .i64 e.ce, .int .i64 e.ck]] w (BytEnd w (encP e)) := by
  obtain ⟨i0, hi, hz0, hz1, hz2⟩ := info_parts Try.infoU8
  have NK := Lib.hid ha
  clear ha
  have hA := heap_last w (.cells (evC e p c).toArray 41)
  have HBA : Hid (Below w.heap.size w (w.alloc (.cells (evC e p c).toArray 41))) := (Below.refl _ _).alloc (Nat.le_refl _) _
  simp only [evC] at hA HBA
  have HA := Lib.hid hA
  clear hA
  have HP : Hid (progB e = progB e) := rfl
  go_enter Try.func42, Try.ntmps42
  go_upto_region 1 with fail
  obtain ⟨W, hW⟩ : ∃ W, w.alloc (.cells #[Value.int .i64 e.k, .int .i64 e.n, .int .i64 e.i, .int .i64 e.w, .string e.t, .slice p e.ks.length c, .int .u16 e.cv, .int .u16 e.cx, .int .u16 e.cl, .int .i64 e.ce, .int .i64 e.ck] 41) = W := ⟨_, rfl⟩
  obtain ⟨A, hAe⟩ : ∃ A, w.heap.size = A := ⟨_, rfl⟩
  rw [hAe, hW] at HA
  rw [hW] at HBA ⊢
  rw [hAe]
  have hAw : w.heap.size ≤ A := by omega
  clear hW hAe
  have h0 : Below W.heap.size W W.drew := (Below.refl _ _).drew
  have HS : Hid (∀ w', Below W.heap.size W w' → Below W.heap.size W w' ∧ (∀ j, w'.cell? ⟨A, j, none⟩ = #[Value.int .i64 e.k, .int .i64 e.n, .int .i64 e.i, .int .i64 e.w, .string e.t, .slice p e.ks.length c, .int .u16 e.cv, .int .u16 e.cx, .int .u16 e.cl, .int .i64 e.ce, .int .i64 e.ck][j]?)) := fun w' h => ⟨h, block_cells (below_block h (block_lt HA.out) HA.out)⟩
  go_region_held3 (fun w' => Below W.heap.size W w' ∧ (∀ j, w'.cell? ⟨A, j, none⟩ = #[Value.int .i64 e.k, .int .i64 e.n, .int .i64 e.i, .int .i64 e.w, .string e.t, .slice p e.ks.length c, .int .u16 e.cv, .int .u16 e.cx, .int .u16 e.cl, .int .i64 e.ce, .int .i64 e.ck][j]?)) ((refine HS.out _ ?_; first | exact h0 | exact (by repeat (first | exact Below.refl _ _ | assumption | refine Below.alloc ?_ (by simp) _ | refine Below.setCell ?_ (by simp) _ | refine Below.drew ?_)))) (fail)
  go_upto_region 2 with fail
  obtain ⟨nb, hnb⟩ : ∃ x, IntKind.u8.wrap (IntKind.i64.wrap (e.n - 1)) = x := ⟨_, rfl⟩
  obtain ⟨ib, hib⟩ : ∃ x, IntKind.u8.wrap e.i = x := ⟨_, rfl⟩
  obtain ⟨hb, hhb⟩ : ∃ x, IntKind.u8.wrap (e.w / 256) = x := ⟨_, rfl⟩
  obtain ⟨lb, hlb⟩ : ∃ x, IntKind.u8.wrap e.w = x := ⟨_, rfl⟩
  have HNB : Hid (nodeB e.n = nb) := hnb
  have HIB : Hid (u8w e.i = ib) := hib
  have HHB : Hid (u8w (e.w / 256) = hb) := hhb
  have HLB : Hid (u8w e.w = lb) := hlb
  rw [hnb, hib, hhb, hlb]
  have hD := heap_last W (.cells #[.int .u8 hb, .int .u8 lb] 5)
  have hBW : Below W.heap.size W (W.alloc (.cells #[.int .u8 hb, .int .u8 lb] 5)).drew := ((Below.refl _ _).alloc (Nat.le_refl _) _).drew
  obtain ⟨W1, hW1⟩ : ∃ W1, (W.alloc (.cells #[.int .u8 hb, .int .u8 lb] 5)).drew = W1 := ⟨_, rfl⟩
  have HA1 : Hid (W1.heap[A]? = some (.cells #[Value.int .i64 e.k, .int .i64 e.n, .int .i64 e.i, .int .i64 e.w, .string e.t, .slice p e.ks.length c, .int .u16 e.cv, .int .u16 e.cx, .int .u16 e.cl, .int .i64 e.ce, .int .i64 e.ck] 41)) := by show _ = _; rw [← hW1]; exact below_block hBW (block_lt HA.out) HA.out
  have HD1 : Hid (W1.heap[W.heap.size]? = some (.cells #[.int .u8 hb, .int .u8 lb] 5)) := by show _ = _; rw [← hW1]; exact hD
  have HB1 : Hid (Below w.heap.size w W1) := by show Below _ _ _; rw [← hW1]; exact HBA.out.trans (hBW.mono HBA.out.size)
  rw [hW1]
  obtain ⟨Dd, hDd⟩ : ∃ D, W.heap.size = D := ⟨_, rfl⟩
  rw [hDd] at HD1 ⊢
  clear hnb hib hhb hlb hD hBW hW1 hDd h0 HS HBA HA
  have kA1 := block_cells HA1.out
  go_upto_region 4 with fail
  obtain ⟨K, hK⟩ : ∃ K, e.k = K := ⟨_, rfl⟩
  have HK := Lib.hid hK
  rw [hK]
  rw [hK] at hkk
  clear hK HP
  rcases hkk with hk | hk | hk
  · skip
    subst hk
    have HP : Hid (progB e = [0, nb]) := by show _ = _; unfold progB; simp [HK.out, HNB.out]
    have HO6 : Hid ((W1.alloc (.cells #[.int .u8 0, .int .u8 nb] 5)).ownsRow 0 5 1 (.slice (some ⟨W1.heap.size, 0, none⟩) 2 2) 2 (byt [0, nb])) := own_new W1 [0, nb] 0 (Nat.zero_le _) (by show (2 : Nat) ≤ maxLen; unfold maxLen; omega)
    have HAx := Lib.hid (heap_prev (.cells #[.int .u8 0, .int .u8 nb] 5) HA1.out)
    have HBx : Hid (Below w.heap.size w (W1.alloc (.cells #[.int .u8 0, .int .u8 nb] 5))) := HB1.out.alloc HB1.out.size _
    go_upto_region 29 with fail
    obtain ⟨wx, hwx⟩ : ∃ wx, W1.alloc (.cells #[.int .u8 0, .int .u8 nb] 5) = wx := ⟨_, rfl⟩
    rw [hwx] at HO6 HAx HBx ⊢
    clear hwx kA1
    have HOct : Hid (Oct ([0, nb])) := by show Oct _; rw [← HP.out]; exact progB_oct e
    have hlx : ([0, nb]).length ≤ 1000000 := by simp; try omega
    have HSl := Lib.hid (Sl.of_own HO6.out)
    go_wp2_with fail
    refine (decode_any _ ([0, nb]) 9 _ HOct.out HSl.out hlx).mono ?_; rintro r w7 ⟨v7, L7, rfl, hmap, hown, hkp, hb7⟩
    rw [decA_nine] at hmap
    have HA7 := Lib.hid (below_block hb7 (block_lt HAx.out) HAx.out)
    have HB7 := Lib.hid (HBx.out.trans (hb7.mono HBx.out.size))
    have HS7 := Lib.hid ((HSl.out.keep hb7).mono hb7.size)
    have HEv := Lib.hid (EvSl.of_own hown hkp)
    have HMap := Lib.hid hmap
    clear hmap hown hkp hb7 hlx
    obtain ⟨p7, c7, rfl, hc1, hc2⟩ := HEv.out.form
    unfold maxLen at hc2
    by_cases hl7 : L7.length = 1
    · obtain ⟨⟨ev2, pe2, ce2⟩, rfl⟩ : ∃ x, L7 = [x] := by match L7, hl7 with | [x], _ => exact ⟨x, rfl⟩
      simp only [List.map_cons, List.map_nil] at HMap
      simp only [List.length_singleton] at HEv ⊢
      clear hl7 hc1
      go_upto_region 30 with fail
      obtain ⟨U, f, hU, hf, hg⟩ := calm_class (w7); obtain ⟨u0, hu0⟩ := hg _ (Below.refl _ _); rw [hu0]; clear hu0
      have HEu : Hid (∀ u, EvSl (f u) (.slice p7 1 c7) [(ev2, pe2, ce2)]) := fun u => HEv.out.keep (hf u) (Nat.le_refl _)
      have kAu := fun u => block_cells (calm_heap hf HA7.out u)
      obtain ⟨g, o, cap, hv, -, -, hgl, -⟩ := HEv.out.at 0 (by simp)
      simp only [Value.slice.injEq] at hv
      obtain ⟨hv, -⟩ := hv
      have NAu : Hid (∀ u, NumsAt (f u) pe2 ev2.ks) := fun u => (HEu.out u).2 (ev2, pe2, ce2) (by simp)
      have NBu : Hid (∀ u, NumsAt (f u) p e.ks) := fun u => NK.out.keep (HB7.out.trans ((hf u).mono HB7.out.size)) (Nat.le_refl _)
      have HBu : Hid (∀ u, Below w.heap.size w (f u)) := fun u => HB7.out.trans ((hf u).mono HB7.out.size)
      have HSu : Hid (∀ u, Sl (f u).heap.size (f u) _ 1 _ _) := fun u => (HS7.out.keep (hf u)).mono (hf u).size
      subst hv
      have hc0' : ∀ u, (f u).cell? ⟨g, o, none⟩ = some (.int .i64 ev2.k) := fun u => by have := (HEu.out u).cell (k := 0) (by simp) rfl 0 (by decide); simpa [evC] using this
      have hc1' : ∀ u, (f u).cell? ⟨g, o + 1, none⟩ = some (.int .i64 ev2.n) := fun u => by have := (HEu.out u).cell (k := 0) (by simp) rfl 1 (by decide); simpa [evC] using this
      have hc2' : ∀ u, (f u).cell? ⟨g, o + 2, none⟩ = some (.int .i64 ev2.i) := fun u => by have := (HEu.out u).cell (k := 0) (by simp) rfl 2 (by decide); simpa [evC] using this
      have hc3' : ∀ u, (f u).cell? ⟨g, o + 3, none⟩ = some (.int .i64 ev2.w) := fun u => by have := (HEu.out u).cell (k := 0) (by simp) rfl 3 (by decide); simpa [evC] using this
      have hc4' : ∀ u, (f u).cell? ⟨g, o + 4, none⟩ = some (.string ev2.t) := fun u => by have := (HEu.out u).cell (k := 0) (by simp) rfl 4 (by decide); simpa [evC] using this
      have hc5' : ∀ u, (f u).cell? ⟨g, o + 5, none⟩ = some (.slice pe2 ev2.ks.length ce2) := fun u => by have := (HEu.out u).cell (k := 0) (by simp) rfl 5 (by decide); simpa [evC] using this
      have hc6' : ∀ u, (f u).cell? ⟨g, o + 6, none⟩ = some (.int .u16 ev2.cv) := fun u => by have := (HEu.out u).cell (k := 0) (by simp) rfl 6 (by decide); simpa [evC] using this
      have hc7' : ∀ u, (f u).cell? ⟨g, o + 7, none⟩ = some (.int .u16 ev2.cx) := fun u => by have := (HEu.out u).cell (k := 0) (by simp) rfl 7 (by decide); simpa [evC] using this
      have hc8' : ∀ u, (f u).cell? ⟨g, o + 8, none⟩ = some (.int .u16 ev2.cl) := fun u => by have := (HEu.out u).cell (k := 0) (by simp) rfl 8 (by decide); simpa [evC] using this
      have hc9' : ∀ u, (f u).cell? ⟨g, o + 9, none⟩ = some (.int .i64 ev2.ce) := fun u => by have := (HEu.out u).cell (k := 0) (by simp) rfl 9 (by decide); simpa [evC] using this
      have hc10' : ∀ u, (f u).cell? ⟨g, o + 10, none⟩ = some (.int .i64 ev2.ck) := fun u => by have := (HEu.out u).cell (k := 0) (by simp) rfl 10 (by decide); simpa [evC] using this
      have hks' : ev2.ks.length ≤ 1000000 := by have := decE_ks 9 _ _ HMap.out ev2 (by simp); omega
      obtain ⟨q, hq⟩ : ∃ q, decide (ev2 = e) = q := ⟨_, rfl⟩
      have HQ := Lib.hid hq
      clear hq
      have SM : Hid (∀ u, Calls Try.prog 66 #[.agg #[.int .i64 ev2.k, .int .i64 ev2.n, .int .i64 ev2.i, .int .i64 ev2.w, .string ev2.t, .slice pe2 ev2.ks.length ce2, .int .u16 ev2.cv, .int .u16 ev2.cx, .int .u16 ev2.cl, .int .i64 ev2.ce, .int .i64 ev2.ck], .agg #[.int .i64 e.k, .int .i64 e.n, .int .i64 e.i, .int .i64 e.w, .string e.t, .slice p e.ks.length c, .int .u16 e.cv, .int .u16 e.cx, .int .u16 e.cl, .int .i64 e.ce, .int .i64 e.ck]] (f u) fun r w' => r = .returned (.bool q) ∧ Below (f u).heap.size (f u) w') := fun u => by have := sameS_ev ev2 e pe2 p ce2 c (f u) hks' (by unfold maxLen; omega) (NAu.out u) (NBu.out u); rw [HQ.out] at this; exact this
      cases q
      · go_wp2_with fail
        refine wp_region_calm f (by kernel_rfl) (by kernel_rfl) (calm_drew hf hg _) ?_
        repeat (go_big_quiet_step ((first | (go_at_call 66; with_reducible exact calm_of hf hg (SM.out _)))))
        refine wpQuiet_nil ?_; rintro _ ⟨u, rfl⟩
        go_wp2_with fail
        go_ret
        rw [encP_no HP.out (by rw [← HMap.out]; intro h; injection h with h; have := HQ.out; rw [h] at this; simp at this)]
        exact bytEnd_nil (HBu.out _)
      · have hee : ev2 = e := by have := HQ.out; simpa using this
        have HEE := Lib.hid hee
        clear hee
        go_wp2_with fail
        refine wp_region_calm f (by kernel_rfl) (by kernel_rfl) (calm_drew hf hg _) ?_
        repeat (go_big_quiet_step ((first | (go_at_call 66; with_reducible exact calm_of hf hg (SM.out _)))))
        refine wpQuiet_nil ?_; rintro _ ⟨u, rfl⟩
        go_wp2_with fail
        go_ret
        rw [encP_yes HP.out (by rw [← HMap.out, HEE.out])]
        exact ⟨_, rfl, HSu.out _, HBu.out _⟩
    · have hd7 : (L7.length != 1) = true := by simpa using hl7
      have hd7' : ((L7.length : Int) != 1) = true := by simp; omega
      go_upto_region 30 with fail
      obtain ⟨U, f, hU, hf, hg⟩ := calm_class (w7); obtain ⟨u0, hu0⟩ := hg _ (Below.refl _ _); rw [hu0]; clear hu0
      have HBu : Hid (∀ u, Below w.heap.size w (f u)) := fun u => HB7.out.trans ((hf u).mono HB7.out.size)
      have HNE : Hid (encP e = []) := encP_no HP.out (by rw [← HMap.out]; intro h; have := congrArg List.length h; simp at this; exact hl7 this)
      clear hl7
      go_wp2_with fail
      refine wp_region_calm f (by kernel_rfl) (by kernel_rfl) (calm_drew hf hg _) ?_
      repeat (go_big_quiet_step ((first | fail)))
      refine wpQuiet_nil ?_; rintro _ ⟨u, rfl⟩
      go_wp2_with fail
      go_ret
      rw [HNE.out]
      exact bytEnd_nil (HBu.out _)
  · skip
    subst hk
    have HP : Hid (progB e = ([4, nb] ++ [hb, lb])) := by show _ = _; unfold progB; simp [HK.out, HNB.out, HHB.out, HLB.out]
    have HO5 : Hid ((W1.alloc (.cells #[.int .u8 4, .int .u8 nb] 5)).ownsRow 0 5 1 (.slice (some ⟨W1.heap.size, 0, none⟩) 2 2) 2 (byt [4, nb])) := own_new W1 [4, nb] 0 (Nat.zero_le _) (by show (2 : Nat) ≤ maxLen; unfold maxLen; omega)
    have HA5 := Lib.hid (heap_prev (.cells #[.int .u8 4, .int .u8 nb] 5) HA1.out)
    have HD5 := Lib.hid (heap_prev (.cells #[.int .u8 4, .int .u8 nb] 5) HD1.out)
    have HB5 : Hid (Below w.heap.size w (W1.alloc (.cells #[.int .u8 4, .int .u8 nb] 5))) := HB1.out.alloc HB1.out.size _
    have hbs := HB1.out.size
    have hA1 := block_lt HA1.out
    go_wp2_with (at_builtin; refine wpList_append_own _ rfl _ _ 22 rfl 0 5 i0 (.int .u8 0) 1 1 Try.underlying22 hi hz0 hz1 hz2 rfl (by decide) _ _ _ rfl HO5.out ⟨Dd, 0, none⟩ 2 2 (byt [hb, lb]) rfl rfl ?c1 ?c2 ?c3 ?c4 ?c5 ?_)
    case c1 => exact fun j v hv => by rw [add_plain, Nat.zero_add]; exact (block_cells HD5.out j).trans (by simpa [byt] using hv)
    case c2 => exact byt_one _
    case c3 => decide
    case c4 => decide
    case c5 => exact Nat.zero_le _
    intro v6 wx hown6 hgrow6 _
    have HO6 : Hid (wx.ownsRow 0 5 1 v6 ([4, nb] ++ [hb, lb]).length (byt ([4, nb] ++ [hb, lb]))) := by show wx.ownsRow _ _ _ _ _ _; rw [← byt_app]; exact hown6
    have hne6 : ∀ j, (Value.slice (some ⟨W1.heap.size, 0, none⟩) 2 2).ownBlock = some j → j = W1.heap.size := fun j hj => by simp [Value.ownBlock] at hj; exact hj.symm
    have HAx : Hid (wx.heap[A]? = some (.cells #[Value.int .i64 e.k, .int .i64 e.n, .int .i64 e.i, .int .i64 e.w, .string e.t, .slice p e.ks.length c, .int .u16 e.cv, .int .u16 e.cx, .int .u16 e.cl, .int .i64 e.ce, .int .i64 e.ck] 41)) := (hgrow6.block A (by simp; omega) (fun h => by have := hne6 _ h.symm; omega)).trans HA5.out
    have HBx : Hid (Below w.heap.size w wx) := HB5.out.grown hgrow6 (by simp; omega) (fun j hj => by have := hne6 j hj; omega)
    clear hown6 hgrow6 hne6 kA1
    go_upto_region 29 with fail
    have HOct : Hid (Oct (([4, nb] ++ [hb, lb]))) := by show Oct _; rw [← HP.out]; exact progB_oct e
    have hlx : (([4, nb] ++ [hb, lb])).length ≤ 1000000 := by simp; try omega
    have HSl := Lib.hid (Sl.of_own HO6.out)
    go_wp2_with fail
    refine (decode_any _ (([4, nb] ++ [hb, lb])) 9 _ HOct.out HSl.out hlx).mono ?_; rintro r w7 ⟨v7, L7, rfl, hmap, hown, hkp, hb7⟩
    rw [decA_nine] at hmap
    have HA7 := Lib.hid (below_block hb7 (block_lt HAx.out) HAx.out)
    have HB7 := Lib.hid (HBx.out.trans (hb7.mono HBx.out.size))
    have HS7 := Lib.hid ((HSl.out.keep hb7).mono hb7.size)
    have HEv := Lib.hid (EvSl.of_own hown hkp)
    have HMap := Lib.hid hmap
    clear hmap hown hkp hb7 hlx
    obtain ⟨p7, c7, rfl, hc1, hc2⟩ := HEv.out.form
    unfold maxLen at hc2
    by_cases hl7 : L7.length = 1
    · obtain ⟨⟨ev2, pe2, ce2⟩, rfl⟩ : ∃ x, L7 = [x] := by match L7, hl7 with | [x], _ => exact ⟨x, rfl⟩
      simp only [List.map_cons, List.map_nil] at HMap
      simp only [List.length_singleton] at HEv ⊢
      clear hl7 hc1
      go_upto_region 30 with fail
      obtain ⟨U, f, hU, hf, hg⟩ := calm_class (w7); obtain ⟨u0, hu0⟩ := hg _ (Below.refl _ _); rw [hu0]; clear hu0
      have HEu : Hid (∀ u, EvSl (f u) (.slice p7 1 c7) [(ev2, pe2, ce2)]) := fun u => HEv.out.keep (hf u) (Nat.le_refl _)
      have kAu := fun u => block_cells (calm_heap hf HA7.out u)
      obtain ⟨g, o, cap, hv, -, -, hgl, -⟩ := HEv.out.at 0 (by simp)
      simp only [Value.slice.injEq] at hv
      obtain ⟨hv, -⟩ := hv
      have NAu : Hid (∀ u, NumsAt (f u) pe2 ev2.ks) := fun u => (HEu.out u).2 (ev2, pe2, ce2) (by simp)
      have NBu : Hid (∀ u, NumsAt (f u) p e.ks) := fun u => NK.out.keep (HB7.out.trans ((hf u).mono HB7.out.size)) (Nat.le_refl _)
      have HBu : Hid (∀ u, Below w.heap.size w (f u)) := fun u => HB7.out.trans ((hf u).mono HB7.out.size)
      have HSu : Hid (∀ u, Sl (f u).heap.size (f u) _ 1 _ _) := fun u => (HS7.out.keep (hf u)).mono (hf u).size
      subst hv
      have hc0' : ∀ u, (f u).cell? ⟨g, o, none⟩ = some (.int .i64 ev2.k) := fun u => by have := (HEu.out u).cell (k := 0) (by simp) rfl 0 (by decide); simpa [evC] using this
      have hc1' : ∀ u, (f u).cell? ⟨g, o + 1, none⟩ = some (.int .i64 ev2.n) := fun u => by have := (HEu.out u).cell (k := 0) (by simp) rfl 1 (by decide); simpa [evC] using this
      have hc2' : ∀ u, (f u).cell? ⟨g, o + 2, none⟩ = some (.int .i64 ev2.i) := fun u => by have := (HEu.out u).cell (k := 0) (by simp) rfl 2 (by decide); simpa [evC] using this
      have hc3' : ∀ u, (f u).cell? ⟨g, o + 3, none⟩ = some (.int .i64 ev2.w) := fun u => by have := (HEu.out u).cell (k := 0) (by simp) rfl 3 (by decide); simpa [evC] using this
      have hc4' : ∀ u, (f u).cell? ⟨g, o + 4, none⟩ = some (.string ev2.t) := fun u => by have := (HEu.out u).cell (k := 0) (by simp) rfl 4 (by decide); simpa [evC] using this
      have hc5' : ∀ u, (f u).cell? ⟨g, o + 5, none⟩ = some (.slice pe2 ev2.ks.length ce2) := fun u => by have := (HEu.out u).cell (k := 0) (by simp) rfl 5 (by decide); simpa [evC] using this
      have hc6' : ∀ u, (f u).cell? ⟨g, o + 6, none⟩ = some (.int .u16 ev2.cv) := fun u => by have := (HEu.out u).cell (k := 0) (by simp) rfl 6 (by decide); simpa [evC] using this
      have hc7' : ∀ u, (f u).cell? ⟨g, o + 7, none⟩ = some (.int .u16 ev2.cx) := fun u => by have := (HEu.out u).cell (k := 0) (by simp) rfl 7 (by decide); simpa [evC] using this
      have hc8' : ∀ u, (f u).cell? ⟨g, o + 8, none⟩ = some (.int .u16 ev2.cl) := fun u => by have := (HEu.out u).cell (k := 0) (by simp) rfl 8 (by decide); simpa [evC] using this
      have hc9' : ∀ u, (f u).cell? ⟨g, o + 9, none⟩ = some (.int .i64 ev2.ce) := fun u => by have := (HEu.out u).cell (k := 0) (by simp) rfl 9 (by decide); simpa [evC] using this
      have hc10' : ∀ u, (f u).cell? ⟨g, o + 10, none⟩ = some (.int .i64 ev2.ck) := fun u => by have := (HEu.out u).cell (k := 0) (by simp) rfl 10 (by decide); simpa [evC] using this
      have hks' : ev2.ks.length ≤ 1000000 := by have := decE_ks 9 _ _ HMap.out ev2 (by simp); omega
      obtain ⟨q, hq⟩ : ∃ q, decide (ev2 = e) = q := ⟨_, rfl⟩
      have HQ := Lib.hid hq
      clear hq
      have SM : Hid (∀ u, Calls Try.prog 66 #[.agg #[.int .i64 ev2.k, .int .i64 ev2.n, .int .i64 ev2.i, .int .i64 ev2.w, .string ev2.t, .slice pe2 ev2.ks.length ce2, .int .u16 ev2.cv, .int .u16 ev2.cx, .int .u16 ev2.cl, .int .i64 ev2.ce, .int .i64 ev2.ck], .agg #[.int .i64 e.k, .int .i64 e.n, .int .i64 e.i, .int .i64 e.w, .string e.t, .slice p e.ks.length c, .int .u16 e.cv, .int .u16 e.cx, .int .u16 e.cl, .int .i64 e.ce, .int .i64 e.ck]] (f u) fun r w' => r = .returned (.bool q) ∧ Below (f u).heap.size (f u) w') := fun u => by have := sameS_ev ev2 e pe2 p ce2 c (f u) hks' (by unfold maxLen; omega) (NAu.out u) (NBu.out u); rw [HQ.out] at this; exact this
      cases q
      · go_wp2_with fail
        refine wp_region_calm f (by kernel_rfl) (by kernel_rfl) (calm_drew hf hg _) ?_
        repeat (go_big_quiet_step ((first | (go_at_call 66; with_reducible exact calm_of hf hg (SM.out _)))))
        refine wpQuiet_nil ?_; rintro _ ⟨u, rfl⟩
        go_wp2_with fail
        go_ret
        rw [encP_no HP.out (by rw [← HMap.out]; intro h; injection h with h; have := HQ.out; rw [h] at this; simp at this)]
        exact bytEnd_nil (HBu.out _)
      · have hee : ev2 = e := by have := HQ.out; simpa using this
        have HEE := Lib.hid hee
        clear hee
        go_wp2_with fail
        refine wp_region_calm f (by kernel_rfl) (by kernel_rfl) (calm_drew hf hg _) ?_
        repeat (go_big_quiet_step ((first | (go_at_call 66; with_reducible exact calm_of hf hg (SM.out _)))))
        refine wpQuiet_nil ?_; rintro _ ⟨u, rfl⟩
        go_wp2_with fail
        go_ret
        rw [encP_yes HP.out (by rw [← HMap.out, HEE.out])]
        exact ⟨_, rfl, HSu.out _, HBu.out _⟩
    · have hd7 : (L7.length != 1) = true := by simpa using hl7
      have hd7' : ((L7.length : Int) != 1) = true := by simp; omega
      go_upto_region 30 with fail
      obtain ⟨U, f, hU, hf, hg⟩ := calm_class (w7); obtain ⟨u0, hu0⟩ := hg _ (Below.refl _ _); rw [hu0]; clear hu0
      have HBu : Hid (∀ u, Below w.heap.size w (f u)) := fun u => HB7.out.trans ((hf u).mono HB7.out.size)
      have HNE : Hid (encP e = []) := encP_no HP.out (by rw [← HMap.out]; intro h; have := congrArg List.length h; simp at this; exact hl7 this)
      clear hl7
      go_wp2_with fail
      refine wp_region_calm f (by kernel_rfl) (by kernel_rfl) (calm_drew hf hg _) ?_
      repeat (go_big_quiet_step ((first | fail)))
      refine wpQuiet_nil ?_; rintro _ ⟨u, rfl⟩
      go_wp2_with fail
      go_ret
      rw [HNE.out]
      exact bytEnd_nil (HBu.out _)
  · skip
    subst hk
    have HP : Hid (progB e = [5, ib]) := by show _ = _; unfold progB; simp [HK.out, HIB.out]
    have HO6 : Hid ((W1.alloc (.cells #[.int .u8 5, .int .u8 ib] 5)).ownsRow 0 5 1 (.slice (some ⟨W1.heap.size, 0, none⟩) 2 2) 2 (byt [5, ib])) := own_new W1 [5, ib] 0 (Nat.zero_le _) (by show (2 : Nat) ≤ maxLen; unfold maxLen; omega)
    have HAx := Lib.hid (heap_prev (.cells #[.int .u8 5, .int .u8 ib] 5) HA1.out)
    have HBx : Hid (Below w.heap.size w (W1.alloc (.cells #[.int .u8 5, .int .u8 ib] 5))) := HB1.out.alloc HB1.out.size _
    go_upto_region 29 with fail
    obtain ⟨wx, hwx⟩ : ∃ wx, W1.alloc (.cells #[.int .u8 5, .int .u8 ib] 5) = wx := ⟨_, rfl⟩
    rw [hwx] at HO6 HAx HBx ⊢
    clear hwx kA1
    have HOct : Hid (Oct ([5, ib])) := by show Oct _; rw [← HP.out]; exact progB_oct e
    have hlx : ([5, ib]).length ≤ 1000000 := by simp; try omega
    have HSl := Lib.hid (Sl.of_own HO6.out)
    go_wp2_with fail
    refine (decode_any _ ([5, ib]) 9 _ HOct.out HSl.out hlx).mono ?_; rintro r w7 ⟨v7, L7, rfl, hmap, hown, hkp, hb7⟩
    rw [decA_nine] at hmap
    have HA7 := Lib.hid (below_block hb7 (block_lt HAx.out) HAx.out)
    have HB7 := Lib.hid (HBx.out.trans (hb7.mono HBx.out.size))
    have HS7 := Lib.hid ((HSl.out.keep hb7).mono hb7.size)
    have HEv := Lib.hid (EvSl.of_own hown hkp)
    have HMap := Lib.hid hmap
    clear hmap hown hkp hb7 hlx
    obtain ⟨p7, c7, rfl, hc1, hc2⟩ := HEv.out.form
    unfold maxLen at hc2
    by_cases hl7 : L7.length = 1
    · obtain ⟨⟨ev2, pe2, ce2⟩, rfl⟩ : ∃ x, L7 = [x] := by match L7, hl7 with | [x], _ => exact ⟨x, rfl⟩
      simp only [List.map_cons, List.map_nil] at HMap
      simp only [List.length_singleton] at HEv ⊢
      clear hl7 hc1
      go_upto_region 30 with fail
      obtain ⟨U, f, hU, hf, hg⟩ := calm_class (w7); obtain ⟨u0, hu0⟩ := hg _ (Below.refl _ _); rw [hu0]; clear hu0
      have HEu : Hid (∀ u, EvSl (f u) (.slice p7 1 c7) [(ev2, pe2, ce2)]) := fun u => HEv.out.keep (hf u) (Nat.le_refl _)
      have kAu := fun u => block_cells (calm_heap hf HA7.out u)
      obtain ⟨g, o, cap, hv, -, -, hgl, -⟩ := HEv.out.at 0 (by simp)
      simp only [Value.slice.injEq] at hv
      obtain ⟨hv, -⟩ := hv
      have NAu : Hid (∀ u, NumsAt (f u) pe2 ev2.ks) := fun u => (HEu.out u).2 (ev2, pe2, ce2) (by simp)
      have NBu : Hid (∀ u, NumsAt (f u) p e.ks) := fun u => NK.out.keep (HB7.out.trans ((hf u).mono HB7.out.size)) (Nat.le_refl _)
      have HBu : Hid (∀ u, Below w.heap.size w (f u)) := fun u => HB7.out.trans ((hf u).mono HB7.out.size)
      have HSu : Hid (∀ u, Sl (f u).heap.size (f u) _ 1 _ _) := fun u => (HS7.out.keep (hf u)).mono (hf u).size
      subst hv
      have hc0' : ∀ u, (f u).cell? ⟨g, o, none⟩ = some (.int .i64 ev2.k) := fun u => by have := (HEu.out u).cell (k := 0) (by simp) rfl 0 (by decide); simpa [evC] using this
      have hc1' : ∀ u, (f u).cell? ⟨g, o + 1, none⟩ = some (.int .i64 ev2.n) := fun u => by have := (HEu.out u).cell (k := 0) (by simp) rfl 1 (by decide); simpa [evC] using this
      have hc2' : ∀ u, (f u).cell? ⟨g, o + 2, none⟩ = some (.int .i64 ev2.i) := fun u => by have := (HEu.out u).cell (k := 0) (by simp) rfl 2 (by decide); simpa [evC] using this
      have hc3' : ∀ u, (f u).cell? ⟨g, o + 3, none⟩ = some (.int .i64 ev2.w) := fun u => by have := (HEu.out u).cell (k := 0) (by simp) rfl 3 (by decide); simpa [evC] using this
      have hc4' : ∀ u, (f u).cell? ⟨g, o + 4, none⟩ = some (.string ev2.t) := fun u => by have := (HEu.out u).cell (k := 0) (by simp) rfl 4 (by decide); simpa [evC] using this
      have hc5' : ∀ u, (f u).cell? ⟨g, o + 5, none⟩ = some (.slice pe2 ev2.ks.length ce2) := fun u => by have := (HEu.out u).cell (k := 0) (by simp) rfl 5 (by decide); simpa [evC] using this
      have hc6' : ∀ u, (f u).cell? ⟨g, o + 6, none⟩ = some (.int .u16 ev2.cv) := fun u => by have := (HEu.out u).cell (k := 0) (by simp) rfl 6 (by decide); simpa [evC] using this
      have hc7' : ∀ u, (f u).cell? ⟨g, o + 7, none⟩ = some (.int .u16 ev2.cx) := fun u => by have := (HEu.out u).cell (k := 0) (by simp) rfl 7 (by decide); simpa [evC] using this
      have hc8' : ∀ u, (f u).cell? ⟨g, o + 8, none⟩ = some (.int .u16 ev2.cl) := fun u => by have := (HEu.out u).cell (k := 0) (by simp) rfl 8 (by decide); simpa [evC] using this
      have hc9' : ∀ u, (f u).cell? ⟨g, o + 9, none⟩ = some (.int .i64 ev2.ce) := fun u => by have := (HEu.out u).cell (k := 0) (by simp) rfl 9 (by decide); simpa [evC] using this
      have hc10' : ∀ u, (f u).cell? ⟨g, o + 10, none⟩ = some (.int .i64 ev2.ck) := fun u => by have := (HEu.out u).cell (k := 0) (by simp) rfl 10 (by decide); simpa [evC] using this
      have hks' : ev2.ks.length ≤ 1000000 := by have := decE_ks 9 _ _ HMap.out ev2 (by simp); omega
      obtain ⟨q, hq⟩ : ∃ q, decide (ev2 = e) = q := ⟨_, rfl⟩
      have HQ := Lib.hid hq
      clear hq
      have SM : Hid (∀ u, Calls Try.prog 66 #[.agg #[.int .i64 ev2.k, .int .i64 ev2.n, .int .i64 ev2.i, .int .i64 ev2.w, .string ev2.t, .slice pe2 ev2.ks.length ce2, .int .u16 ev2.cv, .int .u16 ev2.cx, .int .u16 ev2.cl, .int .i64 ev2.ce, .int .i64 ev2.ck], .agg #[.int .i64 e.k, .int .i64 e.n, .int .i64 e.i, .int .i64 e.w, .string e.t, .slice p e.ks.length c, .int .u16 e.cv, .int .u16 e.cx, .int .u16 e.cl, .int .i64 e.ce, .int .i64 e.ck]] (f u) fun r w' => r = .returned (.bool q) ∧ Below (f u).heap.size (f u) w') := fun u => by have := sameS_ev ev2 e pe2 p ce2 c (f u) hks' (by unfold maxLen; omega) (NAu.out u) (NBu.out u); rw [HQ.out] at this; exact this
      cases q
      · go_wp2_with fail
        refine wp_region_calm f (by kernel_rfl) (by kernel_rfl) (calm_drew hf hg _) ?_
        repeat (go_big_quiet_step ((first | (go_at_call 66; with_reducible exact calm_of hf hg (SM.out _)))))
        refine wpQuiet_nil ?_; rintro _ ⟨u, rfl⟩
        go_wp2_with fail
        go_ret
        rw [encP_no HP.out (by rw [← HMap.out]; intro h; injection h with h; have := HQ.out; rw [h] at this; simp at this)]
        exact bytEnd_nil (HBu.out _)
      · have hee : ev2 = e := by have := HQ.out; simpa using this
        have HEE := Lib.hid hee
        clear hee
        go_wp2_with fail
        refine wp_region_calm f (by kernel_rfl) (by kernel_rfl) (calm_drew hf hg _) ?_
        repeat (go_big_quiet_step ((first | (go_at_call 66; with_reducible exact calm_of hf hg (SM.out _)))))
        refine wpQuiet_nil ?_; rintro _ ⟨u, rfl⟩
        go_wp2_with fail
        go_ret
        rw [encP_yes HP.out (by rw [← HMap.out, HEE.out])]
        exact ⟨_, rfl, HSu.out _, HBu.out _⟩
    · have hd7 : (L7.length != 1) = true := by simpa using hl7
      have hd7' : ((L7.length : Int) != 1) = true := by simp; omega
      go_upto_region 30 with fail
      obtain ⟨U, f, hU, hf, hg⟩ := calm_class (w7); obtain ⟨u0, hu0⟩ := hg _ (Below.refl _ _); rw [hu0]; clear hu0
      have HBu : Hid (∀ u, Below w.heap.size w (f u)) := fun u => HB7.out.trans ((hf u).mono HB7.out.size)
      have HNE : Hid (encP e = []) := encP_no HP.out (by rw [← HMap.out]; intro h; have := congrArg List.length h; simp at this; exact hl7 this)
      clear hl7
      go_wp2_with fail
      refine wp_region_calm f (by kernel_rfl) (by kernel_rfl) (calm_drew hf hg _) ?_
      repeat (go_big_quiet_step ((first | fail)))
      refine wpQuiet_nil ?_; rintro _ ⟨u, rfl⟩
      go_wp2_with fail
      go_ret
      rw [HNE.out]
      exact bytEnd_nil (HBu.out _)
end Go.Proofs.Ytihkkoldjllifaa
