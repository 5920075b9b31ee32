/- the reference of script: an event's bytes, some kinds. -/
import Derived.Test.YtihkkoldjllifaaScriptK0
namespace Go.Proofs.Ytihkkoldjllifaa
open Go.ChangeShapes Go.WideShapes Go.ChangeAt Go.RowKit

set_option maxRecDepth 100000 in
set_option maxHeartbeats 32000000 in
theorem rbytes_b (e : Ev) (p : Option Addr) (c : Nat) (w : World) (_hlen : e.ks.length ≤ 1000) (_htl : e.t.size ≤ 100000) (ha : NumsAt w p e.ks) (hkk : e.k = 4 ∨ e.k = 5 ∨ e.k = 8) :
    Calls Try.prog 43 #[.agg #[.int .i64 e.k, .int .i64 e.n, .int .i64 e.i, .int .i64 e.w, .string e.t, .slice p e.ks.length c, .int .u16 e.cv, .int .u16 e.cx, .int .u16 e.cl, .int .i64 e.ce, .int .i64 e.ck]] w (RBytEnd w (encR e)) := by
  obtain ⟨i0, hi, hz0, hz1, hz2⟩ := info_parts Try.infoU8
  have NK := Lib.hid ha
  clear ha
  have hA := heap_last w (.cells (evC e p c).toArray 41)
  have HBA : Hid (Below w.heap.size w (w.alloc (.cells (evC e p c).toArray 41))) := (Below.refl _ _).alloc (Nat.le_refl _) _
  simp only [evC] at hA HBA
  have HA := Lib.hid hA
  clear hA
  go_enter Try.func43, Try.ntmps43
  go_upto_region 1 with fail
  obtain ⟨W1, hW⟩ : ∃ W, w.alloc (.cells #[Value.int .i64 e.k, .int .i64 e.n, .int .i64 e.i, .int .i64 e.w, .string e.t, .slice p e.ks.length c, .int .u16 e.cv, .int .u16 e.cx, .int .u16 e.cl, .int .i64 e.ce, .int .i64 e.ck] 41) = W := ⟨_, rfl⟩
  obtain ⟨A, hAe⟩ : ∃ A, w.heap.size = A := ⟨_, rfl⟩
  rw [hAe, hW] at HA
  rw [hW] at HBA ⊢
  rw [hAe]
  have hAw : w.heap.size ≤ A := by omega
  clear hW hAe
  have HA1 := HA; have HB1 := HBA
  clear HA HBA
  have kA1 := block_cells HA1.out
  go_upto_region 5 with fail
  obtain ⟨nb, hnb⟩ : ∃ x, wrap64 (e.n - 1) % 256 = x := ⟨_, rfl⟩
  have HNB : Hid (nodeB e.n = nb) := by show _ = _; rw [← hnb]; unfold nodeB wrap64; rw [IntKind.wrap_u8, IntKind.wrap_i64]
  rw [hnb]
  obtain ⟨K, hK⟩ : ∃ K, e.k = K := ⟨_, rfl⟩
  have HK := Lib.hid hK
  rw [hK]
  rw [hK] at hkk
  clear hK hnb
  rcases hkk with hk | hk | hk
  · skip
    subst hk
    have HA1 := Lib.hid (heap_prev (.cells #[.int .u8 5, .int .u8 8, .int .u8 9] 5) HA1.out)
    have HB1 := Lib.hid (HB1.out.alloc HB1.out.size (.cells #[.int .u8 5, .int .u8 8, .int .u8 9] 5))
    have kA0 := block_cells HA1.out; rw [HK.out] at kA0 kA1
    have HP : Hid (refB e = some [8, (e.i % 256)]) := by show _ = _; unfold refB; simp [HK.out, u8w, IntKind.wrap_u8]
    have HO6 : Hid (((W1.alloc (.cells #[.int .u8 5, .int .u8 8, .int .u8 9] 5)).alloc (.cells #[.int .u8 8, .int .u8 (e.i % 256)] 5)).ownsRow 0 5 1 (.slice (some ⟨(W1.heap.size + 1), 0, none⟩) 2 2) 2 (byt [8, (e.i % 256)])) := by have h := own_new (W1.alloc (.cells #[.int .u8 5, .int .u8 8, .int .u8 9] 5)) [8, (e.i % 256)] 0 (Nat.zero_le _) (by show (2 : Nat) ≤ maxLen; unfold maxLen; omega); simp only [World.size_alloc] at h; exact h
    have HAx := Lib.hid (heap_prev (.cells #[.int .u8 8, .int .u8 (e.i % 256)] 5) HA1.out)
    have HBx : Hid (Below w.heap.size w ((W1.alloc (.cells #[.int .u8 5, .int .u8 8, .int .u8 9] 5)).alloc (.cells #[.int .u8 8, .int .u8 (e.i % 256)] 5))) := HB1.out.alloc HB1.out.size _
    go_upto_region 28 with fail
    obtain ⟨wx, hwx⟩ : ∃ wx, (W1.alloc (.cells #[.int .u8 5, .int .u8 8, .int .u8 9] 5)).alloc (.cells #[.int .u8 8, .int .u8 (e.i % 256)] 5) = wx := ⟨_, rfl⟩
    rw [hwx] at HO6 HAx HBx ⊢
    clear hwx kA1 kA0
    have HOct : Hid (Oct ([8, (e.i % 256)])) := refB_oct HP.out
    have hlx : ([8, (e.i % 256)]).length ≤ 1000000 := by simp; try omega
    have HSl := Lib.hid (Sl.of_own HO6.out)
    go_wp2_with fail
    refine (refDecode_any _ ([8, (e.i % 256)]) 9 _ HOct.out HSl.out hlx).mono ?_; rintro r w7 ⟨v7, L7, rfl, hmap, hown, hkp, hb7⟩
    rw [decA_nine] at hmap
    have HA7 := Lib.hid (below_block hb7 (block_lt HAx.out) HAx.out)
    have HB7 := Lib.hid (HBx.out.trans (hb7.mono HBx.out.size))
    have HS7 := Lib.hid ((HSl.out.keep hb7).mono hb7.size)
    have HEv := Lib.hid (EvSl.of_own hown hkp)
    have HMap := Lib.hid hmap
    clear hmap hown hkp hb7 hlx
    obtain ⟨p7, c7, rfl, hc1, hc2⟩ := HEv.out.form
    unfold maxLen at hc2
    by_cases hl7 : L7.length = 1
    · obtain ⟨⟨ev2, pe2, ce2⟩, rfl⟩ : ∃ x, L7 = [x] := by match L7, hl7 with | [x], _ => exact ⟨x, rfl⟩
      simp only [List.map_cons, List.map_nil] at HMap
      simp only [List.length_singleton] at HEv ⊢
      clear hl7 hc1
      go_upto_region 29 with fail
      obtain ⟨U, f, hU, hf, hg⟩ := calm_class (w7); obtain ⟨u0, hu0⟩ := hg _ (Below.refl _ _); rw [hu0]; clear hu0
      have HEu : Hid (∀ u, EvSl (f u) (.slice p7 1 c7) [(ev2, pe2, ce2)]) := fun u => HEv.out.keep (hf u) (Nat.le_refl _)
      have kAu := fun u => block_cells (calm_heap hf HA7.out u)
      obtain ⟨g, o, cap, hv, -, -, hgl, -⟩ := HEv.out.at 0 (by simp)
      simp only [Value.slice.injEq] at hv
      obtain ⟨hv, -⟩ := hv
      have NAu : Hid (∀ u, NumsAt (f u) pe2 ev2.ks) := fun u => (HEu.out u).2 (ev2, pe2, ce2) (by simp)
      have NBu : Hid (∀ u, NumsAt (f u) p e.ks) := fun u => NK.out.keep (HB7.out.trans ((hf u).mono HB7.out.size)) (Nat.le_refl _)
      have HBu : Hid (∀ u, Below w.heap.size w (f u)) := fun u => HB7.out.trans ((hf u).mono HB7.out.size)
      have HSu : Hid (∀ u, Sl (f u).heap.size (f u) _ 1 _ _) := fun u => (HS7.out.keep (hf u)).mono (hf u).size
      subst hv
      have hc0' : ∀ u, (f u).cell? ⟨g, o, none⟩ = some (.int .i64 ev2.k) := fun u => by have := (HEu.out u).cell (k := 0) (by simp) rfl 0 (by decide); simpa [evC] using this
      have hc1' : ∀ u, (f u).cell? ⟨g, o + 1, none⟩ = some (.int .i64 ev2.n) := fun u => by have := (HEu.out u).cell (k := 0) (by simp) rfl 1 (by decide); simpa [evC] using this
      have hc2' : ∀ u, (f u).cell? ⟨g, o + 2, none⟩ = some (.int .i64 ev2.i) := fun u => by have := (HEu.out u).cell (k := 0) (by simp) rfl 2 (by decide); simpa [evC] using this
      have hc3' : ∀ u, (f u).cell? ⟨g, o + 3, none⟩ = some (.int .i64 ev2.w) := fun u => by have := (HEu.out u).cell (k := 0) (by simp) rfl 3 (by decide); simpa [evC] using this
      have hc4' : ∀ u, (f u).cell? ⟨g, o + 4, none⟩ = some (.string ev2.t) := fun u => by have := (HEu.out u).cell (k := 0) (by simp) rfl 4 (by decide); simpa [evC] using this
      have hc5' : ∀ u, (f u).cell? ⟨g, o + 5, none⟩ = some (.slice pe2 ev2.ks.length ce2) := fun u => by have := (HEu.out u).cell (k := 0) (by simp) rfl 5 (by decide); simpa [evC] using this
      have hc6' : ∀ u, (f u).cell? ⟨g, o + 6, none⟩ = some (.int .u16 ev2.cv) := fun u => by have := (HEu.out u).cell (k := 0) (by simp) rfl 6 (by decide); simpa [evC] using this
      have hc7' : ∀ u, (f u).cell? ⟨g, o + 7, none⟩ = some (.int .u16 ev2.cx) := fun u => by have := (HEu.out u).cell (k := 0) (by simp) rfl 7 (by decide); simpa [evC] using this
      have hc8' : ∀ u, (f u).cell? ⟨g, o + 8, none⟩ = some (.int .u16 ev2.cl) := fun u => by have := (HEu.out u).cell (k := 0) (by simp) rfl 8 (by decide); simpa [evC] using this
      have hc9' : ∀ u, (f u).cell? ⟨g, o + 9, none⟩ = some (.int .i64 ev2.ce) := fun u => by have := (HEu.out u).cell (k := 0) (by simp) rfl 9 (by decide); simpa [evC] using this
      have hc10' : ∀ u, (f u).cell? ⟨g, o + 10, none⟩ = some (.int .i64 ev2.ck) := fun u => by have := (HEu.out u).cell (k := 0) (by simp) rfl 10 (by decide); simpa [evC] using this
      have hks' : ev2.ks.length ≤ 1000000 := by have := decE_ks 9 _ _ HMap.out ev2 (by simp); omega
      obtain ⟨q, hq⟩ : ∃ q, decide (ev2 = e) = q := ⟨_, rfl⟩
      have HQ := Lib.hid hq
      clear hq
      have SM : Hid (∀ u, Calls Try.prog 39 #[.agg #[.int .i64 ev2.k, .int .i64 ev2.n, .int .i64 ev2.i, .int .i64 ev2.w, .string ev2.t, .slice pe2 ev2.ks.length ce2, .int .u16 ev2.cv, .int .u16 ev2.cx, .int .u16 ev2.cl, .int .i64 ev2.ce, .int .i64 ev2.ck], .agg #[.int .i64 e.k, .int .i64 e.n, .int .i64 e.i, .int .i64 e.w, .string e.t, .slice p e.ks.length c, .int .u16 e.cv, .int .u16 e.cx, .int .u16 e.cl, .int .i64 e.ce, .int .i64 e.ck]] (f u) fun r w' => r = .returned (.bool q) ∧ Below (f u).heap.size (f u) w') := fun u => by have := same29_ev ev2 e pe2 p ce2 c (f u) hks' (NAu.out u) (NBu.out u); rw [HQ.out] at this; exact this
      have HF : Hid (encR e = (([8, (e.i % 256)]), q)) := by show _ = _; rw [encR_some HP.out, ← HMap.out, ← HQ.out]; simp
      go_wp2_with fail
      refine wp_region_calm f (by kernel_rfl) (by kernel_rfl) (calm_drew hf hg _) ?_
      repeat (go_big_quiet_step ((first | (go_at_call 39; with_reducible exact calm_of hf hg (SM.out _)))))
      refine wpQuiet_nil ?_; rintro _ ⟨u, rfl⟩
      go_wp2_with fail
      go_ret2
      rw [HF.out]
      exact ⟨_, rfl, HSu.out _, HBu.out _⟩
    · have hd7 : (L7.length == 1) = false := by simpa using hl7
      have hd7' : ((L7.length : Int) == 1) = false := by simp; omega
      go_upto_region 29 with fail
      obtain ⟨U, f, hU, hf, hg⟩ := calm_class (w7); obtain ⟨u0, hu0⟩ := hg _ (Below.refl _ _); rw [hu0]; clear hu0
      have HBu : Hid (∀ u, Below w.heap.size w (f u)) := fun u => HB7.out.trans ((hf u).mono HB7.out.size)
      have HSu : Hid (∀ u, Sl (f u).heap.size (f u) _ 1 _ _) := fun u => (HS7.out.keep (hf u)).mono (hf u).size
      have HF : Hid (encR e = (([8, (e.i % 256)]), false)) := by
        show _ = _; rw [encR_some HP.out, decide_eq_false (by rw [← HMap.out]; intro h; have := congrArg List.length h; simp at this; exact hl7 this)]
      clear hl7
      go_wp2_with fail
      refine wp_region_calm f (by kernel_rfl) (by kernel_rfl) (calm_drew hf hg _) ?_
      repeat (go_big_quiet_step ((first | fail)))
      refine wpQuiet_nil ?_; rintro _ ⟨u, rfl⟩
      go_wp2_with fail
      go_ret2
      rw [HF.out]
      exact ⟨_, rfl, HSu.out _, HBu.out _⟩
  · skip
    subst hk
    have HA1 := Lib.hid (heap_prev (.cells #[.int .u8 5, .int .u8 8, .int .u8 9] 5) HA1.out)
    have HB1 := Lib.hid (HB1.out.alloc HB1.out.size (.cells #[.int .u8 5, .int .u8 8, .int .u8 9] 5))
    have kA0 := block_cells HA1.out; rw [HK.out] at kA0 kA1
    have HP : Hid (refB e = some [9, (e.i % 256)]) := by show _ = _; unfold refB; simp [HK.out, u8w, IntKind.wrap_u8]
    have HO6 : Hid (((W1.alloc (.cells #[.int .u8 5, .int .u8 8, .int .u8 9] 5)).alloc (.cells #[.int .u8 9, .int .u8 (e.i % 256)] 5)).ownsRow 0 5 1 (.slice (some ⟨(W1.heap.size + 1), 0, none⟩) 2 2) 2 (byt [9, (e.i % 256)])) := by have h := own_new (W1.alloc (.cells #[.int .u8 5, .int .u8 8, .int .u8 9] 5)) [9, (e.i % 256)] 0 (Nat.zero_le _) (by show (2 : Nat) ≤ maxLen; unfold maxLen; omega); simp only [World.size_alloc] at h; exact h
    have HAx := Lib.hid (heap_prev (.cells #[.int .u8 9, .int .u8 (e.i % 256)] 5) HA1.out)
    have HBx : Hid (Below w.heap.size w ((W1.alloc (.cells #[.int .u8 5, .int .u8 8, .int .u8 9] 5)).alloc (.cells #[.int .u8 9, .int .u8 (e.i % 256)] 5))) := HB1.out.alloc HB1.out.size _
    go_upto_region 28 with fail
    obtain ⟨wx, hwx⟩ : ∃ wx, (W1.alloc (.cells #[.int .u8 5, .int .u8 8, .int .u8 9] 5)).alloc (.cells #[.int .u8 9, .int .u8 (e.i % 256)] 5) = wx := ⟨_, rfl⟩
    rw [hwx] at HO6 HAx HBx ⊢
    clear hwx kA1 kA0
    have HOct : Hid (Oct ([9, (e.i % 256)])) := refB_oct HP.out
    have hlx : ([9, (e.i % 256)]).length ≤ 1000000 := by simp; try omega
    have HSl := Lib.hid (Sl.of_own HO6.out)
    go_wp2_with fail
    refine (refDecode_any _ ([9, (e.i % 256)]) 9 _ HOct.out HSl.out hlx).mono ?_; rintro r w7 ⟨v7, L7, rfl, hmap, hown, hkp, hb7⟩
    rw [decA_nine] at hmap
    have HA7 := Lib.hid (below_block hb7 (block_lt HAx.out) HAx.out)
    have HB7 := Lib.hid (HBx.out.trans (hb7.mono HBx.out.size))
    have HS7 := Lib.hid ((HSl.out.keep hb7).mono hb7.size)
    have HEv := Lib.hid (EvSl.of_own hown hkp)
    have HMap := Lib.hid hmap
    clear hmap hown hkp hb7 hlx
    obtain ⟨p7, c7, rfl, hc1, hc2⟩ := HEv.out.form
    unfold maxLen at hc2
    by_cases hl7 : L7.length = 1
    · obtain ⟨⟨ev2, pe2, ce2⟩, rfl⟩ : ∃ x, L7 = [x] := by match L7, hl7 with | [x], _ => exact ⟨x, rfl⟩
      simp only [List.map_cons, List.map_nil] at HMap
      simp only [List.length_singleton] at HEv ⊢
      clear hl7 hc1
      go_upto_region 29 with fail
      obtain ⟨U, f, hU, hf, hg⟩ := calm_class (w7); obtain ⟨u0, hu0⟩ := hg _ (Below.refl _ _); rw [hu0]; clear hu0
      have HEu : Hid (∀ u, EvSl (f u) (.slice p7 1 c7) [(ev2, pe2, ce2)]) := fun u => HEv.out.keep (hf u) (Nat.le_refl _)
      have kAu := fun u => block_cells (calm_heap hf HA7.out u)
      obtain ⟨g, o, cap, hv, -, -, hgl, -⟩ := HEv.out.at 0 (by simp)
      simp only [Value.slice.injEq] at hv
      obtain ⟨hv, -⟩ := hv
      have NAu : Hid (∀ u, NumsAt (f u) pe2 ev2.ks) := fun u => (HEu.out u).2 (ev2, pe2, ce2) (by simp)
      have NBu : Hid (∀ u, NumsAt (f u) p e.ks) := fun u => NK.out.keep (HB7.out.trans ((hf u).mono HB7.out.size)) (Nat.le_refl _)
      have HBu : Hid (∀ u, Below w.heap.size w (f u)) := fun u => HB7.out.trans ((hf u).mono HB7.out.size)
      have HSu : Hid (∀ u, Sl (f u).heap.size (f u) _ 1 _ _) := fun u => (HS7.out.keep (hf u)).mono (hf u).size
      subst hv
      have hc0' : ∀ u, (f u).cell? ⟨g, o, none⟩ = some (.int .i64 ev2.k) := fun u => by have := (HEu.out u).cell (k := 0) (by simp) rfl 0 (by decide); simpa [evC] using this
      have hc1' : ∀ u, (f u).cell? ⟨g, o + 1, none⟩ = some (.int .i64 ev2.n) := fun u => by have := (HEu.out u).cell (k := 0) (by simp) rfl 1 (by decide); simpa [evC] using this
      have hc2' : ∀ u, (f u).cell? ⟨g, o + 2, none⟩ = some (.int .i64 ev2.i) := fun u => by have := (HEu.out u).cell (k := 0) (by simp) rfl 2 (by decide); simpa [evC] using this
      have hc3' : ∀ u, (f u).cell? ⟨g, o + 3, none⟩ = some (.int .i64 ev2.w) := fun u => by have := (HEu.out u).cell (k := 0) (by simp) rfl 3 (by decide); simpa [evC] using this
      have hc4' : ∀ u, (f u).cell? ⟨g, o + 4, none⟩ = some (.string ev2.t) := fun u => by have := (HEu.out u).cell (k := 0) (by simp) rfl 4 (by decide); simpa [evC] using this
      have hc5' : ∀ u, (f u).cell? ⟨g, o + 5, none⟩ = some (.slice pe2 ev2.ks.length ce2) := fun u => by have := (HEu.out u).cell (k := 0) (by simp) rfl 5 (by decide); simpa [evC] using this
      have hc6' : ∀ u, (f u).cell? ⟨g, o + 6, none⟩ = some (.int .u16 ev2.cv) := fun u => by have := (HEu.out u).cell (k := 0) (by simp) rfl 6 (by decide); simpa [evC] using this
      have hc7' : ∀ u, (f u).cell? ⟨g, o + 7, none⟩ = some (.int .u16 ev2.cx) := fun u => by have := (HEu.out u).cell (k := 0) (by simp) rfl 7 (by decide); simpa [evC] using this
      have hc8' : ∀ u, (f u).cell? ⟨g, o + 8, none⟩ = some (.int .u16 ev2.cl) := fun u => by have := (HEu.out u).cell (k := 0) (by simp) rfl 8 (by decide); simpa [evC] using this
      have hc9' : ∀ u, (f u).cell? ⟨g, o + 9, none⟩ = some (.int .i64 ev2.ce) := fun u => by have := (HEu.out u).cell (k := 0) (by simp) rfl 9 (by decide); simpa [evC] using this
      have hc10' : ∀ u, (f u).cell? ⟨g, o + 10, none⟩ = some (.int .i64 ev2.ck) := fun u => by have := (HEu.out u).cell (k := 0) (by simp) rfl 10 (by decide); simpa [evC] using this
      have hks' : ev2.ks.length ≤ 1000000 := by have := decE_ks 9 _ _ HMap.out ev2 (by simp); omega
      obtain ⟨q, hq⟩ : ∃ q, decide (ev2 = e) = q := ⟨_, rfl⟩
      have HQ := Lib.hid hq
      clear hq
      have SM : Hid (∀ u, Calls Try.prog 39 #[.agg #[.int .i64 ev2.k, .int .i64 ev2.n, .int .i64 ev2.i, .int .i64 ev2.w, .string ev2.t, .slice pe2 ev2.ks.length ce2, .int .u16 ev2.cv, .int .u16 ev2.cx, .int .u16 ev2.cl, .int .i64 ev2.ce, .int .i64 ev2.ck], .agg #[.int .i64 e.k, .int .i64 e.n, .int .i64 e.i, .int .i64 e.w, .string e.t, .slice p e.ks.length c, .int .u16 e.cv, .int .u16 e.cx, .int .u16 e.cl, .int .i64 e.ce, .int .i64 e.ck]] (f u) fun r w' => r = .returned (.bool q) ∧ Below (f u).heap.size (f u) w') := fun u => by have := same29_ev ev2 e pe2 p ce2 c (f u) hks' (NAu.out u) (NBu.out u); rw [HQ.out] at this; exact this
      have HF : Hid (encR e = (([9, (e.i % 256)]), q)) := by show _ = _; rw [encR_some HP.out, ← HMap.out, ← HQ.out]; simp
      go_wp2_with fail
      refine wp_region_calm f (by kernel_rfl) (by kernel_rfl) (calm_drew hf hg _) ?_
      repeat (go_big_quiet_step ((first | (go_at_call 39; with_reducible exact calm_of hf hg (SM.out _)))))
      refine wpQuiet_nil ?_; rintro _ ⟨u, rfl⟩
      go_wp2_with fail
      go_ret2
      rw [HF.out]
      exact ⟨_, rfl, HSu.out _, HBu.out _⟩
    · have hd7 : (L7.length == 1) = false := by simpa using hl7
      have hd7' : ((L7.length : Int) == 1) = false := by simp; omega
      go_upto_region 29 with fail
      obtain ⟨U, f, hU, hf, hg⟩ := calm_class (w7); obtain ⟨u0, hu0⟩ := hg _ (Below.refl _ _); rw [hu0]; clear hu0
      have HBu : Hid (∀ u, Below w.heap.size w (f u)) := fun u => HB7.out.trans ((hf u).mono HB7.out.size)
      have HSu : Hid (∀ u, Sl (f u).heap.size (f u) _ 1 _ _) := fun u => (HS7.out.keep (hf u)).mono (hf u).size
      have HF : Hid (encR e = (([9, (e.i % 256)]), false)) := by
        show _ = _; rw [encR_some HP.out, decide_eq_false (by rw [← HMap.out]; intro h; have := congrArg List.length h; simp at this; exact hl7 this)]
      clear hl7
      go_wp2_with fail
      refine wp_region_calm f (by kernel_rfl) (by kernel_rfl) (calm_drew hf hg _) ?_
      repeat (go_big_quiet_step ((first | fail)))
      refine wpQuiet_nil ?_; rintro _ ⟨u, rfl⟩
      go_wp2_with fail
      go_ret2
      rw [HF.out]
      exact ⟨_, rfl, HSu.out _, HBu.out _⟩
  · skip
    subst hk
    have HP : Hid (refB e = some [12, nb]) := by show _ = _; unfold refB; simp [HK.out, HNB.out]
    have HO6 : Hid ((W1.alloc (.cells #[.int .u8 12, .int .u8 nb] 5)).ownsRow 0 5 1 (.slice (some ⟨W1.heap.size, 0, none⟩) 2 2) 2 (byt [12, nb])) := by have h := own_new W1 [12, nb] 0 (Nat.zero_le _) (by show (2 : Nat) ≤ maxLen; unfold maxLen; omega); exact h
    have HAx := Lib.hid (heap_prev (.cells #[.int .u8 12, .int .u8 nb] 5) HA1.out)
    have HBx : Hid (Below w.heap.size w (W1.alloc (.cells #[.int .u8 12, .int .u8 nb] 5))) := HB1.out.alloc HB1.out.size _
    go_upto_region 28 with fail
    obtain ⟨wx, hwx⟩ : ∃ wx, W1.alloc (.cells #[.int .u8 12, .int .u8 nb] 5) = wx := ⟨_, rfl⟩
    rw [hwx] at HO6 HAx HBx ⊢
    clear hwx kA1
    have HOct : Hid (Oct ([12, nb])) := refB_oct HP.out
    have hlx : ([12, nb]).length ≤ 1000000 := by simp; try omega
    have HSl := Lib.hid (Sl.of_own HO6.out)
    go_wp2_with fail
    refine (refDecode_any _ ([12, nb]) 9 _ HOct.out HSl.out hlx).mono ?_; rintro r w7 ⟨v7, L7, rfl, hmap, hown, hkp, hb7⟩
    rw [decA_nine] at hmap
    have HA7 := Lib.hid (below_block hb7 (block_lt HAx.out) HAx.out)
    have HB7 := Lib.hid (HBx.out.trans (hb7.mono HBx.out.size))
    have HS7 := Lib.hid ((HSl.out.keep hb7).mono hb7.size)
    have HEv := Lib.hid (EvSl.of_own hown hkp)
    have HMap := Lib.hid hmap
    clear hmap hown hkp hb7 hlx
    obtain ⟨p7, c7, rfl, hc1, hc2⟩ := HEv.out.form
    unfold maxLen at hc2
    by_cases hl7 : L7.length = 1
    · obtain ⟨⟨ev2, pe2, ce2⟩, rfl⟩ : ∃ x, L7 = [x] := by match L7, hl7 with | [x], _ => exact ⟨x, rfl⟩
      simp only [List.map_cons, List.map_nil] at HMap
      simp only [List.length_singleton] at HEv ⊢
      clear hl7 hc1
      go_upto_region 29 with fail
      obtain ⟨U, f, hU, hf, hg⟩ := calm_class (w7); obtain ⟨u0, hu0⟩ := hg _ (Below.refl _ _); rw [hu0]; clear hu0
      have HEu : Hid (∀ u, EvSl (f u) (.slice p7 1 c7) [(ev2, pe2, ce2)]) := fun u => HEv.out.keep (hf u) (Nat.le_refl _)
      have kAu := fun u => block_cells (calm_heap hf HA7.out u)
      obtain ⟨g, o, cap, hv, -, -, hgl, -⟩ := HEv.out.at 0 (by simp)
      simp only [Value.slice.injEq] at hv
      obtain ⟨hv, -⟩ := hv
      have NAu : Hid (∀ u, NumsAt (f u) pe2 ev2.ks) := fun u => (HEu.out u).2 (ev2, pe2, ce2) (by simp)
      have NBu : Hid (∀ u, NumsAt (f u) p e.ks) := fun u => NK.out.keep (HB7.out.trans ((hf u).mono HB7.out.size)) (Nat.le_refl _)
      have HBu : Hid (∀ u, Below w.heap.size w (f u)) := fun u => HB7.out.trans ((hf u).mono HB7.out.size)
      have HSu : Hid (∀ u, Sl (f u).heap.size (f u) _ 1 _ _) := fun u => (HS7.out.keep (hf u)).mono (hf u).size
      subst hv
      have hc0' : ∀ u, (f u).cell? ⟨g, o, none⟩ = some (.int .i64 ev2.k) := fun u => by have := (HEu.out u).cell (k := 0) (by simp) rfl 0 (by decide); simpa [evC] using this
      have hc1' : ∀ u, (f u).cell? ⟨g, o + 1, none⟩ = some (.int .i64 ev2.n) := fun u => by have := (HEu.out u).cell (k := 0) (by simp) rfl 1 (by decide); simpa [evC] using this
      have hc2' : ∀ u, (f u).cell? ⟨g, o + 2, none⟩ = some (.int .i64 ev2.i) := fun u => by have := (HEu.out u).cell (k := 0) (by simp) rfl 2 (by decide); simpa [evC] using this
      have hc3' : ∀ u, (f u).cell? ⟨g, o + 3, none⟩ = some (.int .i64 ev2.w) := fun u => by have := (HEu.out u).cell (k := 0) (by simp) rfl 3 (by decide); simpa [evC] using this
      have hc4' : ∀ u, (f u).cell? ⟨g, o + 4, none⟩ = some (.string ev2.t) := fun u => by have := (HEu.out u).cell (k := 0) (by simp) rfl 4 (by decide); simpa [evC] using this
      have hc5' : ∀ u, (f u).cell? ⟨g, o + 5, none⟩ = some (.slice pe2 ev2.ks.length ce2) := fun u => by have := (HEu.out u).cell (k := 0) (by simp) rfl 5 (by decide); simpa [evC] using this
      have hc6' : ∀ u, (f u).cell? ⟨g, o + 6, none⟩ = some (.int .u16 ev2.cv) := fun u => by have := (HEu.out u).cell (k := 0) (by simp) rfl 6 (by decide); simpa [evC] using this
      have hc7' : ∀ u, (f u).cell? ⟨g, o + 7, none⟩ = some (.int .u16 ev2.cx) := fun u => by have := (HEu.out u).cell (k := 0) (by simp) rfl 7 (by decide); simpa [evC] using this
      have hc8' : ∀ u, (f u).cell? ⟨g, o + 8, none⟩ = some (.int .u16 ev2.cl) := fun u => by have := (HEu.out u).cell (k := 0) (by simp) rfl 8 (by decide); simpa [evC] using this
      have hc9' : ∀ u, (f u).cell? ⟨g, o + 9, none⟩ = some (.int .i64 ev2.ce) := fun u => by have := (HEu.out u).cell (k := 0) (by simp) rfl 9 (by decide); simpa [evC] using this
      have hc10' : ∀ u, (f u).cell? ⟨g, o + 10, none⟩ = some (.int .i64 ev2.ck) := fun u => by have := (HEu.out u).cell (k := 0) (by simp) rfl 10 (by decide); simpa [evC] using this
      have hks' : ev2.ks.length ≤ 1000000 := by have := decE_ks 9 _ _ HMap.out ev2 (by simp); omega
      obtain ⟨q, hq⟩ : ∃ q, decide (ev2 = e) = q := ⟨_, rfl⟩
      have HQ := Lib.hid hq
      clear hq
      have SM : Hid (∀ u, Calls Try.prog 39 #[.agg #[.int .i64 ev2.k, .int .i64 ev2.n, .int .i64 ev2.i, .int .i64 ev2.w, .string ev2.t, .slice pe2 ev2.ks.length ce2, .int .u16 ev2.cv, .int .u16 ev2.cx, .int .u16 ev2.cl, .int .i64 ev2.ce, .int .i64 ev2.ck], .agg #[.int .i64 e.k, .int .i64 e.n, .int .i64 e.i, .int .i64 e.w, .string e.t, .slice p e.ks.length c, .int .u16 e.cv, .int .u16 e.cx, .int .u16 e.cl, .int .i64 e.ce, .int .i64 e.ck]] (f u) fun r w' => r = .returned (.bool q) ∧ Below (f u).heap.size (f u) w') := fun u => by have := same29_ev ev2 e pe2 p ce2 c (f u) hks' (NAu.out u) (NBu.out u); rw [HQ.out] at this; exact this
      have HF : Hid (encR e = (([12, nb]), q)) := by show _ = _; rw [encR_some HP.out, ← HMap.out, ← HQ.out]; simp
      go_wp2_with fail
      refine wp_region_calm f (by kernel_rfl) (by kernel_rfl) (calm_drew hf hg _) ?_
      repeat (go_big_quiet_step ((first | (go_at_call 39; with_reducible exact calm_of hf hg (SM.out _)))))
      refine wpQuiet_nil ?_; rintro _ ⟨u, rfl⟩
      go_wp2_with fail
      go_ret2
      rw [HF.out]
      exact ⟨_, rfl, HSu.out _, HBu.out _⟩
    · have hd7 : (L7.length == 1) = false := by simpa using hl7
      have hd7' : ((L7.length : Int) == 1) = false := by simp; omega
      go_upto_region 29 with fail
      obtain ⟨U, f, hU, hf, hg⟩ := calm_class (w7); obtain ⟨u0, hu0⟩ := hg _ (Below.refl _ _); rw [hu0]; clear hu0
      have HBu : Hid (∀ u, Below w.heap.size w (f u)) := fun u => HB7.out.trans ((hf u).mono HB7.out.size)
      have HSu : Hid (∀ u, Sl (f u).heap.size (f u) _ 1 _ _) := fun u => (HS7.out.keep (hf u)).mono (hf u).size
      have HF : Hid (encR e = (([12, nb]), false)) := by
        show _ = _; rw [encR_some HP.out, decide_eq_false (by rw [← HMap.out]; intro h; have := congrArg List.length h; simp at this; exact hl7 this)]
      clear hl7
      go_wp2_with fail
      refine wp_region_calm f (by kernel_rfl) (by kernel_rfl) (calm_drew hf hg _) ?_
      repeat (go_big_quiet_step ((first | fail)))
      refine wpQuiet_nil ?_; rintro _ ⟨u, rfl⟩
      go_wp2_with fail
      go_ret2
      rw [HF.out]
      exact ⟨_, rfl, HSu.out _, HBu.out _⟩
end Go.Proofs.Ytihkkoldjllifaa
