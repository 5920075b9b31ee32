/- Hard: the reference's Build. -/
import Derived.Test.YtjaabakobpabjaaHardE
namespace Go.Proofs.Ytjaabakobpabjaa
open Go.ChangeShapes Go.WideShapes Go.ChangeAt Go.RowKit

theorem rf_rd {t ys : List Int} {n : Int} {b : Bool} (h : rfN t false = (n, ys, b)) : (b = true ∧ (rdNw t false).2.2 = true) ∨ (b = false ∧ rdNw t false = (n, ys, false)) := by
  unfold rfN at h
  cases hb : (rdNw t false).2.2 with
  | true => rw [stick_bad hb] at h; simp only [Prod.mk.injEq] at h; exact .inl ⟨h.2.2.symm, rfl⟩
  | false =>
    rw [stick_good hb] at h
    have h3 : b = false := by rw [h] at hb; exact hb
    subst h3
    exact .inr ⟨rfl, h⟩
theorem rstep_life {s : Int × List Co} {t ys : List Int} {n : Int} {b : Bool} (h : rfN t false = (n, ys, b)) : bldStep (some s) (76 :: t) = if (!b && ys.isEmpty) = true then some (n, s.2) else none := by
  rcases rf_rd h with ⟨rfl, hb⟩ | ⟨rfl, hr⟩
  · obtain ⟨⟨n', ys', b'⟩, hr⟩ : ∃ z, rdNw t false = z := ⟨_, rfl⟩
    have hb' : b' = true := by rw [hr] at hb; exact hb
    subst hb'
    rw [bldStep_life hr]; rfl
  · exact bldStep_life hr
theorem rstep_bad {s : Int × List Co} {a : Int} {t ys : List Int} {n : Int} {b : Bool} (h : rfN t false = (n, ys, b)) (ha : a ≠ 76) (hb : b = true ∨ n < 0 ∨ (s.2.length : Int) ≤ n) : bldStep (some s) (a :: t) = none := by
  rcases rf_rd h with ⟨rfl, hb2⟩ | ⟨rfl, hr⟩
  · obtain ⟨⟨n', ys', b'⟩, hr⟩ : ∃ z, rdNw t false = z := ⟨_, rfl⟩
    have hb' : b' = true := by rw [hr] at hb2; exact hb2
    exact bldStep_bad hr ha (.inl hb')
  · exact bldStep_bad hr ha hb
theorem rstep_say {s : Int × List Co} {a : Int} {t ys : List Int} {n : Nat} (ho : Oct ys) (h : rfN t false = ((n : Int), ys, false)) (ha : a ≠ 76) (hn : n < s.2.length) : bldStep (some s) (a :: t) = (sayR a ys).map fun rc => (s.1, s.2.set n (apRc s.2[n] rc)) := by
  rcases rf_rd h with ⟨hb, _⟩ | ⟨_, hr⟩
  · cases hb
  · rw [sayR_eq a ho]; exact bldStep_say hr ha hn
set_option maxRecDepth 100000 in
set_option maxHeartbeats 16000000 in
theorem rbuild_any (id : Int) (js : List Jn) (q : Option Addr) (cq : Nat) (L : List ByteArray) (qr : Option Addr) (cr : Nat) (w : World) (hj : JnAt w q js) (hr : SrAt w.heap.size w qr L) (ho : ∀ s ∈ L, (s.size : Int) ≤ 140737488300000) (hjl : js.length ≤ 1000) (hLl : L.length ≤ 100000) :
    Calls Try.prog 10 #[.int .i64 id, .slice q js.length cq, .slice qr L.length cr] w (BldEnd w (bld id js (L.map txW))) := by
  obtain ⟨i0, hi0, hz0, hz1, hz2⟩ := info_parts Try.infoCo
  have HJ := Lib.hid hj; have HR := Lib.hid hr; have HO := Lib.hid ho
  clear hj hr ho
  go_enter Try.func10, Try.ntmps10
  obtain ⟨Q', hQ⟩ : ∃ Q', bodyPost Try.prog Try.f10 (BldEnd w (bld id js (L.map txW))) = Q' := ⟨_, rfl⟩
  have HQN : Hid (∀ (a : Act) (w' : World), a.tmps.getD 6 undef = .int .i64 0 → a.tmps.getD 7 undef = .slice none 0 0 → a.tmps.getD 8 undef = .int .i64 9 → a.defers = [] → bld id js (L.map txW) = none → Below w.heap.size w w' → Q' .ret a w') := fun a w' h6 h7 h8 hd hm hb => by
    rw [← hQ]; exact bodyPost_ret (v := .tuple #[.int .i64 0, .slice none 0 0, .int .i64 9]) (by rw [results_tmp3 rfl, h6, h7, h8]) hd ⟨hb, by rw [hm]⟩
  have HQY : Hid (∀ (a : Act) (w' : World) (life : Int) (v : Value) (cs : List Co) (l : List CoX), a.tmps.getD 6 undef = .int .i64 life → a.tmps.getD 7 undef = v → a.tmps.getD 8 undef = .int .i64 0 → a.defers = [] → bld id js (L.map txW) = some (life, cs) → l.map CoX.c = cs.map endCo → CsAt w.heap.size w' v l → Below w.heap.size w w' → Q' .ret a w') := fun a w' life v cs l h6 h7 h8 hd hm hc hl hb => by
    rw [← hQ]; exact bodyPost_ret (v := .tuple #[.int .i64 life, v, .int .i64 0]) (by rw [results_tmp3 rfl, h6, h7, h8]) hd ⟨hb, by rw [hm]; exact ⟨v, l, rfl, hc, hl⟩⟩
  rw [hQ]
  clear hQ
  have HS : Hid (∃ l : List CoX, l.map CoX.c = (js.take 0).map (newCo id) ∧ CsAt w.heap.size w (.slice none 0 0) l ∧ Below w.heap.size w w) := ⟨[], rfl, CsAt.nil _ _, Below.refl _ _⟩
  go_wp2_with fail
  go_loopw [10, 11] (fun u i wr => ∃ k : Nat, k ≤ js.length ∧ i = .int .i64 k ∧ Hid (∃ l : List CoX, l.map CoX.c = (js.take k).map (newCo id) ∧ CsAt w.heap.size wr u l ∧ Below w.heap.size w wr)) (fun _ i _ => js.length - (intOf i).toNat)
  case atStart => exact ⟨0, Nat.zero_le _, rfl, HS⟩
  case round =>
    clear HS
    obtain ⟨k, hk, rfl, HS⟩ := hrel
    obtain ⟨wk, rfl⟩ : ∃ wk : World, wk = wr := ⟨_, rfl⟩
    obtain ⟨vk, rfl⟩ : ∃ vk : Value, vk = u10 := ⟨_, rfl⟩
    by_cases hlt : k < js.length
    · have hd : decide ((k : Int) < (js.length : Int)) = true := by simp; omega
      obtain ⟨l, hl1, hl2, hl3⟩ := HS.out
      obtain ⟨g, o, rfl, hg, hc⟩ := HJ.out k hlt
      obtain ⟨j, hj⟩ : ∃ j, js[k] = j := ⟨_, rfl⟩
      rw [hj] at hc
      have hll : l.length = k := by have := congrArg List.length hl1; simpa [List.length_take, Nat.min_eq_left (Nat.le_of_lt hlt)] using this
      have HRG := Lib.hid (range_of (n := 11) (cs := jnL j) rfl (fun i hi => (hl3.cell (p := ⟨g, o + k * 11 + i, none⟩) hg).trans (hc i hi)))
      have HL := Lib.hid hl2; have HB := Lib.hid hl3; have HC := Lib.hid hl1; have HJJ := Lib.hid hj
      have HLL := Lib.hid hll
      clear hc hl1 hl2 hl3 HS hj hll
      have HCN := Lib.hid (show Calls Try.prog 32 #[.int .i64 id, .agg (jnL j).toArray] wk _ from rcnew_any id j wk)
      go_wp2_with (with_reducible refine wpList_load_mid (op := ⟨some 29, _, _, _, _, _⟩) rfl _ _ rfl g (o + k * 11) rfl (jnL j) _ HRG.out Try.underlying42 rfl (by kernel_rfl) ?_)
      refine HCN.out.mono ?_; rintro e w3 ⟨rfl, hb3⟩
      have HL3 := Lib.hid (HL.out.keep hb3); have HB3 := Lib.hid (HB.out.trans (hb3.mono HB.out.size))
      clear hb3 HCN HRG HL HB
      have hbx : Below w3.heap.size w3 (w3.alloc (.cells (coL (newCo id j) none 0).toArray 48)) := (Below.refl _ _).alloc (Nat.le_refl _) _
      have HLx := Lib.hid (HL3.out.keep hbx); have HBx := Lib.hid (HB3.out.trans (hbx.mono HB3.out.size))
      have HSx := Lib.hid (sl_rows (heap_last w3 (.cells (coL (newCo id j) none 0).toArray 48)) (coL (newCo id j) none 0) rfl)
      clear hbx HL3 HB3
      go_wp2_with (first | (with_reducible refine wpList_slice_one (o := ⟨some 31, _, _, _, _, _⟩) rfl _ 48 _ rfl (coL (newCo id j) none 0) 45 i0 (.agg #[.int .i64 0, .int .i64 0, .int .i64 0, .int .i64 0, .int .i64 0, .int .i64 0, .int .i64 0, .int .i64 0, .int .i64 0, .int .i64 0, .int .u16 0, .int .u16 0, .int .u16 0, .int .i64 0, .int .i64 0, .int .u16 0, .int .u16 0, .int .u16 0, .int .i64 0, .int .i64 0, .bool false, .slice none 0 0, .string ⟨#[]⟩, .int .u16 0, .int .u16 0, .int .i64 0, .int .i64 0, .int .i64 0, .int .i64 0, .int .i64 0, .int .i64 0, .int .i64 0, .int .i64 0, .int .i64 0, .int .i64 0, .int .i64 0, .int .i64 0, .int .i64 0, .int .i64 0, .int .i64 0, .int .i64 0, .int .i64 0, .int .i64 0, .int .i64 0, .int .i64 0]) rfl (by kernel_rfl) (by decide) (by decide) Try.underlying27 hi0 hz0 hz1 ?_) | (at_builtin; go_loud (refine wpList_append_sl_at rfl _ _ 27 rfl w.heap.size 48 i0 (.agg #[.int .i64 0, .int .i64 0, .int .i64 0, .int .i64 0, .int .i64 0, .int .i64 0, .int .i64 0, .int .i64 0, .int .i64 0, .int .i64 0, .int .u16 0, .int .u16 0, .int .u16 0, .int .i64 0, .int .i64 0, .int .u16 0, .int .u16 0, .int .u16 0, .int .i64 0, .int .i64 0, .bool false, .slice none 0 0, .string ⟨#[]⟩, .int .u16 0, .int .u16 0, .int .i64 0, .int .i64 0, .int .i64 0, .int .i64 0, .int .i64 0, .int .i64 0, .int .i64 0, .int .i64 0, .int .i64 0, .int .i64 0, .int .i64 0, .int .i64 0, .int .i64 0, .int .i64 0, .int .i64 0, .int .i64 0, .int .i64 0, .int .i64 0, .int .i64 0, .int .i64 0]) 45 344 Try.underlying27 hi0 hz0 hz1 hz2 rfl (by decide) vk l.length (coRow l) rfl HLx.out.own _ _ 1 (coL (newCo id j) none 0) rfl HSx.out (coL_one _ _ _) ?d1 ?d2 ?d3 ?_)))
      case d1 => have := HLL.out; unfold maxLen; omega
      case d2 => have := HLL.out; omega
      case d3 => exact HBx.out.size
      intro v4 w4 h2 h3 h4
      have HS2 : Hid (∃ l : List CoX, l.map CoX.c = (js.take (k + 1)).map (newCo id) ∧ CsAt w.heap.size w4 v4 l ∧ Below w.heap.size w w4) := ⟨l ++ [⟨newCo id j, none, 0⟩], by rw [List.map_append, HC.out, List.take_succ_eq_append_getElem hlt, List.map_append, HJJ.out]; rfl, HLx.out.app (CoOwn.new _ _ id j) h2 h3, HBx.out.grown h3 HBx.out.size (fun b hb => (HLx.out.own.lt b hb).1)⟩
      clear h2 h3 h4 HLx HBx HSx HC
      go_wp2_with fail
      go_roundw
      case rel => exact ⟨k + 1, by omega, by go_num, HS2⟩
      case measure => simp [intOf]; omega
    · obtain rfl : k = js.length := by omega
      have hd : decide ((js.length : Int) < (js.length : Int)) = false := by simp
      obtain ⟨l, hl1, hl2, hl3⟩ := HS.out
      rw [List.take_of_length_le (Nat.le_refl _)] at hl1
      have HS2 : Hid (∃ (life : Int) (l : List CoX), Value.int .i64 0 = .int .i64 life ∧ ((L.map txW).take 0).foldl bldStep (some (0, js.map (newCo id))) = some (life, l.map CoX.c) ∧ LInv 0 l ∧ l.length ≤ 1000 ∧ CsAt w.heap.size wk vk l ∧ Below w.heap.size w wk) := ⟨0, l, rfl, by rw [hl1]; rfl, fun x hx => by
        have hm : x.c ∈ l.map CoX.c := List.mem_map.2 ⟨x, hx, rfl⟩
        rw [hl1] at hm
        obtain ⟨j, -, hj⟩ := List.mem_map.1 hm
        rw [← hj]
        exact ⟨Int.le_refl 0, by show (0 : Int) ≤ 1125899906842624; decide, Nat.le_refl 0⟩, by have := congrArg List.length hl1; simp at this; omega, hl2, hl3⟩
      clear hl1 hl2 hl3 HS hd
      have hd : decide ((js.length : Int) < (js.length : Int)) = false := by simp
      go_wp2_with fail
      go_loopw [9, 12] (fun lf i wr => ∃ k : Nat, k ≤ L.length ∧ i = .int .i64 k ∧ Hid (∃ (life : Int) (l : List CoX), lf = .int .i64 life ∧ ((L.map txW).take k).foldl bldStep (some (0, js.map (newCo id))) = some (life, l.map CoX.c) ∧ LInv k l ∧ l.length ≤ 1000 ∧ CsAt w.heap.size wr vk l ∧ Below w.heap.size w wr)) (fun _ i _ => L.length - (intOf i).toNat)
      case atStart => exact ⟨0, Nat.zero_le _, rfl, HS2⟩
      case round =>
        clear HS2
        obtain ⟨k, hk, rfl, HS⟩ := hrel
        obtain ⟨wk, rfl⟩ : ∃ wk : World, wk = wr := ⟨_, rfl⟩
        have hkm : ∀ _ : k < L.length, k < (L.map txW).length := fun h => by simpa using h
        by_cases hlt : k < L.length
        · have hkm := hkm hlt
          have hd : decide ((k : Int) < (L.length : Int)) = true := by simp; omega
          obtain ⟨life, l, rfl, hf0, hin, hln, hcs, hbw⟩ := HS.out
          obtain ⟨g, o, rfl, hg, hc⟩ := HR.out k hlt
          obtain ⟨s, hs⟩ : ∃ s, L[k] = s := ⟨_, rfl⟩
          rw [hs] at hc
          have hlen := HO.out s (by rw [← hs]; exact List.getElem_mem hlt)
          have hxk : (L.map txW)[k] = txW s := by rw [List.getElem_map, hs]
          obtain ⟨cu, w1, hcv, hs1, hb1⟩ := conv_bytes s wk (by unfold maxLen; omega)
          have HXK := Lib.hid hxk; have HF0 := Lib.hid hf0; have HIN := Lib.hid hin; have HBW := Lib.hid hbw
          have HCK := Lib.hid (show ∀ w', Below wk.heap.size wk w' → CsAt w.heap.size w' vk l from fun w' hb => hcs.keep hb)
          have HCC := Lib.hid (show ∀ w', Below w.heap.size w w' → w'.cell? ⟨g, o + k, none⟩ = some (.string s) from fun w' hb => (hb.cell (p := ⟨g, o + k, none⟩) hg).trans hc)
          have HS1 := Lib.hid hs1; have HB1 := Lib.hid hb1; have HLE := Lib.hid hlen
          have k0 := HCC.out wk hbw
          clear hc hs hlen hxk hf0 hin hcs hbw hs1 hb1 HS
          go_upto_region 11 with fail
          have bA : Below w1.heap.size w1 (w1.alloc (.cells #[.slice (some ⟨wk.heap.size, 0, none⟩) s.size cu, .bool false] 77)) := (Below.refl _ _).alloc (Nat.le_refl _) _
          have hX := heap_last w1 (.cells #[.slice (some ⟨wk.heap.size, 0, none⟩) s.size cu, .bool false] 77)
          obtain ⟨w2, hw⟩ : ∃ z : World, w1.alloc (.cells #[.slice (some ⟨wk.heap.size, 0, none⟩) s.size cu, .bool false] 77) = z := ⟨_, rfl⟩
          rw [hw] at bA hX ⊢
          obtain ⟨R, eR⟩ : ∃ z, w1.heap.size = z := ⟨_, rfl⟩
          (try rw [eR])
          rw [eR] at hX
          have hRk : wk.heap.size ≤ R := by rw [← eR]; exact HB1.out.size
          have HRK := Lib.hid hRk
          have B2 := HB1.out.trans (bA.mono HB1.out.size)
          have HB2 := Lib.hid B2
          have hsl2 := HS1.out.keep bA
          rw [eR] at hsl2
          have HSL := Lib.hid hsl2; have HX2 := Lib.hid hX
          have HRW := Lib.hid (show RfW R w2 R (txW s) false from ⟨⟨Nat.le_refl _, _, cu, by rw [txW_len]; exact hX, by rw [txW_len]; rw [txW_len] at hsl2; exact hsl2⟩, txW_oct s, by rw [txW_len]; exact HLE.out⟩)
          clear k0 hcv bA hX hw eR hRk B2 hsl2 HS1 HB1
          have k0 := HCC.out w2 (HBW.out.trans (HB2.out.mono HBW.out.size))
          rcases hx : txW s with _ | ⟨a, t⟩
          · have HST : Hid (bldStep (some (life, l.map CoX.c)) (L.map txW)[k] = none) := by show _ = _; rw [HXK.out, hx]; rfl
            have hz : s.size = 0 := by rw [← txW_len, hx]; rfl
            have hd2 : ((s.size : Int) == 0) = true := by rw [hz]; rfl
            have HB := Lib.hid (HBW.out.trans (HB2.out.mono HBW.out.size))
            clear hx hz
            go_wp2_with fail
            exact HQN.out _ _ rfl rfl rfl rfl (bld_fail hkm HF0.out HST.out) HB.out
          · have hz : s.size = t.length + 1 := by rw [← txW_len, hx]; rfl
            have hd2 : ((s.size : Int) == 0) = false := by rw [hz]; simp; omega
            have HX := Lib.hid hx
            have HTO := Lib.hid (show Oct t from by have := txW_oct s; rw [hx] at this; exact Oct.tail this)
            have HZ := Lib.hid hz
            clear hx hz
            go_upto_region 13 with fail
            go_cut [] from 52 to 59 (fun wx => Hid (RfW R wx R t false ∧ Below wk.heap.size wk wx))
            case first =>
              have hsl := HSL.out
              obtain ⟨pa, ca, hv, h1, h2, -, -⟩ := hsl.form
              obtain ⟨rfl, -, rfl⟩ : pa = some ⟨wk.heap.size, 0, none⟩ ∧ _ ∧ ca = cu := by simp only [Value.slice.injEq] at hv; exact ⟨hv.1.symm, hv.2.1, hv.2.2.symm⟩
              unfold maxLen at h2
              rw [txW_len] at h1
              have HH := Lib.hid h1
              have kR := block_cells HX2.out
              have fR := block_free HX2.out
              have h10 : (1 : Int) ≤ (s.size : Int) := by have := HZ.out; omega
              have h11 : 1 ≤ s.size := by have := HZ.out; omega
              have hD : ((txW s).drop 1).take ((txW s).length - 1) = t := by rw [HX.out]; simp
              have htl : t.length = s.size - 1 := by have := HZ.out; omega
              have hxl : 1 ≤ (txW s).length := by rw [txW_len]; exact h11
              have hsv : Sl R w2 (.slice (some ⟨wk.heap.size, 0, none⟩) (txW s).length ca) 1 (txW s).length (byt (txW s)) := by have h := HSL.out; rw [txW_len] at h ⊢; exact h
              by_cases hc1 : ca = 1
              · have HC := Lib.hid hc1
                have hs := Sl.part0 (m := 1) (q := (txW s).length - 1) (q' := (txW s).length - 1) (c' := 0) hsv (by omega) (Nat.le_of_eq hc1) rfl rfl
                rw [hD, txW_len] at hs
                have HSS := Lib.hid hs
                have hc' : ¬ 1 < ca := by omega
                clear hs hc1 hD hsl hv hsv hxl
                go_wp2_with fail
                go_meet
                case rel =>
                  have h3 := HRW.out.setB (p := some ⟨wk.heap.size, 0, none⟩) (c := ca - 1) (ys := t) (by have h := HSS.out; rw [htl] at h; rw [htl, show ca - 1 = 0 by have := HC.out; omega]; exact h) HTO.out (by rw [txW_len]; omega)
                  rw [htl] at h3
                  exact ⟨h3, HB2.out.setCell HRK.out _⟩
              · have hs := Sl.part (m := 1) (q := (txW s).length - 1) (q' := (txW s).length - 1) hsv (by omega) rfl
                rw [hD, txW_len, show Option.map (fun x : Addr => x.add 1) (some ⟨wk.heap.size, 0, none⟩) = some ⟨wk.heap.size, 1, none⟩ by simp [Addr.add]] at hs
                have HSS := Lib.hid hs
                have hc' : 1 < ca := by omega
                clear hs hD hsl hv hsv hxl
                go_wp2_with fail
                go_meet
                case rel =>
                  have h3 := HRW.out.setB (p := some ⟨wk.heap.size, 1, none⟩) (c := ca - 1) (ys := t) (by have h := HSS.out; rw [htl] at h; rw [htl]; exact h) HTO.out (by rw [txW_len]; omega)
                  rw [htl] at h3
                  exact ⟨h3, HB2.out.setCell HRK.out _⟩
            obtain ⟨wx, rfl⟩ : ∃ x : World, x = wc := ⟨_, rfl⟩
            have HR2 := Lib.hid hcut.out.1; have HB3 := Lib.hid hcut.out.2
            have HN := Lib.hid (rfn_any R R t false wx HR2.out)
            obtain ⟨⟨n, ys, b⟩, hrd⟩ : ∃ z, rfN t false = z := ⟨_, rfl⟩
            have HRD := Lib.hid hrd
            have HOY := Lib.hid (show Oct ys from by have := rfN_ok.oct t false HTO.out; rw [hrd] at this; exact this)
            rw [hrd] at HN
            clear hrd hcut k0 HX2 HSL HRW HB2
            go_wp2_with fail
            refine HN.out.mono ?_; rintro e w3 ⟨rfl, h3, g3⟩
            dsimp only at h3 ⊢
            have HR3 := Lib.hid h3; have HB4 := Lib.hid (HB3.out.grown g3 HB3.out.size (fun k e => by cases e; exact HRK.out))
            clear h3 g3 HN HR2 HB3
            have HBW3 := Lib.hid (HBW.out.trans (HB4.out.mono HBW.out.size))
            have k0 := HCC.out w3 HBW3.out
            obtain ⟨_, rp, rcp, hRq, _⟩ := HR3.out.r
            have kR := block_cells hRq
            clear hRq
            go_upto_region 15 with fail
            by_cases ha : a = 76
            · subst ha
              have HST0 := Lib.hid (rstep_life (s := (life, l.map CoX.c)) HRD.out)
              by_cases hE : (!b && ys.isEmpty) = true
              · have hb : b = false := by cases b <;> simp_all
                have hy : ys = [] := by cases ys <;> simp_all
                subst hb; subst hy
                have HST : Hid (bldStep (some (life, l.map CoX.c)) (L.map txW)[k] = some (n, l.map CoX.c)) := by show _ = _; rw [HXK.out, HX.out, HST0.out]; rfl
                have HS2 : Hid (∃ (life : Int) (l : List CoX), Value.int .i64 n = .int .i64 life ∧ ((L.map txW).take (k + 1)).foldl bldStep (some (0, js.map (newCo id))) = some (life, l.map CoX.c) ∧ LInv (k + 1) l ∧ l.length ≤ 1000 ∧ CsAt w.heap.size w3 vk l ∧ Below w.heap.size w w3) := ⟨n, l, rfl, by rw [bld_next hkm HF0.out]; exact HST.out, HIN.out.up, hln, HCK.out w3 HB4.out, HBW3.out⟩
                clear hE HST HST0
                go_wp2_with (with_reducible refine wpList_ix (o := ⟨some 66, _, _, _, _, _⟩) rfl _ _ rfl HX.out rfl rfl ?_)
                go_roundw
                case rel => exact ⟨k + 1, by omega, by go_num, HS2⟩
                case measure => simp [intOf]; omega
              · have HST : Hid (bldStep (some (life, l.map CoX.c)) (L.map txW)[k] = none) := by show _ = _; rw [HXK.out, HX.out, HST0.out, if_neg hE]
                clear HST0
                cases b
                · rcases ys with _ | ⟨y0, ys'⟩
                  · exact absurd rfl hE
                  · have hgt : decide ((0 : Int) < (ys'.length : Int) + 1) = true := decide_eq_true (by omega)
                    clear hE
                    go_wp2_with (with_reducible refine wpList_ix (o := ⟨some 66, _, _, _, _, _⟩) rfl _ _ rfl HX.out rfl rfl ?_)
                    exact HQN.out _ _ rfl rfl rfl rfl (bld_fail hkm HF0.out HST.out) HBW3.out
                · clear hE
                  go_wp2_with (with_reducible refine wpList_ix (o := ⟨some 66, _, _, _, _, _⟩) rfl _ _ rfl HX.out rfl rfl ?_)
                  exact HQN.out _ _ rfl rfl rfl rfl (bld_fail hkm HF0.out HST.out) HBW3.out
            · have hd7 : (a == 76) = false := by simpa using ha
              obtain ⟨pv, cv, rfl⟩ := own_slice (HCK.out w3 HB4.out).own
              have hcs : b = true ∨ (b = false ∧ n < 0) ∨ (b = false ∧ ¬ n < 0 ∧ (l.length : Int) ≤ n) ∨ (b = false ∧ ∃ m : Nat, n = m ∧ m < l.length) := by
                cases b
                · right
                  by_cases h1 : n < 0
                  · exact .inl ⟨rfl, h1⟩
                  · by_cases h2 : (l.length : Int) ≤ n
                    · exact .inr (.inl ⟨rfl, h1, h2⟩)
                    · exact .inr (.inr ⟨rfl, n.toNat, by omega, by omega⟩)
                · exact .inl rfl
              rcases hcs with rfl | ⟨rfl, hneg⟩ | ⟨rfl, hneg, hbig⟩ | ⟨rfl, m, rfl, hm⟩
              · have HST : Hid (bldStep (some (life, l.map CoX.c)) (L.map txW)[k] = none) := by show _ = _; rw [HXK.out, HX.out]; exact rstep_bad HRD.out ha (.inl rfl)
                have hu : undef = Value.tuple #[] := rfl
                go_wp2_with (with_reducible refine wpList_ix (o := ⟨some 66, _, _, _, _, _⟩) rfl _ _ rfl HX.out rfl rfl ?_)
                exact HQN.out _ _ rfl rfl rfl rfl (bld_fail hkm HF0.out HST.out) HBW3.out
              · have HST : Hid (bldStep (some (life, l.map CoX.c)) (L.map txW)[k] = none) := by show _ = _; rw [HXK.out, HX.out]; exact rstep_bad HRD.out ha (.inr (.inl hneg))
                have hdn : decide (n < 0) = true := by simpa using hneg
                have hu : undef = Value.tuple #[] := rfl
                clear hneg
                go_wp2_with (with_reducible refine wpList_ix (o := ⟨some 66, _, _, _, _, _⟩) rfl _ _ rfl HX.out rfl rfl ?_)
                exact HQN.out _ _ rfl rfl rfl rfl (bld_fail hkm HF0.out HST.out) HBW3.out
              · have HST : Hid (bldStep (some (life, l.map CoX.c)) (L.map txW)[k] = none) := by show _ = _; rw [HXK.out, HX.out]; exact rstep_bad HRD.out ha (.inr (.inr (by simpa using hbig)))
                have hdn : decide (n < 0) = false := by simpa using hneg
                have hdb : decide ((l.length : Int) ≤ n) = true := by simpa using hbig
                have hu : undef = Value.tuple #[] := rfl
                clear hneg hbig
                go_wp2_with (with_reducible refine wpList_ix (o := ⟨some 66, _, _, _, _, _⟩) rfl _ _ rfl HX.out rfl rfl ?_)
                exact HQN.out _ _ rfl rfl rfl rfl (bld_fail hkm HF0.out HST.out) HBW3.out
              · obtain ⟨G, rfl⟩ : ∃ G, pv = some ⟨G, 0, none⟩ := by
                  rcases (HCK.out w3 HB4.out).own.2 with ⟨h', hz⟩ | ⟨g', cap', cur, h', _⟩
                  · omega
                  · simp only [Value.slice.injEq] at h'; exact ⟨g', h'.1⟩
                have hdn : decide ((m : Int) < 0) = false := by simp
                have hdb : decide ((l.length : Int) ≤ (m : Int)) = false := by simp; omega
                have hdb2 : decide (l.length ≤ m) = false := by simp; omega
                obtain ⟨x, hx⟩ : ∃ x, l[m] = x := ⟨_, rfl⟩
                have hmc : m < (l.map CoX.c).length := by simpa using hm
                have HST0 := Lib.hid (rstep_say (s := (life, l.map CoX.c)) HOY.out HRD.out ha hmc)
                have hfx : LgFit x.c.l := HIN.out.fit (by omega) (by rw [← hx]; exact List.getElem_mem hm)
                have HFX := Lib.hid hfx; have HXX := Lib.hid hx
                clear hfx hx
                go_upto_region 21 with (with_reducible refine wpList_ix (o := ⟨some 66, _, _, _, _, _⟩) rfl _ _ rfl HX.out rfl rfl ?_)
                go_cut [15, 16] from 95 to 108 (fun z ok wx => ∃ Z, z = .pointer (some ⟨Z, 0, none⟩) ∧ ok = .bool (sayR a ys).isSome ∧ Hid (∃ y : CoX, wx.heap[Z]? = some (.cells y.v.toArray 48 (0, 0)) ∧ Below wk.heap.size wk wx ∧ ∀ rc, sayR a ys = some rc → y.c = apRc x.c rc ∧ CoOwn w.heap.size wx y))
                case first =>
                  obtain ⟨wd, ewd⟩ : ∃ z, w3.drew = z := ⟨_, rfl⟩
                  have bd : Below w3.heap.size w3 wd := by rw [← ewd]; exact (Below.refl _ _).drew
                  have hRl : R < w3.heap.size := HR3.out.lt
                  have HBD := Lib.hid (HB4.out.trans (bd.mono HB4.out.size)); have HRDD := Lib.hid (HR3.out.keep bd (Nat.le_refl _))
                  have kS : ∀ w', Below R wd w' → w'.cell? ⟨g, o + k, none⟩ = some (.string s) := fun w' h => HCC.out w' (HBW.out.trans ((HBD.out.trans (h.mono HRK.out)).mono HBW.out.size))
                  have HRX := Lib.hid (show ∀ w', Below R wd w' → w'.rangeAt G (m * 45) x.v from fun w' h => by
                    have h1 := (HCK.out w' (HBD.out.trans (h.mono HRK.out))).range hm
                    rw [HXX.out] at h1; exact h1)
                  have HXO := Lib.hid (show ∀ w', Below R wd w' → CoOwn w.heap.size w' x from fun w' h => (HCK.out w' (HBD.out.trans (h.mono HRK.out))).en x (by rw [← HXX.out]; exact List.getElem_mem hm))
                  have HB0 := Lib.hid (show w.heap.size ≤ R from Nat.le_trans HBW.out.size HRK.out)
                  have HRL := Lib.hid (show R < wd.heap.size from Nat.lt_of_lt_of_le hRl bd.size)
                  refine wp_region_noPanic ?_
                  refine wp_region_held_drew (S := fun w' => Below R wd w') (by kernel_rfl) (by rw [ewd]; exact Below.refl _ _) (fun hHeld => ?_)
                  rw [ewd] at hHeld ⊢
                  clear ewd bd kR k0 hRl
                  refine wpAnyH_take (i := 0) (v := ?_) rfl (by kernel_rfl) (by kernel_rfl) (by kernel_rfl) (fun _ _ _ h => h) (Or.inl ⟨by rfl, ?_⟩) hHeld ?_
                  rotate_left
                  · (intro wz hSw; (try dsimp only at hSw); (try simp only [List.getElem_toArray, List.getElem_cons_zero]); go_simp; try with_reducible rfl)
                  try simp only [List.getElem_toArray, List.getElem_cons_zero, Act.put, List.setIfInBounds_toArray, List.set_cons_zero, List.set_cons_succ]
                  refine wpAnyH_take (i := 1) (v := ?_) rfl (by kernel_rfl) (by kernel_rfl) (by kernel_rfl) (fun _ _ _ h => h) (Or.inl ⟨by rfl, ?_⟩) hHeld ?_
                  rotate_left
                  · (intro wz hSw; (try dsimp only at hSw); (try simp only [List.getElem_toArray, List.getElem_cons_succ, List.getElem_cons_zero]); go_simp; try with_reducible rfl)
                  try simp only [List.getElem_toArray, List.getElem_cons_succ, List.getElem_cons_zero, Act.put, List.setIfInBounds_toArray, List.set_cons_zero, List.set_cons_succ]
                  refine wpAnyH_take (i := 2) (v := ?_) rfl (by kernel_rfl) (by kernel_rfl) (by kernel_rfl) (fun _ _ _ h => h) (Or.inl ⟨by rfl, ?_⟩) hHeld ?_
                  rotate_left
                  · (intro wz hSw; (try dsimp only at hSw); (try simp only [List.getElem_toArray, List.getElem_cons_succ, List.getElem_cons_zero]); go_simp; try with_reducible rfl)
                  try simp only [List.getElem_toArray, List.getElem_cons_succ, List.getElem_cons_zero, Act.put, List.setIfInBounds_toArray, List.set_cons_zero, List.set_cons_succ]
                  refine wpAnyH_take (i := 3) (v := ?_) rfl (by kernel_rfl) (by kernel_rfl) (by kernel_rfl) (fun _ _ _ h => h) (Or.inl ⟨by rfl, ?_⟩) hHeld ?_
                  rotate_left
                  · (intro wz hSw; (try dsimp only at hSw); (try simp only [List.getElem_toArray, List.getElem_cons_succ, List.getElem_cons_zero]); go_simp; try with_reducible rfl)
                  try simp only [List.getElem_toArray, List.getElem_cons_succ, List.getElem_cons_zero, Act.put, List.setIfInBounds_toArray, List.set_cons_zero, List.set_cons_succ]
                  refine wpAnyH_take (i := 4) (v := .int .u8 a) rfl (by kernel_rfl) (by kernel_rfl) (by kernel_rfl) (fun _ _ _ h => h) (yields_ix (by rfl) _ _ rfl HX.out (by rfl) (by rfl)) hHeld ?_
                  try simp only [List.getElem_toArray, List.getElem_cons_succ, List.getElem_cons_zero, Act.put, List.setIfInBounds_toArray, List.set_cons_zero, List.set_cons_succ]
                  refine wpAnyH_take (i := 5) (v := ?_) rfl (by kernel_rfl) (by kernel_rfl) (by kernel_rfl) (fun _ _ _ h => h) (Or.inl ⟨by rfl, ?_⟩) hHeld ?_
                  rotate_left
                  · (intro wz hSw; (try dsimp only at hSw); (try simp only [List.getElem_toArray, List.getElem_cons_succ, List.getElem_cons_zero]); go_simp; try with_reducible rfl)
                  try simp only [List.getElem_toArray, List.getElem_cons_succ, List.getElem_cons_zero, Act.put, List.setIfInBounds_toArray, List.set_cons_zero, List.set_cons_succ]
                  refine wpAnyH_take (i := 6) (v := ?_) rfl (by kernel_rfl) (by kernel_rfl) (by kernel_rfl) (fun _ _ _ h => h) (Or.inl ⟨by rfl, ?_⟩) hHeld ?_
                  rotate_left
                  · (intro wz hSw; (try dsimp only at hSw); (try simp only [List.getElem_toArray, List.getElem_cons_succ, List.getElem_cons_zero]); go_simp; try with_reducible rfl)
                  try simp only [List.getElem_toArray, List.getElem_cons_succ, List.getElem_cons_zero, Act.put, List.setIfInBounds_toArray, List.set_cons_zero, List.set_cons_succ]
                  refine wpAnyH_take (i := 7) (v := ?_) rfl (by kernel_rfl) (by kernel_rfl) (by kernel_rfl) (fun _ _ _ h => h) (Or.inl ⟨by rfl, ?_⟩) hHeld ?_
                  rotate_left
                  · (intro wz hSw; (try dsimp only at hSw); (try simp only [List.getElem_toArray, List.getElem_cons_succ, List.getElem_cons_zero]); go_simp; try with_reducible rfl)
                  try simp only [List.getElem_toArray, List.getElem_cons_succ, List.getElem_cons_zero, Act.put, List.setIfInBounds_toArray, List.set_cons_zero, List.set_cons_succ]
                  refine wpAnyH_take (i := 8) (v := ?_) rfl (by kernel_rfl) (by kernel_rfl) (by kernel_rfl) (fun _ _ _ h => h) (Or.inl ⟨by rfl, ?_⟩) hHeld ?_
                  rotate_left
                  · (intro wz hSw; (try dsimp only at hSw); (try simp only [List.getElem_toArray, List.getElem_cons_succ, List.getElem_cons_zero]); go_simp; try with_reducible rfl)
                  try simp only [List.getElem_toArray, List.getElem_cons_succ, List.getElem_cons_zero, Act.put, List.setIfInBounds_toArray, List.set_cons_zero, List.set_cons_succ]
                  refine wpAnyH_take (i := 9) (v := .agg x.v.toArray) rfl (by kernel_rfl) (by kernel_rfl) (by kernel_rfl) (fun _ _ _ h => h) (yieldsIf_load_mid (by rfl) _ _ rfl G (m * 45) rfl x.v _ HRX.out Try.underlying48 rfl (by kernel_rfl)) hHeld ?_
                  try simp only [List.getElem_toArray, List.getElem_cons_succ, List.getElem_cons_zero, Act.put, List.setIfInBounds_toArray, List.set_cons_zero, List.set_cons_succ]
                  clear kS HRX
                  refine wpAnyH_ready (rs := [10, 14]) (by kernel_rfl) (by simp) ?_
                  refine AllReadyH.cons rfl (fun K hK => ?_) (AllReadyH.cons rfl (fun K hK => ?_) AllReadyH.nil)
                  · (try simp only [List.getElem_toArray, List.getElem_cons_succ, List.getElem_cons_zero])
                    go_simp
                    refine (one_any a w.heap.size R R HB0.out x ys wd HFX.out (HXO.out wd (Below.refl _ _)) HRDD.out).mono ?_; rintro r0 w4 ⟨y, rfl, ⟨hb4, _hg4⟩, hy4⟩
                    have HY := Lib.hid hy4; have HB5 := Lib.hid hb4
                    have hRw4 : R < w4.heap.size := Nat.lt_of_lt_of_le HRL.out hb4.size
                    refine hK.out _ _ hb4 (fun _ => ?_)
                    clear hK K hHeld hy4 hb4
                    try simp only [List.getElem_toArray, List.getElem_cons_succ, List.getElem_cons_zero, Act.put, List.setIfInBounds_toArray, List.set_cons_zero, List.set_cons_succ]
                    have hHeld := HB5.out
                    refine wpAnyH_take (i := 11) (v := ?_) rfl (by kernel_rfl) (by kernel_rfl) (by kernel_rfl) (fun _ _ _ h => h) (Or.inl ⟨by rfl, ?_⟩) hHeld ?_
                    rotate_left
                    · (intro wz hSw; (try dsimp only at hSw); (try simp only [List.getElem_toArray, List.getElem_cons_succ, List.getElem_cons_zero]); go_simp; try with_reducible rfl)
                    try simp only [List.getElem_toArray, List.getElem_cons_succ, List.getElem_cons_zero, Act.put, List.setIfInBounds_toArray, List.set_cons_zero, List.set_cons_succ]
                    refine wpAnyH_take (i := 12) (v := ?_) rfl (by kernel_rfl) (by kernel_rfl) (by kernel_rfl) (fun _ _ _ h => h) (Or.inl ⟨by rfl, ?_⟩) hHeld ?_
                    rotate_left
                    · (intro wz hSw; (try dsimp only at hSw); (try simp only [List.getElem_toArray, List.getElem_cons_succ, List.getElem_cons_zero]); go_simp; try with_reducible rfl)
                    try simp only [List.getElem_toArray, List.getElem_cons_succ, List.getElem_cons_zero, Act.put, List.setIfInBounds_toArray, List.set_cons_zero, List.set_cons_succ]
                    refine wpAnyH_take (i := 13) (v := ?_) rfl (by kernel_rfl) (by kernel_rfl) (by kernel_rfl) (fun _ _ _ h => h) (Or.inl ⟨by rfl, ?_⟩) hHeld ?_
                    rotate_left
                    · (intro wz hSw; (try dsimp only at hSw); (try simp only [List.getElem_toArray, List.getElem_cons_succ, List.getElem_cons_zero]); go_simp; try with_reducible rfl)
                    try simp only [List.getElem_toArray, List.getElem_cons_succ, List.getElem_cons_zero, Act.put, List.setIfInBounds_toArray, List.set_cons_zero, List.set_cons_succ]
                    refine wpAnyH_ready (rs := [14]) (by kernel_rfl) (by simp) ?_; refine AllReadyH.cons rfl (fun K hK => ?_) AllReadyH.nil
                    (try simp only [List.getElem_toArray, List.getElem_cons_succ, List.getElem_cons_zero])
                    go_simp
                    obtain ⟨w5, hw⟩ : ∃ z : World, w4.alloc (.cells (coL co0 none 0).toArray 48) = z := ⟨_, rfl⟩
                    have hb : Below w4.heap.size w4 w5 := by rw [← hw]; exact (Below.refl _ _).alloc (Nat.le_refl _) _
                    have hq : w5.heap[w4.heap.size]? = some (.cells (coL co0 none 0).toArray 48 (0, 0)) := by rw [← hw]; exact heap_last w4 _
                    rw [show w4.alloc (.cells #[.int .i64 0, .int .i64 0, .int .i64 0, .int .i64 0, .int .i64 0, .int .i64 0, .int .i64 0, .int .i64 0, .int .i64 0, .int .i64 0, .int .u16 0, .int .u16 0, .int .u16 0, .int .i64 0, .int .i64 0, .int .u16 0, .int .u16 0, .int .u16 0, .int .i64 0, .int .i64 0, .bool false, .slice none 0 0, .string ⟨#[]⟩, .int .u16 0, .int .u16 0, .int .i64 0, .int .i64 0, .int .i64 0, .int .i64 0, .int .i64 0, .int .i64 0, .int .i64 0, .int .i64 0, .int .i64 0, .int .i64 0, .int .i64 0, .int .i64 0, .int .i64 0, .int .i64 0, .int .i64 0, .int .i64 0, .int .i64 0, .int .i64 0, .int .i64 0, .int .i64 0] 48) = w5 from hw]
                    have s5 : Below R wd w5 := HB5.out.trans (hb.mono (Nat.le_of_lt hRw4))
                    have HYO := Lib.hid (show ∀ rc, sayR a ys = some rc → y.c = apRc x.c rc ∧ CoOwn w.heap.size w5 y from fun rc h => ⟨(HY.out rc h).1, own_keptC (HY.out rc h).2 hb⟩)
                    obtain ⟨Z, eZ⟩ : ∃ z, w4.heap.size = z := ⟨_, rfl⟩
                    (try rw [eZ])
                    rw [eZ] at hq hRw4
                    have HQ5 := Lib.hid hq; have HS5 := Lib.hid s5; have HRZ := Lib.hid hRw4
                    refine hK.out _ _ s5 (fun _ => ?_)
                    clear hK K hHeld hw hb hq s5 eZ hRw4 HB5 HY
                    try simp only [List.getElem_toArray, List.getElem_cons_succ, List.getElem_cons_zero, Act.put, List.setIfInBounds_toArray, List.set_cons_zero, List.set_cons_succ]
                    have hHeld := HS5.out
                    refine wpAnyH_ready (rs := [15]) (by kernel_rfl) (by simp) ?_; refine AllReadyH.cons rfl (fun K hK => ?_) AllReadyH.nil
                    rw [if_pos (by rfl)]
                    refine wp_store_mid 48 _ _ (by rfl) Z 0 y.v.toArray (by rfl) (by rfl) (there_of_block (o := 0) (n := 45) HQ5.out (Nat.le_of_ble_eq_true rfl)) (by kernel_rfl) (one_all rfl) ?_
                    have hs := block_setCells y.v 0 HQ5.out
                    have hz := block_all (vs := y.v) HQ5.out rfl
                    obtain ⟨we, hwe⟩ : ∃ z : World, w5.setCells Z 0 y.v = z := ⟨_, rfl⟩
                    rw [hwe] at hs hz
                    rw [show (w5.setCells Z 0 y.v.toArray.toList) = we from hwe]
                    have s6 : Below R wd we := HS5.out.grown hs.2 (Nat.le_trans (Nat.le_of_lt HRL.out) HS5.out.size) (fun k e => by cases e; exact Nat.le_of_lt HRZ.out)
                    have HZE : Hid (∃ y : CoX, we.heap[Z]? = some (.cells y.v.toArray 48 (0, 0)) ∧ Below wk.heap.size wk we ∧ ∀ rc, sayR a ys = some rc → y.c = apRc x.c rc ∧ CoOwn w.heap.size we y) := ⟨y, hz, HBD.out.trans (s6.mono HRK.out), fun rc h => ⟨(HYO.out rc h).1, (HYO.out rc h).2.kept hs.2 (own_other (HYO.out rc h).2 HQ5.out (by decide))⟩⟩
                    have HS6 := Lib.hid s6
                    refine hK.out _ _ s6 (fun _ => ?_)
                    clear hK K hHeld hs hz hwe s6
                    try simp only [List.getElem_toArray, List.getElem_cons_succ, List.getElem_cons_zero, Act.put]
                    have hHeld := HS6.out
                    refine wpAnyH_take (i := 16) (v := ?_) rfl (by kernel_rfl) (by kernel_rfl) (by kernel_rfl) (fun _ _ _ h => h) (Or.inl ⟨by rfl, ?_⟩) hHeld ?_
                    rotate_left
                    · (intro wz hSw; (try dsimp only at hSw); (try simp only [List.getElem_toArray, List.getElem_cons_succ, List.getElem_cons_zero]); go_simp; try with_reducible rfl)
                    try simp only [List.getElem_toArray, List.getElem_cons_succ, List.getElem_cons_zero, Act.put, List.setIfInBounds_toArray, List.set_cons_zero, List.set_cons_succ]
                    refine wpAnyH_done (by kernel_rfl) ?_ _
                    refine NoPanic.normal ?_
                    clear hHeld
                    go_wp2_with fail
                    go_meet
                    case rel => exact ⟨Z, rfl, rfl, HZE.out⟩
                  · (try simp only [List.getElem_toArray, List.getElem_cons_succ, List.getElem_cons_zero])
                    go_simp
                    obtain ⟨w4, hw⟩ : ∃ z : World, wd.alloc (.cells (coL co0 none 0).toArray 48) = z := ⟨_, rfl⟩
                    have hb : Below wd.heap.size wd w4 := by rw [← hw]; exact (Below.refl _ _).alloc (Nat.le_refl _) _
                    have hq : w4.heap[wd.heap.size]? = some (.cells (coL co0 none 0).toArray 48 (0, 0)) := by rw [← hw]; exact heap_last wd _
                    rw [show wd.alloc (.cells #[.int .i64 0, .int .i64 0, .int .i64 0, .int .i64 0, .int .i64 0, .int .i64 0, .int .i64 0, .int .i64 0, .int .i64 0, .int .i64 0, .int .u16 0, .int .u16 0, .int .u16 0, .int .i64 0, .int .i64 0, .int .u16 0, .int .u16 0, .int .u16 0, .int .i64 0, .int .i64 0, .bool false, .slice none 0 0, .string ⟨#[]⟩, .int .u16 0, .int .u16 0, .int .i64 0, .int .i64 0, .int .i64 0, .int .i64 0, .int .i64 0, .int .i64 0, .int .i64 0, .int .i64 0, .int .i64 0, .int .i64 0, .int .i64 0, .int .i64 0, .int .i64 0, .int .i64 0, .int .i64 0, .int .i64 0, .int .i64 0, .int .i64 0, .int .i64 0, .int .i64 0] 48) = w4 from hw]
                    have s4 : Below R wd w4 := (hb.mono (Nat.le_of_lt HRL.out))
                    have HRD4 := Lib.hid (HRDD.out.keep hb (Nat.le_refl _))
                    have hRw4 : R < wd.heap.size := HRL.out
                    obtain ⟨Z, eZ⟩ : ∃ z, wd.heap.size = z := ⟨_, rfl⟩
                    (try rw [eZ])
                    rw [eZ] at hq hRw4
                    have HQ4 := Lib.hid hq; have HS4 := Lib.hid s4; have HRZ := Lib.hid hRw4
                    refine hK.out _ _ s4 (fun _ => ?_)
                    clear hK K hHeld hw hb hq s4 eZ hRw4
                    try simp only [List.getElem_toArray, List.getElem_cons_succ, List.getElem_cons_zero, Act.put, List.setIfInBounds_toArray, List.set_cons_zero, List.set_cons_succ]
                    have hHeld := HS4.out
                    refine wpAnyH_ready (rs := [10]) (by kernel_rfl) (by simp) ?_; refine AllReadyH.cons rfl (fun K hK => ?_) AllReadyH.nil
                    (try simp only [List.getElem_toArray, List.getElem_cons_succ, List.getElem_cons_zero])
                    go_simp
                    refine (one_any a w.heap.size R R HB0.out x ys w4 HFX.out (HXO.out w4 HS4.out) HRD4.out).mono ?_; rintro r0 w5 ⟨y, rfl, ⟨hb5, hg5⟩, hy5⟩
                    have HYO := Lib.hid hy5; have HS5 := Lib.hid (HS4.out.trans hb5)
                    have HQ5 := Lib.hid (stays_at hg5 HQ4.out (Nat.ne_of_gt HRZ.out))
                    refine hK.out _ _ HS5.out (fun _ => ?_)
                    clear hK K hHeld hy5 hb5 hg5
                    try simp only [List.getElem_toArray, List.getElem_cons_succ, List.getElem_cons_zero, Act.put, List.setIfInBounds_toArray, List.set_cons_zero, List.set_cons_succ]
                    have hHeld := HS5.out
                    refine wpAnyH_take (i := 11) (v := ?_) rfl (by kernel_rfl) (by kernel_rfl) (by kernel_rfl) (fun _ _ _ h => h) (Or.inl ⟨by rfl, ?_⟩) hHeld ?_
                    rotate_left
                    · (intro wz hSw; (try dsimp only at hSw); (try simp only [List.getElem_toArray, List.getElem_cons_succ, List.getElem_cons_zero]); go_simp; try with_reducible rfl)
                    try simp only [List.getElem_toArray, List.getElem_cons_succ, List.getElem_cons_zero, Act.put, List.setIfInBounds_toArray, List.set_cons_zero, List.set_cons_succ]
                    refine wpAnyH_take (i := 12) (v := ?_) rfl (by kernel_rfl) (by kernel_rfl) (by kernel_rfl) (fun _ _ _ h => h) (Or.inl ⟨by rfl, ?_⟩) hHeld ?_
                    rotate_left
                    · (intro wz hSw; (try dsimp only at hSw); (try simp only [List.getElem_toArray, List.getElem_cons_succ, List.getElem_cons_zero]); go_simp; try with_reducible rfl)
                    try simp only [List.getElem_toArray, List.getElem_cons_succ, List.getElem_cons_zero, Act.put, List.setIfInBounds_toArray, List.set_cons_zero, List.set_cons_succ]
                    refine wpAnyH_take (i := 13) (v := ?_) rfl (by kernel_rfl) (by kernel_rfl) (by kernel_rfl) (fun _ _ _ h => h) (Or.inl ⟨by rfl, ?_⟩) hHeld ?_
                    rotate_left
                    · (intro wz hSw; (try dsimp only at hSw); (try simp only [List.getElem_toArray, List.getElem_cons_succ, List.getElem_cons_zero]); go_simp; try with_reducible rfl)
                    try simp only [List.getElem_toArray, List.getElem_cons_succ, List.getElem_cons_zero, Act.put, List.setIfInBounds_toArray, List.set_cons_zero, List.set_cons_succ]
                    refine wpAnyH_ready (rs := [15]) (by kernel_rfl) (by simp) ?_; refine AllReadyH.cons rfl (fun K hK => ?_) AllReadyH.nil
                    rw [if_pos (by rfl)]
                    refine wp_store_mid 48 _ _ (by rfl) Z 0 y.v.toArray (by rfl) (by rfl) (there_of_block (o := 0) (n := 45) HQ5.out (Nat.le_of_ble_eq_true rfl)) (by kernel_rfl) (one_all rfl) ?_
                    have hs := block_setCells y.v 0 HQ5.out
                    have hz := block_all (vs := y.v) HQ5.out rfl
                    obtain ⟨we, hwe⟩ : ∃ z : World, w5.setCells Z 0 y.v = z := ⟨_, rfl⟩
                    rw [hwe] at hs hz
                    rw [show (w5.setCells Z 0 y.v.toArray.toList) = we from hwe]
                    have s6 : Below R wd we := HS5.out.grown hs.2 (Nat.le_trans (Nat.le_of_lt HRL.out) HS5.out.size) (fun k e => by cases e; exact Nat.le_of_lt HRZ.out)
                    have HZE : Hid (∃ y : CoX, we.heap[Z]? = some (.cells y.v.toArray 48 (0, 0)) ∧ Below wk.heap.size wk we ∧ ∀ rc, sayR a ys = some rc → y.c = apRc x.c rc ∧ CoOwn w.heap.size we y) := ⟨y, hz, HBD.out.trans (s6.mono HRK.out), fun rc h => ⟨(HYO.out rc h).1, (HYO.out rc h).2.kept hs.2 (own_other (HYO.out rc h).2 HQ5.out (by decide))⟩⟩
                    have HS6 := Lib.hid s6
                    refine hK.out _ _ s6 (fun _ => ?_)
                    clear hK K hHeld hs hz hwe s6
                    try simp only [List.getElem_toArray, List.getElem_cons_succ, List.getElem_cons_zero, Act.put]
                    have hHeld := HS6.out
                    refine wpAnyH_take (i := 16) (v := ?_) rfl (by kernel_rfl) (by kernel_rfl) (by kernel_rfl) (fun _ _ _ h => h) (Or.inl ⟨by rfl, ?_⟩) hHeld ?_
                    rotate_left
                    · (intro wz hSw; (try dsimp only at hSw); (try simp only [List.getElem_toArray, List.getElem_cons_succ, List.getElem_cons_zero]); go_simp; try with_reducible rfl)
                    try simp only [List.getElem_toArray, List.getElem_cons_succ, List.getElem_cons_zero, Act.put, List.setIfInBounds_toArray, List.set_cons_zero, List.set_cons_succ]
                    refine wpAnyH_done (by kernel_rfl) ?_ _
                    refine NoPanic.normal ?_
                    clear hHeld
                    go_wp2_with fail
                    go_meet
                    case rel => exact ⟨Z, rfl, rfl, HZE.out⟩
                obtain ⟨Z, rfl, rfl, hcz⟩ := hcut
                obtain ⟨we, rfl⟩ : ∃ x : World, x = wc := ⟨_, rfl⟩
                obtain ⟨y, hyb, hyw, hyr⟩ := hcz.out
                have HBW6 := Lib.hid (HBW.out.trans (hyw.mono HBW.out.size))
                cases hs : sayR a ys with
                | none =>
                  have HST : Hid (bldStep (some (life, l.map CoX.c)) (L.map txW)[k] = none) := by show _ = _; rw [HXK.out, HX.out, HST0.out, hs]; rfl
                  clear hcz hyb hyw hyr
                  (try simp only [Option.isSome_none])
                  go_wp2_with fail
                  exact HQN.out _ _ rfl rfl rfl rfl (bld_fail hkm HF0.out HST.out) HBW6.out
                | some rc =>
                  obtain ⟨hyc, hyo⟩ := hyr rc hs
                  have HST : Hid (bldStep (some (life, l.map CoX.c)) (L.map txW)[k] = some (life, (l.set m y).map CoX.c)) := by
                    show _ = _
                    rw [HXK.out, HX.out, HST0.out, hs, List.map_set, hyc]
                    simp only [Option.map_some, List.getElem_map, HXX.out]
                  have hC := HCK.out we hyw
                  have hpw := hC.whole hm y hyo
                  have hth := hC.there (n := m) (j := 0) (m := 45) hm (by decide)
                  have HS2 : Hid (∃ (lf : Int) (l' : List CoX), Value.int .i64 life = .int .i64 lf ∧ ((L.map txW).take (k + 1)).foldl bldStep (some (0, js.map (newCo id))) = some (lf, l'.map CoX.c) ∧ LInv (k + 1) l' ∧ l'.length ≤ 1000 ∧ CsAt w.heap.size (we.setCells G (m * 45) y.v) (.slice (some ⟨G, 0, none⟩) l.length cv) l' ∧ Below w.heap.size w (we.setCells G (m * 45) y.v)) := ⟨life, l.set m y, rfl, by rw [bld_next hkm HF0.out]; exact HST.out, HIN.out.say hm HOY.out (by rw [← sayR_eq a HOY.out]; exact hs) (by rw [HXX.out]; exact hyc), by rw [List.length_set]; exact hln, hpw.1, HBW6.out.trans hpw.2⟩
                  have HTH := Lib.hid (show we.there G (m * 45) 45 from hth)
                  have HRG := Lib.hid (show we.rangeAt Z 0 y.v from range_of (n := 45) rfl (fun j _ => by rw [Nat.zero_add, block_cells hyb, List.getElem?_toArray]))
                  obtain ⟨wf, hwf⟩ : ∃ z : World, we.setCells G (m * 45) y.v = z := ⟨_, rfl⟩
                  rw [hwf] at HS2
                  have HWF := Lib.hid (show we.setCells G (m * 45) y.v.toArray.toList = wf from hwf)
                  clear hcz hyb hyw hyr hyc hyo hC hpw hth hwf HST HST0
                  (try simp only [Option.isSome_some])
                  go_wp2_with (first | (with_reducible refine wpList_load_mid (op := ⟨some 113, _, _, _, _, _⟩) rfl _ _ rfl Z 0 rfl y.v _ HRG.out Try.underlying48 rfl (by kernel_rfl) ?_) | (with_reducible refine wpList_store_at (op := ⟨none, .store 48 _ _, _, _, _, _⟩) rfl _ _ _ rfl G (m * 45) 45 y.v.toArray rfl rfl rfl HTH.out (by kernel_rfl) (one_all rfl) ?_; rw [HWF.out]))
                  go_roundw
                  case rel => exact ⟨k + 1, by omega, by go_num, HS2⟩
                  case measure => simp [intOf]; omega
        · obtain rfl : k = L.length := by omega
          have hdL : decide ((L.length : Int) < (L.length : Int)) = false := by simp
          obtain ⟨life, l, rfl, hf0, -, hln, hcs, hbw⟩ := HS.out
          rw [List.take_of_length_le (by simp)] at hf0
          have HF0 := Lib.hid (show bld id js (L.map txW) = some (life, l.map CoX.c) from hf0)
          obtain ⟨pv, cv, rfl⟩ := own_slice hcs.own
          have HS3 : Hid (CsAt w.heap.size wk (.slice pv l.length cv) (endL l 0) ∧ Below w.heap.size w wk) := ⟨hcs, hbw⟩
          clear hf0 hcs hbw HS hkm
          go_wp2_with fail
          go_loopw [17] (fun i wr => ∃ k : Nat, k ≤ l.length ∧ i = .int .i64 k ∧ Hid (CsAt w.heap.size wr (.slice pv l.length cv) (endL l k) ∧ Below w.heap.size w wr)) (fun i _ => l.length - (intOf i).toNat)
          case atStart => exact ⟨0, Nat.zero_le _, rfl, HS3⟩
          case round =>
            clear HS3
            obtain ⟨k, hk, rfl, HS⟩ := hrel
            obtain ⟨wk, rfl⟩ : ∃ wk : World, wk = wr := ⟨_, rfl⟩
            by_cases hlt : k < l.length
            · have hd : decide ((k : Int) < (l.length : Int)) = true := by simp; omega
              have HC := Lib.hid HS.out.1; have HB := Lib.hid HS.out.2
              obtain ⟨G, rfl⟩ : ∃ G, pv = some ⟨G, 0, none⟩ := by
                rcases HC.out.own.2 with ⟨h', hz⟩ | ⟨g', cap', cur, h', _⟩
                · rw [endL_len] at hz; omega
                · simp only [Value.slice.injEq] at h'; exact ⟨g', h'.1⟩
              have hC := HC.out
              rw [show l.length = (endL l k).length from (endL_len l k).symm] at hC
              have hn : k < (endL l k).length := by rw [endL_len]; exact hlt
              have hx : (endL l k)[k] = l[k] := endL_at l hlt
              have k8 : wk.cell? ⟨G, k * 45 + 8, none⟩ = some (.int .i64 l[k].c.l.b) := by rw [hC.cell hn 8 (by decide), hx]; rfl
              have k6 : wk.cell? ⟨G, k * 45 + 6, none⟩ = some (.int .i64 l[k].c.cm) := by rw [hC.cell hn 6 (by decide), hx]; rfl
              have fG := hC.free
              have hp := hC.put hn 6 (by decide) (endX l[k]) (.int .i64 l[k].c.l.b) (by rw [hx]; rfl) (show CoOwn w.heap.size wk (endX l[k]) from (hx ▸ hC.en _ (List.getElem_mem hn) : CoOwn w.heap.size wk l[k]))
              rw [List.length_set, endL_len, endL_next l hlt] at hp
              have HP : Hid (CsAt w.heap.size (wk.setCell ⟨G, k * 45 + 6, none⟩ (.int .i64 l[k].c.l.b)) (.slice (some ⟨G, 0, none⟩) l.length cv) (endL l (k + 1)) ∧ Below w.heap.size w (wk.setCell ⟨G, k * 45 + 6, none⟩ (.int .i64 l[k].c.l.b))) := ⟨hp.1, HB.out.trans hp.2⟩
              obtain ⟨bb, hbb⟩ : ∃ z, l[k].c.l.b = z := ⟨_, rfl⟩
              rw [hbb] at k8 HP
              clear hC hp hx hn HS HC HB hbb
              go_wp2_with fail
              go_roundw
              case rel => exact ⟨k + 1, by omega, by go_num, HP⟩
              case measure => simp [intOf]; omega
            · obtain rfl : k = l.length := by omega
              have hd : decide ((l.length : Int) < (l.length : Int)) = false := by simp
              have HC := Lib.hid HS.out.1; have HB := Lib.hid HS.out.2
              clear HS
              go_wp2_with fail
              exact HQY.out _ _ life _ (l.map CoX.c) (endL l l.length) rfl rfl rfl rfl HF0.out (endL_all l) HC.out HB.out
end Go.Proofs.Ytjaabakobpabjaa
