/- The reference of script: all events out of bytes. -/
import Derived.Test.YtihkkoldjllifaaScriptD
namespace Go.Proofs.Ytihkkoldjllifaa
open Go.ChangeShapes Go.WideShapes Go.ChangeAt Go.RowKit

def sliceLen (v : Value) : Nat := match v with
  | Value.slice _ n _ => n
  | _ => 0
theorem sl_slice {B : Nat} {w : World} {v : Value} {size n : Nat} {xs : List Value} (h : Sl B w v size n xs) : sliceLen v = n := by
  rcases h.2 with ⟨rfl, h3⟩ | ⟨ad, cap', rfl, h3, h4, h5⟩
  · exact h3.symm
  · rfl
theorem sl_drop {B : Nat} {w : World} {g o cap m q : Nat} {xs : List Int} (h : Sl B w (.slice (some ⟨g, o, none⟩) xs.length cap) 1 xs.length (byt xs)) (hm : m ≤ xs.length) (hq : q = xs.length - m) : Sl B w (.slice (some ⟨g, o + m, none⟩) q (cap - m)) 1 (xs.drop m).length (byt (xs.drop m)) := by
  have h1 := h.partA (m := m) (q := xs.length - m) (q' := q) (by omega) hq
  have e : (xs.drop m).take (xs.length - m) = xs.drop m := List.take_of_length_le (by rw [List.length_drop]; exact Nat.le_refl _)
  rw [e] at h1; exact h1
theorem sl_drop0 {B : Nat} {w : World} {g o cap m q c' : Nat} {xs : List Int} (h : Sl B w (.slice (some ⟨g, o, none⟩) xs.length cap) 1 xs.length (byt xs)) (hm : m ≤ xs.length ∧ cap ≤ m) (hq : q = xs.length - m) (hc : c' = 0) : Sl B w (.slice (some ⟨g, o, none⟩) q c') 1 (xs.drop m).length (byt (xs.drop m)) := by
  have h1 := h.part0 (m := m) (q := xs.length - m) (q' := q) (c' := c') (by omega) (by omega) hq hc
  have e : (xs.drop m).take (xs.length - m) = xs.drop m := List.take_of_length_le (by rw [List.length_drop]; exact Nat.le_refl _)
  rw [e] at h1; exact h1
theorem sl_drop_if {B : Nat} {w : World} {g o cap m q : Nat} {xs : List Int} (h : Sl B w (.slice (some ⟨g, o, none⟩) xs.length cap) 1 xs.length (byt xs)) (hm : m ≤ xs.length) (hq : q = xs.length - m) : Sl B w (.slice (if cap = m then some ⟨g, o, none⟩ else some ⟨g, o + m, none⟩) q (cap - m)) 1 (xs.drop m).length (byt (xs.drop m)) := by
  split
  · exact sl_drop0 h ⟨hm, by omega⟩ hq (by omega)
  · exact sl_drop h hm hq
theorem keeps_none {w : World} (h : ∀ x : EvX, x ∈ ([] : List EvX) → False := fun _ h => by cases h) : Keeps w [] := fun x hx => (h x hx).elim

set_option maxRecDepth 100000 in
set_option maxHeartbeats 16000000 in
theorem refDecode_any (v : Value) (xs : List Int) (nodes : Int) (w : World) (hx : Oct xs) (hs : Sl w.heap.size w v 1 xs.length (byt xs)) (hl : xs.length ≤ 1000000) :
    Calls Try.prog 17 #[v, .int .i64 nodes] w (EvsEnd w.heap.size w (decA nodes xs)) := by
  obtain ⟨i0, hi, hz0, hz1, hz2⟩ := info_parts Try.infoEv
  have HX := Lib.hid hx
  have HS := Lib.hid hs
  obtain ⟨N, hN⟩ : ∃ N, normN nodes = N := ⟨_, rfl⟩
  have hn := normN_fit nodes
  have HD : Hid (decA nodes xs = decE N xs) := by show _ = _; unfold decA; rw [hN]
  rw [hN] at hn
  obtain ⟨p, cap, rfl, h1, h2, -, -⟩ := hs.form
  unfold maxLen at h2
  clear hs hx
  have h3 : nodes < 1 ∧ N = 1 ∨ 1 ≤ nodes ∧ 9 < nodes ∧ N = 1 ∨ 1 ≤ nodes ∧ nodes ≤ 9 ∧ N = nodes := by
    rw [← hN]; unfold normN; split <;> omega
  obtain ⟨hn1, hn9⟩ := hn
  clear hN
  obtain ⟨B, hB⟩ : ∃ B, w.heap.size = B := ⟨_, rfl⟩
  have HB := Lib.hid hB
  have HS0 : Hid (Sl B w (.slice p xs.length cap) 1 xs.length (byt xs)) := by show Sl _ _ _ _ _ _; rw [← hB]; exact HS.out
  have hBw : B ≤ w.heap.size := by omega
  clear hB HS
  go_enter Try.func17, Try.ntmps17
  rcases h3 with ⟨c1, rfl⟩ | ⟨c1, c2, rfl⟩ | ⟨c1, c2, rfl⟩
  · have d1 : decide (nodes < 1) = true := by simpa using c1
    go_upto_region 4 with fail
    go_wp2_with fail
    go_loopw [0, 5] (fun b v wr => ∃ ys L, Hid (Sl B wr b 1 ys.length (byt ys)) ∧ Hid (Oct ys) ∧ ys.length + L.length ≤ 1000000 ∧ Hid (wr.ownsRow B 41 11 v L.length (evRow L)) ∧ Hid (Keeps wr L) ∧ Hid (L.map (·.1) ++ decE 1 ys = decE 1 xs) ∧ Hid (Below B w wr) ∧ B ≤ wr.heap.size) (fun b v wr => sliceLen b)
    case atStart => exact ⟨xs, [], HS0, HX, by simpa using hl, ⟨rfl, .inl ⟨rfl, rfl⟩⟩, keeps_none, rfl, Below.refl _ _, hBw⟩
    case round =>
      obtain ⟨ys, L, HSy, HO, hlen, HW, HKp, HEq, HBw, hRl⟩ := hrel
      obtain ⟨wk, rfl⟩ : ∃ wk : World, wk = wr := ⟨_, rfl⟩
      by_cases hy0 : ys.length = 0
      · obtain rfl : ys = [] := List.eq_nil_of_length_eq_zero hy0
        have hfin : L.map (·.1) = decE 1 xs := by have := HEq.out; rw [decE_nil, List.append_nil] at this; exact this
        have HF := Lib.hid hfin
        clear hfin hy0
        obtain ⟨pk, ck, rfl, -, -, -, -⟩ := HSy.out.form
        simp only [List.length_nil]
        go_wp2_with fail
        go_ret
        rw [HD.out, HB.out]
        exact ⟨_, L, rfl, HF.out, HW.out, HKp.out, by rw [HB.out]; exact HBw.out⟩
      · have hy1 : 0 < ys.length := by omega
        clear hy0
        obtain ⟨g, o, ck, rfl, hc1, hc2, hgB⟩ := sl_head HSy.out hy1
        unfold maxLen at hc2
        obtain ⟨M, hM⟩ : ∃ M, longR ys = M := ⟨_, rfl⟩
        have HM := Lib.hid hM
        by_cases hsh : M = 0 ∨ ys.length < M
        · have HDE : Hid (L.map (·.1) = decE 1 xs) := by
            show _ = _; rw [← HEq.out, dec_short 1 ys HO.out (by rw [hM]; exact hsh), List.append_nil]
          clear hM
          have hend : EvsEnd w.heap.size w (decA nodes xs) (.returned u5) wk := by
            rw [HD.out, HB.out]
            exact ⟨_, L, rfl, HDE.out, HW.out, HKp.out, by rw [HB.out]; exact HBw.out⟩
          have HEND := Lib.hid hend
          clear hend
          by_cases hm0 : M = 0
          · subst hm0
            clear hsh
            go_wp2_with fail
            refine (rlong_any B _ ys _ HO.out HSy.out hy1 (by omega)).mono ?_; rintro r w' ⟨rfl, rfl⟩
            rw [HM.out]
            go_wp2_with fail
            go_ret
            exact HEND.out
          · have hml : ys.length < M := by omega
            have hd0 : ((M : Int) == 0) = false := by simp; omega
            have hdl : decide ((ys.length : Int) < (M : Int)) = true := by simp; omega
            have hdl2 : decide (ys.length < M) = true := by simp; omega
            clear hsh hm0
            go_wp2_with fail
            refine (rlong_any B _ ys _ HO.out HSy.out hy1 (by omega)).mono ?_; rintro r w' ⟨rfl, rfl⟩
            rw [HM.out]
            go_wp2_with fail
            go_ret
            exact HEND.out
        · have hdf := dec_fine 1 ys (by intro h; rw [h] at hy1; simp at hy1) HO.out (by rw [hM]; exact hsh)
          have htk := take_long (xs := ys) (by rw [hM]; exact hsh)
          rw [hM] at hdf htk
          have hM0 : 0 < M := by omega
          have hMl : M ≤ ys.length := by omega
          have hlt : (ys.take M).length = M := by rw [List.length_take]; omega
          have hkd := oneR_kind 1 (ys.take M) (by rw [getD_take hM0]; exact (HO.out _ (by rw [List.getD_eq_getElem?_getD, List.getElem?_eq_getElem hy1]; simp)).1)
          rw [getD_take hM0] at hkd
          obtain ⟨e, he⟩ : ∃ e, oneR 1 (ys.take M) = e := ⟨_, rfl⟩
          rw [he] at hdf hkd
          have HE := Lib.hid he; have HDF := Lib.hid hdf; have HKD := Lib.hid hkd; have HTK := Lib.hid htk; have HLT := Lib.hid hlt
          have hd0 : ((M : Int) == 0) = false := by simp; omega
          have hdl : decide ((ys.length : Int) < (M : Int)) = false := by simp; omega
          have hdl2 : decide (ys.length < M) = false := by simp; omega
          have hlen' : (ys.drop M).length + L.length + 1 ≤ 1000000 := by rw [List.length_drop]; omega
          clear hM hsh hdf hkd htk he hlt
          go_wp2_with fail
          refine (rlong_any B _ ys _ HO.out HSy.out hy1 (by omega)).mono ?_; rintro r w' ⟨rfl, rfl⟩
          rw [HM.out]
          go_wp2_with fail
          refine (one_any B _ (ys.take M) 1 _ (HO.out.take M) (by rw [HLT.out]; exact sl_take HSy.out hMl) hRl (by rw [HLT.out]; exact hM0) (by rw [HLT.out, HTK.out]) (by rw [HLT.out]; omega) (by first | exact ⟨by decide, by decide⟩ | exact ⟨by assumption, by assumption⟩)).mono ?_
          rw [HE.out]
          rintro r w2 ⟨pe, ce, rfl, hk2, hb2⟩
          have hE3 := heap_last w2 (.cells (evC e pe ce).toArray 41)
          have hk3 := hk2.below ((Below.refl _ _).alloc (Nat.le_refl _) (.cells (evC e pe ce).toArray 41)) (Nat.le_refl _)
          have hb3 := hb2.alloc hb2.size (.cells (evC e pe ce).toArray 41)
          have hs2 := hb2.size
          simp only [evC] at hE3 hk3 hb3 ⊢
          clear hk2 hb2
          go_upto_region 8 with fail
          obtain ⟨Dd, hDd⟩ : ∃ D, w2.heap.size = D := ⟨_, rfl⟩
          rw [hDd] at hE3 hs2 ⊢
          obtain ⟨W3, hW3⟩ : ∃ W3, w2.alloc (.cells #[.int .i64 e.k, .int .i64 e.n, .int .i64 e.i, .int .i64 e.w, .string e.t, .slice pe e.ks.length ce, .int .u16 e.cv, .int .u16 e.cx, .int .u16 e.cl, .int .i64 e.ce, .int .i64 e.ck] 41) = W3 := ⟨_, rfl⟩
          rw [hW3] at hE3 hk3 hb3 ⊢
          clear hW3 hDd
          have kE3 := block_cells hE3
          have hsz3 := block_lt hE3
          have HK3 := Lib.hid hk3; have HKp3 : Hid (Keeps W3 L) := HKp.out.below hb3 (Nat.le_refl _)
          have HB3 : Hid (Below B w W3) := HBw.out.trans (hb3.mono hRl)
          have HS3 : Hid (Sl B W3 (.slice (some ⟨g, o, none⟩) ys.length ck) 1 ys.length (byt ys)) := HSy.out.keep (hb3.mono hRl)
          have HW3 : Hid (W3.ownsRow B 41 11 u5 L.length (evRow L)) := HW.out.kept (row := none) ⟨hb3.os, hb3.tape, hb3.output, hb3.size, fun k hk _ => hb3.block k hk⟩ (by cases u5.ownBlock <;> simp)
          clear hk3 hb3 hE3
          by_cases h15 : ys.getD 0 0 % 16 = 15
          · have hk0 : decide (0 < e.k) = false := by
              rw [decide_eq_false_iff_not]; intro h; exact HKD.out.1 h h15
            have HDE : Hid (L.map (·.1) ++ decE 1 (ys.drop M) = decE 1 xs) := by
              show _ = _; rw [← HEq.out, HDF.out, if_neg (by simpa using h15), List.nil_append]
            clear h15
            go_wp2_with fail
            all_goals
              go_roundw
              case rel => exact ⟨ys.drop M, L, sl_drop_if HS3.out hMl rfl, HO.out.drop M, by omega, HW3, HKp3, HDE, HB3, by omega⟩
              case measure => simp [sliceLen]; omega
          · have hk0 : decide (0 < e.k) = true := by
              rw [decide_eq_true_iff]; exact HKD.out.2 h15
            have HDE : Hid ((L ++ [(e, pe, ce)]).map (·.1) ++ decE 1 (ys.drop M) = decE 1 xs) := by
              show _ = _; rw [← HEq.out, HDF.out, if_pos h15]; simp
            clear h15
            have hA := heap_last W3 (.cells (evC e pe ce).toArray 41)
            have HA := Lib.hid hA
            clear hA
            go_wp2_with (at_builtin; refine wpList_append_own _ rfl _ _ 25 rfl B 41 i0 (.agg #[.int .i64 0, .int .i64 0, .int .i64 0, .int .i64 0, .string ⟨#[]⟩, .slice none 0 0, .int .u16 0, .int .u16 0, .int .u16 0, .int .i64 0, .int .i64 0]) 11 96 Try.underlying25 hi hz0 hz1 hz2 rfl (by decide) _ _ _ rfl (HW3.out.alloc _) ⟨W3.heap.size, 0, none⟩ 1 1 (evC e pe ce) rfl rfl ?c1 ?c2 ?c3 ?c4 ?c5 ?_)
            case c1 => exact fun j v hv => by rw [add_plain, Nat.zero_add]; exact (block_cells HA.out j).trans (by simpa using hv)
            case c2 => exact evC_one e pe ce
            case c3 => unfold maxLen; omega
            case c4 => omega
            case c5 => simp; omega
            intro v4 w4 hown4 hgrow4 _
            have HO4 : Hid (w4.ownsRow B 41 11 v4 (L ++ [(e, pe, ce)]).length (evRow (L ++ [(e, pe, ce)]))) := by
              show w4.ownsRow _ _ _ _ _ _
              rw [evRow_snoc, List.length_append]; exact hown4
            have HA3 := HW3.out.alloc (.cells (evC e pe ce).toArray 41)
            have hks : Keeps (W3.alloc (.cells (evC e pe ce).toArray 41)) (L ++ [(e, pe, ce)]) := fun x hx => by
              rcases List.mem_append.1 hx with hx | hx
              · exact (HKp3.out x hx).below ((Below.refl _ _).alloc (Nat.le_refl _) _) (Nat.le_refl _)
              · obtain rfl : x = (e, pe, ce) := by simpa using hx
                exact HK3.out.below ((Below.refl _ _).alloc (Nat.le_refl _) _) (Nat.le_refl _)
            have HK4 : Hid (Keeps w4 (L ++ [(e, pe, ce)])) := hks.grown hgrow4 (own_noInt HA3)
            have hB34 : Below B W3 w4 := ((Below.refl B W3).alloc (by omega) (.cells (evC e pe ce).toArray 41)).grown hgrow4 (by simp; omega) (fun j hj => (HA3.lt j hj).1)
            have HS4 : Hid (Sl B w4 (.slice (some ⟨g, o, none⟩) ys.length ck) 1 ys.length (byt ys)) := HS3.out.keep hB34
            have HB4 : Hid (Below B w w4) := HB3.out.trans hB34
            have hs4 := hgrow4.size
            simp only [World.size_alloc] at hs4
            clear hown4 hgrow4 HA3 hks HA hB34
            go_wp2_with fail
            all_goals
              go_roundw
              case rel => exact ⟨ys.drop M, _, sl_drop_if HS4.out hMl rfl, HO.out.drop M, by simp only [List.length_append, List.length_singleton]; omega, HO4, HK4, HDE, HB4, by omega⟩
              case measure => simp [sliceLen]; omega
  · have d1 : decide (nodes < 1) = false := by simpa using c1
    have d2 : decide (9 < nodes) = true := by simpa using c2
    go_upto_region 4 with fail
    go_wp2_with fail
    go_loopw [0, 5] (fun b v wr => ∃ ys L, Hid (Sl B wr b 1 ys.length (byt ys)) ∧ Hid (Oct ys) ∧ ys.length + L.length ≤ 1000000 ∧ Hid (wr.ownsRow B 41 11 v L.length (evRow L)) ∧ Hid (Keeps wr L) ∧ Hid (L.map (·.1) ++ decE 1 ys = decE 1 xs) ∧ Hid (Below B w wr) ∧ B ≤ wr.heap.size) (fun b v wr => sliceLen b)
    case atStart => exact ⟨xs, [], HS0, HX, by simpa using hl, ⟨rfl, .inl ⟨rfl, rfl⟩⟩, keeps_none, rfl, Below.refl _ _, hBw⟩
    case round =>
      obtain ⟨ys, L, HSy, HO, hlen, HW, HKp, HEq, HBw, hRl⟩ := hrel
      obtain ⟨wk, rfl⟩ : ∃ wk : World, wk = wr := ⟨_, rfl⟩
      by_cases hy0 : ys.length = 0
      · obtain rfl : ys = [] := List.eq_nil_of_length_eq_zero hy0
        have hfin : L.map (·.1) = decE 1 xs := by have := HEq.out; rw [decE_nil, List.append_nil] at this; exact this
        have HF := Lib.hid hfin
        clear hfin hy0
        obtain ⟨pk, ck, rfl, -, -, -, -⟩ := HSy.out.form
        simp only [List.length_nil]
        go_wp2_with fail
        go_ret
        rw [HD.out, HB.out]
        exact ⟨_, L, rfl, HF.out, HW.out, HKp.out, by rw [HB.out]; exact HBw.out⟩
      · have hy1 : 0 < ys.length := by omega
        clear hy0
        obtain ⟨g, o, ck, rfl, hc1, hc2, hgB⟩ := sl_head HSy.out hy1
        unfold maxLen at hc2
        obtain ⟨M, hM⟩ : ∃ M, longR ys = M := ⟨_, rfl⟩
        have HM := Lib.hid hM
        by_cases hsh : M = 0 ∨ ys.length < M
        · have HDE : Hid (L.map (·.1) = decE 1 xs) := by
            show _ = _; rw [← HEq.out, dec_short 1 ys HO.out (by rw [hM]; exact hsh), List.append_nil]
          clear hM
          have hend : EvsEnd w.heap.size w (decA nodes xs) (.returned u5) wk := by
            rw [HD.out, HB.out]
            exact ⟨_, L, rfl, HDE.out, HW.out, HKp.out, by rw [HB.out]; exact HBw.out⟩
          have HEND := Lib.hid hend
          clear hend
          by_cases hm0 : M = 0
          · subst hm0
            clear hsh
            go_wp2_with fail
            refine (rlong_any B _ ys _ HO.out HSy.out hy1 (by omega)).mono ?_; rintro r w' ⟨rfl, rfl⟩
            rw [HM.out]
            go_wp2_with fail
            go_ret
            exact HEND.out
          · have hml : ys.length < M := by omega
            have hd0 : ((M : Int) == 0) = false := by simp; omega
            have hdl : decide ((ys.length : Int) < (M : Int)) = true := by simp; omega
            have hdl2 : decide (ys.length < M) = true := by simp; omega
            clear hsh hm0
            go_wp2_with fail
            refine (rlong_any B _ ys _ HO.out HSy.out hy1 (by omega)).mono ?_; rintro r w' ⟨rfl, rfl⟩
            rw [HM.out]
            go_wp2_with fail
            go_ret
            exact HEND.out
        · have hdf := dec_fine 1 ys (by intro h; rw [h] at hy1; simp at hy1) HO.out (by rw [hM]; exact hsh)
          have htk := take_long (xs := ys) (by rw [hM]; exact hsh)
          rw [hM] at hdf htk
          have hM0 : 0 < M := by omega
          have hMl : M ≤ ys.length := by omega
          have hlt : (ys.take M).length = M := by rw [List.length_take]; omega
          have hkd := oneR_kind 1 (ys.take M) (by rw [getD_take hM0]; exact (HO.out _ (by rw [List.getD_eq_getElem?_getD, List.getElem?_eq_getElem hy1]; simp)).1)
          rw [getD_take hM0] at hkd
          obtain ⟨e, he⟩ : ∃ e, oneR 1 (ys.take M) = e := ⟨_, rfl⟩
          rw [he] at hdf hkd
          have HE := Lib.hid he; have HDF := Lib.hid hdf; have HKD := Lib.hid hkd; have HTK := Lib.hid htk; have HLT := Lib.hid hlt
          have hd0 : ((M : Int) == 0) = false := by simp; omega
          have hdl : decide ((ys.length : Int) < (M : Int)) = false := by simp; omega
          have hdl2 : decide (ys.length < M) = false := by simp; omega
          have hlen' : (ys.drop M).length + L.length + 1 ≤ 1000000 := by rw [List.length_drop]; omega
          clear hM hsh hdf hkd htk he hlt
          go_wp2_with fail
          refine (rlong_any B _ ys _ HO.out HSy.out hy1 (by omega)).mono ?_; rintro r w' ⟨rfl, rfl⟩
          rw [HM.out]
          go_wp2_with fail
          refine (one_any B _ (ys.take M) 1 _ (HO.out.take M) (by rw [HLT.out]; exact sl_take HSy.out hMl) hRl (by rw [HLT.out]; exact hM0) (by rw [HLT.out, HTK.out]) (by rw [HLT.out]; omega) (by first | exact ⟨by decide, by decide⟩ | exact ⟨by assumption, by assumption⟩)).mono ?_
          rw [HE.out]
          rintro r w2 ⟨pe, ce, rfl, hk2, hb2⟩
          have hE3 := heap_last w2 (.cells (evC e pe ce).toArray 41)
          have hk3 := hk2.below ((Below.refl _ _).alloc (Nat.le_refl _) (.cells (evC e pe ce).toArray 41)) (Nat.le_refl _)
          have hb3 := hb2.alloc hb2.size (.cells (evC e pe ce).toArray 41)
          have hs2 := hb2.size
          simp only [evC] at hE3 hk3 hb3 ⊢
          clear hk2 hb2
          go_upto_region 8 with fail
          obtain ⟨Dd, hDd⟩ : ∃ D, w2.heap.size = D := ⟨_, rfl⟩
          rw [hDd] at hE3 hs2 ⊢
          obtain ⟨W3, hW3⟩ : ∃ W3, w2.alloc (.cells #[.int .i64 e.k, .int .i64 e.n, .int .i64 e.i, .int .i64 e.w, .string e.t, .slice pe e.ks.length ce, .int .u16 e.cv, .int .u16 e.cx, .int .u16 e.cl, .int .i64 e.ce, .int .i64 e.ck] 41) = W3 := ⟨_, rfl⟩
          rw [hW3] at hE3 hk3 hb3 ⊢
          clear hW3 hDd
          have kE3 := block_cells hE3
          have hsz3 := block_lt hE3
          have HK3 := Lib.hid hk3; have HKp3 : Hid (Keeps W3 L) := HKp.out.below hb3 (Nat.le_refl _)
          have HB3 : Hid (Below B w W3) := HBw.out.trans (hb3.mono hRl)
          have HS3 : Hid (Sl B W3 (.slice (some ⟨g, o, none⟩) ys.length ck) 1 ys.length (byt ys)) := HSy.out.keep (hb3.mono hRl)
          have HW3 : Hid (W3.ownsRow B 41 11 u5 L.length (evRow L)) := HW.out.kept (row := none) ⟨hb3.os, hb3.tape, hb3.output, hb3.size, fun k hk _ => hb3.block k hk⟩ (by cases u5.ownBlock <;> simp)
          clear hk3 hb3 hE3
          by_cases h15 : ys.getD 0 0 % 16 = 15
          · have hk0 : decide (0 < e.k) = false := by
              rw [decide_eq_false_iff_not]; intro h; exact HKD.out.1 h h15
            have HDE : Hid (L.map (·.1) ++ decE 1 (ys.drop M) = decE 1 xs) := by
              show _ = _; rw [← HEq.out, HDF.out, if_neg (by simpa using h15), List.nil_append]
            clear h15
            go_wp2_with fail
            all_goals
              go_roundw
              case rel => exact ⟨ys.drop M, L, sl_drop_if HS3.out hMl rfl, HO.out.drop M, by omega, HW3, HKp3, HDE, HB3, by omega⟩
              case measure => simp [sliceLen]; omega
          · have hk0 : decide (0 < e.k) = true := by
              rw [decide_eq_true_iff]; exact HKD.out.2 h15
            have HDE : Hid ((L ++ [(e, pe, ce)]).map (·.1) ++ decE 1 (ys.drop M) = decE 1 xs) := by
              show _ = _; rw [← HEq.out, HDF.out, if_pos h15]; simp
            clear h15
            have hA := heap_last W3 (.cells (evC e pe ce).toArray 41)
            have HA := Lib.hid hA
            clear hA
            go_wp2_with (at_builtin; refine wpList_append_own _ rfl _ _ 25 rfl B 41 i0 (.agg #[.int .i64 0, .int .i64 0, .int .i64 0, .int .i64 0, .string ⟨#[]⟩, .slice none 0 0, .int .u16 0, .int .u16 0, .int .u16 0, .int .i64 0, .int .i64 0]) 11 96 Try.underlying25 hi hz0 hz1 hz2 rfl (by decide) _ _ _ rfl (HW3.out.alloc _) ⟨W3.heap.size, 0, none⟩ 1 1 (evC e pe ce) rfl rfl ?d1 ?d2 ?d3 ?d4 ?d5 ?_)
            case d1 => exact fun j v hv => by rw [add_plain, Nat.zero_add]; exact (block_cells HA.out j).trans (by simpa using hv)
            case d2 => exact evC_one e pe ce
            case d3 => unfold maxLen; omega
            case d4 => omega
            case d5 => simp; omega
            intro v4 w4 hown4 hgrow4 _
            have HO4 : Hid (w4.ownsRow B 41 11 v4 (L ++ [(e, pe, ce)]).length (evRow (L ++ [(e, pe, ce)]))) := by
              show w4.ownsRow _ _ _ _ _ _
              rw [evRow_snoc, List.length_append]; exact hown4
            have HA3 := HW3.out.alloc (.cells (evC e pe ce).toArray 41)
            have hks : Keeps (W3.alloc (.cells (evC e pe ce).toArray 41)) (L ++ [(e, pe, ce)]) := fun x hx => by
              rcases List.mem_append.1 hx with hx | hx
              · exact (HKp3.out x hx).below ((Below.refl _ _).alloc (Nat.le_refl _) _) (Nat.le_refl _)
              · obtain rfl : x = (e, pe, ce) := by simpa using hx
                exact HK3.out.below ((Below.refl _ _).alloc (Nat.le_refl _) _) (Nat.le_refl _)
            have HK4 : Hid (Keeps w4 (L ++ [(e, pe, ce)])) := hks.grown hgrow4 (own_noInt HA3)
            have hB34 : Below B W3 w4 := ((Below.refl B W3).alloc (by omega) (.cells (evC e pe ce).toArray 41)).grown hgrow4 (by simp; omega) (fun j hj => (HA3.lt j hj).1)
            have HS4 : Hid (Sl B w4 (.slice (some ⟨g, o, none⟩) ys.length ck) 1 ys.length (byt ys)) := HS3.out.keep hB34
            have HB4 : Hid (Below B w w4) := HB3.out.trans hB34
            have hs4 := hgrow4.size
            simp only [World.size_alloc] at hs4
            clear hown4 hgrow4 HA3 hks HA hB34
            go_wp2_with fail
            all_goals
              go_roundw
              case rel => exact ⟨ys.drop M, _, sl_drop_if HS4.out hMl rfl, HO.out.drop M, by simp only [List.length_append, List.length_singleton]; omega, HO4, HK4, HDE, HB4, by omega⟩
              case measure => simp [sliceLen]; omega
  · have d1 : decide (N < 1) = false := by simpa using c1
    have d2 : decide (9 < N) = false := by simpa using c2
    go_upto_region 4 with fail
    go_wp2_with fail
    go_loopw [0, 5] (fun b v wr => ∃ ys L, Hid (Sl B wr b 1 ys.length (byt ys)) ∧ Hid (Oct ys) ∧ ys.length + L.length ≤ 1000000 ∧ Hid (wr.ownsRow B 41 11 v L.length (evRow L)) ∧ Hid (Keeps wr L) ∧ Hid (L.map (·.1) ++ decE N ys = decE N xs) ∧ Hid (Below B w wr) ∧ B ≤ wr.heap.size) (fun b v wr => sliceLen b)
    case atStart => exact ⟨xs, [], HS0, HX, by simpa using hl, ⟨rfl, .inl ⟨rfl, rfl⟩⟩, keeps_none, rfl, Below.refl _ _, hBw⟩
    case round =>
      obtain ⟨ys, L, HSy, HO, hlen, HW, HKp, HEq, HBw, hRl⟩ := hrel
      obtain ⟨wk, rfl⟩ : ∃ wk : World, wk = wr := ⟨_, rfl⟩
      by_cases hy0 : ys.length = 0
      · obtain rfl : ys = [] := List.eq_nil_of_length_eq_zero hy0
        have hfin : L.map (·.1) = decE N xs := by have := HEq.out; rw [decE_nil, List.append_nil] at this; exact this
        have HF := Lib.hid hfin
        clear hfin hy0
        obtain ⟨pk, ck, rfl, -, -, -, -⟩ := HSy.out.form
        simp only [List.length_nil]
        go_wp2_with fail
        go_ret
        rw [HD.out, HB.out]
        exact ⟨_, L, rfl, HF.out, HW.out, HKp.out, by rw [HB.out]; exact HBw.out⟩
      · have hy1 : 0 < ys.length := by omega
        clear hy0
        obtain ⟨g, o, ck, rfl, hc1, hc2, hgB⟩ := sl_head HSy.out hy1
        unfold maxLen at hc2
        obtain ⟨M, hM⟩ : ∃ M, longR ys = M := ⟨_, rfl⟩
        have HM := Lib.hid hM
        by_cases hsh : M = 0 ∨ ys.length < M
        · have HDE : Hid (L.map (·.1) = decE N xs) := by
            show _ = _; rw [← HEq.out, dec_short N ys HO.out (by rw [hM]; exact hsh), List.append_nil]
          clear hM
          have hend : EvsEnd w.heap.size w (decA N xs) (.returned u5) wk := by
            rw [HD.out, HB.out]
            exact ⟨_, L, rfl, HDE.out, HW.out, HKp.out, by rw [HB.out]; exact HBw.out⟩
          have HEND := Lib.hid hend
          clear hend
          by_cases hm0 : M = 0
          · subst hm0
            clear hsh
            go_wp2_with fail
            refine (rlong_any B _ ys _ HO.out HSy.out hy1 (by omega)).mono ?_; rintro r w' ⟨rfl, rfl⟩
            rw [HM.out]
            go_wp2_with fail
            go_ret
            exact HEND.out
          · have hml : ys.length < M := by omega
            have hd0 : ((M : Int) == 0) = false := by simp; omega
            have hdl : decide ((ys.length : Int) < (M : Int)) = true := by simp; omega
            have hdl2 : decide (ys.length < M) = true := by simp; omega
            clear hsh hm0
            go_wp2_with fail
            refine (rlong_any B _ ys _ HO.out HSy.out hy1 (by omega)).mono ?_; rintro r w' ⟨rfl, rfl⟩
            rw [HM.out]
            go_wp2_with fail
            go_ret
            exact HEND.out
        · have hdf := dec_fine N ys (by intro h; rw [h] at hy1; simp at hy1) HO.out (by rw [hM]; exact hsh)
          have htk := take_long (xs := ys) (by rw [hM]; exact hsh)
          rw [hM] at hdf htk
          have hM0 : 0 < M := by omega
          have hMl : M ≤ ys.length := by omega
          have hlt : (ys.take M).length = M := by rw [List.length_take]; omega
          have hkd := oneR_kind N (ys.take M) (by rw [getD_take hM0]; exact (HO.out _ (by rw [List.getD_eq_getElem?_getD, List.getElem?_eq_getElem hy1]; simp)).1)
          rw [getD_take hM0] at hkd
          obtain ⟨e, he⟩ : ∃ e, oneR N (ys.take M) = e := ⟨_, rfl⟩
          rw [he] at hdf hkd
          have HE := Lib.hid he; have HDF := Lib.hid hdf; have HKD := Lib.hid hkd; have HTK := Lib.hid htk; have HLT := Lib.hid hlt
          have hd0 : ((M : Int) == 0) = false := by simp; omega
          have hdl : decide ((ys.length : Int) < (M : Int)) = false := by simp; omega
          have hdl2 : decide (ys.length < M) = false := by simp; omega
          have hlen' : (ys.drop M).length + L.length + 1 ≤ 1000000 := by rw [List.length_drop]; omega
          clear hM hsh hdf hkd htk he hlt
          go_wp2_with fail
          refine (rlong_any B _ ys _ HO.out HSy.out hy1 (by omega)).mono ?_; rintro r w' ⟨rfl, rfl⟩
          rw [HM.out]
          go_wp2_with fail
          refine (one_any B _ (ys.take M) N _ (HO.out.take M) (by rw [HLT.out]; exact sl_take HSy.out hMl) hRl (by rw [HLT.out]; exact hM0) (by rw [HLT.out, HTK.out]) (by rw [HLT.out]; omega) (by first | exact ⟨by decide, by decide⟩ | exact ⟨by assumption, by assumption⟩)).mono ?_
          rw [HE.out]
          rintro r w2 ⟨pe, ce, rfl, hk2, hb2⟩
          have hE3 := heap_last w2 (.cells (evC e pe ce).toArray 41)
          have hk3 := hk2.below ((Below.refl _ _).alloc (Nat.le_refl _) (.cells (evC e pe ce).toArray 41)) (Nat.le_refl _)
          have hb3 := hb2.alloc hb2.size (.cells (evC e pe ce).toArray 41)
          have hs2 := hb2.size
          simp only [evC] at hE3 hk3 hb3 ⊢
          clear hk2 hb2
          go_upto_region 8 with fail
          obtain ⟨Dd, hDd⟩ : ∃ D, w2.heap.size = D := ⟨_, rfl⟩
          rw [hDd] at hE3 hs2 ⊢
          obtain ⟨W3, hW3⟩ : ∃ W3, w2.alloc (.cells #[.int .i64 e.k, .int .i64 e.n, .int .i64 e.i, .int .i64 e.w, .string e.t, .slice pe e.ks.length ce, .int .u16 e.cv, .int .u16 e.cx, .int .u16 e.cl, .int .i64 e.ce, .int .i64 e.ck] 41) = W3 := ⟨_, rfl⟩
          rw [hW3] at hE3 hk3 hb3 ⊢
          clear hW3 hDd
          have kE3 := block_cells hE3
          have hsz3 := block_lt hE3
          have HK3 := Lib.hid hk3; have HKp3 : Hid (Keeps W3 L) := HKp.out.below hb3 (Nat.le_refl _)
          have HB3 : Hid (Below B w W3) := HBw.out.trans (hb3.mono hRl)
          have HS3 : Hid (Sl B W3 (.slice (some ⟨g, o, none⟩) ys.length ck) 1 ys.length (byt ys)) := HSy.out.keep (hb3.mono hRl)
          have HW3 : Hid (W3.ownsRow B 41 11 u5 L.length (evRow L)) := HW.out.kept (row := none) ⟨hb3.os, hb3.tape, hb3.output, hb3.size, fun k hk _ => hb3.block k hk⟩ (by cases u5.ownBlock <;> simp)
          clear hk3 hb3 hE3
          by_cases h15 : ys.getD 0 0 % 16 = 15
          · have hk0 : decide (0 < e.k) = false := by
              rw [decide_eq_false_iff_not]; intro h; exact HKD.out.1 h h15
            have HDE : Hid (L.map (·.1) ++ decE N (ys.drop M) = decE N xs) := by
              show _ = _; rw [← HEq.out, HDF.out, if_neg (by simpa using h15), List.nil_append]
            clear h15
            go_wp2_with fail
            all_goals
              go_roundw
              case rel => exact ⟨ys.drop M, L, sl_drop_if HS3.out hMl rfl, HO.out.drop M, by omega, HW3, HKp3, HDE, HB3, by omega⟩
              case measure => simp [sliceLen]; omega
          · have hk0 : decide (0 < e.k) = true := by
              rw [decide_eq_true_iff]; exact HKD.out.2 h15
            have HDE : Hid ((L ++ [(e, pe, ce)]).map (·.1) ++ decE N (ys.drop M) = decE N xs) := by
              show _ = _; rw [← HEq.out, HDF.out, if_pos h15]; simp
            clear h15
            have hA := heap_last W3 (.cells (evC e pe ce).toArray 41)
            have HA := Lib.hid hA
            clear hA
            go_wp2_with (at_builtin; refine wpList_append_own _ rfl _ _ 25 rfl B 41 i0 (.agg #[.int .i64 0, .int .i64 0, .int .i64 0, .int .i64 0, .string ⟨#[]⟩, .slice none 0 0, .int .u16 0, .int .u16 0, .int .u16 0, .int .i64 0, .int .i64 0]) 11 96 Try.underlying25 hi hz0 hz1 hz2 rfl (by decide) _ _ _ rfl (HW3.out.alloc _) ⟨W3.heap.size, 0, none⟩ 1 1 (evC e pe ce) rfl rfl ?e1 ?e2 ?e3 ?e4 ?e5 ?_)
            case e1 => exact fun j v hv => by rw [add_plain, Nat.zero_add]; exact (block_cells HA.out j).trans (by simpa using hv)
            case e2 => exact evC_one e pe ce
            case e3 => unfold maxLen; omega
            case e4 => omega
            case e5 => simp; omega
            intro v4 w4 hown4 hgrow4 _
            have HO4 : Hid (w4.ownsRow B 41 11 v4 (L ++ [(e, pe, ce)]).length (evRow (L ++ [(e, pe, ce)]))) := by
              show w4.ownsRow _ _ _ _ _ _
              rw [evRow_snoc, List.length_append]; exact hown4
            have HA3 := HW3.out.alloc (.cells (evC e pe ce).toArray 41)
            have hks : Keeps (W3.alloc (.cells (evC e pe ce).toArray 41)) (L ++ [(e, pe, ce)]) := fun x hx => by
              rcases List.mem_append.1 hx with hx | hx
              · exact (HKp3.out x hx).below ((Below.refl _ _).alloc (Nat.le_refl _) _) (Nat.le_refl _)
              · obtain rfl : x = (e, pe, ce) := by simpa using hx
                exact HK3.out.below ((Below.refl _ _).alloc (Nat.le_refl _) _) (Nat.le_refl _)
            have HK4 : Hid (Keeps w4 (L ++ [(e, pe, ce)])) := hks.grown hgrow4 (own_noInt HA3)
            have hB34 : Below B W3 w4 := ((Below.refl B W3).alloc (by omega) (.cells (evC e pe ce).toArray 41)).grown hgrow4 (by simp; omega) (fun j hj => (HA3.lt j hj).1)
            have HS4 : Hid (Sl B w4 (.slice (some ⟨g, o, none⟩) ys.length ck) 1 ys.length (byt ys)) := HS3.out.keep hB34
            have HB4 : Hid (Below B w w4) := HB3.out.trans hB34
            have hs4 := hgrow4.size
            simp only [World.size_alloc] at hs4
            clear hown4 hgrow4 HA3 hks HA hB34
            go_wp2_with fail
            all_goals
              go_roundw
              case rel => exact ⟨ys.drop M, _, sl_drop_if HS4.out hMl rfl, HO.out.drop M, by simp only [List.length_append, List.length_singleton]; omega, HO4, HK4, HDE, HB4, by omega⟩
              case measure => simp [sliceLen]; omega
end Go.Proofs.Ytihkkoldjllifaa
