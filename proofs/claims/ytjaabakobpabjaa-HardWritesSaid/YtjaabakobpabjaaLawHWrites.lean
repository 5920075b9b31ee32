/- HardWrites: for every range, two cores and life: what package hard writes of a core that is another one now, of both, and of a life, is what the document's answer writes. -/
import Derived.Test.YtjaabakobpabjaaOpenCore
import Derived.Test.YtjaabakobpabjaaHardF
import Derived.Test.YtjaabakobpabjaaHardH
import Derived.Test.YtjaabakobpabjaaAgg2
import Derived.Test.YtjaabakobpabjaaWireC
import Derived.Test.YtjaabakobpabjaaCalm
import Derived.Test.YtjaabakobpabjaaRows
namespace Go.Proofs.Ytjaabakobpabjaa
open Go.ChangeShapes Go.WideShapes Go.ChangeAt Go.RowKit

def lgL (l : Lg) (p : Option Addr) (k : Nat) : List Value := [.int .i64 l.b, .int .i64 l.bt, .int .u16 l.j.ov, .int .u16 l.j.ox, .int .u16 l.j.ol, .int .i64 l.j.oe, .int .i64 l.j.ok, .int .u16 l.j.nv, .int .u16 l.j.nx, .int .u16 l.j.nl, .int .i64 l.j.ne, .int .i64 l.j.nk, .bool l.j.two, .slice p l.es.length k]
theorem coL_lg (c : Co) (p : Option Addr) (k j : Nat) (hj : j < 14) : (coL c p k)[8 + j]? = (lgL c.l p k)[j]? := by
  have h : (coL c p k).drop 8 = lgL c.l p k ++ (coL c p k).drop 22 := rfl
  have h2 : ((coL c p k).drop 8)[j]? = (coL c p k)[8 + j]? := by rw [List.getElem?_drop]
  rw [← h2, h, List.getElem?_append_left hj]
theorem mayL_fitH {l : Lg} (h : mayL l = true) (hn : l.es.length ≤ 60) : LgFit l := by
  unfold mayL at h
  simp only [Bool.and_eq_true, decide_eq_true_eq] at h
  exact ⟨h.1, by omega, by omega⟩
theorem lightC_iff {c : Co} (h : lightC c = true) : c.l.es.length ≤ 60 ∧ (∀ e ∈ c.l.es, e.d.size ≤ 200) ∧ c.sn.size ≤ 300 := by
  unfold lightC lightB smallB at h
  simp only [Bool.and_eq_true, decide_eq_true_eq, List.all_eq_true] at h
  exact ⟨h.1.1, h.1.2.2.1, h.2⟩
theorem coF_of {c : Co} (v : CoV c) (h : lightC c = true) : CoF c := by
  obtain ⟨h1, h2, h3⟩ := lightC_iff h
  exact ⟨v.tm, v.vt, v.l.bt, v.l.j, by omega, fun e he => ⟨(v.l.es e he).t, (v.l.es e he).k, (v.l.es e he).j, by have := h2 e he; omega⟩⟩
theorem kp_built (x : KpX) : Try.prog.built 55 [(0, .int .i64 x.r), (1, .agg (coL x.c x.p x.k).toArray)] = some (kpC x).toArray := by kernel_rfl
theorem rkp_built (x : KpX) : Try.prog.built 60 [(0, .int .i64 x.r), (1, .agg (coL x.c x.p x.k).toArray)] = some (kpC x).toArray := by kernel_rfl
theorem Try.infoKp : (Try.prog.info? 55).map (fun i => (i.zero, i.size, i.bytes)) = some (some (.agg #[.int .i64 0, .int .i64 0, .int .i64 0, .int .i64 0, .int .i64 0, .int .i64 0, .int .i64 0, .int .i64 0, .int .i64 0, .int .i64 0, .int .i64 0, .int .u16 0, .int .u16 0, .int .u16 0, .int .i64 0, .int .i64 0, .int .u16 0, .int .u16 0, .int .u16 0, .int .i64 0, .int .i64 0, .bool false, .slice none 0 0, .string ⟨#[]⟩, .int .u16 0, .int .u16 0, .int .i64 0, .int .i64 0, .int .i64 0, .int .i64 0, .int .i64 0, .int .i64 0, .int .i64 0, .int .i64 0, .int .i64 0, .int .i64 0, .int .i64 0, .int .i64 0, .int .i64 0, .int .i64 0, .int .i64 0, .int .i64 0, .int .i64 0, .int .i64 0, .int .i64 0, .int .i64 0]), 46, 352) := by kernel_rfl
theorem Try.infoRKp : (Try.prog.info? 60).map (fun i => (i.zero, i.size, i.bytes)) = some (some (.agg #[.int .i64 0, .int .i64 0, .int .i64 0, .int .i64 0, .int .i64 0, .int .i64 0, .int .i64 0, .int .i64 0, .int .i64 0, .int .i64 0, .int .i64 0, .int .u16 0, .int .u16 0, .int .u16 0, .int .i64 0, .int .i64 0, .int .u16 0, .int .u16 0, .int .u16 0, .int .i64 0, .int .i64 0, .bool false, .slice none 0 0, .string ⟨#[]⟩, .int .u16 0, .int .u16 0, .int .i64 0, .int .i64 0, .int .i64 0, .int .i64 0, .int .i64 0, .int .i64 0, .int .i64 0, .int .i64 0, .int .i64 0, .int .i64 0, .int .i64 0, .int .i64 0, .int .i64 0, .int .i64 0, .int .i64 0, .int .i64 0, .int .i64 0, .int .i64 0, .int .i64 0, .int .i64 0]), 46, 352) := by kernel_rfl
theorem kpC_len (x : KpX) : (kpC x).length = 46 := rfl
theorem kp_two {w : World} {g : Nat} {t : TypeId} {x y : KpX} (h : w.heap[g]? = some (.cells (kpC x ++ kpC y).toArray t (0, 0))) (hx : EnSl w (.slice x.p x.c.l.es.length x.k) x.c.l.es) (hy : EnSl w (.slice y.p y.c.l.es.length y.k) y.c.l.es) : KpAt w (some ⟨g, 0, none⟩) [x, y] := fun j hj => by
  refine ⟨g, 0, rfl, block_lt h, ?_, ?_⟩
  · intro i hi
    rw [Nat.zero_add, block_cells h, List.getElem?_toArray]
    have hj2 : j = 0 ∨ j = 1 := by simp at hj; omega
    rcases hj2 with rfl | rfl
    · rw [Nat.zero_mul, Nat.zero_add, List.getElem?_append_left (by rw [kpC_len]; exact hi)]; rfl
    · rw [List.getElem?_append_right (by rw [kpC_len]; omega), kpC_len, show 1 * 46 + i - 46 = i by omega]; rfl
  · have hj2 : j = 0 ∨ j = 1 := by simp at hj; omega
    rcases hj2 with rfl | rfl
    · exact hx
    · exact hy
set_option maxRecDepth 100000 in
set_option maxHeartbeats 16000000 in
theorem hwrites_walk (r lf : Int) (o n : Co) (po pn : Option Addr) (ko kn : Nat) (w : World) (hr : In64 r) (hlf : In64 lf) (vo : CoV o) (vn : CoV n) (eo : EnSl w (.slice po o.l.es.length ko) o.l.es) (en : EnSl w (.slice pn n.l.es.length kn) n.l.es) :
    Calls Try.prog 4 #[.int .i64 r, .agg (coL o po ko).toArray, .agg (coL n pn kn).toArray, .int .i64 lf] w fun e w' => e = .returned (.bool true) ∧ Below w.heap.size w w' := by
  obtain ⟨i0, hi0, hz0, hz1, hz2⟩ := info_parts Try.infoKp
  obtain ⟨i1, hi1, hy0, hy1, hy2⟩ := info_parts Try.infoRKp
  have HEO := Lib.hid eo; have HEN := Lib.hid en; have HVO := Lib.hid vo; have HVN := Lib.hid vn; have HRI := Lib.hid hr; have HLF := Lib.hid hlf
  clear eo en vo vn hr hlf
  go_enter Try.func4, Try.ntmps4
  obtain ⟨Q', hQ⟩ : ∃ Q', bodyPost Try.prog Try.f4 (fun e w' => e = .returned (.bool true) ∧ Below w.heap.size w w') = Q' := ⟨_, rfl⟩
  have HQ : Hid (∀ (a : Act) (w' : World), a.tmps.getD 8 undef = .bool true → a.defers = [] → Below w.heap.size w w' → Q' .ret a w') := fun a w' h6 hd hb => by
    rw [← hQ]; exact bodyPost_ret (v := .bool true) (by rw [results_tmp rfl, h6]) hd ⟨rfl, hb⟩
  rw [hQ]
  clear hQ
  go_upto_region 1 with fail
  obtain ⟨W0, hW0⟩ : ∃ z : World, w.alloc (.cells (coL o po ko).toArray 48) = z := ⟨_, rfl⟩
  obtain ⟨W, hW⟩ : ∃ z : World, W0.alloc (.cells (coL n pn kn).toArray 48) = z := ⟨_, rfl⟩
  have hs0 : W0.heap.size = w.heap.size + 1 := by rw [← hW0]; simp
  have b0 : Below w.heap.size w W0 := by rw [← hW0]; exact (Below.refl _ _).alloc (Nat.le_refl _) _
  have b1 : Below W0.heap.size W0 W := by rw [← hW]; exact (Below.refl _ _).alloc (Nat.le_refl _) _
  have hA : W.heap[w.heap.size]? = some (.cells (coL o po ko).toArray 48 (0, 0)) := below_block b1 (by omega) (by rw [← hW0]; exact heap_last w _)
  have hB : W.heap[w.heap.size + 1]? = some (.cells (coL n pn kn).toArray 48 (0, 0)) := by rw [← hW, ← hs0]; exact heap_last W0 _
  rw [hW0, hW]
  obtain ⟨A, eA⟩ : ∃ z, w.heap.size = z := ⟨_, rfl⟩
  obtain ⟨B, eB⟩ : ∃ z, A + 1 = z := ⟨_, rfl⟩
  (try rw [eA]); (try rw [eB])
  rw [eA] at hA hB
  rw [eB] at hB
  have HBW := Lib.hid (b0.trans (b1.mono b0.size))
  have hAl := block_lt hA; have hBl := block_lt hB
  have HRA := Lib.hid (show ∀ w', Below W.heap.size W w' → w'.rangeAt A 0 (coL o po ko) from fun w' h => range_of (n := 45) rfl (fun j _ => by rw [Nat.zero_add, block_cells (below_block h hAl hA), List.getElem?_toArray]))
  have HRB := Lib.hid (show ∀ w', Below W.heap.size W w' → w'.rangeAt B 0 (coL n pn kn) from fun w' h => range_of (n := 45) rfl (fun j _ => by rw [Nat.zero_add, block_cells (below_block h hBl hB), List.getElem?_toArray]))
  have HRAL := Lib.hid (show ∀ w', Below W.heap.size W w' → w'.rangeAt A 8 (lgL o.l po ko) from fun w' h => range_of (n := 14) rfl (fun j hj => by rw [block_cells (below_block h hAl hA), List.getElem?_toArray, coL_lg _ _ _ j hj]))
  have HRBL := Lib.hid (show ∀ w', Below W.heap.size W w' → w'.rangeAt B 8 (lgL n.l pn kn) from fun w' h => range_of (n := 14) rfl (fun j hj => by rw [block_cells (below_block h hBl hB), List.getElem?_toArray, coL_lg _ _ _ j hj]))
  have HEA := Lib.hid (show ∀ w', Below W.heap.size W w' → EnSl w' (.slice po o.l.es.length ko) o.l.es from fun w' h => HEO.out.keep (HBW.out.trans (h.mono HBW.out.size)) (Nat.le_refl _))
  have HEB := Lib.hid (show ∀ w', Below W.heap.size W w' → EnSl w' (.slice pn n.l.es.length kn) n.l.es from fun w' h => HEN.out.keep (HBW.out.trans (h.mono HBW.out.size)) (Nat.le_refl _))
  have HLO := Lib.hid (show ∀ w', Below W.heap.size W w' → Calls Try.prog 14 #[.agg (coL o po ko).toArray] w' fun e w2 => e = .returned (.bool (lightC o)) ∧ Below w'.heap.size w' w2 from fun w' h => light13_any o po ko w' (HEA.out w' h))
  have HLN := Lib.hid (show ∀ w', Below W.heap.size W w' → Calls Try.prog 14 #[.agg (coL n pn kn).toArray] w' fun e w2 => e = .returned (.bool (lightC n)) ∧ Below w'.heap.size w' w2 from fun w' h => light13_any n pn kn w' (HEB.out w' h))
  clear hW0 hW hs0 b0 b1 hA hB eA eB HEO HEN hAl hBl
  go_wp2_with fail
  refine (begun15_any W).mono ?_; rintro e w1 ⟨rfl, hb1⟩
  have hk1 : Below W.heap.size W w1 := hb1
  clear hb1
  cases hlo : lightC o with
  | false =>
    have HC := Lib.hid (HLO.out w1 hk1)
    rw [hlo] at HC
    clear hlo
    go_wp2_with (with_reducible refine wpList_load_g (op := ⟨some 13, _, _, _, _, _⟩) (by kernel_rfl) _ _ rfl A 0 rfl (coL o po ko) _ (HRA.out _ (by assumption)) Try.underlying48 rfl (by kernel_rfl) ?_)
    refine HC.out.mono ?_; rintro e w2 ⟨rfl, hb2⟩
    have HB2 := Lib.hid (HBW.out.trans ((hk1.trans (hb2.mono hk1.size)).mono HBW.out.size))
    clear hb2 HC
    go_wp2_with fail
    exact HQ.out _ _ rfl rfl HB2.out
  | true =>
  have HC := Lib.hid (HLO.out w1 hk1)
  rw [hlo] at HC
  go_wp2_with (with_reducible refine wpList_load_g (op := ⟨some 13, _, _, _, _, _⟩) (by kernel_rfl) _ _ rfl A 0 rfl (coL o po ko) _ (HRA.out _ (by assumption)) Try.underlying48 rfl (by kernel_rfl) ?_)
  refine HC.out.mono ?_; rintro e w2 ⟨rfl, hb2⟩
  have hk2 : Below W.heap.size W w2 := hk1.trans (hb2.mono hk1.size)
  clear hb2 HC hk1
  cases hln : lightC n with
  | false =>
    have HC := Lib.hid (HLN.out w2 hk2)
    rw [hln] at HC
    clear hlo hln
    go_wp2_with (with_reducible refine wpList_load_g (op := ⟨some 17, _, _, _, _, _⟩) (by kernel_rfl) _ _ rfl B 0 rfl (coL n pn kn) _ (HRB.out _ (by assumption)) Try.underlying48 rfl (by kernel_rfl) ?_)
    refine HC.out.mono ?_; rintro e w3 ⟨rfl, hb3⟩
    have HB3 := Lib.hid (HBW.out.trans ((hk2.trans (hb3.mono hk2.size)).mono HBW.out.size))
    clear hb3 HC
    go_wp2_with fail
    exact HQ.out _ _ rfl rfl HB3.out
  | true =>
  have HC := Lib.hid (HLN.out w2 hk2)
  rw [hln] at HC
  go_wp2_with (with_reducible refine wpList_load_g (op := ⟨some 17, _, _, _, _, _⟩) (by kernel_rfl) _ _ rfl B 0 rfl (coL n pn kn) _ (HRB.out _ (by assumption)) Try.underlying48 rfl (by kernel_rfl) ?_)
  refine HC.out.mono ?_; rintro e w3 ⟨rfl, hb3⟩
  have hk3 : Below W.heap.size W w3 := hk2.trans (hb3.mono hk2.size)
  clear hb3 HC hk2
  have HCO := Lib.hid (lightC_iff hlo); have HCN := Lib.hid (lightC_iff hln)
  have HFN := Lib.hid (coF_of HVN.out hln); have HFO := Lib.hid (coF_of HVO.out hlo)
  clear hlo hln
  have HMO := Lib.hid (show ∀ w', Below W.heap.size W w' → Calls Try.prog 15 #[.agg (lgL o.l po ko).toArray] w' fun e w2 => e = .returned (.bool (mayL o.l)) ∧ Below w'.heap.size w' w2 from fun w' h => rmay_any o.l po ko w' (by have := HCO.out.1; omega) (HEA.out w' h))
  have HMN := Lib.hid (show ∀ w', Below W.heap.size W w' → Calls Try.prog 15 #[.agg (lgL n.l pn kn).toArray] w' fun e w2 => e = .returned (.bool (mayL n.l)) ∧ Below w'.heap.size w' w2 from fun w' h => rmay_any n.l pn kn w' (by have := HCN.out.1; omega) (HEB.out w' h))
  cases hlo : mayL o.l with
  | false =>
    have HC := Lib.hid (HMO.out w3 hk3)
    rw [hlo] at HC
    clear hlo
    go_wp2_with (with_reducible refine wpList_load_g (op := ⟨some 23, _, _, _, _, _⟩) (by kernel_rfl) _ _ rfl A 8 rfl (lgL o.l po ko) _ (HRAL.out _ (by assumption)) Try.underlying45 rfl (by kernel_rfl) ?_)
    refine HC.out.mono ?_; rintro e w4 ⟨rfl, hb4⟩
    have HB4 := Lib.hid (HBW.out.trans ((hk3.trans (hb4.mono hk3.size)).mono HBW.out.size))
    clear hb4 HC
    go_wp2_with fail
    exact HQ.out _ _ rfl rfl HB4.out
  | true =>
  have HC := Lib.hid (HMO.out w3 hk3)
  rw [hlo] at HC
  go_wp2_with (with_reducible refine wpList_load_g (op := ⟨some 23, _, _, _, _, _⟩) (by kernel_rfl) _ _ rfl A 8 rfl (lgL o.l po ko) _ (HRAL.out _ (by assumption)) Try.underlying45 rfl (by kernel_rfl) ?_)
  refine HC.out.mono ?_; rintro e w4 ⟨rfl, hb4⟩
  have hk4 : Below W.heap.size W w4 := hk3.trans (hb4.mono hk3.size)
  clear hb4 HC hk3
  cases hln : mayL n.l with
  | false =>
    have HC := Lib.hid (HMN.out w4 hk4)
    rw [hln] at HC
    clear hlo hln
    go_wp2_with (with_reducible refine wpList_load_g (op := ⟨some 29, _, _, _, _, _⟩) (by kernel_rfl) _ _ rfl B 8 rfl (lgL n.l pn kn) _ (HRBL.out _ (by assumption)) Try.underlying45 rfl (by kernel_rfl) ?_)
    refine HC.out.mono ?_; rintro e w5 ⟨rfl, hb5⟩
    have HB5 := Lib.hid (HBW.out.trans ((hk4.trans (hb5.mono hk4.size)).mono HBW.out.size))
    clear hb5 HC
    go_wp2_with fail
    exact HQ.out _ _ rfl rfl HB5.out
  | true =>
  have HC := Lib.hid (HMN.out w4 hk4)
  rw [hln] at HC
  go_wp2_with (with_reducible refine wpList_load_g (op := ⟨some 29, _, _, _, _, _⟩) (by kernel_rfl) _ _ rfl B 8 rfl (lgL n.l pn kn) _ (HRBL.out _ (by assumption)) Try.underlying45 rfl (by kernel_rfl) ?_)
  refine HC.out.mono ?_; rintro e w5 ⟨rfl, hb5⟩
  have hk5 : Below W.heap.size W w5 := hk4.trans (hb5.mono hk4.size)
  have HGO := Lib.hid (mayL_fitH hlo HCO.out.1); have HGN := Lib.hid (mayL_fitH hln HCN.out.1)
  clear hb5 HC hk4 hlo hln HMO HMN HLO HLN
  have HC := Lib.hid (show Calls Try.prog 16 #[.int .i64 r, .agg (coL o po ko).toArray, .agg (coL n pn kn).toArray] w5 (BsEnd w5 (diffB r o n)) from hdiff_any r o n po pn ko kn w5 HGO.out HGN.out HRI.out HFN.out (HEA.out w5 hk5) (HEB.out w5 hk5))
  go_wp2_with (first | (with_reducible refine wpList_load_g (op := ⟨some 34, _, _, _, _, _⟩) (by kernel_rfl) _ _ rfl A 0 rfl (coL o po ko) _ (HRA.out _ (by assumption)) Try.underlying48 rfl (by kernel_rfl) ?_) | (with_reducible refine wpList_load_g (op := ⟨some 35, _, _, _, _, _⟩) (by kernel_rfl) _ _ rfl B 0 rfl (coL n pn kn) _ (HRB.out _ (by assumption)) Try.underlying48 rfl (by kernel_rfl) ?_))
  refine HC.out.mono ?_; rintro e w6 ⟨v6, M6, rfl, hM6, hL6, hb6⟩
  have hk6 : Below W.heap.size W w6 := hk5.trans (hb6.mono hk5.size)
  have HM6 := Lib.hid hM6; have HL6 := Lib.hid hL6
  clear hM6 hL6 hb6 HC hk5
  go_wp2_with (first | (with_reducible refine wpList_load_g (op := ⟨some 39, _, _, _, _, _⟩) (by kernel_rfl) _ _ rfl B 0 rfl (coL n pn kn) _ (HRB.out _ (by assumption)) Try.underlying48 rfl (by kernel_rfl) ?_) | (with_reducible refine wpList_load_g (op := ⟨some 41, _, _, _, _, _⟩) (by kernel_rfl) _ _ rfl A 0 rfl (coL o po ko) _ (HRA.out _ (by assumption)) Try.underlying48 rfl (by kernel_rfl) ?_) | (with_reducible refine wpList_build_two (o := ⟨some 40, _, _, _, _, _⟩) rfl _ 0 1 _ _ rfl (.int .i64 r) (.agg (coL n pn kn).toArray) rfl rfl (kpC ⟨r, n, pn, kn⟩).toArray (kp_built ⟨r, n, pn, kn⟩) ?_) | (with_reducible refine wpList_build_two (o := ⟨some 42, _, _, _, _, _⟩) rfl _ 0 1 _ _ rfl (.int .i64 1) (.agg (coL o po ko).toArray) rfl rfl (kpC ⟨1, o, po, ko⟩).toArray (kp_built ⟨1, o, po, ko⟩) ?_) | (with_reducible refine wpList_slice_two (o := ⟨some 43, _, _, _, _, _⟩) rfl _ 55 _ _ rfl (kpC ⟨r, n, pn, kn⟩) (kpC ⟨1, o, po, ko⟩) 46 i0 (.agg #[.int .i64 0, .int .i64 0, .int .i64 0, .int .i64 0, .int .i64 0, .int .i64 0, .int .i64 0, .int .i64 0, .int .i64 0, .int .i64 0, .int .i64 0, .int .u16 0, .int .u16 0, .int .u16 0, .int .i64 0, .int .i64 0, .int .u16 0, .int .u16 0, .int .u16 0, .int .i64 0, .int .i64 0, .bool false, .slice none 0 0, .string ⟨#[]⟩, .int .u16 0, .int .u16 0, .int .i64 0, .int .i64 0, .int .i64 0, .int .i64 0, .int .i64 0, .int .i64 0, .int .i64 0, .int .i64 0, .int .i64 0, .int .i64 0, .int .i64 0, .int .i64 0, .int .i64 0, .int .i64 0, .int .i64 0, .int .i64 0, .int .i64 0, .int .i64 0, .int .i64 0, .int .i64 0]) rfl rfl (kpC_len _) (kpC_len _) (by decide) (by decide) Try.underlying56 hi0 hz0 hz1 ?_))
  obtain ⟨w7, hw⟩ : ∃ z : World, w6.alloc (.cells (kpC ⟨r, n, pn, kn⟩ ++ kpC ⟨1, o, po, ko⟩).toArray 55) = z := ⟨_, rfl⟩
  have b7 : Below w6.heap.size w6 w7 := by rw [← hw]; exact (Below.refl _ _).alloc (Nat.le_refl _) _
  have hK7 : w7.heap[w6.heap.size]? = some (.cells (kpC ⟨r, n, pn, kn⟩ ++ kpC ⟨1, o, po, ko⟩).toArray 55 (0, 0)) := by rw [← hw]; exact heap_last w6 _
  (try rw [hw])
  have hk7 : Below W.heap.size W w7 := hk6.trans (b7.mono hk6.size)
  have KP : KpAt w7 (some ⟨w6.heap.size, 0, none⟩) [⟨r, n, pn, kn⟩, ⟨1, o, po, ko⟩] := kp_two hK7 (HEB.out w7 hk7) (HEA.out w7 hk7)
  have hx : ∀ x ∈ ([⟨r, n, pn, kn⟩, ⟨1, o, po, ko⟩] : List KpX), In64 x.r ∧ LgFit x.c.l ∧ CoF x.c := fun x hx => by
    simp only [List.mem_cons, List.not_mem_nil, or_false] at hx
    rcases hx with rfl | rfl
    · exact ⟨HRI.out, HGN.out, HFN.out⟩
    · exact ⟨(show In64 (1 : Int) by unfold In64; decide), HGO.out, HFO.out⟩
  have HXX := Lib.hid hx
  refine (show Calls Try.prog 17 #[.int .i64 lf, .slice (some ⟨w6.heap.size, 0, none⟩) 2 2] w7 (BsEnd w7 (wholeB lf [⟨r, n, pn, kn⟩, ⟨1, o, po, ko⟩])) from hwhole_any lf [⟨r, n, pn, kn⟩, ⟨1, o, po, ko⟩] (some ⟨w6.heap.size, 0, none⟩) 2 w7 HLF.out KP hx (by simp)).mono ?_; rintro e w8 ⟨v8, M8, rfl, hM8, hL8, hb8⟩
  have hk8 : Below W.heap.size W w8 := hk7.trans (hb8.mono hk7.size)
  have HM8 := Lib.hid hM8; have HL8 := Lib.hid hL8; have HL6' := Lib.hid (HL6.out.keep (b7.trans (hb8.mono b7.size)))
  have HN6 := Lib.hid (show M6.length ≤ 100 by
    have := congrArg List.length HM6.out
    rw [List.length_map] at this
    have h2 := diffB_len r o n; have h3 := HCN.out.1; omega)
  have HN8 := Lib.hid (show M8.length ≤ 1000 by
    have := congrArg List.length hM8
    rw [List.length_map] at this
    have h2 := diffB_len r co0 n; have h3 := HCN.out.1; have h4 := diffB_len 1 co0 o; have h5 := HCO.out.1
    simp [wholeB] at this; omega)
  clear hw b7 hK7 KP hx hM8 hL8 hb8 hk7 HL6 hk6
  go_upto_region 7 with fail
  have h0 : Below W.heap.size W w8.drew := hk8.drew
  refine wp_region_noPanic ?_
  refine wp_region_held_drew (S := fun w' => Below W.heap.size W w') (by kernel_rfl) h0 (fun hHeld => ?_)
  have hd8 : Below w8.heap.size w8 w8.drew := (Below.refl _ _).drew
  obtain ⟨wd, ewd⟩ : ∃ z, w8.drew = z := ⟨_, rfl⟩
  rw [ewd] at h0 hHeld hd8 ⊢
  have HLA := Lib.hid (HL6'.out.keep hd8); have HLB := Lib.hid (HL8.out.keep hd8)
  clear ewd HL6' HL8 hd8 hk8
  refine wpAnyH_take (i := 0) (v := ?_) rfl (by kernel_rfl) (by kernel_rfl) (by kernel_rfl) (fun _ _ _ h => h) (Or.inl ⟨by rfl, ?_⟩) hHeld ?_
  rotate_left
  · (intro wz hSw; (try dsimp only at hSw); (try simp only [List.getElem_toArray, List.getElem_cons_zero]); go_simp; try with_reducible rfl)
  try simp only [List.getElem_toArray, List.getElem_cons_zero, Act.put, List.setIfInBounds_toArray, List.set_cons_zero, List.set_cons_succ]
  refine wpAnyH_take (i := 1) (v := ?_) rfl (by kernel_rfl) (by kernel_rfl) (by kernel_rfl) (fun _ _ _ h => h) (Or.inl ⟨by rfl, ?_⟩) hHeld ?_
  rotate_left
  · (intro wz hSw; (try dsimp only at hSw); (try simp only [List.getElem_toArray, List.getElem_cons_succ, List.getElem_cons_zero]); go_simp; try with_reducible rfl)
  try simp only [List.getElem_toArray, List.getElem_cons_succ, List.getElem_cons_zero, Act.put, List.setIfInBounds_toArray, List.set_cons_zero, List.set_cons_succ]
  refine wpAnyH_take (i := 2) (v := .agg (coL o po ko).toArray) rfl (by kernel_rfl) (by kernel_rfl) (by kernel_rfl) (fun _ _ _ h => h) (yieldsIf_load_mid (by rfl) _ _ rfl A 0 rfl (coL o po ko) _ HRA.out Try.underlying48 rfl (by kernel_rfl)) hHeld ?_
  try simp only [List.getElem_toArray, List.getElem_cons_succ, List.getElem_cons_zero, Act.put, List.setIfInBounds_toArray, List.set_cons_zero, List.set_cons_succ]
  refine wpAnyH_take (i := 3) (v := .agg (coL n pn kn).toArray) rfl (by kernel_rfl) (by kernel_rfl) (by kernel_rfl) (fun _ _ _ h => h) (yieldsIf_load_mid (by rfl) _ _ rfl B 0 rfl (coL n pn kn) _ HRB.out Try.underlying48 rfl (by kernel_rfl)) hHeld ?_
  try simp only [List.getElem_toArray, List.getElem_cons_succ, List.getElem_cons_zero, Act.put, List.setIfInBounds_toArray, List.set_cons_zero, List.set_cons_succ]
  refine wpAnyH_ready (rs := [4]) (by kernel_rfl) (by simp) ?_; refine AllReadyH.cons rfl (fun K hK => ?_) AllReadyH.nil; (try simp only [List.getElem_toArray, List.getElem_cons_succ, List.getElem_cons_zero]); go_simp
  refine (show Calls Try.prog 19 #[.int .i64 r, .agg (coL o po ko).toArray, .agg (coL n pn kn).toArray] wd (StEnd wd (diffB r o n)) from rhdiff_any r o n po pn ko kn wd HGO.out HGN.out HRI.out HFN.out (HEA.out wd h0) (HEB.out wd h0)).mono ?_; rintro r0 w9 ⟨v9, rfl, o9, b9⟩
  have s9 := h0.trans (b9.mono h0.size)
  have HLA9 := Lib.hid (HLA.out.keep b9); have HLB9 := Lib.hid (HLB.out.keep b9)
  have HO9 := Lib.hid (show w9.ownsRow wd.heap.size 9 1 v9 M6.length (stR (M6.map (·.2))) by
    have e : M6.length = (diffB r o n).length := by rw [← HM6.out, List.length_map]
    rw [HM6.out, e]; exact o9)
  refine hK.out _ _ s9 (fun _ => ?_)
  clear hK K hHeld b9 o9 HLA HLB h0
  try simp only [List.getElem_toArray, List.getElem_cons_succ, List.getElem_cons_zero, Act.put, List.setIfInBounds_toArray, List.set_cons_zero, List.set_cons_succ]
  have hHeld := s9
  refine wpAnyH_ready (rs := [5]) (by kernel_rfl) (by simp) ?_; refine AllReadyH.cons rfl (fun K hK => ?_) AllReadyH.nil; (try simp only [List.getElem_toArray, List.getElem_cons_succ, List.getElem_cons_zero]); go_simp
  refine (alike15_any _ _ v6 v9 M6 w9 HLA9.out HO9.out (by have := HN6.out; omega)).mono ?_; rintro r0 wa ⟨rfl, ba⟩
  have sa := s9.trans (ba.mono s9.size)
  have HLBa := Lib.hid (HLB9.out.keep ba)
  refine hK.out _ _ sa (fun _ => ?_)
  clear hK K hHeld ba HLA9 HLB9 HO9 s9
  try simp only [List.getElem_toArray, List.getElem_cons_succ, List.getElem_cons_zero, Act.put, List.setIfInBounds_toArray, List.set_cons_zero, List.set_cons_succ]
  have hHeld := sa
  refine wpAnyH_take (i := 6) (v := ?_) rfl (by kernel_rfl) (by kernel_rfl) (by kernel_rfl) (fun _ _ _ h => h) (Or.inl ⟨by rfl, ?_⟩) hHeld ?_
  rotate_left
  · (intro wz hSw; (try dsimp only at hSw); (try simp only [List.getElem_toArray, List.getElem_cons_succ, List.getElem_cons_zero]); go_simp; try with_reducible rfl)
  try simp only [List.getElem_toArray, List.getElem_cons_succ, List.getElem_cons_zero, Act.put, List.setIfInBounds_toArray, List.set_cons_zero, List.set_cons_succ]
  refine wpAnyH_take (i := 7) (v := ?_) rfl (by kernel_rfl) (by kernel_rfl) (by kernel_rfl) (fun _ _ _ h => h) (Or.inl ⟨by rfl, ?_⟩) hHeld ?_
  rotate_left
  · (intro wz hSw; (try dsimp only at hSw); (try simp only [List.getElem_toArray, List.getElem_cons_succ, List.getElem_cons_zero]); go_simp; try with_reducible rfl)
  try simp only [List.getElem_toArray, List.getElem_cons_succ, List.getElem_cons_zero, Act.put, List.setIfInBounds_toArray, List.set_cons_zero, List.set_cons_succ]
  refine wpAnyH_take (i := 8) (v := ?_) rfl (by kernel_rfl) (by kernel_rfl) (by kernel_rfl) (fun _ _ _ h => h) (Or.inl ⟨by rfl, ?_⟩) hHeld ?_
  rotate_left
  · (intro wz hSw; (try dsimp only at hSw); (try simp only [List.getElem_toArray, List.getElem_cons_succ, List.getElem_cons_zero]); go_simp; try with_reducible rfl)
  try simp only [List.getElem_toArray, List.getElem_cons_succ, List.getElem_cons_zero, Act.put, List.setIfInBounds_toArray, List.set_cons_zero, List.set_cons_succ]
  refine wpAnyH_take (i := 9) (v := ?_) rfl (by kernel_rfl) (by kernel_rfl) (by kernel_rfl) (fun _ _ _ h => h) (Or.inl ⟨by rfl, ?_⟩) hHeld ?_
  rotate_left
  · (intro wz hSw; (try dsimp only at hSw); (try simp only [List.getElem_toArray, List.getElem_cons_succ, List.getElem_cons_zero]); go_simp; try with_reducible rfl)
  try simp only [List.getElem_toArray, List.getElem_cons_succ, List.getElem_cons_zero, Act.put, List.setIfInBounds_toArray, List.set_cons_zero, List.set_cons_succ]
  refine wpAnyH_take (i := 10) (v := .agg (coL n pn kn).toArray) rfl (by kernel_rfl) (by kernel_rfl) (by kernel_rfl) (fun _ _ _ h => h) (yieldsIf_load_mid (by rfl) _ _ rfl B 0 rfl (coL n pn kn) _ HRB.out Try.underlying48 rfl (by kernel_rfl)) hHeld ?_
  try simp only [List.getElem_toArray, List.getElem_cons_succ, List.getElem_cons_zero, Act.put, List.setIfInBounds_toArray, List.set_cons_zero, List.set_cons_succ]
  refine wpAnyH_take (i := 11) (v := .agg (kpC ⟨r, n, pn, kn⟩).toArray) rfl (by kernel_rfl) (by kernel_rfl) (by kernel_rfl) (fun _ _ _ h => h) (yields_build_two (by rfl) _ 0 1 _ _ rfl (.int .i64 r) (.agg (coL n pn kn).toArray) rfl rfl _ (rkp_built ⟨r, n, pn, kn⟩)) hHeld ?_
  try simp only [List.getElem_toArray, List.getElem_cons_succ, List.getElem_cons_zero, Act.put, List.setIfInBounds_toArray, List.set_cons_zero, List.set_cons_succ]
  refine wpAnyH_take (i := 12) (v := .agg (coL o po ko).toArray) rfl (by kernel_rfl) (by kernel_rfl) (by kernel_rfl) (fun _ _ _ h => h) (yieldsIf_load_mid (by rfl) _ _ rfl A 0 rfl (coL o po ko) _ HRA.out Try.underlying48 rfl (by kernel_rfl)) hHeld ?_
  try simp only [List.getElem_toArray, List.getElem_cons_succ, List.getElem_cons_zero, Act.put, List.setIfInBounds_toArray, List.set_cons_zero, List.set_cons_succ]
  refine wpAnyH_take (i := 13) (v := .agg (kpC ⟨1, o, po, ko⟩).toArray) rfl (by kernel_rfl) (by kernel_rfl) (by kernel_rfl) (fun _ _ _ h => h) (yields_build_two (by rfl) _ 0 1 _ _ rfl (.int .i64 1) (.agg (coL o po ko).toArray) rfl rfl _ (rkp_built ⟨1, o, po, ko⟩)) hHeld ?_
  try simp only [List.getElem_toArray, List.getElem_cons_succ, List.getElem_cons_zero, Act.put, List.setIfInBounds_toArray, List.set_cons_zero, List.set_cons_succ]
  refine wpAnyH_ready (rs := [14]) (by kernel_rfl) (by simp) ?_; refine AllReadyH.cons rfl (fun K hK => ?_) AllReadyH.nil
  rw [if_pos (by rfl)]
  refine wp_slice_two _ 60 _ _ rfl (kpC ⟨r, n, pn, kn⟩) (kpC ⟨1, o, po, ko⟩) 46 i1 (.agg #[.int .i64 0, .int .i64 0, .int .i64 0, .int .i64 0, .int .i64 0, .int .i64 0, .int .i64 0, .int .i64 0, .int .i64 0, .int .i64 0, .int .i64 0, .int .u16 0, .int .u16 0, .int .u16 0, .int .i64 0, .int .i64 0, .int .u16 0, .int .u16 0, .int .u16 0, .int .i64 0, .int .i64 0, .bool false, .slice none 0 0, .string ⟨#[]⟩, .int .u16 0, .int .u16 0, .int .i64 0, .int .i64 0, .int .i64 0, .int .i64 0, .int .i64 0, .int .i64 0, .int .i64 0, .int .i64 0, .int .i64 0, .int .i64 0, .int .i64 0, .int .i64 0, .int .i64 0, .int .i64 0, .int .i64 0, .int .i64 0, .int .i64 0, .int .i64 0, .int .i64 0, .int .i64 0]) (by rfl) (by rfl) (kpC_len _) (kpC_len _) (by decide) (by decide) Try.underlying61 hi1 hy0 hy1 ?_
  obtain ⟨wb, hw⟩ : ∃ z : World, wa.alloc (.cells (kpC ⟨r, n, pn, kn⟩ ++ kpC ⟨1, o, po, ko⟩).toArray 60) = z := ⟨_, rfl⟩
  have bb : Below wa.heap.size wa wb := by rw [← hw]; exact (Below.refl _ _).alloc (Nat.le_refl _) _
  have hKb : wb.heap[wa.heap.size]? = some (.cells (kpC ⟨r, n, pn, kn⟩ ++ kpC ⟨1, o, po, ko⟩).toArray 60 (0, 0)) := by rw [← hw]; exact heap_last wa _
  rw [hw]
  have sb := sa.trans (bb.mono sa.size)
  have KP : KpAt wb (some ⟨wa.heap.size, 0, none⟩) [⟨r, n, pn, kn⟩, ⟨1, o, po, ko⟩] := kp_two hKb (HEB.out wb sb) (HEA.out wb sb)
  have HLBb := Lib.hid (HLBa.out.keep bb); have HKP := Lib.hid KP
  refine hK.out _ _ sb (fun _ => ?_)
  clear hK K hHeld hw bb hKb sa HLBa KP
  try simp only [List.getElem_toArray, List.getElem_cons_succ, List.getElem_cons_zero, Act.put, List.setIfInBounds_toArray, List.set_cons_zero, List.set_cons_succ]
  have hHeld := sb
  refine wpAnyH_ready (rs := [15]) (by kernel_rfl) (by simp) ?_; refine AllReadyH.cons rfl (fun K hK => ?_) AllReadyH.nil; (try simp only [List.getElem_toArray, List.getElem_cons_succ, List.getElem_cons_zero]); go_simp
  refine (show Calls Try.prog 20 #[.int .i64 lf, .slice (some ⟨wa.heap.size, 0, none⟩) 2 2] wb (StEnd wb (wholeB lf [⟨r, n, pn, kn⟩, ⟨1, o, po, ko⟩])) from rhwhole_any lf [⟨r, n, pn, kn⟩, ⟨1, o, po, ko⟩] (some ⟨wa.heap.size, 0, none⟩) 2 wb HLF.out HKP.out HXX.out (by simp)).mono ?_; rintro r0 wc ⟨vc, rfl, oc, bc⟩
  have sc := sb.trans (bc.mono sb.size)
  have HLBc := Lib.hid (HLBb.out.keep bc)
  have HOc := Lib.hid (show wc.ownsRow wb.heap.size 9 1 vc M8.length (stR (M8.map (·.2))) by
    have e : M8.length = (wholeB lf [⟨r, n, pn, kn⟩, ⟨1, o, po, ko⟩]).length := by rw [← HM8.out, List.length_map]
    rw [HM8.out, e]; exact oc)
  refine hK.out _ _ sc (fun _ => ?_)
  clear hK K hHeld bc oc HLBb HKP
  try simp only [List.getElem_toArray, List.getElem_cons_succ, List.getElem_cons_zero, Act.put, List.setIfInBounds_toArray, List.set_cons_zero, List.set_cons_succ]
  have hHeld := sc
  refine wpAnyH_ready (rs := [16]) (by kernel_rfl) (by simp) ?_; refine AllReadyH.cons rfl (fun K hK => ?_) AllReadyH.nil; (try simp only [List.getElem_toArray, List.getElem_cons_succ, List.getElem_cons_zero]); go_simp
  refine (alike15_any _ _ v8 vc M8 wc HLBc.out HOc.out (by have := HN8.out; omega)).mono ?_; rintro r0 we ⟨rfl, be⟩
  have se := sc.trans (be.mono sc.size)
  refine hK.out _ _ se (fun _ => ?_)
  clear hK K hHeld be HLBc HOc sc
  try simp only [List.getElem_toArray, List.getElem_cons_succ, List.getElem_cons_zero, Act.put, List.setIfInBounds_toArray, List.set_cons_zero, List.set_cons_succ]
  have hHeld := se
  refine wpAnyH_take (i := 17) (v := ?_) rfl (by kernel_rfl) (by kernel_rfl) (by kernel_rfl) (fun _ _ _ h => h) (Or.inl ⟨by rfl, ?_⟩) hHeld ?_
  rotate_left
  · (intro wz hSw; (try dsimp only at hSw); (try simp only [List.getElem_toArray, List.getElem_cons_succ, List.getElem_cons_zero]); go_simp; try with_reducible rfl)
  try simp only [List.getElem_toArray, List.getElem_cons_succ, List.getElem_cons_zero, Act.put, List.setIfInBounds_toArray, List.set_cons_zero, List.set_cons_succ]
  refine wpAnyH_take (i := 18) (v := ?_) rfl (by kernel_rfl) (by kernel_rfl) (by kernel_rfl) (fun _ _ _ h => h) (Or.inl ⟨by rfl, ?_⟩) hHeld ?_
  rotate_left
  · (intro wz hSw; (try dsimp only at hSw); (try simp only [List.getElem_toArray, List.getElem_cons_succ, List.getElem_cons_zero]); go_simp; try with_reducible rfl)
  try simp only [List.getElem_toArray, List.getElem_cons_succ, List.getElem_cons_zero, Act.put, List.setIfInBounds_toArray, List.set_cons_zero, List.set_cons_succ]
  refine wpAnyH_take (i := 19) (v := ?_) rfl (by kernel_rfl) (by kernel_rfl) (by kernel_rfl) (fun _ _ _ h => h) (Or.inl ⟨by rfl, ?_⟩) hHeld ?_
  rotate_left
  · (intro wz hSw; (try dsimp only at hSw); (try simp only [List.getElem_toArray, List.getElem_cons_succ, List.getElem_cons_zero]); go_simp; try with_reducible rfl)
  try simp only [List.getElem_toArray, List.getElem_cons_succ, List.getElem_cons_zero, Act.put, List.setIfInBounds_toArray, List.set_cons_zero, List.set_cons_succ]
  refine wpAnyH_take (i := 22) (v := ?_) rfl (by kernel_rfl) (by kernel_rfl) (by kernel_rfl) (fun _ _ _ h => h) (Or.inl ⟨by rfl, ?_⟩) hHeld ?_
  rotate_left
  · (intro wz hSw; (try dsimp only at hSw); (try simp only [List.getElem_toArray, List.getElem_cons_succ, List.getElem_cons_zero]); go_simp; try with_reducible rfl)
  try simp only [List.getElem_toArray, List.getElem_cons_succ, List.getElem_cons_zero, Act.put, List.setIfInBounds_toArray, List.set_cons_zero, List.set_cons_succ]
  refine wpAnyH_ready (rs := [20]) (by kernel_rfl) (by simp) ?_; refine AllReadyH.cons rfl (fun K hK => ?_) AllReadyH.nil; (try simp only [List.getElem_toArray, List.getElem_cons_succ, List.getElem_cons_zero]); go_simp
  refine (hlife_any lf we HLF.out).mono ?_; rintro r0 wf ⟨vf, rfl, of, bf⟩
  have sf := se.trans (bf.mono se.size)
  have HOf := Lib.hid of
  refine hK.out _ _ sf (fun _ => ?_)
  clear hK K hHeld bf of se
  try simp only [List.getElem_toArray, List.getElem_cons_succ, List.getElem_cons_zero, Act.put, List.setIfInBounds_toArray, List.set_cons_zero, List.set_cons_succ]
  refine wpAnyH_sub (S' := fun w' => Below wf.heap.size wf w') (fun w' h => sf.trans (h.mono sf.size)) ?_
  have hHeld : Below wf.heap.size wf wf := Below.refl _ _
  refine wpAnyH_take (i := 21) (v := .string (strOfNums (recB 76 [lf]))) rfl (by kernel_rfl) (by kernel_rfl) (by kernel_rfl) (fun _ _ _ h => h) (Or.inl ⟨by rfl, ?_⟩) hHeld ?_
  · intro wz hSw
    have hcv := run_convert_sl (P := Try.prog) (Sl.of_own (own_keptH HOf.out hSw)) 32 5 Try.underlying32 Try.underlying5 9 Try.underlying9
    (try simp only [List.getElem_toArray, List.getElem_cons_succ, List.getElem_cons_zero])
    go_simp
  try simp only [List.getElem_toArray, List.getElem_cons_succ, List.getElem_cons_zero, Act.put, List.setIfInBounds_toArray, List.set_cons_zero, List.set_cons_succ]
  refine wpAnyH_ready (rs := [23]) (by kernel_rfl) (by simp) ?_; refine AllReadyH.cons rfl (fun K hK => ?_) AllReadyH.nil; (try simp only [List.getElem_toArray, List.getElem_cons_succ, List.getElem_cons_zero]); go_simp
  refine (rhlife_any lf wf HLF.out).mono ?_; rintro r0 wg ⟨rfl, bg⟩
  refine hK.out _ _ bg (fun _ => ?_)
  clear hK K hHeld
  try simp only [List.getElem_toArray, List.getElem_cons_succ, List.getElem_cons_zero, Act.put, List.setIfInBounds_toArray, List.set_cons_zero, List.set_cons_succ]
  have hHeld := bg
  refine wpAnyH_take (i := 24) (v := ?_) rfl (by kernel_rfl) (by kernel_rfl) (by kernel_rfl) (fun _ _ _ h => h) (Or.inl ⟨by rfl, ?_⟩) hHeld ?_
  rotate_left
  · (intro wz hSw; (try dsimp only at hSw); (try simp only [List.getElem_toArray, List.getElem_cons_succ, List.getElem_cons_zero]); go_simp; try with_reducible rfl)
  try simp only [List.getElem_toArray, List.getElem_cons_succ, List.getElem_cons_zero, Act.put, List.setIfInBounds_toArray, List.set_cons_zero, List.set_cons_succ]
  refine wpAnyH_take (i := 25) (v := ?_) rfl (by kernel_rfl) (by kernel_rfl) (by kernel_rfl) (fun _ _ _ h => h) (Or.inl ⟨by rfl, ?_⟩) hHeld ?_
  rotate_left
  · (intro wz hSw; (try dsimp only at hSw); (try simp only [List.getElem_toArray, List.getElem_cons_succ, List.getElem_cons_zero]); go_simp; try with_reducible rfl)
  try simp only [List.getElem_toArray, List.getElem_cons_succ, List.getElem_cons_zero, Act.put, List.setIfInBounds_toArray, List.set_cons_zero, List.set_cons_succ]
  refine wpAnyH_take (i := 26) (v := ?_) rfl (by kernel_rfl) (by kernel_rfl) (by kernel_rfl) (fun _ _ _ h => h) (Or.inl ⟨by rfl, ?_⟩) hHeld ?_
  rotate_left
  · (intro wz hSw; (try dsimp only at hSw); (try simp only [List.getElem_toArray, List.getElem_cons_succ, List.getElem_cons_zero]); go_simp; try with_reducible rfl)
  try simp only [List.getElem_toArray, List.getElem_cons_succ, List.getElem_cons_zero, Act.put, List.setIfInBounds_toArray, List.set_cons_zero, List.set_cons_succ]
  refine wpAnyH_done (by kernel_rfl) ?_ _
  refine NoPanic.normal ?_
  have HEND := Lib.hid (HBW.out.trans ((sf.trans (bg.mono sf.size)).mono HBW.out.size))
  clear hHeld bg sf
  go_wp2_with fail
  exact HQ.out _ _ rfl rfl HEND.out

set_option maxRecDepth 100000 in
theorem hwrites_lifted (os : Os) (started : os.Started) (H : Type) (enc : TypeId × Value → H) :
    ReturnsInHanded {} Try.checked os 4 .any (Rows.hardWritesSpec.pre6 enc Try.prog Try.f4 Rows.hardWritesRow.domain false) (Rows.hardWritesSpec.post enc Try.prog Try.f4 false true false false) := by
  refine lift_law (C := Try.checked) (tb := 4) (by kernel_rfl) started (by kernel_rfl) Try.func4 (ChangeSpec.witness6 (enc := enc) (C := Try.checked) false ⟨#[], #[.int .i64 0, .agg #[.int .i64 0, .int .i64 0, .int .i64 0, .int .i64 0, .int .i64 0, .int .i64 0, .int .i64 0, .int .i64 0, .int .i64 0, .int .i64 0, .int .u16 0, .int .u16 0, .int .u16 0, .int .i64 0, .int .i64 0, .int .u16 0, .int .u16 0, .int .u16 0, .int .i64 0, .int .i64 0, .bool false, .slice none 0 0, .string ⟨#[]⟩, .int .u16 0, .int .u16 0, .int .i64 0, .int .i64 0, .int .i64 0, .int .i64 0, .int .i64 0, .int .i64 0, .int .i64 0, .int .i64 0, .int .i64 0, .int .i64 0, .int .i64 0, .int .i64 0, .int .i64 0, .int .i64 0, .int .i64 0, .int .i64 0, .int .i64 0, .int .i64 0, .int .i64 0, .int .i64 0], .agg #[.int .i64 0, .int .i64 0, .int .i64 0, .int .i64 0, .int .i64 0, .int .i64 0, .int .i64 0, .int .i64 0, .int .i64 0, .int .i64 0, .int .u16 0, .int .u16 0, .int .u16 0, .int .i64 0, .int .i64 0, .int .u16 0, .int .u16 0, .int .u16 0, .int .i64 0, .int .i64 0, .bool false, .slice none 0 0, .string ⟨#[]⟩, .int .u16 0, .int .u16 0, .int .i64 0, .int .i64 0, .int .i64 0, .int .i64 0, .int .i64 0, .int .i64 0, .int .i64 0, .int .i64 0, .int .i64 0, .int .i64 0, .int .i64 0, .int .i64 0, .int .i64 0, .int .i64 0, .int .i64 0, .int .i64 0, .int .i64 0, .int .i64 0, .int .i64 0, .int .i64 0], .int .i64 0], []⟩ 8 (by kernel_rfl) (by kernel_rfl) (by kernel_rfl) (by kernel_rfl)) (by kernel_rfl) (by kernel_rfl) rfl Try.underlying4 rfl ?_ ?_
  · intro ds h
    match ds, h with
    | [_, _, _, _], _ => rfl
  · intro W base args ds ps hval0 hA0 hlt hsz
    have hval : ∀ (j : Nat) t v, Try.f4.params[j]? = some t → args[j]? = some v → Value.okWide Try.prog W .any base t v := hval0
    have hA : DataW.TrodAll enc Try.prog W 0 (fun _ => true) true Try.f4.params.toList args.toList ds ps := hA0
    rw [Try.params4] at hA hval
    obtain ⟨v0, v1, v2, v3, d0, d1, d2, d3, p0, p1, p2, p3, rfl, rfl, rfl, h0, h1, h2, h3⟩ := trodAll_four hA
    obtain ⟨x, rfl, rfl, rfl, wx⟩ := open_int Try.underlying3 (hval 0 3 v0 rfl rfl) h0
    obtain ⟨co, po, ko, rfl, eo, vo⟩ := open_core (hval 1 48 v1 rfl rfl) h1
    obtain ⟨cn, pn, kn, rfl, en, vn⟩ := open_core (hval 2 48 v2 rfl rfl) h2
    obtain ⟨y, rfl, rfl, rfl, wy⟩ := open_int Try.underlying3 (hval 3 3 v3 rfl rfl) h3
    exact hwrites_walk x y co cn po pn ko kn W (wf_64C wx) (wf_64C wy) vo vn eo en

theorem hwrites_holds : Rows.HardWritesSaid :=
  OpenClaim.holds_of_wide 4 Try.f4 rfl rfl rfl rfl rfl rfl rfl ⟨rfl, rfl, rfl, rfl, rfl⟩ rfl rfl rfl rfl rfl (by kernel_rfl) Try.func4 (by kernel_rfl)
    (of_decide_eq_true (by kernel_rfl)) (by unfold Func.isWrapper; first | (rw [if_pos (by decide +kernel)]; kernel_rfl) | (rw [if_neg (by decide +kernel)]; exact ⟨rfl, rfl⟩))
    (fun os started H enc _ => hwrites_lifted os started H enc)
#print axioms hwrites_holds

end Go.Proofs.Ytjaabakobpabjaa
