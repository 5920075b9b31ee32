/- HardPairs: for any two cores of one node: what package hard writes of the second one behind what says the first one builds the second one, if its log goes on from it. -/
import Derived.Test.YtjaabakobpabjaaOpenCore
import Derived.Test.YtjaabakobpabjaaPlain15
import Derived.Test.YtjaabakobpabjaaHtC
import Derived.Test.YtjaabakobpabjaaHtK
import Derived.Test.YtjaabakobpabjaaGwA
import Derived.Test.YtjaabakobpabjaaCalm
import Derived.Test.YtjaabakobpabjaaRows
namespace Go.Proofs.Ytjaabakobpabjaa
open Go.ChangeShapes Go.WideShapes Go.ChangeAt Go.RowKit

theorem kp_builtP (x : KpX) : Try.prog.built 55 [(0, .int .i64 x.r), (1, .agg (coL x.c x.p x.k).toArray)] = some (kpC x).toArray := by kernel_rfl
theorem Try.infoKpP : (Try.prog.info? 55).map (fun i => (i.zero, i.size, i.bytes)) = some (some (.agg #[.int .i64 0, .int .i64 0, .int .i64 0, .int .i64 0, .int .i64 0, .int .i64 0, .int .i64 0, .int .i64 0, .int .i64 0, .int .i64 0, .int .i64 0, .int .u16 0, .int .u16 0, .int .u16 0, .int .i64 0, .int .i64 0, .int .u16 0, .int .u16 0, .int .u16 0, .int .i64 0, .int .i64 0, .bool false, .slice none 0 0, .string ⟨#[]⟩, .int .u16 0, .int .u16 0, .int .i64 0, .int .i64 0, .int .i64 0, .int .i64 0, .int .i64 0, .int .i64 0, .int .i64 0, .int .i64 0, .int .i64 0, .int .i64 0, .int .i64 0, .int .i64 0, .int .i64 0, .int .i64 0, .int .i64 0, .int .i64 0, .int .i64 0, .int .i64 0, .int .i64 0, .int .i64 0]), 46, 352) := by kernel_rfl
theorem kpC_lenP (x : KpX) : (kpC x).length = 46 := rfl
theorem kp_oneP {w : World} {g : Nat} {t : TypeId} {x : KpX} (h : w.heap[g]? = some (.cells (kpC x).toArray t (0, 0))) (hx : EnSl w (.slice x.p x.c.l.es.length x.k) x.c.l.es) : KpAt w (some ⟨g, 0, none⟩) [x] := fun j hj => by
  obtain rfl : j = 0 := by simp at hj; omega
  exact ⟨g, 0, rfl, block_lt h, fun i _ => by rw [Nat.zero_mul, Nat.zero_add, block_cells h, List.getElem?_toArray]; rfl, hx⟩
/-- A byte string of a list, and where it lies. -/
def rcV (x : Value × List Int) : RcX := match x.1 with
  | .slice p _ c => ⟨p, c, x.2⟩
  | _ => ⟨none, 0, x.2⟩
theorem rcV_xs (x : Value × List Int) : (rcV x).xs = x.2 := by unfold rcV; split <;> rfl
theorem rcV_map (M : List (Value × List Int)) : (M.map rcV).map RcX.xs = M.map (·.2) := by
  rw [List.map_map]; exact List.map_congr_left (fun x _ => rcV_xs x)
theorem BsW.rc {base : Nat} {w : World} {p : Option Addr} {c : Nat} {M : List (Value × List Int)} (h : BsW base w (.slice p M.length c) M) : RcAt w.heap.size w p (M.map rcV) := fun k hk => by
  rw [List.length_map] at hk
  obtain ⟨g, rfl, hg, hc⟩ := own_atH h.own hk
  have he := h.el M[k] (List.getElem_mem hk)
  have e : (M.map rcV)[k]'(by rw [List.length_map]; exact hk) = rcV M[k] := List.getElem_map ..
  rw [e]
  obtain ⟨⟨v, xs⟩, hx⟩ : ∃ x, M[k] = x := ⟨_, rfl⟩
  rw [hx] at he ⊢
  dsimp only at he
  obtain ⟨q, d, hv⟩ := own_formH he
  subst hv
  refine ⟨g, 0, rfl, hg, ?_, Sl.of_own he⟩
  rw [Nat.zero_add, hc k hk, List.getElem?_map, List.getElem?_eq_getElem hk, hx]
  rfl
def lgLP (l : Lg) (p : Option Addr) (k : Nat) : List Value := [.int .i64 l.b, .int .i64 l.bt, .int .u16 l.j.ov, .int .u16 l.j.ox, .int .u16 l.j.ol, .int .i64 l.j.oe, .int .i64 l.j.ok, .int .u16 l.j.nv, .int .u16 l.j.nx, .int .u16 l.j.nl, .int .i64 l.j.ne, .int .i64 l.j.nk, .bool l.j.two, .slice p l.es.length k]
set_option maxRecDepth 100000 in
set_option maxHeartbeats 16000000 in
theorem hpairs_walk (a b : Co) (pa pb : Option Addr) (ka kb : Nat) (w : World) (va : CoV a) (vb : CoV b) (ea : EnSl w (.slice pa a.l.es.length ka) a.l.es) (eb : EnSl w (.slice pb b.l.es.length kb) b.l.es) :
    Calls Try.prog 5 #[.agg (coL a pa ka).toArray, .agg (coL b pb kb).toArray] w fun e w' => e = .returned (.bool true) ∧ Below w.heap.size w w' := by
  obtain ⟨i0, hi0, hz0, hz1, hz2⟩ := info_parts Try.infoKpP
  obtain ⟨i1, hi1, hy0, hy1, hy2⟩ := info_parts Try.infoJn
  obtain ⟨i2, hi2, hx0, hx1, hx2⟩ := info_parts Try.infoBs
  obtain ⟨o, ho⟩ : ∃ o : Co, { a with id := 1 } = o := ⟨_, rfl⟩
  obtain ⟨n, hn⟩ : ∃ n : Co, { b with id := 1 } = n := ⟨_, rfl⟩
  have eo : EnSl w (.slice pa o.l.es.length ka) o.l.es := by rw [← ho]; exact ea
  have en : EnSl w (.slice pb n.l.es.length kb) n.l.es := by rw [← hn]; exact eb
  have vo : CoV o := by rw [← ho]; exact { va with id := by show In64 1; unfold In64; decide }
  have vn : CoV n := by rw [← hn]; exact { vb with id := by show In64 1; unfold In64; decide }
  have ha0 : (coL a pa ka).toArray.setIfInBounds 0 (.int .i64 1) = (coL o pa ka).toArray := by rw [← ho]; rfl
  have hb0 : (coL b pb kb).toArray.setIfInBounds 0 (.int .i64 1) = (coL n pb kb).toArray := by rw [← hn]; rfl
  have HEO := Lib.hid eo; have HEN := Lib.hid en; have HVO := Lib.hid vo; have HVN := Lib.hid vn; have HAA := Lib.hid ha0; have HBB := Lib.hid hb0
  clear ea eb eo en va vb vo vn ho hn ha0 hb0
  go_enter Try.func5, Try.ntmps5
  obtain ⟨Q', hQ⟩ : ∃ Q', bodyPost Try.prog Try.f5 (fun e w' => e = .returned (.bool true) ∧ Below w.heap.size w w') = Q' := ⟨_, rfl⟩
  have HQ : Hid (∀ (a : Act) (w' : World), a.tmps.getD 4 undef = .bool true → a.defers = [] → Below w.heap.size w w' → Q' .ret a w') := fun a w' h6 hd hb => by
    rw [← hQ]; exact bodyPost_ret (v := .bool true) (by rw [results_tmp rfl, h6]) hd ⟨rfl, hb⟩
  rw [hQ]
  clear hQ
  go_upto_region 1 with fail
  obtain ⟨W0, hW0⟩ : ∃ z : World, w.alloc (.cells (coL a pa ka).toArray 48) = z := ⟨_, rfl⟩
  obtain ⟨W1, hW1⟩ : ∃ z : World, W0.alloc (.cells (coL b pb kb).toArray 48) = z := ⟨_, rfl⟩
  have hs0 : W0.heap.size = w.heap.size + 1 := by rw [← hW0]; simp
  have b0 : Below w.heap.size w W0 := by rw [← hW0]; exact (Below.refl _ _).alloc (Nat.le_refl _) _
  have b1 : Below W0.heap.size W0 W1 := by rw [← hW1]; exact (Below.refl _ _).alloc (Nat.le_refl _) _
  have hA : W1.heap[w.heap.size]? = some (.cells (coL a pa ka).toArray 48 (0, 0)) := below_block b1 (by omega) (by rw [← hW0]; exact heap_last w _)
  have hB : W1.heap[w.heap.size + 1]? = some (.cells (coL b pb kb).toArray 48 (0, 0)) := by rw [← hW1, ← hs0]; exact heap_last W0 _
  rw [hW0, hW1]
  obtain ⟨A, eA⟩ : ∃ z, w.heap.size = z := ⟨_, rfl⟩
  obtain ⟨B, eB⟩ : ∃ z, A + 1 = z := ⟨_, rfl⟩
  (try rw [eA]); (try rw [eB])
  rw [eA] at hA hB
  rw [eB] at hB
  have HB1 := Lib.hid (b0.trans (b1.mono b0.size))
  have HA1 := Lib.hid hA; have HBk1 := Lib.hid hB
  have HEA := Lib.hid eA; have HEB := Lib.hid eB
  clear hW0 hW1 hs0 b0 b1 hA hB eA eB
  go_wp2_with fail
  refine (begun15_any W1).mono ?_; rintro e w1 ⟨rfl, hb1⟩
  have hA1 := below_block hb1 (block_lt HA1.out) HA1.out
  have hB1 := below_block hb1 (block_lt HBk1.out) HBk1.out
  have hne : B ≠ A := by have := HEB.out; omega
  have hB2 : (w1.setCell ⟨A, 0, none⟩ (.int .i64 1)).heap[B]? = some (.cells (coL b pb kb).toArray 48 (0, 0)) := ((grown_set w1 A 0 _).block B (block_lt hB1) (fun h => hne (by simpa using h))).trans hB1
  have hA3 : ((w1.setCell ⟨A, 0, none⟩ (.int .i64 1)).setCell ⟨B, 0, none⟩ (.int .i64 1)).heap[A]? = some (.cells (coL o pa ka).toArray 48 (0, 0)) := by
    have h2 := cells_set hA1 0 (.int .i64 1)
    rw [HAA.out] at h2
    exact ((grown_set _ B 0 _).block A (block_lt h2) (fun h => hne (by simpa using h.symm))).trans h2
  have hB3 : ((w1.setCell ⟨A, 0, none⟩ (.int .i64 1)).setCell ⟨B, 0, none⟩ (.int .i64 1)).heap[B]? = some (.cells (coL n pb kb).toArray 48 (0, 0)) := by
    have h2 := cells_set hB2 0 (.int .i64 1)
    rw [HBB.out] at h2
    exact h2
  have hbw3 : Below w.heap.size w ((w1.setCell ⟨A, 0, none⟩ (.int .i64 1)).setCell ⟨B, 0, none⟩ (.int .i64 1)) :=
    ((HB1.out.trans (hb1.mono HB1.out.size)).setCell (p := ⟨A, 0, none⟩) (by show w.heap.size ≤ A; rw [HEA.out]; exact Nat.le_refl _) _).setCell (p := ⟨B, 0, none⟩) (by show w.heap.size ≤ B; have := HEB.out; have := HEA.out; omega) _
  have kA : w1.cell? ⟨A, 0, none⟩ = some (.int .i64 a.id) := block_cells hA1 0
  have fA : w1.frozen? ⟨A, 0, none⟩ = false := block_free hA1 0
  have kB : (w1.setCell ⟨A, 0, none⟩ (.int .i64 1)).cell? ⟨B, 0, none⟩ = some (.int .i64 b.id) := block_cells hB2 0
  have fB : (w1.setCell ⟨A, 0, none⟩ (.int .i64 1)).frozen? ⟨B, 0, none⟩ = false := block_free hB2 0
  have HA3 := Lib.hid hA3; have HB3 := Lib.hid hB3; have HBW3 := Lib.hid hbw3
  clear hA1 hB1 hB2 hA3 hB3 hbw3 hb1 hne
  go_upto_region 4 with fail
  obtain ⟨W, hW⟩ : ∃ z : World, (w1.setCell ⟨A, 0, none⟩ (.int .i64 1)).setCell ⟨B, 0, none⟩ (.int .i64 1) = z := ⟨_, rfl⟩
  rw [hW] at HA3 HB3 HBW3 ⊢
  clear hW kA fA kB fB HB1 HA1 HBk1 HAA HBB
  have HBW := HBW3; have hA := HA3.out; have hB := HB3.out
  clear HBW3
  have hAl := block_lt hA; have hBl := block_lt hB
  have HKA := Lib.hid (show ∀ w', Below W.heap.size W w' → ∀ j, w'.cell? ⟨A, j, none⟩ = (coL o pa ka).toArray[j]? from fun w' h => block_cells (below_block h hAl hA))
  have HKB := Lib.hid (show ∀ w', Below W.heap.size W w' → ∀ j, w'.cell? ⟨B, j, none⟩ = (coL n pb kb).toArray[j]? from fun w' h => block_cells (below_block h hBl hB))
  have HRA := Lib.hid (show ∀ w', Below W.heap.size W w' → w'.rangeAt A 0 (coL o pa ka) from fun w' h => range_of (n := 45) rfl (fun j _ => by rw [Nat.zero_add, block_cells (below_block h hAl hA), List.getElem?_toArray]))
  have HRB := Lib.hid (show ∀ w', Below W.heap.size W w' → w'.rangeAt B 0 (coL n pb kb) from fun w' h => range_of (n := 45) rfl (fun j _ => by rw [Nat.zero_add, block_cells (below_block h hBl hB), List.getElem?_toArray]))
  have HEOW := Lib.hid (show ∀ w', Below W.heap.size W w' → EnSl w' (.slice pa o.l.es.length ka) o.l.es from fun w' h => HEO.out.keep (HBW.out.trans (h.mono HBW.out.size)) (Nat.le_refl _))
  have HENW := Lib.hid (show ∀ w', Below W.heap.size W w' → EnSl w' (.slice pb n.l.es.length kb) n.l.es from fun w' h => HEN.out.keep (HBW.out.trans (h.mono HBW.out.size)) (Nat.le_refl _))
  have HLO := Lib.hid (show ∀ w', Below W.heap.size W w' → Calls Try.prog 14 #[.agg (coL o pa ka).toArray] w' fun e w2 => e = .returned (.bool (lightC o)) ∧ Below w'.heap.size w' w2 from fun w' h => light13_any o pa ka w' (HEOW.out w' h))
  have HLN := Lib.hid (show ∀ w', Below W.heap.size W w' → Calls Try.prog 14 #[.agg (coL n pb kb).toArray] w' fun e w2 => e = .returned (.bool (lightC n)) ∧ Below w'.heap.size w' w2 from fun w' h => light13_any n pb kb w' (HENW.out w' h))
  clear HEO HEN HA3 HB3 hA hB hAl hBl
  have hk0 : Below W.heap.size W W := Below.refl _ _
  cases hl0 : lightC o with
  | false =>
    have HC := Lib.hid (HLO.out _ hk0)
    rw [hl0] at HC
    clear hl0
    go_wp2_with (with_reducible refine wpList_load_mid (op := ⟨some 14, _, _, _, _, _⟩) rfl _ _ rfl A 0 rfl (coL o pa ka) _ (HRA.out _ (by assumption)) Try.underlying48 rfl (by kernel_rfl) ?_)
    refine HC.out.mono ?_; rintro e w2 ⟨rfl, hb2⟩
    have HB2 := Lib.hid (HBW.out.trans ((hk0.trans (hb2.mono hk0.size)).mono HBW.out.size))
    clear hb2 HC
    go_wp2_with fail
    exact HQ.out _ _ rfl rfl HB2.out
  | true =>
  have HC := Lib.hid (HLO.out _ hk0)
  rw [hl0] at HC
  go_wp2_with (with_reducible refine wpList_load_mid (op := ⟨some 14, _, _, _, _, _⟩) rfl _ _ rfl A 0 rfl (coL o pa ka) _ (HRA.out _ (by assumption)) Try.underlying48 rfl (by kernel_rfl) ?_)
  refine HC.out.mono ?_; rintro e y0 ⟨rfl, hb2⟩
  have hk1 : Below W.heap.size W y0 := hk0.trans (hb2.mono hk0.size)
  have HLI0 := Lib.hid hl0
  clear hb2 HC hk0 hl0
  cases hl1 : lightC n with
  | false =>
    have HC := Lib.hid (HLN.out _ hk1)
    rw [hl1] at HC
    clear hl1
    go_wp2_with (with_reducible refine wpList_load_g (op := ⟨some 18, _, _, _, _, _⟩) (by kernel_rfl) _ _ rfl B 0 rfl (coL n pb kb) _ (HRB.out _ (by assumption)) Try.underlying48 rfl (by kernel_rfl) ?_)
    refine HC.out.mono ?_; rintro e w2 ⟨rfl, hb2⟩
    have HB2 := Lib.hid (HBW.out.trans ((hk1.trans (hb2.mono hk1.size)).mono HBW.out.size))
    clear hb2 HC
    go_wp2_with fail
    exact HQ.out _ _ rfl rfl HB2.out
  | true =>
  have HC := Lib.hid (HLN.out _ hk1)
  rw [hl1] at HC
  go_wp2_with (with_reducible refine wpList_load_g (op := ⟨some 18, _, _, _, _, _⟩) (by kernel_rfl) _ _ rfl B 0 rfl (coL n pb kb) _ (HRB.out _ (by assumption)) Try.underlying48 rfl (by kernel_rfl) ?_)
  refine HC.out.mono ?_; rintro e y1 ⟨rfl, hb2⟩
  have hk2 : Below W.heap.size W y1 := hk1.trans (hb2.mono hk1.size)
  have HLI1 := Lib.hid hl1
  clear hb2 HC hk1 hl1
  have HNO := Lib.hid (show o.l.es.length ≤ 1000000 from by have h := HLI0.out; unfold lightC lightB at h; simp only [Bool.and_eq_true, decide_eq_true_eq] at h; omega)
  have HNN := Lib.hid (show n.l.es.length ≤ 1000000 from by have h := HLI1.out; unfold lightC lightB at h; simp only [Bool.and_eq_true, decide_eq_true_eq] at h; omega)
  have HC := Lib.hid (show Calls Try.prog 23 #[.agg (coL o pa ka).toArray] y1 fun r w' => (∃ b, r = .returned (.bool b) ∧ (b = true ↔ CoMay o)) ∧ Below y1.heap.size y1 w' from rmay13_any o pa ka y1 HVO.out HNO.out (HEOW.out _ hk2))
  go_wp2_with (with_reducible refine wpList_load_g (op := ⟨some 23, _, _, _, _, _⟩) (by kernel_rfl) _ _ rfl A 0 rfl (coL o pa ka) _ (HRA.out _ (by assumption)) Try.underlying48 rfl (by kernel_rfl) ?_)
  refine HC.out.mono ?_; rintro e y2 ⟨⟨bb, rfl, hbb⟩, hb2⟩
  have hk3 : Below W.heap.size W y2 := hk2.trans (hb2.mono hk2.size)
  clear hb2 HC hk2
  cases bb with
  | false =>
    clear hbb
    have HB2 := Lib.hid (HBW.out.trans (hk3.mono HBW.out.size))
    go_wp2_with fail
    exact HQ.out _ _ rfl rfl HB2.out
  | true =>
  have HMO := Lib.hid (hbb.1 rfl)
  clear hbb
  have HC := Lib.hid (show Calls Try.prog 23 #[.agg (coL n pb kb).toArray] y2 fun r w' => (∃ b, r = .returned (.bool b) ∧ (b = true ↔ CoMay n)) ∧ Below y2.heap.size y2 w' from rmay13_any n pb kb y2 HVN.out HNN.out (HENW.out _ hk3))
  go_wp2_with (with_reducible refine wpList_load_g (op := ⟨some 28, _, _, _, _, _⟩) (by kernel_rfl) _ _ rfl B 0 rfl (coL n pb kb) _ (HRB.out _ (by assumption)) Try.underlying48 rfl (by kernel_rfl) ?_)
  refine HC.out.mono ?_; rintro e y3 ⟨⟨bb, rfl, hbb⟩, hb2⟩
  have hk4 : Below W.heap.size W y3 := hk3.trans (hb2.mono hk3.size)
  clear hb2 HC hk3
  cases bb with
  | false =>
    clear hbb
    have HB2 := Lib.hid (HBW.out.trans (hk4.mono HBW.out.size))
    go_wp2_with fail
    exact HQ.out _ _ rfl rfl HB2.out
  | true =>
  have HMN := Lib.hid (hbb.1 rfl)
  clear hbb
  have k8A : y3.cell? ⟨A, 8, none⟩ = some (.int .i64 o.l.b) := HKA.out _ hk4 8
  have k8B : y3.cell? ⟨B, 8, none⟩ = some (.int .i64 n.l.b) := HKB.out _ hk4 8
  by_cases hbb : n.l.b < o.l.b
  · have HB2 := Lib.hid (HBW.out.trans (hk4.mono HBW.out.size))
    go_wp2_with fail
    exact HQ.out _ _ rfl rfl HB2.out
  have hd5 : decide (n.l.b < o.l.b) = false := decide_eq_false hbb
  have HBBX := Lib.hid hbb
  clear hbb
  have HC := Lib.hid (show Calls Try.prog 24 #[.agg (coL o pa ka).toArray] y3 fun r w' => (∃ b, r = .returned (.bool b) ∧ (b = true → ∀ e ∈ o.l.es, e.k ≠ 2 → e.j = jn0)) ∧ Below y3.heap.size y3 w' from plain15_any o pa ka y3 HNO.out (HEOW.out _ hk4))
  go_wp2_with (with_reducible refine wpList_load_g (op := ⟨some 42, _, _, _, _, _⟩) (by kernel_rfl) _ _ rfl A 0 rfl (coL o pa ka) _ (HRA.out _ (by assumption)) Try.underlying48 rfl (by kernel_rfl) ?_)
  refine HC.out.mono ?_; rintro e y4 ⟨⟨bb, rfl, hbb⟩, hb2⟩
  have hk5 : Below W.heap.size W y4 := hk4.trans (hb2.mono hk4.size)
  clear hb2 HC hk4
  cases bb with
  | false =>
    clear hbb
    have HB2 := Lib.hid (HBW.out.trans (hk5.mono HBW.out.size))
    go_wp2_with fail
    exact HQ.out _ _ rfl rfl HB2.out
  | true =>
  have HPO := Lib.hid (hbb rfl)
  clear hbb
  clear k8A k8B
  have HC := Lib.hid (show Calls Try.prog 24 #[.agg (coL n pb kb).toArray] y4 fun r w' => (∃ b, r = .returned (.bool b) ∧ (b = true → ∀ e ∈ n.l.es, e.k ≠ 2 → e.j = jn0)) ∧ Below y4.heap.size y4 w' from plain15_any n pb kb y4 HNN.out (HENW.out _ hk5))
  go_wp2_with (with_reducible refine wpList_load_g (op := ⟨some 47, _, _, _, _, _⟩) (by kernel_rfl) _ _ rfl B 0 rfl (coL n pb kb) _ (HRB.out _ (by assumption)) Try.underlying48 rfl (by kernel_rfl) ?_)
  refine HC.out.mono ?_; rintro e y5 ⟨⟨bb, rfl, hbb⟩, hb2⟩
  have hk6 : Below W.heap.size W y5 := hk5.trans (hb2.mono hk5.size)
  clear hb2 HC hk5
  cases bb with
  | false =>
    clear hbb
    have HB2 := Lib.hid (HBW.out.trans (hk6.mono HBW.out.size))
    go_wp2_with fail
    exact HQ.out _ _ rfl rfl HB2.out
  | true =>
  have HPN := Lib.hid (hbb rfl)
  clear hbb
  have HOV := Lib.hid (nowV_of HVO.out HMO.out HLI0.out HPO.out)
  have HNV := Lib.hid (nowV_of HVN.out HMN.out HLI1.out HPN.out)
  have HBO := Lib.hid (show o.l.b ≤ n.l.b by have := HBBX.out; omega)
  clear HMO HMN HPO HPN HLI0 HLI1 HLO HLN hd5
  go_wp2_with fail
  refine (three_any y5).mono ?_; rintro e z0 ⟨rfl, hb2⟩
  have hz0' : Below W.heap.size W z0 := hk6.trans (hb2.mono hk6.size)
  have HZ0 := Lib.hid hz0'
  clear hb2 hk6 hz0'
  go_upto_region 7 with (with_reducible refine wpList_store_new (op := ⟨none, .store 42 _ _, _, _, _, _⟩) rfl _ _ _ rfl _ (jnL j3).toArray rfl rfl (by kernel_rfl) rfl (one_all rfl) ?_)
  obtain ⟨z1, hw⟩ : ∃ z : World, z0.alloc (.cells (jnL j3).toArray 42) = z := ⟨_, rfl⟩
  have b2 : Below z0.heap.size z0 z1 := by rw [← hw]; exact (Below.refl _ _).alloc (Nat.le_refl _) _
  have hJ : z1.heap[z0.heap.size]? = some (.cells (jnL j3).toArray 42 (0, 0)) := by rw [← hw]; exact heap_last z0 _
  (try rw [hw])
  obtain ⟨J, eJ⟩ : ∃ z, z0.heap.size = z := ⟨_, rfl⟩
  (try rw [eJ])
  rw [eJ] at hJ
  have hz1' : Below W.heap.size W z1 := HZ0.out.trans (b2.mono HZ0.out.size)
  have HJ := Lib.hid hJ
  have h0 : Below W.heap.size W z1.drew := hz1'.drew
  have hd8 : Below z1.heap.size z1 z1.drew := (Below.refl _ _).drew
  clear hw b2 eJ HZ0 hz1'
  refine wp_region_noPanic ?_
  refine wp_region_held_drew (S := fun w' => Below W.heap.size W w') (by kernel_rfl) h0 (fun hHeld => ?_)
  obtain ⟨wd, ewd⟩ : ∃ z, z1.drew = z := ⟨_, rfl⟩
  rw [ewd] at h0 hHeld hd8 ⊢
  have HJd := Lib.hid (below_block hd8 (block_lt HJ.out) HJ.out)
  clear ewd hd8 hJ HJ
  refine wpAnyH_take (i := 0) (v := .agg (coL o pa ka).toArray) rfl (by kernel_rfl) (by kernel_rfl) (by kernel_rfl) (fun _ _ _ h => h) (yieldsIf_load_mid (by rfl) _ _ rfl A 0 rfl (coL o pa ka) _ HRA.out Try.underlying48 rfl (by kernel_rfl)) hHeld ?_
  try simp only [List.getElem_toArray, List.getElem_cons_zero, Act.put, List.setIfInBounds_toArray, List.set_cons_zero, List.set_cons_succ]
  refine wpAnyH_take (i := 4) (v := .agg (coL o pa ka).toArray) rfl (by kernel_rfl) (by kernel_rfl) (by kernel_rfl) (fun _ _ _ h => h) (yieldsIf_load_mid (by rfl) _ _ rfl A 0 rfl (coL o pa ka) _ HRA.out Try.underlying48 rfl (by kernel_rfl)) hHeld ?_
  try simp only [List.getElem_toArray, List.getElem_cons_succ, List.getElem_cons_zero, Act.put, List.setIfInBounds_toArray, List.set_cons_zero, List.set_cons_succ]
  refine wpAnyH_take (i := 5) (v := .agg (coL n pb kb).toArray) rfl (by kernel_rfl) (by kernel_rfl) (by kernel_rfl) (fun _ _ _ h => h) (yieldsIf_load_mid (by rfl) _ _ rfl B 0 rfl (coL n pb kb) _ HRB.out Try.underlying48 rfl (by kernel_rfl)) hHeld ?_
  try simp only [List.getElem_toArray, List.getElem_cons_succ, List.getElem_cons_zero, Act.put, List.setIfInBounds_toArray, List.set_cons_zero, List.set_cons_succ]
  refine wpAnyH_take (i := 1) (v := .agg (kpC ⟨0, o, pa, ka⟩).toArray) rfl (by kernel_rfl) (by kernel_rfl) (by kernel_rfl) (fun _ _ _ h => h) (yields_build_two (by rfl) _ 0 1 _ _ rfl (.int .i64 0) (.agg (coL o pa ka).toArray) rfl rfl _ (kp_builtP ⟨0, o, pa, ka⟩)) hHeld ?_
  try simp only [List.getElem_toArray, List.getElem_cons_succ, List.getElem_cons_zero, Act.put, List.setIfInBounds_toArray, List.set_cons_zero, List.set_cons_succ]
  refine wpAnyH_ready (rs := [2]) (by kernel_rfl) (by simp) ?_; refine AllReadyH.cons rfl (fun K hK => ?_) AllReadyH.nil
  rw [if_pos (by rfl)]
  refine wp_slice_one _ 55 _ rfl (kpC ⟨0, o, pa, ka⟩) 46 i0 (.agg #[.int .i64 0, .int .i64 0, .int .i64 0, .int .i64 0, .int .i64 0, .int .i64 0, .int .i64 0, .int .i64 0, .int .i64 0, .int .i64 0, .int .i64 0, .int .u16 0, .int .u16 0, .int .u16 0, .int .i64 0, .int .i64 0, .int .u16 0, .int .u16 0, .int .u16 0, .int .i64 0, .int .i64 0, .bool false, .slice none 0 0, .string ⟨#[]⟩, .int .u16 0, .int .u16 0, .int .i64 0, .int .i64 0, .int .i64 0, .int .i64 0, .int .i64 0, .int .i64 0, .int .i64 0, .int .i64 0, .int .i64 0, .int .i64 0, .int .i64 0, .int .i64 0, .int .i64 0, .int .i64 0, .int .i64 0, .int .i64 0, .int .i64 0, .int .i64 0, .int .i64 0, .int .i64 0]) (by rfl) (kpC_lenP _) (by decide) (by decide) Try.underlying56 hi0 hz0 hz1 ?_
  obtain ⟨wb, hw⟩ : ∃ z : World, wd.alloc (.cells (kpC ⟨0, o, pa, ka⟩).toArray 55) = z := ⟨_, rfl⟩
  have bb : Below wd.heap.size wd wb := by rw [← hw]; exact (Below.refl _ _).alloc (Nat.le_refl _) _
  have hKb : wb.heap[wd.heap.size]? = some (.cells (kpC ⟨0, o, pa, ka⟩).toArray 55 (0, 0)) := by rw [← hw]; exact heap_last wd _
  rw [hw]
  have sb := h0.trans (bb.mono h0.size)
  have HKP := Lib.hid (kp_oneP hKb (HEOW.out wb sb))
  have HJb := Lib.hid (below_block bb (block_lt HJd.out) HJd.out)
  refine hK.out _ _ sb (fun _ => ?_)
  clear hK K hHeld hw bb hKb HJd
  try simp only [List.getElem_toArray, List.getElem_cons_succ, List.getElem_cons_zero, Act.put, List.setIfInBounds_toArray, List.set_cons_zero, List.set_cons_succ]
  have hHeld := sb
  have HX1 := Lib.hid (show ∀ x ∈ ([⟨0, o, pa, ka⟩] : List KpX), In64 x.r ∧ LgFit x.c.l ∧ CoF x.c from fun x hx => by
    rw [List.mem_singleton] at hx
    rw [hx]
    exact ⟨(show In64 (0 : Int) by unfold In64; decide), HOV.out.2.1, HOV.out.2.2.2⟩)
  refine wpAnyH_ready (rs := [3]) (by kernel_rfl) (by simp) ?_; refine AllReadyH.cons rfl (fun K hK => ?_) AllReadyH.nil; (try simp only [List.getElem_toArray, List.getElem_cons_succ, List.getElem_cons_zero]); go_simp
  refine (show Calls Try.prog 17 #[.int .i64 1, .slice (some ⟨wd.heap.size, 0, none⟩) 1 1] wb (BsEnd wb (wholeB 1 [⟨0, o, pa, ka⟩])) from hwhole_any 1 [⟨0, o, pa, ka⟩] (some ⟨wd.heap.size, 0, none⟩) 1 wb (by unfold In64; decide) HKP.out HX1.out (by simp)).mono ?_; rintro r0 wc ⟨v3, M3, rfl, hM3, hL3, b3⟩
  have sc := sb.trans (b3.mono sb.size)
  have HM3 := Lib.hid hM3; have HL3 := Lib.hid hL3
  have HJc := Lib.hid (below_block b3 (block_lt HJb.out) HJb.out)
  refine hK.out _ _ sc (fun _ => ?_)
  clear hK K hHeld b3 hM3 hL3 HJb HKP
  try simp only [List.getElem_toArray, List.getElem_cons_succ, List.getElem_cons_zero, Act.put, List.setIfInBounds_toArray, List.set_cons_zero, List.set_cons_succ]
  have hHeld := sc
  refine wpAnyH_ready (rs := [6]) (by kernel_rfl) (by simp) ?_; refine AllReadyH.cons rfl (fun K hK => ?_) AllReadyH.nil; (try simp only [List.getElem_toArray, List.getElem_cons_succ, List.getElem_cons_zero]); go_simp
  refine (show Calls Try.prog 16 #[.int .i64 0, .agg (coL o pa ka).toArray, .agg (coL n pb kb).toArray] wc (BsEnd wc (diffB 0 o n)) from hdiff_any 0 o n pa pb ka kb wc HOV.out.2.1 HNV.out.2.1 (by unfold In64; decide) HNV.out.2.2.2 (HEOW.out wc sc) (HENW.out wc sc)).mono ?_; rintro r0 we ⟨v6, M6, rfl, hM6, hL6, b6⟩
  have se := sc.trans (b6.mono sc.size)
  have HM6 := Lib.hid hM6
  have HL6 := Lib.hid (hL6.mono sc.size)
  have HL3e := Lib.hid ((HL3.out.mono sb.size).keep b6)
  have HJe := Lib.hid (below_block b6 (block_lt HJc.out) HJc.out)
  have HN3 := Lib.hid (show M3.length ≤ 1000 by
    have := congrArg List.length HM3.out
    rw [List.length_map] at this
    have h2 := diffB_len 0 co0 o; have h3 := HOV.out.1
    simp [wholeB] at this; omega)
  have HN6 := Lib.hid (show M6.length ≤ 100 by
    have := congrArg List.length hM6
    rw [List.length_map] at this
    have h2 := diffB_len 0 o n; have h3 := HNV.out.1; omega)
  refine hK.out _ _ se (fun _ => ?_)
  clear hK K hHeld b6 hM6 hL6 HJc HL3
  try simp only [List.getElem_toArray, List.getElem_cons_succ, List.getElem_cons_zero, Act.put, List.setIfInBounds_toArray, List.set_cons_zero, List.set_cons_succ]
  have hHeld := se
  refine wpAnyH_ready (rs := [7]) (by kernel_rfl) (by simp) ?_; refine AllReadyH.cons rfl (fun K hK => ?_) AllReadyH.nil
  rw [if_pos (by rfl)]
  refine wp_append_any _ _ 23 (by rfl) W.heap.size 32 i2 (.slice none 0 0) 1 24 Try.underlying23 hi2 hx0 hx1 hx2 rfl (by decide) v3 M3.length (M3.map (·.1)) (by rfl) HL3e.out.own we.heap.size v6 M6.length (M6.map (·.1)) (by rfl) (Sl.of_own HL6.out.own) HL6.out.one (by have := HN3.out; have := HN6.out; unfold maxLen; omega) (by have := HN3.out; have := HN6.out; omega) se.size ?_
  intro v7 wf h2 h3 h4
  have sf : Below W.heap.size W wf := se.grown h3 se.size (fun k hk => (HL3e.out.own.lt k hk).1)
  have HL7 := Lib.hid (HL3e.out.app2 HL6.out h2 h3)
  have HM7 := Lib.hid (show (M3 ++ M6).map (·.2) = wholeB 1 [⟨0, o, pa, ka⟩] ++ diffB 0 o n by rw [List.map_append, HM3.out, HM6.out])
  have HJf := Lib.hid (blk_keep HJe.out HL3e.out.own (by decide) h3)
  refine hK.out _ _ sf (fun _ => ?_)
  clear hK K hHeld h2 h3 h4 HL3e HL6 HM3 HM6 HJe sc sb se h0
  try simp only [List.getElem_toArray, List.getElem_cons_succ, List.getElem_cons_zero, Act.put, List.setIfInBounds_toArray, List.set_cons_zero, List.set_cons_succ]
  have hHeld := sf
  refine wpAnyH_take (i := 8) (v := ?_) rfl (by kernel_rfl) (by kernel_rfl) (by kernel_rfl) (fun _ _ _ h => h) (Or.inl ⟨by rfl, ?_⟩) hHeld ?_
  rotate_left
  · (intro wz hSw; (try dsimp only at hSw); (try simp only [List.getElem_toArray, List.getElem_cons_succ, List.getElem_cons_zero]); go_simp; try with_reducible rfl)
  try simp only [List.getElem_toArray, List.getElem_cons_succ, List.getElem_cons_zero, Act.put, List.setIfInBounds_toArray, List.set_cons_zero, List.set_cons_succ]
  refine wpAnyH_done (by kernel_rfl) ?_ _
  refine NoPanic.normal ?_
  clear hHeld
  obtain ⟨M, hMM⟩ : ∃ M, M3 ++ M6 = M := ⟨_, rfl⟩
  have hml : M.length ≤ 1100 := by rw [← hMM, List.length_append]; have := HN3.out; have := HN6.out; omega
  rw [hMM] at HL7 HM7
  have HML := Lib.hid hml
  clear hMM hml HN3 HN6
  obtain ⟨p7, c7, rfl⟩ := own_formH HL7.out.own
  have HSF := Lib.hid sf
  have HRJ := Lib.hid (range_of (n := 11) (cs := jnL j3) rfl (fun j _ => by rw [Nat.zero_add, block_cells HJf.out, List.getElem?_toArray] : ∀ j, j < 11 → wf.cell? ⟨J, 0 + j, none⟩ = (jnL j3)[j]?))
  clear sf
  obtain ⟨c, hc1, hc2⟩ := pairs_plain pa ka HOV.out.2.2.1 HNV.out.2.2.1 HBO.out
  rw [← HM7.out] at hc1
  have HC1 := Lib.hid hc1; have HC2 := Lib.hid hc2
  clear hc1 hc2
  go_wp2_with (first | (with_reducible refine wpList_load_mid (op := ⟨some 61, _, _, _, _, _⟩) rfl _ _ rfl J 0 rfl (jnL j3) _ HRJ.out Try.underlying42 rfl (by kernel_rfl) ?_) | (with_reducible refine wpList_slice_one (o := ⟨some 62, _, _, _, _, _⟩) rfl _ 42 _ rfl (jnL j3) 11 i1 (.agg #[.int .u16 jn0.ov, .int .u16 jn0.ox, .int .u16 jn0.ol, .int .i64 jn0.oe, .int .i64 jn0.ok, .int .u16 jn0.nv, .int .u16 jn0.nx, .int .u16 jn0.nl, .int .i64 jn0.ne, .int .i64 jn0.nk, .bool jn0.two]) rfl (by kernel_rfl) (by decide) (by decide) Try.underlying22 hi1 hy0 hy1 ?_))
  obtain ⟨wg, hw⟩ : ∃ z : World, wf.alloc (.cells (jnL j3).toArray 42) = z := ⟨_, rfl⟩
  have bg : Below wf.heap.size wf wg := by rw [← hw]; exact (Below.refl _ _).alloc (Nat.le_refl _) _
  have hJg : wg.heap[wf.heap.size]? = some (.cells (jnL j3).toArray 42 (0, 0)) := by rw [← hw]; exact heap_last wf _
  (try rw [hw])
  obtain ⟨K, eK⟩ : ∃ z, wf.heap.size = z := ⟨_, rfl⟩
  (try rw [eK])
  rw [eK] at hJg
  have HSG := Lib.hid (HSF.out.trans (bg.mono HSF.out.size))
  have hLg := HL7.out.keep bg
  have HC := Lib.hid (show Calls Try.prog 9 #[.int .i64 1, .slice (some ⟨K, 0, none⟩) 1 1, .slice p7 M.length c7] wg (BldEnd wg (bld 1 [j3] (M.map (·.2)))) from by
    have := hbuild_any 1 [j3] (some ⟨K, 0, none⟩) 1 (M.map rcV) p7 c7 wg (fun k hk => by
      obtain rfl : k = 0 := by simp at hk; omega
      exact ⟨K, 0, rfl, block_lt hJg, fun i _ => by rw [Nat.zero_mul, Nat.zero_add, block_cells hJg, List.getElem?_toArray]; rfl⟩) hLg.rc (fun r hr => by
      obtain ⟨x, hx, rfl⟩ := List.mem_map.1 hr
      rw [rcV_xs]
      have h1 : x.2 ∈ M.map (·.2) := List.mem_map.2 ⟨x, hx, rfl⟩
      rw [HM7.out] at h1
      exact pairs_oct HOV.out.2.2.1 HNV.out.2.2.1 HOV.out.2.2.2 HNV.out.2.2.2 x.2 h1) (by simp) (by rw [List.length_map]; have := HML.out; omega)
    rw [List.length_map, rcV_map] at this
    exact this)
  rw [HC1.out] at HC
  clear hw bg hJg eK hLg HSF HJf HRJ HL7
  go_wp2_with fail
  refine HC.out.mono ?_; rintro e wh ⟨hb5, v, l, rfl, hl, hcs⟩
  obtain ⟨x, rfl, hx⟩ : ∃ x, l = [x] ∧ x.c = endCo c := by
    cases l with
    | nil => simp at hl
    | cons x t =>
      cases t with
      | nil => exact ⟨x, rfl, by simpa using hl⟩
      | cons y t => simp at hl
  obtain ⟨G, cap, rfl⟩ : ∃ G cap, v = .slice (some ⟨G, 0, none⟩) [x].length cap := by
    rcases hcs.own.2 with ⟨-, hz⟩ | ⟨g', cap', cur, h', _⟩
    · simp at hz
    · exact ⟨g', cap', h'⟩
  have HSH := Lib.hid (HSG.out.trans (hb5.mono HSG.out.size))
  obtain ⟨cx, px, kx⟩ := x
  simp only at hx
  subst hx
  have HCS := Lib.hid hcs
  clear hl hb5 hcs HC HSG
  go_upto_region 11 with fail
  obtain ⟨U, f, hU, hf, hg⟩ := calm_class (wh); obtain ⟨u0, hu0⟩ := hg _ (Below.refl _ _); rw [hu0]; clear hu0
  have HST := HC2.out
  have kG : ∀ u, ∀ j, j < 45 → (f u).cell? ⟨G, 0 + j, none⟩ = (coL (endCo c) px kx)[j]? := fun u j hj => by
    have := (HCS.out.keep (hf u)).cell (n := 0) (by simp) j hj
    rw [Nat.zero_mul] at this
    exact this
  have k2 : ∀ u, (f u).cell? ⟨G, 2, none⟩ = some (.int .i64 n.tm) := fun u => by rw [← HST.tm]; exact kG u 2 (by decide)
  have k3 : ∀ u, (f u).cell? ⟨G, 3, none⟩ = some (.int .i64 n.vt) := fun u => by rw [← HST.vt]; exact kG u 3 (by decide)
  have k8 : ∀ u, (f u).cell? ⟨G, 8, none⟩ = some (.int .i64 n.l.b) := fun u => by rw [← HST.b]; exact kG u 8 (by decide)
  have k9 : ∀ u, (f u).cell? ⟨G, 9, none⟩ = some (.int .i64 n.l.bt) := fun u => by rw [← HST.bt]; exact kG u 9 (by decide)
  have k21 : ∀ u, (f u).cell? ⟨G, 21, none⟩ = some (.slice px n.l.es.length kx) := fun u => by rw [← HST.es]; exact kG u 21 (by decide)
  have k22 : ∀ u, (f u).cell? ⟨G, 22, none⟩ = some (.string n.sn) := fun u => by rw [← HST.sn]; exact kG u 22 (by decide)
  have kB := fun u => HKB.out (f u) (HSH.out.trans ((hf u).mono HSH.out.size))
  have m2 : ∀ u, (f u).cell? ⟨B, 2, none⟩ = some (.int .i64 n.tm) := fun u => kB u 2
  have m3 : ∀ u, (f u).cell? ⟨B, 3, none⟩ = some (.int .i64 n.vt) := fun u => kB u 3
  have m8 : ∀ u, (f u).cell? ⟨B, 8, none⟩ = some (.int .i64 n.l.b) := fun u => kB u 8
  have m9 : ∀ u, (f u).cell? ⟨B, 9, none⟩ = some (.int .i64 n.l.bt) := fun u => kB u 9
  have m21 : ∀ u, (f u).cell? ⟨B, 21, none⟩ = some (.slice pb n.l.es.length kb) := fun u => kB u 21
  have m22 : ∀ u, (f u).cell? ⟨B, 22, none⟩ = some (.string n.sn) := fun u => kB u 22
  have HAL := Lib.hid (show ∀ u, Calls Try.prog 26 #[.slice px n.l.es.length kx, .slice pb n.l.es.length kb] (f u) fun r w' => r = .returned (.bool true) ∧ Below (f u).heap.size (f u) w' from fun u => by
    have h1 : EnSl (f u) (.slice px n.l.es.length kx) n.l.es := by
      have := (HCS.out.keep (hf u)).en ⟨endCo c, px, kx⟩ (by simp)
      have h2 := EnSl.of_own this
      have h3 : (endCo c).l.es = n.l.es := HST.es
      rw [h3] at h2
      exact h2
    have := alike_any n.l.es n.l.es px pb kx kb (f u) HNN.out HNN.out h1 (HENW.out (f u) (HSH.out.trans ((hf u).mono HSH.out.size)))
    rw [decide_eq_true rfl] at this
    exact this)
  have HEND : Hid (∀ u, Below w.heap.size w (f u)) := fun u => HBW.out.trans ((HSH.out.trans ((hf u).mono HSH.out.size)).mono HBW.out.size)
  clear HST kG kB HCS
  refine wp_region_calm f (by kernel_rfl) (by kernel_rfl) (calm_drew hf hg _) ?_
  repeat (go_big_quiet_step ((go_at_call 26; with_reducible exact calm_of hf hg (HAL.out _))))
  refine wpQuiet_nil ?_; rintro _ ⟨u, rfl⟩
  go_wp2_with fail
  exact HQ.out _ _ rfl rfl (HEND.out u)

set_option maxRecDepth 100000 in
theorem hpairs_lifted (os : Os) (started : os.Started) (H : Type) (enc : TypeId × Value → H) :
    ReturnsInHanded {} Try.checked os 5 .any (Rows.hardPairsSpec.pre6 enc Try.prog Try.f5 Rows.hardPairsRow.domain false) (Rows.hardPairsSpec.post enc Try.prog Try.f5 false true false false) := by
  refine lift_law (C := Try.checked) (tb := 4) (by kernel_rfl) started (by kernel_rfl) Try.func5 (ChangeSpec.witness6 (enc := enc) (C := Try.checked) false ⟨#[], #[.agg #[.int .i64 0, .int .i64 0, .int .i64 0, .int .i64 0, .int .i64 0, .int .i64 0, .int .i64 0, .int .i64 0, .int .i64 0, .int .i64 0, .int .u16 0, .int .u16 0, .int .u16 0, .int .i64 0, .int .i64 0, .int .u16 0, .int .u16 0, .int .u16 0, .int .i64 0, .int .i64 0, .bool false, .slice none 0 0, .string ⟨#[]⟩, .int .u16 0, .int .u16 0, .int .i64 0, .int .i64 0, .int .i64 0, .int .i64 0, .int .i64 0, .int .i64 0, .int .i64 0, .int .i64 0, .int .i64 0, .int .i64 0, .int .i64 0, .int .i64 0, .int .i64 0, .int .i64 0, .int .i64 0, .int .i64 0, .int .i64 0, .int .i64 0, .int .i64 0, .int .i64 0], .agg #[.int .i64 0, .int .i64 0, .int .i64 0, .int .i64 0, .int .i64 0, .int .i64 0, .int .i64 0, .int .i64 0, .int .i64 0, .int .i64 0, .int .u16 0, .int .u16 0, .int .u16 0, .int .i64 0, .int .i64 0, .int .u16 0, .int .u16 0, .int .u16 0, .int .i64 0, .int .i64 0, .bool false, .slice none 0 0, .string ⟨#[]⟩, .int .u16 0, .int .u16 0, .int .i64 0, .int .i64 0, .int .i64 0, .int .i64 0, .int .i64 0, .int .i64 0, .int .i64 0, .int .i64 0, .int .i64 0, .int .i64 0, .int .i64 0, .int .i64 0, .int .i64 0, .int .i64 0, .int .i64 0, .int .i64 0, .int .i64 0, .int .i64 0, .int .i64 0, .int .i64 0]], []⟩ 8 (by kernel_rfl) (by kernel_rfl) (by kernel_rfl) (by kernel_rfl)) (by kernel_rfl) (by kernel_rfl) rfl Try.underlying4 rfl ?_ ?_
  · intro ds h
    match ds, h with
    | [_, _], _ => rfl
  · intro W base args ds ps hval0 hA0 hlt hsz
    have hval : ∀ (j : Nat) t v, Try.f5.params[j]? = some t → args[j]? = some v → Value.okWide Try.prog W .any base t v := hval0
    have hA : DataW.TrodAll enc Try.prog W 0 (fun _ => true) true Try.f5.params.toList args.toList ds ps := hA0
    rw [Try.params5] at hA hval
    obtain ⟨v0, v1, d0, d1, p0, p1, rfl, rfl, rfl, h0, h1⟩ := trodAll_two hA
    obtain ⟨ca, pa, ka, rfl, ea, va⟩ := open_core (hval 0 48 v0 rfl rfl) h0
    obtain ⟨cb, pb, kb, rfl, eb, vb⟩ := open_core (hval 1 48 v1 rfl rfl) h1
    exact hpairs_walk ca cb pa pb ka kb W va vb ea eb

theorem hpairs_holds : Rows.HardPairsSaid :=
  OpenClaim.holds_of_wide 5 Try.f5 rfl rfl rfl rfl rfl rfl rfl ⟨rfl, rfl, rfl, rfl, rfl⟩ rfl rfl rfl rfl rfl (by kernel_rfl) Try.func5 (by kernel_rfl)
    (of_decide_eq_true (by kernel_rfl)) (by unfold Func.isWrapper; first | (rw [if_pos (by decide +kernel)]; kernel_rfl) | (rw [if_neg (by decide +kernel)]; exact ⟨rfl, rfl⟩))
    (fun os started H enc _ => hpairs_lifted os started H enc)
#print axioms hpairs_holds

end Go.Proofs.Ytjaabakobpabjaa
