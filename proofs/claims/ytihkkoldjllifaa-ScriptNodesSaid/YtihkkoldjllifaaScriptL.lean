/- The reference of script: Encode; light; begun. -/
import Derived.Test.YtihkkoldjllifaaScriptJ
import Derived.Test.YtihkkoldjllifaaScriptK
import Derived.Test.YtihkkoldjllifaaPlainBack29
namespace Go.Proofs.Ytihkkoldjllifaa
open Go.ChangeShapes Go.WideShapes Go.ChangeAt Go.RowKit

set_option maxRecDepth 100000 in
set_option maxHeartbeats 8000000 in
theorem refEncode_any (v : Value) (L : List EvX) (w : World) (hL : EvSl w v L) (hl : L.length ≤ 5000) (hks : ∀ x ∈ L, x.1.ks.length ≤ 1000 ∧ x.1.t.size ≤ 100000) :
    Calls Try.prog 20 #[v] w (EncEnd w.heap.size w (encAll (L.map (·.1)))) := by
  obtain ⟨i0, hi, hz0, hz1, hz2⟩ := info_parts Try.infoU8
  obtain ⟨p, c, rfl, h1, h2⟩ := hL.form
  unfold maxLen at h2
  have HL := Lib.hid hL; have HKS := Lib.hid hks
  obtain ⟨B, hB⟩ : ∃ B, w.heap.size = B := ⟨_, rfl⟩
  have HBe := Lib.hid hB
  have hBw : B ≤ w.heap.size := by omega
  have hBr : w.heap.size ≤ B := by omega
  clear hL hks hB
  go_enter Try.func20, Try.ntmps20
  go_wp2_with fail
  go_loopw [3, 4] (fun v i wr => ∃ k : Nat, k ≤ L.length ∧ i = .int .i64 k ∧ Hid (wr.ownsRow B 5 1 v (encAll ((L.take k).map (·.1))).length (byt (encAll ((L.take k).map (·.1))))) ∧ Hid (Below B w wr)) (fun _ i _ => L.length - (intOf i).toNat)
  case atStart => exact ⟨0, Nat.zero_le _, rfl, ⟨rfl, .inl ⟨rfl, rfl⟩⟩, Below.refl _ _⟩
  case round =>
    obtain ⟨k, hk, rfl, HO, HB⟩ := hrel
    obtain ⟨wk, rfl⟩ : ∃ wk : World, wk = wr := ⟨_, rfl⟩
    by_cases hlt : k < L.length
    · have HEk : Hid (EvSl wk (.slice p L.length c) L) := HL.out.keep HB.out hBr
      obtain ⟨g, o, cap, hv, -, -, hgl, -⟩ := HEk.out.at k hlt
      simp only [Value.slice.injEq] at hv
      obtain ⟨hv, -⟩ := hv
      subst hv
      have hkk := HKS.out _ (List.getElem_mem hlt)
      have hna := HEk.out.2 _ (List.getElem_mem hlt)
      obtain ⟨⟨e, pe, ce⟩, hxL⟩ : ∃ x, L[k] = x := ⟨_, rfl⟩
      rw [hxL] at hkk hna
      obtain ⟨hk1, hk2⟩ := hkk
      simp only at hk1 hk2 hna
      have hc0 : wk.cell? ⟨g, o + k * 11, none⟩ = some (.int .i64 e.k) := HEk.out.cell hlt hxL 0 (by decide)
      have hc1 : wk.cell? ⟨g, o + k * 11 + 1, none⟩ = some (.int .i64 e.n) := HEk.out.cell hlt hxL 1 (by decide)
      have hc2 : wk.cell? ⟨g, o + k * 11 + 2, none⟩ = some (.int .i64 e.i) := HEk.out.cell hlt hxL 2 (by decide)
      have hc3 : wk.cell? ⟨g, o + k * 11 + 3, none⟩ = some (.int .i64 e.w) := HEk.out.cell hlt hxL 3 (by decide)
      have hc4 : wk.cell? ⟨g, o + k * 11 + 4, none⟩ = some (.string e.t) := HEk.out.cell hlt hxL 4 (by decide)
      have hc5 : wk.cell? ⟨g, o + k * 11 + 5, none⟩ = some (.slice pe e.ks.length ce) := HEk.out.cell hlt hxL 5 (by decide)
      have hc6 : wk.cell? ⟨g, o + k * 11 + 6, none⟩ = some (.int .u16 e.cv) := HEk.out.cell hlt hxL 6 (by decide)
      have hc7 : wk.cell? ⟨g, o + k * 11 + 7, none⟩ = some (.int .u16 e.cx) := HEk.out.cell hlt hxL 7 (by decide)
      have hc8 : wk.cell? ⟨g, o + k * 11 + 8, none⟩ = some (.int .u16 e.cl) := HEk.out.cell hlt hxL 8 (by decide)
      have hc9 : wk.cell? ⟨g, o + k * 11 + 9, none⟩ = some (.int .i64 e.ce) := HEk.out.cell hlt hxL 9 (by decide)
      have hc10 : wk.cell? ⟨g, o + k * 11 + 10, none⟩ = some (.int .i64 e.ck) := HEk.out.cell hlt hxL 10 (by decide)
      have hlen0 := encAll_len ((L.take k).map (·.1)) (fun e he => by
        obtain ⟨x, hx, rfl⟩ := List.mem_map.1 he; exact HKS.out x (List.mem_of_mem_take hx))
      have hlen1 : (encAll ((L.take k).map (·.1))).length ≤ 600000000 := by
        have : ((L.take k).map (·.1)).length ≤ 5000 := by rw [List.length_map, List.length_take]; omega
        have := Nat.mul_le_mul_right 101005 this
        omega
      have hlen2 := encP_len e
      have HTK := Lib.hid (map_take_snoc hlt hxL)
      have hsame := enc_same e
      have hbs := HB.out.size
      have HNA : Hid (NumsAt wk pe e.ks) := hna
      obtain ⟨X, hX⟩ : ∃ X, encAll ((L.take k).map (·.1)) = X := ⟨_, rfl⟩
      have HX := Lib.hid hX
      rw [hX] at HO hlen1
      have hd1 : decide ((k : Int) < (L.length : Int)) = true := by simp; omega
      have RB := Lib.hid (rbytes_any e pe ce wk hk1 hk2 HNA.out)
      obtain ⟨⟨xs, is⟩, hr⟩ : ∃ r, encR e = r := ⟨_, rfl⟩
      rw [hr] at RB hsame
      simp only at hsame
      have HSM := Lib.hid hsame
      clear hxL hna hlen0 hX hr hsame
      cases is
      · have HXS : Hid (encP e = []) := by show _ = _; rw [← HSM.out]; rfl
        clear HSM
        go_wp2_with fail
        refine RB.out.mono ?_; rintro r w2 ⟨v2, rfl, hs2, hb2⟩
        have HO3 : Hid (w2.ownsRow B 5 1 u3 (encAll ((L.take (k + 1)).map (·.1))).length (byt (encAll ((L.take (k + 1)).map (·.1))))) := by
          show w2.ownsRow _ _ _ _ _ _
          rw [HTK.out, encAll_snoc, HX.out, HXS.out, List.append_nil]; exact own_below' HO.out hb2 (Nat.le_refl _)
        have HB4 : Hid (Below B w w2) := HB.out.trans (hb2.mono (by omega))
        clear hb2 hs2
        go_wp2_with fail
        go_roundw
        case rel => exact ⟨k + 1, by omega, by go_num, HO3, HB4⟩
        case measure => simp [intOf]; omega
      · have HXS : Hid (encP e = xs) := by show _ = _; rw [← HSM.out]; rfl
        have hlen3 : xs.length ≤ 200000 := by rw [HXS.out] at hlen2; omega
        clear HSM
        go_wp2_with fail
        refine RB.out.mono ?_; rintro r w2 ⟨v2, rfl, hs2, hb2⟩
        have HS2 := Lib.hid hs2
        have HB3 := Lib.hid hb2
        have hs2 := hb2.size
        have HO2 : Hid (w2.ownsRow B 5 1 u3 X.length (byt X)) := own_below' HO.out HB3.out (Nat.le_refl _)
        clear hb2
        go_wp2_with (at_builtin; refine wpList_append_sl rfl _ _ 22 rfl B 5 i0 (.int .u8 0) 1 1 Try.underlying22 hi hz0 hz1 hz2 rfl (by decide) _ _ _ rfl HO2.out w2.heap.size v2 xs.length (byt xs) rfl HS2.out (byt_one _) ?c3 ?c4 ?c5 ?_)
        case c3 => unfold maxLen; omega
        case c4 => omega
        case c5 => omega
        intro v3 w3 hown3 hgrow3
        have HO3 : Hid (w3.ownsRow B 5 1 v3 (encAll ((L.take (k + 1)).map (·.1))).length (byt (encAll ((L.take (k + 1)).map (·.1))))) := by
          show w3.ownsRow _ _ _ _ _ _
          rw [HTK.out, encAll_snoc, HX.out, HXS.out, List.length_append, ← byt_app]; exact hown3
        have HB4 : Hid (Below B w w3) := (HB.out.trans (HB3.out.mono (by omega))).grown hgrow3 (by omega) (fun j hj => (HO2.out.lt j hj).1)
        clear hown3 hgrow3
        go_wp2_with fail
        go_roundw
        case rel => exact ⟨k + 1, by omega, by go_num, HO3, HB4⟩
        case measure => simp [intOf]; omega
    · obtain rfl : k = L.length := by omega
      have hfin : wk.ownsRow B 5 1 u3 (encAll (L.map (·.1))).length (byt (encAll (L.map (·.1)))) := by
        have h := HO.out; rw [List.take_of_length_le (Nat.le_refl _)] at h; exact h
      have HF := Lib.hid hfin
      clear hfin
      go_wp2_with fail
      go_ret
      rw [HBe.out]
      exact ⟨_, rfl, HF.out, by rw [HBe.out]; exact HB.out⟩

def okE (x : EvX) : Bool := decide (x.1.t.size ≤ 1000) && decide (x.1.ks.length ≤ 10)
def light29 (L : List EvX) (most : Int) : Bool := decide ((L.length : Int) ≤ most) && L.all okE
theorem all_no {L : List EvX} {k : Nat} (hk : k < L.length) (h : okE L[k] = false) : L.all okE = false := by
  rw [List.all_eq_false]; exact ⟨L[k], List.getElem_mem hk, by simp [h]⟩
set_option maxRecDepth 100000 in
set_option maxHeartbeats 8000000 in
theorem light29_any (v : Value) (L : List EvX) (most : Int) (w : World) (hL : EvSl w v L) (hks : ∀ x ∈ L, x.1.ks.length ≤ maxLen ∧ x.1.t.size ≤ maxLen) :
    Calls Try.prog 18 #[v, .int .i64 most] w fun r w' => r = .returned (.bool (light29 L most)) ∧ w = w' := by
  obtain ⟨p, c, rfl, h1, h2⟩ := hL.form
  unfold maxLen at h2
  have HL := Lib.hid hL; have HKS := Lib.hid hks
  clear hL hks
  by_cases hm : (L.length : Int) ≤ most
  · have HM : Hid (light29 L most = L.all okE) := by show _ = _; simp [light29, hm]
    have hd : decide (most < (L.length : Int)) = false := by simp; omega
    go_enter Try.func18, Try.ntmps18
    go_wp2_with fail
    go_loop [5] (fun i => ∃ k : Nat, k ≤ L.length ∧ i = .int .i64 k ∧ Hid (∀ j, (hj : j < L.length) → j < k → okE L[j] = true)) (fun i => L.length - (intOf i).toNat)
    case atStart => exact ⟨0, Nat.zero_le _, rfl, fun j _ h => absurd h (by omega)⟩
    case round =>
      obtain ⟨k, hk, rfl, HQ⟩ := hrel
      by_cases hlt : k < L.length
      · obtain ⟨g, o, cap, hv, -, -, hgl, -⟩ := HL.out.at k hlt
        simp only [Value.slice.injEq] at hv
        obtain ⟨hv, -⟩ := hv
        subst hv
        have hkk := HKS.out _ (List.getElem_mem hlt)
        have hno := fun h => all_no (L := L) (k := k) hlt h
        have hq : ∀ b, okE L[k] = b → b = true → (∀ j, (hj : j < L.length) → j < k + 1 → okE L[j] = true) := fun b hb hbt j hj hj1 => by
          by_cases e : j = k
          · subst e; rw [hb]; exact hbt
          · exact HQ.out j hj (by omega)
        obtain ⟨⟨e, pe, ce⟩, hxL⟩ : ∃ x, L[k] = x := ⟨_, rfl⟩
        have hc4 : w.cell? ⟨g, o + k * 11 + 4, none⟩ = some (.string e.t) := HL.out.cell hlt hxL 4 (by decide)
        have hc5 : w.cell? ⟨g, o + k * 11 + 5, none⟩ = some (.slice pe e.ks.length ce) := HL.out.cell hlt hxL 5 (by decide)
        rw [hxL] at hkk hno hq
        simp only at hkk
        obtain ⟨hk1, hk2⟩ := hkk
        unfold maxLen at hk1 hk2
        have hd1 : decide ((k : Int) < (L.length : Int)) = true := by simp; omega
        by_cases ht : e.t.size ≤ 1000
        · have hdt : decide (1000 < (e.t.size : Int)) = false := by simp; omega
          have hdt2 : decide (1000 < e.t.size) = false := by simp; omega
          by_cases hs : e.ks.length ≤ 10
          · have HQ' := Lib.hid (hq _ rfl (by simp [okE, ht, hs]))
            have hds : decide (10 < (e.ks.length : Int)) = false := by simp; omega
            have hds2 : decide (10 < e.ks.length) = false := by simp; omega
            clear hno hq hxL
            go_wp2_with fail
            go_round
            case rel => exact ⟨k + 1, by omega, by go_num, HQ'⟩
            case measure => simp [intOf]; omega
          · have HN := Lib.hid (hno (by simp [okE, hs]))
            have hds : decide (10 < (e.ks.length : Int)) = true := by simp; omega
            have hds2 : decide (10 < e.ks.length) = true := by simp; omega
            clear hno hq hxL
            go_wp2_with fail
            go_ret
            exact ⟨ret_boolS (by rw [HM.out, HN.out]), rfl⟩
        · have HN := Lib.hid (hno (by simp [okE, ht]))
          have hdt : decide (1000 < (e.t.size : Int)) = true := by simp; omega
          have hdt2 : decide (1000 < e.t.size) = true := by simp; omega
          clear hno hq hxL
          go_wp2_with fail
          go_ret
          exact ⟨ret_boolS (by rw [HM.out, HN.out]), rfl⟩
      · obtain rfl : k = L.length := by omega
        have HR : Hid (L.all okE = true) := by
          show _ = _; rw [List.all_eq_true]; intro x hx; obtain ⟨j, hj, rfl⟩ := List.getElem_of_mem hx; exact HQ.out j hj hj
        clear HQ
        go_wp2_with fail
        go_ret
        exact ⟨ret_boolS (by rw [HM.out, HR.out]), rfl⟩
  · have HM : Hid (light29 L most = false) := by show _ = _; simp [light29, hm]
    have hd : decide (most < (L.length : Int)) = true := by simp; omega
    go_enter Try.func18, Try.ntmps18
    go_wp2_with fail
    go_ret
    exact ⟨ret_boolS (by rw [HM.out]), rfl⟩
abbrev begB : List Int := [0, 4, 10, 1, 2, 104, 105, 7]
theorem beg_dec : decA 9 begB = [evO 1 5 0 0 ⟨#[]⟩ [], evO 6 2 0 0 ⟨#[104, 105]⟩ []] := by decide +kernel
theorem beg_enc : encAll [evO 1 5 0 0 ⟨#[]⟩ [], evO 6 2 0 0 ⟨#[104, 105]⟩ []] = [0, 4, 10, 1, 2, 104, 105] := by decide +kernel
theorem two_of {L : List EvX} {a b : Ev} (h : L.map (·.1) = [a, b]) : ∃ p c q d, L = [(a, p, c), (b, q, d)] := by
  match L, h with
  | [(x, p, c), (y, q, d)], h =>
    simp only [List.map_cons, List.map_nil, List.cons.injEq, and_true] at h
    obtain ⟨rfl, rfl⟩ := h; exact ⟨p, c, q, d, rfl⟩
set_option maxRecDepth 100000 in
set_option maxHeartbeats 4000000 in
theorem begun29_any (w : World) :
    Calls Try.prog 11 #[] w fun r w' => r = .returned (.bool true) ∧ Below w.heap.size w w' := by
  go_enter Try.func11, Try.ntmps11
  go_wp2_with fail
  have hS := Sl.of_own (own_new w begB 0 (Nat.zero_le _) (by show (8 : Nat) ≤ maxLen; unfold maxLen; omega))
  have hB1 : Below w.heap.size w (w.alloc (.cells (byt begB).toArray 5)) := (Below.refl _ _).alloc (Nat.le_refl _) _
  refine (decode_any _ begB 9 _ (by intro x hx; simp at hx; omega) hS (by decide)).mono ?_; rintro r w2 ⟨v2, L, rfl, hmap, hown, hkp, hb2⟩
  rw [beg_dec] at hmap
  have HB2 := Lib.hid (hB1.trans (hb2.mono hB1.size))
  have HEv := Lib.hid (EvSl.of_own hown hkp)
  have HMap := Lib.hid hmap
  obtain ⟨p, c, q, d, rfl⟩ := two_of hmap
  clear hS hB1 hmap hown hkp hb2
  go_wp2_with fail
  refine (encode_any _ _ _ HEv.out (by simp) (fun x hx => by
    simp at hx
    rcases hx with rfl | rfl
    · exact ⟨by simp [evO], by show ByteArray.size ⟨#[]⟩ ≤ 100000; decide⟩
    · exact ⟨by simp [evO], by show ByteArray.size ⟨#[104, 105]⟩ ≤ 100000; decide⟩)).mono ?_; rintro r w3 ⟨v3, rfl, hown3, hb3⟩
  rw [HMap.out, beg_enc] at hown3
  have HE3 := Lib.hid (HEv.out.keep hb3 (Nat.le_refl _))
  have HB3 := Lib.hid (HB2.out.trans (hb3.mono HB2.out.size))
  have kc := run_convert_sl (P := Try.prog) (Sl.of_own hown3) 22 5 Try.underlying22 Try.underlying5 9 Try.underlying9
  rw [show strOfNums [0, 4, 10, 1, 2, 104, 105] = ⟨#[0, 4, 10, 1, 2, 104, 105]⟩ from rfl] at kc
  obtain ⟨g, o, cap, hv, -, -, hgl, -⟩ := HE3.out.at 0 (by simp)
  subst hv
  have c0 : w3.cell? ⟨g, o + 1, none⟩ = some (.int .i64 5) := by have := HE3.out.cell (k := 0) (by simp) rfl 1 (by decide); simpa [evC, evO] using this
  have c1 : w3.cell? ⟨g, o + 11 + 4, none⟩ = some (.string ⟨#[104, 105]⟩) := by have := HE3.out.cell (k := 1) (by simp) rfl 4 (by decide); simpa [evC, evO] using this
  clear hown3 hb3
  simp only [List.length_cons, List.length_nil]
  go_wp2_with fail
  go_ret
  exact ⟨rfl, HB3.out⟩
end Go.Proofs.Ytihkkoldjllifaa
