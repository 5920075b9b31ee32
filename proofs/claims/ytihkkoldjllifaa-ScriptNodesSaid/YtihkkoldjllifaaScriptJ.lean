/- script.Encode: all events' bytes. -/
import Derived.Test.YtihkkoldjllifaaScriptI
namespace Go.Proofs.Ytihkkoldjllifaa
open Go.ChangeShapes Go.WideShapes Go.ChangeAt Go.RowKit

/-- All bytes, in a row of their own. -/
def EncEnd (B : Nat) (w : World) (xs : List Int) (r : Ending) (w' : World) : Prop := ∃ v, r = .returned v ∧ w'.ownsRow B 5 1 v xs.length (byt xs) ∧ Below w.heap.size w w'
theorem map_take_snoc {L : List EvX} {k : Nat} (hlt : k < L.length) {e : Ev} {p : Option Addr} {c : Nat} (hx : L[k] = (e, p, c)) : (L.take (k + 1)).map (·.1) = (L.take k).map (·.1) ++ [e] := by
  rw [List.take_succ_eq_append_getElem hlt, hx]; simp
set_option maxRecDepth 100000 in
set_option maxHeartbeats 8000000 in
theorem encode_any (v : Value) (L : List EvX) (w : World) (hL : EvSl w v L) (hl : L.length ≤ 5000) (hks : ∀ x ∈ L, x.1.ks.length ≤ 1000 ∧ x.1.t.size ≤ 100000) :
    Calls Try.prog 19 #[v] w (EncEnd w.heap.size w (encAll (L.map (·.1)))) := by
  obtain ⟨i0, hi, hz0, hz1, hz2⟩ := info_parts Try.infoU8
  obtain ⟨p, c, rfl, h1, h2⟩ := hL.form
  unfold maxLen at h2
  have HL := Lib.hid hL; have HKS := Lib.hid hks
  obtain ⟨B, hB⟩ : ∃ B, w.heap.size = B := ⟨_, rfl⟩
  have HBe := Lib.hid hB
  have hBw : B ≤ w.heap.size := by omega
  have hBr : w.heap.size ≤ B := by omega
  clear hL hks hB
  go_enter Try.func19, Try.ntmps19
  go_wp2_with fail
  go_loopw [3, 8] (fun v i wr => ∃ k : Nat, k ≤ L.length ∧ i = .int .i64 k ∧ Hid (wr.ownsRow B 5 1 v (encAll ((L.take k).map (·.1))).length (byt (encAll ((L.take k).map (·.1))))) ∧ Hid (Below B w wr)) (fun _ i _ => L.length - (intOf i).toNat)
  case atStart => exact ⟨0, Nat.zero_le _, rfl, ⟨rfl, .inl ⟨rfl, rfl⟩⟩, Below.refl _ _⟩
  case round =>
    obtain ⟨k, hk, rfl, HO, HB⟩ := hrel
    obtain ⟨wk, rfl⟩ : ∃ wk : World, wk = wr := ⟨_, rfl⟩
    by_cases hlt : k < L.length
    · have HEk : Hid (EvSl wk (.slice p L.length c) L) := HL.out.keep HB.out hBr
      obtain ⟨g, o, cap, hv, -, -, hgl, -⟩ := HEk.out.at k hlt
      simp only [Value.slice.injEq] at hv
      obtain ⟨hv, -⟩ := hv
      subst hv
      have hkk := HKS.out _ (List.getElem_mem hlt)
      have hna := HEk.out.2 _ (List.getElem_mem hlt)
      obtain ⟨⟨e, pe, ce⟩, hxL⟩ : ∃ x, L[k] = x := ⟨_, rfl⟩
      rw [hxL] at hkk hna
      obtain ⟨hk1, hk2⟩ := hkk
      simp only at hk1 hk2 hna
      have hc0 : wk.cell? ⟨g, o + k * 11, none⟩ = some (.int .i64 e.k) := HEk.out.cell hlt hxL 0 (by decide)
      have hc1 : wk.cell? ⟨g, o + k * 11 + 1, none⟩ = some (.int .i64 e.n) := HEk.out.cell hlt hxL 1 (by decide)
      have hc2 : wk.cell? ⟨g, o + k * 11 + 2, none⟩ = some (.int .i64 e.i) := HEk.out.cell hlt hxL 2 (by decide)
      have hc3 : wk.cell? ⟨g, o + k * 11 + 3, none⟩ = some (.int .i64 e.w) := HEk.out.cell hlt hxL 3 (by decide)
      have hc4 : wk.cell? ⟨g, o + k * 11 + 4, none⟩ = some (.string e.t) := HEk.out.cell hlt hxL 4 (by decide)
      have hc5 : wk.cell? ⟨g, o + k * 11 + 5, none⟩ = some (.slice pe e.ks.length ce) := HEk.out.cell hlt hxL 5 (by decide)
      have hc6 : wk.cell? ⟨g, o + k * 11 + 6, none⟩ = some (.int .u16 e.cv) := HEk.out.cell hlt hxL 6 (by decide)
      have hc7 : wk.cell? ⟨g, o + k * 11 + 7, none⟩ = some (.int .u16 e.cx) := HEk.out.cell hlt hxL 7 (by decide)
      have hc8 : wk.cell? ⟨g, o + k * 11 + 8, none⟩ = some (.int .u16 e.cl) := HEk.out.cell hlt hxL 8 (by decide)
      have hc9 : wk.cell? ⟨g, o + k * 11 + 9, none⟩ = some (.int .i64 e.ce) := HEk.out.cell hlt hxL 9 (by decide)
      have hc10 : wk.cell? ⟨g, o + k * 11 + 10, none⟩ = some (.int .i64 e.ck) := HEk.out.cell hlt hxL 10 (by decide)
      have hlen0 := encAll_len ((L.take k).map (·.1)) (fun e he => by
        obtain ⟨x, hx, rfl⟩ := List.mem_map.1 he; exact HKS.out x (List.mem_of_mem_take hx))
      have hlen1 : (encAll ((L.take k).map (·.1))).length ≤ 600000000 := by
        have : ((L.take k).map (·.1)).length ≤ 5000 := by rw [List.length_map, List.length_take]; omega
        have := Nat.mul_le_mul_right 101005 this
        omega
      have hlen2 := encP_len e
      have HTK := Lib.hid (map_take_snoc hlt hxL)
      have hbs := HB.out.size
      have HNA : Hid (NumsAt (wk.alloc (.cells #[.int .i64 e.k, .int .i64 e.n, .int .i64 e.i, .int .i64 e.w, .string e.t, .slice pe e.ks.length ce, .int .u16 e.cv, .int .u16 e.cx, .int .u16 e.cl, .int .i64 e.ce, .int .i64 e.ck] 41)) pe e.ks) := hna.keep ((Below.refl _ _).alloc (Nat.le_refl _) _) (Nat.le_refl _)
      obtain ⟨X, hX⟩ : ∃ X, encAll ((L.take k).map (·.1)) = X := ⟨_, rfl⟩
      have HX := Lib.hid hX
      rw [hX] at HO hlen1
      have hd1 : decide ((k : Int) < (L.length : Int)) = true := by simp; omega
      clear hxL hna hlen0 hX
      go_wp2_with fail
      refine (bytes_any e pe ce _ hk1 hk2 HNA.out).mono ?_; rintro r w2 ⟨v2, rfl, hs2, hb2⟩
      have HS2 := Lib.hid hs2; have HB2 := Lib.hid hb2
      have hs2 := hb2.size
      simp only [World.size_alloc] at hs2
      have HB3 : Hid (Below wk.heap.size wk w2) := ((Below.refl _ wk).alloc (Nat.le_refl _) (.cells #[.int .i64 e.k, .int .i64 e.n, .int .i64 e.i, .int .i64 e.w, .string e.t, .slice pe e.ks.length ce, .int .u16 e.cv, .int .u16 e.cx, .int .u16 e.cl, .int .i64 e.ce, .int .i64 e.ck] 41)).trans (hb2.mono (by simp))
      have HO2 : Hid (w2.ownsRow B 5 1 u3 X.length (byt X)) := own_below' HO.out HB3.out (Nat.le_refl _)
      clear hb2
      go_wp2_with (at_builtin; refine wpList_append_sl rfl _ _ 22 rfl B 5 i0 (.int .u8 0) 1 1 Try.underlying22 hi hz0 hz1 hz2 rfl (by decide) _ _ _ rfl HO2.out w2.heap.size v2 (encP e).length (byt (encP e)) rfl HS2.out (byt_one _) ?c3 ?c4 ?c5 ?_)
      case c3 => unfold maxLen; omega
      case c4 => omega
      case c5 => omega
      intro v3 w3 hown3 hgrow3
      have HO3 : Hid (w3.ownsRow B 5 1 v3 (encAll ((L.take (k + 1)).map (·.1))).length (byt (encAll ((L.take (k + 1)).map (·.1))))) := by
        show w3.ownsRow _ _ _ _ _ _
        rw [HTK.out, encAll_snoc, HX.out, List.length_append, ← byt_app]; exact hown3
      have HB4 : Hid (Below B w w3) := (HB.out.trans (HB3.out.mono (by omega))).grown hgrow3 (by omega) (fun j hj => (HO2.out.lt j hj).1)
      clear hown3 hgrow3
      go_wp2_with fail
      go_roundw
      case rel => exact ⟨k + 1, by omega, by go_num, HO3, HB4⟩
      case measure => simp [intOf]; omega
    · obtain rfl : k = L.length := by omega
      have hfin : wk.ownsRow B 5 1 u3 (encAll (L.map (·.1))).length (byt (encAll (L.map (·.1)))) := by
        have h := HO.out; rw [List.take_of_length_le (Nat.le_refl _)] at h; exact h
      have HF := Lib.hid hfin
      clear hfin
      go_wp2_with fail
      go_ret
      rw [HBe.out]
      exact ⟨_, rfl, HF.out, by rw [HBe.out]; exact HB.out⟩
end Go.Proofs.Ytihkkoldjllifaa
