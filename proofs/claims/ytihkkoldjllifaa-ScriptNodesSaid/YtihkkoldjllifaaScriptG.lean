/- The reference of script: are two lists of events the same? -/
import Derived.Test.YtihkkoldjllifaaScriptF
namespace Go.Proofs.Ytihkkoldjllifaa
open Go.ChangeShapes Go.WideShapes Go.ChangeAt Go.RowKit

theorem same29_yes (e : Ev) (p q : Option Addr) (c d : Nat) (w : World) (hlen : e.ks.length ≤ 1000000) (ha : NumsAt w p e.ks) (hb : NumsAt w q e.ks) :
    Calls Try.prog 39 #[.agg #[.int .i64 e.k, .int .i64 e.n, .int .i64 e.i, .int .i64 e.w, .string e.t, .slice p e.ks.length c, .int .u16 e.cv, .int .u16 e.cx, .int .u16 e.cl, .int .i64 e.ce, .int .i64 e.ck], .agg #[.int .i64 e.k, .int .i64 e.n, .int .i64 e.i, .int .i64 e.w, .string e.t, .slice q e.ks.length d, .int .u16 e.cv, .int .u16 e.cx, .int .u16 e.cl, .int .i64 e.ce, .int .i64 e.ck]] w fun r w' => r = .returned (.bool true) ∧ Below w.heap.size w w' := by
  have := same29_ev e e p q c d w hlen ha hb
  rw [decide_eq_true rfl] at this; exact this
/-- A slice of events, whoever owns it. -/
def EvSl (w : World) (v : Value) (L : List EvX) : Prop := Sl w.heap.size w v 11 L.length (evRow L) ∧ ∀ x ∈ L, NumsAt w x.2.1 x.1.ks
theorem EvSl.keep {w w' : World} {v : Value} {L : List EvX} {B : Nat} (h : EvSl w v L) (hb : Below B w w') (hB : w.heap.size ≤ B) : EvSl w' v L :=
  ⟨(h.1.keep (hb.mono hB)).mono hb.size, fun x hx => (h.2 x hx).keep hb hB⟩
theorem EvSl.of_own {w : World} {B : Nat} {v : Value} {L : List EvX} (h : w.ownsRow B 41 11 v L.length (evRow L)) (hk : Keeps w L) : EvSl w v L := ⟨Sl.of_own h, fun x hx => (hk x hx).nums⟩
theorem evRow_get {L : List EvX} {k j : Nat} (hk : k < L.length) (hj : j < 11) : (evRow L)[k * 11 + j]? = (evC L[k].1 L[k].2.1 L[k].2.2)[j]? := by
  induction L generalizing k with
  | nil => simp at hk
  | cons x t ih =>
    have hl : (evC x.1 x.2.1 x.2.2).length = 11 := rfl
    cases k with
    | zero => simp only [evRow, List.flatMap_cons, List.getElem_cons_zero]; rw [List.getElem?_append_left (by rw [hl]; omega), Nat.zero_mul, Nat.zero_add]
    | succ k =>
      simp only [evRow, List.flatMap_cons, List.getElem_cons_succ]
      rw [List.getElem?_append_right (by rw [hl]; omega), hl, show (k + 1) * 11 + j - 11 = k * 11 + j by omega]
      exact ih (by simpa using hk)
/-- Where an event's cells lie. -/
theorem EvSl.at {w : World} {v : Value} {L : List EvX} (h : EvSl w v L) (k : Nat) (hk : k < L.length) : ∃ g o cap, v = .slice (some ⟨g, o, none⟩) L.length cap ∧ L.length ≤ cap ∧ cap ≤ maxLen ∧ g < w.heap.size ∧ ∀ j, j < 11 → w.cell? ⟨g, o + (k * 11 + j), none⟩ = (evC L[k].1 L[k].2.1 L[k].2.2)[j]? := by
  rcases h.1.2 with ⟨h2, h3⟩ | ⟨ad, cap', h2, h3, h4, h5⟩
  · omega
  · obtain ⟨g', o', rfl, h6, h7⟩ := h5 (by omega)
    exact ⟨g', o', cap', h2, h3, h4, h6, fun j hj => by rw [h7 _ (by omega), evRow_get hk hj]⟩
theorem EvSl.form {w : World} {v : Value} {L : List EvX} (h : EvSl w v L) : ∃ p cap, v = .slice p L.length cap ∧ L.length ≤ cap ∧ cap ≤ maxLen := by
  rcases h.1.2 with ⟨h2, h3⟩ | ⟨ad, cap', h2, h3, h4, h5⟩
  · exact ⟨none, 0, by rw [h2, h3], by omega, by unfold maxLen; omega⟩
  · exact ⟨_, cap', h2, h3, h4⟩
theorem EvSl.cell {w : World} {g o n cap : Nat} {L : List EvX} (h : EvSl w (.slice (some ⟨g, o, none⟩) n cap) L) {k : Nat} (hk : k < L.length) {e : Ev} {p : Option Addr} {c : Nat} (hx : L[k] = (e, p, c)) (j : Nat) (hj : j < 11) :
    w.cell? ⟨g, o + k * 11 + j, none⟩ = (evC e p c)[j]? := by
  obtain ⟨g', o', cap', hv, -, -, -, hc⟩ := h.at k hk
  simp only [Value.slice.injEq, Option.some.injEq, Addr.mk.injEq, and_true] at hv
  obtain ⟨⟨rfl, rfl⟩, -⟩ := hv
  rw [Nat.add_assoc, hc j hj, hx]
set_option maxRecDepth 100000 in
set_option maxHeartbeats 8000000 in
theorem sameAll_yes (v v' : Value) (L M : List EvX) (w : World) (h : L.map (·.1) = M.map (·.1)) (hL : EvSl w v L) (hM : EvSl w v' M) (hks : ∀ x ∈ L, x.1.ks.length ≤ 1000000) :
    Calls Try.prog 16 #[v, v'] w fun r w' => r = .returned (.bool true) ∧ Below w.heap.size w w' := by
  have hl : M.length = L.length := by have := congrArg List.length h; simpa using this.symm
  obtain ⟨p, c, rfl, h1, h2⟩ := hL.form
  obtain ⟨p', c', rfl, h3, h4⟩ := hM.form
  rw [hl] at h3 hM ⊢
  have HH := Lib.hid h; have HL := Lib.hid hL; have HM := Lib.hid hM; have HKS := Lib.hid hks; have HLL := Lib.hid hl
  unfold maxLen at h2 h4
  clear h hL hM hks hl
  go_enter Try.func16, Try.ntmps16
  go_upto_region 4 with fail
  obtain ⟨U, f, hU, hf, hg⟩ := calm_class (w); obtain ⟨u0, hu0⟩ := hg _ (Below.refl _ _); rw [hu0]; clear hu0
  have HLu : Hid (∀ u, EvSl (f u) (.slice p L.length c) L) := fun u => HL.out.keep (hf u) (Nat.le_refl _)
  have HMu : Hid (∀ u, EvSl (f u) (.slice p' L.length c') M) := fun u => HM.out.keep (hf u) (Nat.le_refl _)
  go_wp2_with fail
  go_loopw [5] (fun i wr => ∃ k : Nat, k ≤ L.length ∧ i = .int .i64 k ∧ ∃ u, wr = f u) (fun i _ => L.length - (intOf i).toNat)
  case atStart => exact ⟨0, Nat.zero_le _, rfl, _, rfl⟩
  case round =>
    obtain ⟨k, hk, rfl, u, rfl⟩ := hrel
    by_cases hlt : k < L.length
    · have hlt' : k < M.length := by rw [HLL.out]; exact hlt
      have he : L[k].1 = M[k].1 := by
        have := congrArg (fun l => l[k]?) HH.out
        simpa [List.getElem?_map, List.getElem?_eq_getElem hlt, List.getElem?_eq_getElem hlt'] using this
      obtain ⟨g, o, cap, hv, -, -, hgl, -⟩ := (HLu.out u).at k hlt
      obtain ⟨g', o', cap', hv', -, -, hgl', -⟩ := (HMu.out u).at k hlt'
      simp only [Value.slice.injEq] at hv hv'
      obtain ⟨hv, -⟩ := hv
      obtain ⟨hv', -⟩ := hv'
      have hkl := HKS.out _ (List.getElem_mem hlt)
      have nA := fun u => (HLu.out u).2 _ (List.getElem_mem hlt)
      have nB := fun u => (HMu.out u).2 _ (List.getElem_mem hlt')
      obtain ⟨⟨e, pe, ce⟩, hxL⟩ : ∃ x, L[k] = x := ⟨_, rfl⟩
      obtain ⟨⟨e', pe', ce'⟩, hxM⟩ : ∃ x, M[k] = x := ⟨_, rfl⟩
      rw [hxL] at he nA hkl
      rw [hxM] at he nB
      simp only at he nA nB hkl
      subst he
      subst hv; subst hv'
      have ha0 : ∀ u, (f u).cell? ⟨g, o + k * 11, none⟩ = some (.int .i64 e.k) := fun u => (HLu.out u).cell hlt hxL 0 (by decide)
      have ha1 : ∀ u, (f u).cell? ⟨g, o + k * 11 + 1, none⟩ = some (.int .i64 e.n) := fun u => (HLu.out u).cell hlt hxL 1 (by decide)
      have ha2 : ∀ u, (f u).cell? ⟨g, o + k * 11 + 2, none⟩ = some (.int .i64 e.i) := fun u => (HLu.out u).cell hlt hxL 2 (by decide)
      have ha3 : ∀ u, (f u).cell? ⟨g, o + k * 11 + 3, none⟩ = some (.int .i64 e.w) := fun u => (HLu.out u).cell hlt hxL 3 (by decide)
      have ha4 : ∀ u, (f u).cell? ⟨g, o + k * 11 + 4, none⟩ = some (.string e.t) := fun u => (HLu.out u).cell hlt hxL 4 (by decide)
      have ha5 : ∀ u, (f u).cell? ⟨g, o + k * 11 + 5, none⟩ = some (.slice pe e.ks.length ce) := fun u => (HLu.out u).cell hlt hxL 5 (by decide)
      have ha6 : ∀ u, (f u).cell? ⟨g, o + k * 11 + 6, none⟩ = some (.int .u16 e.cv) := fun u => (HLu.out u).cell hlt hxL 6 (by decide)
      have ha7 : ∀ u, (f u).cell? ⟨g, o + k * 11 + 7, none⟩ = some (.int .u16 e.cx) := fun u => (HLu.out u).cell hlt hxL 7 (by decide)
      have ha8 : ∀ u, (f u).cell? ⟨g, o + k * 11 + 8, none⟩ = some (.int .u16 e.cl) := fun u => (HLu.out u).cell hlt hxL 8 (by decide)
      have ha9 : ∀ u, (f u).cell? ⟨g, o + k * 11 + 9, none⟩ = some (.int .i64 e.ce) := fun u => (HLu.out u).cell hlt hxL 9 (by decide)
      have ha10 : ∀ u, (f u).cell? ⟨g, o + k * 11 + 10, none⟩ = some (.int .i64 e.ck) := fun u => (HLu.out u).cell hlt hxL 10 (by decide)
      have hb0 : ∀ u, (f u).cell? ⟨g', o' + k * 11, none⟩ = some (.int .i64 e.k) := fun u => (HMu.out u).cell hlt' hxM 0 (by decide)
      have hb1 : ∀ u, (f u).cell? ⟨g', o' + k * 11 + 1, none⟩ = some (.int .i64 e.n) := fun u => (HMu.out u).cell hlt' hxM 1 (by decide)
      have hb2 : ∀ u, (f u).cell? ⟨g', o' + k * 11 + 2, none⟩ = some (.int .i64 e.i) := fun u => (HMu.out u).cell hlt' hxM 2 (by decide)
      have hb3 : ∀ u, (f u).cell? ⟨g', o' + k * 11 + 3, none⟩ = some (.int .i64 e.w) := fun u => (HMu.out u).cell hlt' hxM 3 (by decide)
      have hb4 : ∀ u, (f u).cell? ⟨g', o' + k * 11 + 4, none⟩ = some (.string e.t) := fun u => (HMu.out u).cell hlt' hxM 4 (by decide)
      have hb5 : ∀ u, (f u).cell? ⟨g', o' + k * 11 + 5, none⟩ = some (.slice pe' e.ks.length ce') := fun u => (HMu.out u).cell hlt' hxM 5 (by decide)
      have hb6 : ∀ u, (f u).cell? ⟨g', o' + k * 11 + 6, none⟩ = some (.int .u16 e.cv) := fun u => (HMu.out u).cell hlt' hxM 6 (by decide)
      have hb7 : ∀ u, (f u).cell? ⟨g', o' + k * 11 + 7, none⟩ = some (.int .u16 e.cx) := fun u => (HMu.out u).cell hlt' hxM 7 (by decide)
      have hb8 : ∀ u, (f u).cell? ⟨g', o' + k * 11 + 8, none⟩ = some (.int .u16 e.cl) := fun u => (HMu.out u).cell hlt' hxM 8 (by decide)
      have hb9 : ∀ u, (f u).cell? ⟨g', o' + k * 11 + 9, none⟩ = some (.int .i64 e.ce) := fun u => (HMu.out u).cell hlt' hxM 9 (by decide)
      have hb10 : ∀ u, (f u).cell? ⟨g', o' + k * 11 + 10, none⟩ = some (.int .i64 e.ck) := fun u => (HMu.out u).cell hlt' hxM 10 (by decide)
      have NA := Lib.hid nA; have NB := Lib.hid nB
      have hd1 : decide ((k : Int) < (L.length : Int)) = true := by simp; omega
      clear hxL hxM nA nB
      go_wp2_with fail
      refine wp_region_calm f (by kernel_rfl) (by kernel_rfl) (calm_drew hf hg _) ?_
      repeat (go_big_quiet_step ((first | (go_at_call 39; with_reducible exact calm_of hf hg (same29_yes _ _ _ _ _ _ hkl (NA.out _) (NB.out _))))))
      refine wpQuiet_nil ?_; rintro _ ⟨u, rfl⟩
      go_wp2_with fail
      go_roundw
      case rel => exact ⟨k + 1, by omega, by go_num, _, rfl⟩
      case measure => simp [intOf]; omega
    · go_wp2_with fail
      go_ret
      exact ⟨rfl, hf _⟩
end Go.Proofs.Ytihkkoldjllifaa
