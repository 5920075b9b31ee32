/- Wire: are a state's cells not too great? -/
import Derived.Test.YtmhmlpfkdpjlaaaWireS
namespace Go.Proofs.Ytmhmlpfkdpjlaaa
open Go.ChangeShapes Go.WideShapes Go.ChangeAt Go.RowKit

/-- A cell that is not too great. -/
structure LcX (x : CeX) : Prop where
  n : x.vs.length ≤ 30
  k : x.k.size ≤ 100
  l : x.ld.size ≤ 300
  d : ∀ i, (hi : i < x.vs.length) → x.vs[i].d.size ≤ 300
def L8 (L : List CeL) : Prop := L.length ≤ 60 ∧ ∀ j, (hj : j < L.length) → LcX L[j].1
def L8End (L : List CeL) (w : World) (e : Ending) (w' : World) : Prop := (∃ b, e = .returned (.bool b) ∧ (b = true → L8 L)) ∧ Below w.heap.size w w'
theorem l8_no {L : List CeL} {w w' : World} (hb : Below w.heap.size w w') : L8End L w (.returned (.bool false)) w' := ⟨⟨false, rfl, fun h => by cases h⟩, hb⟩
theorem l8_yes {L : List CeL} {w w' : World} (h : L8 L) (hb : Below w.heap.size w w') : L8End L w (.returned (.bool true)) w' := ⟨⟨true, rfl, fun _ => h⟩, hb⟩
set_option maxRecDepth 100000 in
set_option maxHeartbeats 8000000 in
theorem light8_any (L : List CeL) (p : Option Addr) (c : Nat) (w : World) (h : CesAt w p L) :
    Calls Try.prog 31 #[.slice p L.length c] w (L8End L w) := by
  have H := Lib.hid h
  clear h
  by_cases hn : 60 < L.length
  · have hd : decide ((60 : Int) < (L.length : Int)) = true := by simp; omega
    go_enter Try.func31, Try.ntmps31
    go_wp2_with fail
    go_ret
    exact l8_no (Below.refl _ _)
  have hd : decide ((60 : Int) < (L.length : Int)) = false := by simp; omega
  go_enter Try.func31, Try.ntmps31
  obtain ⟨U, f, hU, hf, hg⟩ := calm_class w
  obtain ⟨u0, hu0⟩ := hg _ (Below.refl _ _)
  have HB0 : Hid (∀ u, Below (f u0).heap.size (f u0) (f u)) := by show ∀ u, _; rw [← hu0]; exact hf
  rw [hu0]; clear hu0
  go_wp2_with fail
  clear hd
  go_loopw [3] (fun i wr => ∃ k : Nat, k ≤ L.length ∧ i = .int .i64 k ∧ Hid (∀ j, (hj : j < L.length) → j < k → LcX L[j].1) ∧ ∃ u, wr = f u) (fun i _ => L.length - (intOf i).toNat)
  case atStart => exact ⟨0, Nat.zero_le _, rfl, fun j hj h => absurd h (by omega), _, rfl⟩
  case round =>
    obtain ⟨k, hk, rfl, HT, u, rfl⟩ := hrel
    by_cases hlt : k < L.length
    · have hd1 : decide ((k : Int) < (L.length : Int)) = true := by simp; omega
      have hgt : (k : Int) < (L.length : Int) := by omega
      obtain ⟨g, o, hpe, hg0, hv, h0, hc1, h2, h3, h4, h5, h6, h7, h8, h9, h10, h11⟩ := H.out k hlt
      obtain ⟨⟨x, px, cx⟩, hx⟩ : ∃ e, L[k] = e := ⟨_, rfl⟩
      rw [hx] at hv h0 hc1 h11
      dsimp only at hv h0 hc1 h11
      subst hpe
      have HV := Lib.hid hv
      have q0 : ∀ u, (f u).cell? ⟨g, o + k * 12, none⟩ = some (.string x.k) := fun u => ((hf u).cell (p := ⟨g, o + k * 12, none⟩) hg0).trans h0
      have q1 : ∀ u, (f u).cell? ⟨g, o + k * 12 + 1, none⟩ = some (.slice px x.vs.length cx) := fun u => ((hf u).cell (p := ⟨g, o + k * 12 + 1, none⟩) hg0).trans hc1
      have q11 : ∀ u, (f u).cell? ⟨g, o + k * 12 + 11, none⟩ = some (.string x.ld) := fun u => ((hf u).cell (p := ⟨g, o + k * 12 + 11, none⟩) hg0).trans h11
      have HXV : Hid (LcX x → ∀ j, (hj : j < L.length) → j < k + 1 → LcX L[j].1) := fun hx30 j hj hjk => by
        by_cases hjk' : j < k
        · exact HT.out j hj hjk'
        · obtain rfl : j = k := by omega
          rw [hx]; exact hx30
      clear hx hv h0 hc1 h2 h3 h4 h5 h6 h7 h8 h9 h10 h11
      by_cases p1 : 30 < x.vs.length
      · have r1 : decide ((30 : Int) < (x.vs.length : Int)) = true := by simp; omega
        go_wp2_with fail
        go_ret
        exact l8_no (HB0.out _)
      have r1 : decide ((30 : Int) < (x.vs.length : Int)) = false := by simp; omega
      by_cases p2 : 100 < x.k.size
      · have r2 : decide ((100 : Int) < (x.k.size : Int)) = true := by simp; omega
        go_wp2_with fail
        go_ret
        exact l8_no (HB0.out _)
      have r2 : decide ((100 : Int) < (x.k.size : Int)) = false := by simp; omega
      by_cases p3 : 300 < x.ld.size
      · have r3 : decide ((300 : Int) < (x.ld.size : Int)) = true := by simp; omega
        go_wp2_with fail
        go_ret
        exact l8_no (HB0.out _)
      have r3 : decide ((300 : Int) < (x.ld.size : Int)) = false := by simp; omega
      have HT2 : Hid ((∀ i, (hi : i < x.vs.length) → x.vs[i].d.size ≤ 300) → ∀ j, (hj : j < L.length) → j < k + 1 → LcX L[j].1) := fun hd => HXV.out ⟨by omega, by omega, by omega, hd⟩
      clear HXV
      go_wp2_with fail
      clear r1 r2 r3
      go_loopw [4] (fun i wr => ∃ m : Nat, m ≤ x.vs.length ∧ i = .int .i64 m ∧ Hid (∀ i, (hi : i < x.vs.length) → i < m → x.vs[i].d.size ≤ 300) ∧ ∃ u, wr = f u) (fun i _ => x.vs.length - (intOf i).toNat)
      case atStart => exact ⟨0, Nat.zero_le _, rfl, fun i hi h => absurd h (by omega), _, rfl⟩
      case round =>
        obtain ⟨m, hm, rfl, HM, u, rfl⟩ := hrel
        by_cases hmt : m < x.vs.length
        · have s1 : decide ((m : Int) < (x.vs.length : Int)) = true := by simp; omega
          have hgm : (m : Int) < (x.vs.length : Int) := by omega
          obtain ⟨gv, ov, hpv, hgv, v0, v1, v2, v3⟩ := HV.out m hmt
          obtain ⟨d, hdd⟩ : ∃ d, x.vs[m].d = d := ⟨_, rfl⟩
          rw [hdd] at v3
          subst hpv
          have qv : ∀ u, (f u).cell? ⟨gv, ov + m * 4 + 3, none⟩ = some (.string d) := fun u => ((hf u).cell (p := ⟨gv, ov + m * 4 + 3, none⟩) hgv).trans v3
          have HMX : Hid (d.size ≤ 300 → ∀ i, (hi : i < x.vs.length) → i < m + 1 → x.vs[i].d.size ≤ 300) := fun hd300 i hi him => by
            by_cases hc : i < m
            · exact HM.out i hi hc
            · obtain rfl : i = m := by omega
              rw [hdd]; exact hd300
          clear hdd v0 v1 v2 v3
          by_cases p4 : 300 < d.size
          · have r4 : decide ((300 : Int) < (d.size : Int)) = true := by simp; omega
            go_wp2_with fail
            go_ret
            exact l8_no (HB0.out _)
          have r4 : decide ((300 : Int) < (d.size : Int)) = false := by simp; omega
          have HM2 := Lib.hid (HMX.out (by omega))
          clear HMX HM
          go_wp2_with fail
          go_roundw
          case rel => exact ⟨m + 1, by omega, by go_num, HM2, _, rfl⟩
          case measure => simp [intOf]; omega
        · obtain rfl : m = x.vs.length := by omega
          have s1 : decide ((x.vs.length : Int) < (x.vs.length : Int)) = false := by simp
          have HT3 := Lib.hid (HT2.out (fun i hi => HM.out i hi hi))
          clear HT2 HM
          go_wp2_with fail
          go_roundw
          case rel => exact ⟨k + 1, by omega, by go_num, HT3, _, rfl⟩
          case measure => simp [intOf]; omega
    · obtain rfl : k = L.length := by omega
      have hd1 : decide ((L.length : Int) < (L.length : Int)) = false := by simp
      have HY : Hid (L8 L) := ⟨by omega, fun j hj => HT.out j hj hj⟩
      go_wp2_with fail
      go_ret
      exact l8_yes HY.out (HB0.out _)
def LpEnd (L : List CeL) (R D : List OuX) (w : World) (e : Ending) (w' : World) : Prop := (∃ b, e = .returned (.bool b) ∧ (b = true → L8 L ∧ R.length < 100 ∧ D.length < 100)) ∧ Below w.heap.size w w'
theorem lp_no {L : List CeL} {R D : List OuX} {w w' : World} (hb : Below w.heap.size w w') : LpEnd L R D w (.returned (.bool false)) w' := ⟨⟨false, rfl, fun h => by cases h⟩, hb⟩
theorem lp_yes {L : List CeL} {R D : List OuX} {w w' : World} (h : L8 L ∧ R.length < 100 ∧ D.length < 100) (hb : Below w.heap.size w w') : LpEnd L R D w (.returned (.bool true)) w' := ⟨⟨true, rfl, fun _ => h⟩, hb⟩
set_option maxRecDepth 100000 in
set_option maxHeartbeats 4000000 in
theorem lightPart_any (ae ah afw aft acl alo : Int) (L : List CeL) (R D : List OuX) (p q s : Option Addr) (c d t : Nat) (w : World) (h : CesAt w p L) :
    Calls Try.prog 9 #[.agg #[.int .i64 ae, .int .i64 ah, .int .i64 afw, .int .i64 aft, .int .i64 acl, .int .i64 alo, .slice p L.length c, .slice q R.length d, .slice s D.length t]] w (LpEnd L R D w) := by
  have hW0 : Below w.heap.size w (w.alloc (.cells #[.int .i64 ae, .int .i64 ah, .int .i64 afw, .int .i64 aft, .int .i64 acl, .int .i64 alo, .slice p L.length c, .slice q R.length d, .slice s D.length t] 33)) := (Below.refl _ _).alloc (Nat.le_refl _) _
  obtain ⟨W, hW⟩ : ∃ W, w.alloc (.cells #[.int .i64 ae, .int .i64 ah, .int .i64 afw, .int .i64 aft, .int .i64 acl, .int .i64 alo, .slice p L.length c, .slice q R.length d, .slice s D.length t] 33) = W := ⟨_, rfl⟩
  have hA := heap_last w (.cells #[.int .i64 ae, .int .i64 ah, .int .i64 afw, .int .i64 aft, .int .i64 acl, .int .i64 alo, .slice p L.length c, .slice q R.length d, .slice s D.length t] 33)
  rw [hW] at hA hW0
  have HA := Lib.hid hA; have HB := Lib.hid hW0; have HW := Lib.hid hW
  have HC := Lib.hid (light8_any L p c W (h.keep hW0 (Nat.le_refl _)))
  clear h hA hW hW0
  go_enter Try.func9, Try.ntmps9
  go_wp2_with fail
  rw [HW.out]
  refine HC.out.mono ?_; rintro e w1 ⟨⟨b, rfl, hb⟩, hb1⟩
  have kA := block_cells (below_block hb1 (block_lt HA.out) HA.out)
  have HB1 := Lib.hid (HB.out.trans (hb1.mono HB.out.size))
  have HL := Lib.hid hb
  clear hb hb1 HC HA HW
  by_cases p2 : R.length < 100
  · have r2 : decide ((R.length : Int) < 100) = true := by simp; omega
    by_cases p3 : D.length < 100
    · have r3 : decide ((D.length : Int) < 100) = true := by simp; omega
      cases b
      · go_wp2_with fail
        go_ret
        exact lp_no HB1.out
      · have HY := Lib.hid (And.intro (HL.out rfl) (And.intro p2 p3))
        go_wp2_with fail
        go_ret
        exact lp_yes HY.out HB1.out
    · have r3 : decide ((D.length : Int) < 100) = false := by simp; omega
      cases b
      all_goals
        go_wp2_with fail
        go_ret
        exact lp_no HB1.out
  · have r2 : decide ((R.length : Int) < 100) = false := by simp; omega
    cases b
    all_goals
      go_wp2_with fail
      go_ret
      exact lp_no HB1.out
end Go.Proofs.Ytmhmlpfkdpjlaaa
