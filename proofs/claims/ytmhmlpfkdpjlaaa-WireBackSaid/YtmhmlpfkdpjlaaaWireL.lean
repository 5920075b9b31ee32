/- Wire: is a command not too great? -/
import Derived.Test.YtmhmlpfkdpjlaaaWireC
import Derived.Test.YtmhmlpfkdpjlaaaWireE
import Derived.Test.YtmhmlpfkdpjlaaaStampA
namespace Go.Proofs.Ytmhmlpfkdpjlaaa
open Go.ChangeShapes Go.WideShapes Go.ChangeAt Go.RowKit

def szSp (l : List SpX) : Nat := (l.map fun x => x.lo.size + x.hi.size).sum
def szWr (l : List WrX) : Nat := (l.map fun x => x.k.size + x.d.size).sum
theorem sz_next {α : Type} {g : α → Nat} {l : List α} {k : Nat} (h : k < l.length) : ((l.take (k + 1)).map g).sum = ((l.take k).map g).sum + g l[k] := by
  rw [List.take_succ_eq_append_getElem h, List.map_append, List.sum_append]
  simp only [List.map_cons, List.map_nil, List.sum_cons, List.sum_nil, Nat.add_zero]
/-- Not too great. -/
def LtC (c : CmX) : Prop := szSp c.sp + szWr c.wr < 8192 ∧ c.sp.length < 100 ∧ c.wr.length < 100
/-- It is told, and if it is told to be, then it is. -/
def LcEnd (c : CmX) (w : World) (e : Ending) (w' : World) : Prop := (∃ b, e = .returned (.bool b) ∧ (b = true → LtC c)) ∧ Below w.heap.size w w'
theorem lc_no {c : CmX} {w w' : World} (hb : Below w.heap.size w w') : LcEnd c w (.returned (.bool false)) w' := ⟨⟨false, rfl, fun h => by cases h⟩, hb⟩
theorem lc_yes {c : CmX} {w w' : World} (h : LtC c) (hb : Below w.heap.size w w') : LcEnd c w (.returned (.bool true)) w' := ⟨⟨true, rfl, fun _ => h⟩, hb⟩
set_option maxRecDepth 100000 in
set_option maxHeartbeats 8000000 in
theorem lightCmd_any (c : CmX) (ps pw : Option Addr) (cs cw : Nat) (w : World) (hn1 : (c.sp.length : Int) ≤ 9223372036854775807) (hn2 : (c.wr.length : Int) ≤ 9223372036854775807) (hsp : SpsAt w ps c.sp) (hwr : WrsAt w pw c.wr) :
    Calls Try.prog 8 #[.agg #[.int .i64 c.k, .int .i64 c.e, .int .i64 c.n, .int .i64 c.h, .int .i64 c.yn, .int .i64 c.yl, .int .i64 c.ys, .int .i64 c.ya, .int .i64 c.sw, .int .i64 c.st, .int .i64 c.w, .bool c.yes, .slice ps c.sp.length cs, .slice pw c.wr.length cw]] w (LcEnd c w) := by
  have HSP := Lib.hid hsp; have HWR := Lib.hid hwr
  clear hsp hwr
  go_enter Try.func8, Try.ntmps8
  go_upto_region 1 with fail
  obtain ⟨W, hW⟩ : ∃ W, w.alloc (.cells #[.int .i64 c.k, .int .i64 c.e, .int .i64 c.n, .int .i64 c.h, .int .i64 c.yn, .int .i64 c.yl, .int .i64 c.ys, .int .i64 c.ya, .int .i64 c.sw, .int .i64 c.st, .int .i64 c.w, .bool c.yes, .slice ps c.sp.length cs, .slice pw c.wr.length cw] 29) = W := ⟨_, rfl⟩
  have hA : W.heap[w.heap.size]? = some (.cells #[.int .i64 c.k, .int .i64 c.e, .int .i64 c.n, .int .i64 c.h, .int .i64 c.yn, .int .i64 c.yl, .int .i64 c.ys, .int .i64 c.ya, .int .i64 c.sw, .int .i64 c.st, .int .i64 c.w, .bool c.yes, .slice ps c.sp.length cs, .slice pw c.wr.length cw] 29 (0, 0)) := by rw [← hW]; exact heap_last w _
  have hB1 : Below w.heap.size w W := by rw [← hW]; exact (Below.refl _ _).alloc (Nat.le_refl _) _
  have HS := Lib.hid (HSP.out.keep hB1 (Nat.le_refl _)); have HR := Lib.hid (HWR.out.keep hB1 (Nat.le_refl _))
  have HBW : Hid (∀ w', Below W.heap.size W w' → Below w.heap.size w w') := fun w' h => hB1.trans (h.mono hB1.size)
  have HA := Lib.hid hA
  rw [hW]
  obtain ⟨A, eA⟩ : ∃ A, w.heap.size = A := ⟨_, rfl⟩
  have HEA := Lib.hid eA
  rw [eA] at HA ⊢
  clear hW hA eA hB1 HSP HWR
  obtain ⟨U, f, hU, hf, hg⟩ := calm_class (W); obtain ⟨u0, hu0⟩ := hg _ (Below.refl _ _); rw [hu0]; clear hu0
  have kA := fun u => block_cells (calm_heap hf HA.out u)
  go_wp2_with fail
  go_loopw [3, 4] (fun s i wr => ∃ k n : Nat, k ≤ c.sp.length ∧ s = .int .i64 n ∧ i = .int .i64 k ∧ n ≤ 40000 ∧ Hid (n = szSp (c.sp.take k)) ∧ ∃ u, wr = f u) (fun _ i _ => c.sp.length - (intOf i).toNat)
  case atStart => exact ⟨0, 0, Nat.zero_le _, rfl, rfl, by omega, rfl, _, rfl⟩
  case round =>
    obtain ⟨k, n, hk, rfl, rfl, hn, HN, u, rfl⟩ := hrel
    by_cases hin : k < c.sp.length ∧ n < 16384
    · obtain ⟨hlt, hns⟩ := hin
      have hd : decide ((k : Int) < (c.sp.length : Int)) = true := by simp; omega
      have hd2 : decide ((n : Int) < 16384) = true := by simp; omega
      have hgt : (k : Int) < (c.sp.length : Int) := by omega
      obtain ⟨g, o, hpe, hg0, hc1, hc2⟩ := HS.out k hlt
      obtain ⟨x, hx⟩ : ∃ x, c.sp[k] = x := ⟨_, rfl⟩
      rw [hx] at hc1 hc2
      subst hpe
      have q1 : ∀ u, (f u).cell? ⟨g, o + k * 2, none⟩ = some (.string x.lo) := fun u => ((hf u).cell (p := ⟨g, o + k * 2, none⟩) hg0).trans hc1
      have q2 : ∀ u, (f u).cell? ⟨g, o + k * 2 + 1, none⟩ = some (.string x.hi) := fun u => ((hf u).cell (p := ⟨g, o + k * 2 + 1, none⟩) hg0).trans hc2
      have HNX : Hid (szSp (c.sp.take (k + 1)) = n + (x.lo.size + x.hi.size)) := by show _ = _; unfold szSp; rw [sz_next hlt, hx, HN.out]; rfl
      clear hx hc1 hc2
      by_cases h1 : 8192 < x.lo.size
      · have hq1 : decide ((8192 : Int) < (x.lo.size : Int)) = true := by simp; omega
        go_wp2_with fail
        go_ret
        exact lc_no (HBW.out _ (hf _))
      have hq1 : decide ((8192 : Int) < (x.lo.size : Int)) = false := by simp; omega
      by_cases h2 : 8192 < x.hi.size
      · have hq2 : decide ((8192 : Int) < (x.hi.size : Int)) = true := by simp; omega
        go_wp2_with fail
        go_ret
        exact lc_no (HBW.out _ (hf _))
      have hq2 : decide ((8192 : Int) < (x.hi.size : Int)) = false := by simp; omega
      have hw1 : IntKind.i64.wrap ((n : Int) + (x.lo.size : Int)) = (n : Int) + x.lo.size := by rw [IntKind.wrap_i64]; omega
      have hw2 : IntKind.i64.wrap ((n : Int) + (x.lo.size : Int) + (x.hi.size : Int)) = (n : Int) + x.lo.size + x.hi.size := by rw [IntKind.wrap_i64]; omega
      go_wp2_with fail
      refine wp_region_calm f (by kernel_rfl) (by kernel_rfl) (calm_drew hf hg _) ?_
      repeat (go_big_quiet_step ((first | fail)))
      refine wpQuiet_nil ?_; rintro _ ⟨u, rfl⟩
      go_wp2_with fail
      go_roundw
      case rel => exact ⟨k + 1, n + (x.lo.size + x.hi.size), by omega, by go_num, by go_num, by omega, HNX.out.symm, _, rfl⟩
      case measure => simp [intOf]; omega
    · have HX1 : Hid ((k = c.sp.length ∨ 16384 ≤ n)) := by show _ ∨ _; omega
      have HN1 : Hid (16384 ≤ n ∨ n = szSp c.sp) := by
        show _ ∨ _
        rcases HX1.out with h | h
        · right; have := HN.out; rw [h, List.take_length] at this; exact this
        · exact .inl h
      have hdd : (k < c.sp.length ∧ 16384 ≤ n) ∨ k = c.sp.length := by omega
      clear hin
      rcases hdd with ⟨hlt, h16⟩ | hke
      · have hd : decide ((k : Int) < (c.sp.length : Int)) = true := by simp; omega
        have hd2 : decide ((n : Int) < 16384) = false := by simp; omega
        go_wp2_with fail
        go_loopw [3, 5] (fun s i wr => ∃ k2 n2 : Nat, k2 ≤ c.wr.length ∧ s = .int .i64 n2 ∧ i = .int .i64 k2 ∧ n2 ≤ 80000 ∧ Hid (n2 = n + szWr (c.wr.take k2)) ∧ ∃ u, wr = f u) (fun _ i _ => c.wr.length - (intOf i).toNat)
        case atStart => exact ⟨0, n, Nat.zero_le _, rfl, rfl, by omega, rfl, _, rfl⟩
        case round =>
          obtain ⟨k2, n2, hk2, rfl, rfl, hnn, HM, u, rfl⟩ := hrel
          by_cases hin2 : k2 < c.wr.length ∧ n2 < 16384
          · obtain ⟨hlt2, hns2⟩ := hin2
            have he : decide ((k2 : Int) < (c.wr.length : Int)) = true := by simp; omega
            have he2 : decide ((n2 : Int) < 16384) = true := by simp; omega
            have hgt2 : (k2 : Int) < (c.wr.length : Int) := by omega
            obtain ⟨g, o, hpe, hg0, hc1, hc2, hc3⟩ := HR.out k2 hlt2
            obtain ⟨x, hx⟩ : ∃ x, c.wr[k2] = x := ⟨_, rfl⟩
            rw [hx] at hc1 hc2 hc3
            subst hpe
            have q1 : ∀ u, (f u).cell? ⟨g, o + k2 * 3, none⟩ = some (.string x.k) := fun u => ((hf u).cell (p := ⟨g, o + k2 * 3, none⟩) hg0).trans hc1
            have q2 : ∀ u, (f u).cell? ⟨g, o + k2 * 3 + 2, none⟩ = some (.string x.d) := fun u => ((hf u).cell (p := ⟨g, o + k2 * 3 + 2, none⟩) hg0).trans hc3
            have HNX : Hid (n + szWr (c.wr.take (k2 + 1)) = n2 + (x.k.size + x.d.size)) := by show _ = _; rw [HM.out]; unfold szWr; rw [sz_next hlt2, hx]; omega
            clear hx hc1 hc2 hc3
            by_cases h1 : 8192 < x.k.size
            · have hq1 : decide ((8192 : Int) < (x.k.size : Int)) = true := by simp; omega
              go_wp2_with fail
              go_ret
              exact lc_no (HBW.out _ (hf _))
            have hq1 : decide ((8192 : Int) < (x.k.size : Int)) = false := by simp; omega
            by_cases h2 : 8192 < x.d.size
            · have hq2 : decide ((8192 : Int) < (x.d.size : Int)) = true := by simp; omega
              go_wp2_with fail
              go_ret
              exact lc_no (HBW.out _ (hf _))
            have hq2 : decide ((8192 : Int) < (x.d.size : Int)) = false := by simp; omega
            have hw1 : IntKind.i64.wrap ((n2 : Int) + (x.k.size : Int)) = (n2 : Int) + x.k.size := by rw [IntKind.wrap_i64]; omega
            have hw2 : IntKind.i64.wrap ((n2 : Int) + (x.k.size : Int) + (x.d.size : Int)) = (n2 : Int) + x.k.size + x.d.size := by rw [IntKind.wrap_i64]; omega
            go_wp2_with fail
            refine wp_region_calm f (by kernel_rfl) (by kernel_rfl) (calm_drew hf hg _) ?_
            repeat (go_big_quiet_step ((first | fail)))
            refine wpQuiet_nil ?_; rintro _ ⟨u, rfl⟩
            go_wp2_with fail
            go_roundw
            case rel => exact ⟨k2 + 1, n2 + (x.k.size + x.d.size), by omega, by go_num, by go_num, by omega, HNX.out.symm, _, rfl⟩
            case measure => simp [intOf]; omega
          · have HX2 : Hid (k2 = c.wr.length ∨ 16384 ≤ n2) := by show _ ∨ _; omega
            have HF : Hid (n2 < 8192 → c.sp.length < 100 → c.wr.length < 100 → LtC c) := fun h1 h2 h3 => by
              have e1 := HX2.out; have e2 := HM.out; have e3 := HN1.out
              have hk : k2 = c.wr.length := by omega
              rw [hk, List.take_length] at e2
              refine ⟨?_, h2, h3⟩
              rcases e3 with e3 | e3
              · omega
              · omega
            have hee : (k2 < c.wr.length ∧ 16384 ≤ n2) ∨ k2 = c.wr.length := by omega
            rcases hee with ⟨hl2, h162⟩ | hke2
            · have he : decide ((k2 : Int) < (c.wr.length : Int)) = true := by simp; omega
              have he2 : decide ((n2 : Int) < 16384) = false := by simp; omega
              have he3 : decide ((n2 : Int) < 8192) = false := by simp; omega
              go_wp2_with fail
              go_ret
              exact lc_no (HBW.out _ (hf _))
            · subst hke2
              have he : decide ((c.wr.length : Int) < (c.wr.length : Int)) = false := by simp
              by_cases p1 : n2 < 8192
              rotate_left
              · have he3 : decide ((n2 : Int) < 8192) = false := by simp; omega
                by_cases p0 : n2 < 16384
                · have he2 : decide ((n2 : Int) < 16384) = true := by simp; omega
                  go_wp2_with fail
                  go_ret
                  exact lc_no (HBW.out _ (hf _))
                · have he2 : decide ((n2 : Int) < 16384) = false := by simp; omega
                  go_wp2_with fail
                  go_ret
                  exact lc_no (HBW.out _ (hf _))
              have he3 : decide ((n2 : Int) < 8192) = true := by simp; omega
              have he2 : decide ((n2 : Int) < 16384) = true := by simp; omega
              by_cases p2 : c.sp.length < 100
              rotate_left
              · have he4 : decide ((c.sp.length : Int) < 100) = false := by simp; omega
                go_wp2_with fail
                go_ret
                exact lc_no (HBW.out _ (hf _))
              have he4 : decide ((c.sp.length : Int) < 100) = true := by simp; omega
              by_cases p3 : c.wr.length < 100
              rotate_left
              · have he5 : decide ((c.wr.length : Int) < 100) = false := by simp; omega
                go_wp2_with fail
                go_ret
                exact lc_no (HBW.out _ (hf _))
              have he5 : decide ((c.wr.length : Int) < 100) = true := by simp; omega
              have HLT := Lib.hid (HF.out p1 p2 p3)
              go_wp2_with fail
              go_ret
              exact lc_yes HLT.out (HBW.out _ (hf _))
      · subst hke
        have hd : decide ((c.sp.length : Int) < (c.sp.length : Int)) = false := by simp
        go_wp2_with fail
        go_loopw [3, 5] (fun s i wr => ∃ k2 n2 : Nat, k2 ≤ c.wr.length ∧ s = .int .i64 n2 ∧ i = .int .i64 k2 ∧ n2 ≤ 80000 ∧ Hid (n2 = n + szWr (c.wr.take k2)) ∧ ∃ u, wr = f u) (fun _ i _ => c.wr.length - (intOf i).toNat)
        case atStart => exact ⟨0, n, Nat.zero_le _, rfl, rfl, by omega, rfl, _, rfl⟩
        case round =>
          obtain ⟨k2, n2, hk2, rfl, rfl, hnn, HM, u, rfl⟩ := hrel
          by_cases hin2 : k2 < c.wr.length ∧ n2 < 16384
          · obtain ⟨hlt2, hns2⟩ := hin2
            have he : decide ((k2 : Int) < (c.wr.length : Int)) = true := by simp; omega
            have he2 : decide ((n2 : Int) < 16384) = true := by simp; omega
            have hgt2 : (k2 : Int) < (c.wr.length : Int) := by omega
            obtain ⟨g, o, hpe, hg0, hc1, hc2, hc3⟩ := HR.out k2 hlt2
            obtain ⟨x, hx⟩ : ∃ x, c.wr[k2] = x := ⟨_, rfl⟩
            rw [hx] at hc1 hc2 hc3
            subst hpe
            have q1 : ∀ u, (f u).cell? ⟨g, o + k2 * 3, none⟩ = some (.string x.k) := fun u => ((hf u).cell (p := ⟨g, o + k2 * 3, none⟩) hg0).trans hc1
            have q2 : ∀ u, (f u).cell? ⟨g, o + k2 * 3 + 2, none⟩ = some (.string x.d) := fun u => ((hf u).cell (p := ⟨g, o + k2 * 3 + 2, none⟩) hg0).trans hc3
            have HNX : Hid (n + szWr (c.wr.take (k2 + 1)) = n2 + (x.k.size + x.d.size)) := by show _ = _; rw [HM.out]; unfold szWr; rw [sz_next hlt2, hx]; omega
            clear hx hc1 hc2 hc3
            by_cases h1 : 8192 < x.k.size
            · have hq1 : decide ((8192 : Int) < (x.k.size : Int)) = true := by simp; omega
              go_wp2_with fail
              go_ret
              exact lc_no (HBW.out _ (hf _))
            have hq1 : decide ((8192 : Int) < (x.k.size : Int)) = false := by simp; omega
            by_cases h2 : 8192 < x.d.size
            · have hq2 : decide ((8192 : Int) < (x.d.size : Int)) = true := by simp; omega
              go_wp2_with fail
              go_ret
              exact lc_no (HBW.out _ (hf _))
            have hq2 : decide ((8192 : Int) < (x.d.size : Int)) = false := by simp; omega
            have hw1 : IntKind.i64.wrap ((n2 : Int) + (x.k.size : Int)) = (n2 : Int) + x.k.size := by rw [IntKind.wrap_i64]; omega
            have hw2 : IntKind.i64.wrap ((n2 : Int) + (x.k.size : Int) + (x.d.size : Int)) = (n2 : Int) + x.k.size + x.d.size := by rw [IntKind.wrap_i64]; omega
            go_wp2_with fail
            refine wp_region_calm f (by kernel_rfl) (by kernel_rfl) (calm_drew hf hg _) ?_
            repeat (go_big_quiet_step ((first | fail)))
            refine wpQuiet_nil ?_; rintro _ ⟨u, rfl⟩
            go_wp2_with fail
            go_roundw
            case rel => exact ⟨k2 + 1, n2 + (x.k.size + x.d.size), by omega, by go_num, by go_num, by omega, HNX.out.symm, _, rfl⟩
            case measure => simp [intOf]; omega
          · have HX2 : Hid (k2 = c.wr.length ∨ 16384 ≤ n2) := by show _ ∨ _; omega
            have HF : Hid (n2 < 8192 → c.sp.length < 100 → c.wr.length < 100 → LtC c) := fun h1 h2 h3 => by
              have e1 := HX2.out; have e2 := HM.out; have e3 := HN1.out
              have hk : k2 = c.wr.length := by omega
              rw [hk, List.take_length] at e2
              refine ⟨?_, h2, h3⟩
              rcases e3 with e3 | e3
              · omega
              · omega
            have hee : (k2 < c.wr.length ∧ 16384 ≤ n2) ∨ k2 = c.wr.length := by omega
            rcases hee with ⟨hl2, h162⟩ | hke2
            · have he : decide ((k2 : Int) < (c.wr.length : Int)) = true := by simp; omega
              have he2 : decide ((n2 : Int) < 16384) = false := by simp; omega
              have he3 : decide ((n2 : Int) < 8192) = false := by simp; omega
              go_wp2_with fail
              go_ret
              exact lc_no (HBW.out _ (hf _))
            · subst hke2
              have he : decide ((c.wr.length : Int) < (c.wr.length : Int)) = false := by simp
              by_cases p1 : n2 < 8192
              rotate_left
              · have he3 : decide ((n2 : Int) < 8192) = false := by simp; omega
                by_cases p0 : n2 < 16384
                · have he2 : decide ((n2 : Int) < 16384) = true := by simp; omega
                  go_wp2_with fail
                  go_ret
                  exact lc_no (HBW.out _ (hf _))
                · have he2 : decide ((n2 : Int) < 16384) = false := by simp; omega
                  go_wp2_with fail
                  go_ret
                  exact lc_no (HBW.out _ (hf _))
              have he3 : decide ((n2 : Int) < 8192) = true := by simp; omega
              have he2 : decide ((n2 : Int) < 16384) = true := by simp; omega
              by_cases p2 : c.sp.length < 100
              rotate_left
              · have he4 : decide ((c.sp.length : Int) < 100) = false := by simp; omega
                go_wp2_with fail
                go_ret
                exact lc_no (HBW.out _ (hf _))
              have he4 : decide ((c.sp.length : Int) < 100) = true := by simp; omega
              by_cases p3 : c.wr.length < 100
              rotate_left
              · have he5 : decide ((c.wr.length : Int) < 100) = false := by simp; omega
                go_wp2_with fail
                go_ret
                exact lc_no (HBW.out _ (hf _))
              have he5 : decide ((c.wr.length : Int) < 100) = true := by simp; omega
              have HLT := Lib.hid (HF.out p1 p2 p3)
              go_wp2_with fail
              go_ret
              exact lc_yes HLT.out (HBW.out _ (hf _))
end Go.Proofs.Ytmhmlpfkdpjlaaa
