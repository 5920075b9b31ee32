/- Contracts of the reference of conf: all subsets, all quorums, and whether they meet. -/
import Derived.Test.YtaaagidooieejaaRef10
import Derived.Test.YtaaagidooieejaaPlainMeet
import Derived.Deep.Onto
namespace Go.Proofs.Ytaaagidooieejaa
open Go.RowKit

theorem Try.infoSet : (Try.prog.info? 23).map (fun i => (i.zero, i.size, i.bytes)) = some (some (.int .u16 0), 1, 2) := by kernel_rfl
/-- Behind calls that made memory alone a row of the call's own is what it was. -/
theorem own_below {B : Nat} {w w' : World} {base : Nat} {e : TypeId} {size : Nat} {v : Value} {n : Nat} {xs : List Value} (h : w.ownsRow base e size v n xs) (hb : Below B w w') (hB : w.heap.size ≤ B) : w'.ownsRow base e size v n xs :=
  h.kept (row := none) ⟨hb.os, hb.tape, hb.output, hb.size, fun k hk _ => hb.block k (by omega)⟩ (by cases v.ownBlock <;> simp)
theorem wrap_small (k : Nat) (h : k < 1024) : IntKind.u16.wrap (k : Int) = k := by rw [wrap_u16]; omega

set_option maxRecDepth 100000 in
set_option maxHeartbeats 1000000 in
theorem refSubsets_any (s : Int) (w : World) (h0 : 0 ≤ s) (hs : s ≤ 65535) :
    Calls Try.prog 61 #[.int .u16 s] w fun e w' => ∃ v, e = .returned v ∧ w'.ownsRow w.heap.size 23 1 v (subs s 1024).length ((subs s 1024).map (Value.int .u16)) ∧ Below w.heap.size w w' := by
  obtain ⟨i0, hi, hz0, hz1, hz2⟩ := info_parts Try.infoSet
  go_enter Try.func61, Try.ntmps61
  go_wp2
  go_loopw [3, 4] (fun v i wr => ∃ k : Nat, k ≤ 1024 ∧ i = .int .i64 k ∧ wr.ownsRow w.heap.size 23 1 v (subs s k).length ((subs s k).map (Value.int .u16)) ∧ Below w.heap.size w wr) (fun _ i _ => 1024 - (intOf i).toNat)
  case atStart => exact ⟨0, by omega, rfl, World.ownsRow_nil _ _ _ _, Below.refl _ _⟩
  case round =>
    obtain ⟨k, hk, rfl, hown, hbel⟩ := hrel
    have hl := subs_le s k
    have hsz := hbel.size
    by_cases hlt : k < 1024
    · have hk0 : (0 : Int) ≤ k := by omega
      have hk1 : (k : Int) ≤ 65535 := by omega
      cases hm : mayB (k : Int)
      · have HM := Lib.hid hm
        have HL := Lib.hid (subs_miss s k (by simp [subP, hm]))
        clear hm
        go_wp2_with fail
        refine (refMay_any (k : Int) _ hk0 hk1).mono ?_; rintro e w1 ⟨rfl, hb⟩; rw [HM.out]
        replace hown := own_below hown hb (Nat.le_refl _)
        replace hbel := Below.step hbel hb
        clear hb
        go_wp2_with fail
        go_roundw
        case rel => exact ⟨k + 1, by omega, by go_num, by rw [HL.out]; exact hown, hbel⟩
        case measure => simp [intOf]; omega
      · have HM := Lib.hid hm
        cases hq : (meetB (k : Int) s == (k : Int))
        · have HQ := Lib.hid hq
          have HL := Lib.hid (subs_miss s k (by simp [subP, hm, hq]))
          clear hm
          go_wp2_with fail
          refine (refMay_any (k : Int) _ hk0 hk1).mono ?_; rintro e w1 ⟨rfl, hb⟩; rw [HM.out]
          replace hown := own_below hown hb (Nat.le_refl _)
          replace hbel := Below.step hbel hb
          clear hb
          go_wp2_with fail
          refine (refMeet_any (k : Int) s _ hk0 hk1 h0 hs).mono ?_; rintro e w' ⟨rfl, rfl⟩
          go_wp2_with fail
          go_roundw
          case rel => exact ⟨k + 1, by omega, by go_num, by rw [HL.out]; exact hown, hbel⟩
          case measure => simp [intOf]; omega
        · have HQ := Lib.hid hq
          have HL := Lib.hid (subs_hit s k (by simp [subP, hm, hq]))
          clear hm
          go_wp2_with fail
          refine (refMay_any (k : Int) _ hk0 hk1).mono ?_; rintro e w1 ⟨rfl, hb⟩; rw [HM.out]
          replace hown := own_below hown hb (Nat.le_refl _)
          replace hbel := Below.step hbel hb
          have hsz1 := hbel.size
          clear hb hsz
          go_wp2_with fail
          refine (refMeet_any (k : Int) s _ hk0 hk1 h0 hs).mono ?_; rintro e w' ⟨rfl, rfl⟩
          go_wp2_with (at_builtin; refine wpList_append_own _ rfl _ _ 60 rfl w.heap.size 23 i0 (.int .u16 0) 1 2 Try.underlying60 hi hz0 hz1 hz2 rfl (by decide) _ _ _ rfl (hown.alloc _) ⟨_, 0, none⟩ 1 1 [.int .u16 (k : Int)] rfl rfl (cell_one_new _ _ _) ?c2 ?c3 ?c4 ?c5 ?_)
          case c2 => simp [Value.oneCell']
          case c3 => unfold maxLen; omega
          case c4 => omega
          case c5 => simp; omega
          intro v' w2 hown' hgrow _
          have hb1 : Below w.heap.size w w2 := (hbel.alloc hsz1 _).grown hgrow (by simp; omega) (fun j hj => (hown.lt j hj).1)
          have HO : Hid (w2.ownsRow w.heap.size 23 1 v' (subs s (k + 1)).length ((subs s (k + 1)).map (Value.int .u16))) := by show World.ownsRow _ _ _ _ _ _ _; rw [HL.out]; simpa using hown'
          clear hown' hgrow hbel hown
          go_wp2
          go_roundw
          case rel => exact ⟨k + 1, by omega, by go_num, HO.out, hb1⟩
          case measure => simp [intOf]; omega
    · go_wp2
      go_ret
      obtain rfl : k = 1024 := by omega
      exact ⟨_, rfl, hown, hbel⟩

theorem quals_le (n : Int) (l : List Int) : (quals n l).length ≤ l.length := List.length_filter_le _ _
theorem take_hit (l : List Int) (n : Int) (k : Nat) (hk : k < l.length) (h : (cnt l[k] == n) = true) : quals n (l.take (k + 1)) = quals n (l.take k) ++ [l[k]] := by
  rw [List.take_add_one, List.getElem?_eq_getElem hk]; exact quals_hit n _ _ h
theorem take_miss (l : List Int) (n : Int) (k : Nat) (hk : k < l.length) (h : (cnt l[k] == n) = false) : quals n (l.take (k + 1)) = quals n (l.take k) := by
  rw [List.take_add_one, List.getElem?_eq_getElem hk]; exact quals_miss n _ _ h
set_option maxRecDepth 100000 in
set_option maxHeartbeats 1000000 in
theorem quorums_any (s n : Int) (w : World) (h0 : 0 ≤ s) (hs : s ≤ 65535) :
    Calls Try.prog 46 #[.int .u16 s, .int .i64 n] w fun e w' => ∃ v, e = .returned v ∧ w'.ownsRow w.heap.size 23 1 v (qs s n).length ((qs s n).map (Value.int .u16)) ∧ Below w.heap.size w w' := by
  obtain ⟨i0, hi, hz0, hz1, hz2⟩ := info_parts Try.infoSet
  have hlen := subs_le s 1024
  have HV := Lib.hid (fun k (hk : k < (subs s 1024).length) => (subs_mem s 1024 ((subs s 1024)[k])).1 (List.getElem_mem hk))
  have HS := Lib.hid (fun w => refSubsets_any s w h0 hs)
  unfold qs
  generalize subs s 1024 = l at *
  have hq : ∀ k, (quals n (l.take k)).length ≤ k := fun k => by
    have h1 := quals_le n (l.take k)
    have h2 : (l.take k).length ≤ k := List.length_take_le _ _
    omega
  have HQ := Lib.hid hq
  clear hq
  go_enter Try.func46, Try.ntmps46
  go_wp2_with fail
  refine (HS.out _).mono ?_
  rintro e w1 ⟨v, rfl, hown, hb⟩
  obtain ⟨a, cap, rfl, hc⟩ := own_slice hown
  have HC := Lib.hid hc
  have HB := Lib.hid hb
  have HZ := hb.size
  clear hown hc hb HS
  go_wp2
  go_loopw [5, 7] (fun v i wr => ∃ k : Nat, k ≤ l.length ∧ i = .int .i64 k ∧ wr.ownsRow w1.heap.size 23 1 v (quals n (l.take k)).length ((quals n (l.take k)).map (Value.int .u16)) ∧ Below w1.heap.size w1 wr) (fun _ i _ => l.length - (intOf i).toNat)
  case atStart => exact ⟨0, by omega, rfl, World.ownsRow_nil _ _ _ _, Below.refl _ _⟩
  case round =>
    obtain ⟨k, hk, rfl, hown, hbel⟩ := hrel
    have hq := HQ.out k
    have hsz := hbel.size
    by_cases hlt : k < l.length
    · obtain ⟨g, rfl, -, hg, hcell⟩ := HC.out k hlt
      obtain ⟨x, hx⟩ : ∃ x, x = l[k] := ⟨_, rfl⟩
      have hcell1 : wr.cell? ⟨g, k, none⟩ = some (.int .u16 x) := by rw [hbel.cell (by exact hg), hcell, hx]; simp [hlt]
      obtain ⟨x0, x1, -⟩ := HV.out k hlt
      rw [← hx] at x0 x1
      have x2 : x ≤ 65535 := by omega
      cases hq2 : (cnt x == n)
      · have HL := Lib.hid (take_miss l n k hlt (by rw [← hx]; exact hq2))
        have HX := Lib.hid hx
        clear hcell hx
        go_wp2_with fail
        refine (refCount_any x _ x0 x2).mono ?_; rintro e w2 ⟨rfl, hb⟩
        replace hown := own_below hown hb (Nat.le_refl _)
        replace hbel := hbel.trans (hb.mono hsz)
        clear hb hcell1
        go_wp2_with fail
        go_roundw
        case rel => exact ⟨k + 1, by omega, by go_num, by rw [HL.out]; exact hown, hbel⟩
        case measure => simp [intOf]; omega
      · have HL := Lib.hid (take_hit l n k hlt (by rw [← hx]; exact hq2))
        have HX := Lib.hid hx
        clear hcell hx
        go_wp2_with fail
        refine (refCount_any x _ x0 x2).mono ?_; rintro e w2 ⟨rfl, hb⟩
        replace hown := own_below hown hb (Nat.le_refl _)
        have hcell2 : w2.cell? ⟨g, k, none⟩ = some (.int .u16 x) := by rw [hb.cell (by simp; omega)]; exact hcell1
        replace hbel := hbel.trans (hb.mono hsz)
        have hsz1 := hbel.size
        clear hb hcell1 hsz
        go_wp2_with (at_builtin; refine wpList_append_own _ rfl _ _ 60 rfl w1.heap.size 23 i0 (.int .u16 0) 1 2 Try.underlying60 hi hz0 hz1 hz2 rfl (by decide) _ _ _ rfl (hown.alloc _) ⟨_, 0, none⟩ 1 1 [.int .u16 x] rfl rfl (cell_one_new _ _ _) ?c2 ?c3 ?c4 ?c5 ?_)
        case c2 => simp [Value.oneCell']
        case c3 => unfold maxLen; omega
        case c4 => omega
        case c5 => simp; omega
        intro v' w3 hown' hgrow _
        have hb1 : Below w1.heap.size w1 w3 := (hbel.alloc hsz1 _).grown hgrow (by simp; omega) (fun j hj => (hown.lt j hj).1)
        have HO : Hid (w3.ownsRow w1.heap.size 23 1 v' (quals n (l.take (k + 1))).length ((quals n (l.take (k + 1))).map (Value.int .u16))) := by
          show World.ownsRow _ _ _ _ _ _ _; rw [HL.out, ← HX.out]; simpa using hown'
        clear hown' hgrow hbel hown hcell2
        go_wp2
        go_roundw
        case rel => exact ⟨k + 1, by omega, by go_num, HO.out, hb1⟩
        case measure => simp [intOf]; omega
    · obtain rfl : k = l.length := by omega
      rw [List.take_length] at hown
      go_wp2
      go_ret
      exact ⟨_, rfl, hown.mono HZ, HB.out.trans (hbel.mono HZ)⟩
end Go.Proofs.Ytaaagidooieejaa
