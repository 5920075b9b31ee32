/- Contracts of package sets and of its reference: what each function computes, for every argument. -/
import Derived.Test.YtbnndbdnejfehaaGreatDoorProg
import Derived.Test.YtbnndbdnejfehaaGreatDoorPlainConf
import Derived.WalkKit
import Derived.WalkSpells
import Derived.WalkLawsBesides
import Derived.BigQuiet
import Derived.Deep.QuietTactic
import Derived.Lib.Hide
import Derived.IntWalk
import Derived.Outline
import Derived.Lib.Tables
namespace Go.Proofs.YtbnndbdnejfehaaGreatDoor
open Go.RowKit

theorem ret_intC {k : IntKind} {a b : Int} (h : a = b) : Ending.returned (.int k a) = .returned (.int k b) := by rw [h]
theorem ret_boolS {a b : Bool} (h : a = b) : Ending.returned (.bool a) = .returned (.bool b) := by rw [h]

theorem oneB_wrap (n : Int) (h1 : ¬ n < 1) (h2 : ¬ 9 < n) : IntKind.u16.wrap (2 ^ n.toNat) = oneB n := by
  have := oneB_fit n
  rw [wrap_u16]
  have e : oneB n = 2 ^ n.toNat := by unfold oneB; rw [if_neg (by omega)]
  rw [← e]; omega

set_option maxRecDepth 100000 in
set_option maxHeartbeats 400000 in
theorem sone_any (n : Int) (w : World) :
    Calls Tryz.prog 91 #[.int .i64 n] w fun e w' => e = .returned (.int .u16 (oneB n)) ∧ w = w' := by
  by_cases h1 : n < 1
  · go_enter Tryz.func91, Tryz.ntmps91
    go_wp2
    go_ret
    exact ⟨by simp [oneB, h1], rfl⟩
  · by_cases h2 : 9 < n
    · go_enter Tryz.func91, Tryz.ntmps91
      go_wp2
      go_ret
      exact ⟨by simp [oneB, h2], rfl⟩
    · have HO : Hid (IntKind.u16.wrap (2 ^ n.toNat) = oneB n) := oneB_wrap n h1 h2
      go_enter Tryz.func91, Tryz.ntmps91
      go_wp2
      go_ret
      exact ⟨ret_intC HO.out, rfl⟩

set_option maxRecDepth 100000 in
set_option maxHeartbeats 400000 in
theorem has_any (s n : Int) (w : World) (h0 : 0 ≤ s) :
    Calls Tryz.prog 118 #[.int .u16 s, .int .i64 n] w fun e w' => e = .returned (.bool (hasB s n)) ∧ w = w' := by
  have HO := Lib.hid (has_one s n h0)
  go_enter Tryz.func118, Tryz.ntmps118
  go_wp2_with (go_at_call 91; refine (sone_any _ _).mono ?_; rintro e w' ⟨rfl, rfl⟩)
  go_ret
  exact ⟨ret_boolS HO.out, rfl⟩

set_option maxRecDepth 100000 in
set_option maxHeartbeats 400000 in
theorem with_any (s n : Int) (w : World) :
    Calls Tryz.prog 40 #[.int .u16 s, .int .i64 n] w fun e w' => e = .returned (.int .u16 (bits .or .u16 s (oneB n))) ∧ w = w' := by
  go_enter Tryz.func40, Tryz.ntmps40
  go_wp2_with (go_at_call 91; refine (sone_any _ _).mono ?_; rintro e w' ⟨rfl, rfl⟩)
  go_ret
  exact ⟨rfl, rfl⟩

set_option maxRecDepth 100000 in
set_option maxHeartbeats 400000 in
theorem smay_any (s : Int) (w : World) :
    Calls Tryz.prog 146 #[.int .u16 s] w fun e w' => e = .returned (.bool (bits .andNot .u16 s 1022 == 0)) ∧ w = w' := by
  go_enter Tryz.func146, Tryz.ntmps146
  go_wp2
  go_ret
  exact ⟨rfl, rfl⟩

theorem pow_grow (n : Int) (k : Nat) (hk : (k : Int) ≤ n) (hn : n ≤ 9) : (1 : Int) ≤ 2 ^ k ∧ (2 : Int) ^ k ≤ 512 := by
  have : k = 0 ∨ k = 1 ∨ k = 2 ∨ k = 3 ∨ k = 4 ∨ k = 5 ∨ k = 6 ∨ k = 7 ∨ k = 8 ∨ k = 9 := by omega
  rcases this with h | h | h | h | h | h | h | h | h | h <;> subst h <;> decide

set_option maxRecDepth 100000 in
set_option maxHeartbeats 400000 in
theorem bit_any (n : Int) (w : World) :
    Calls Tryz.prog 103 #[.int .i64 n] w fun e w' => e = .returned (.int .i64 (oneB n)) ∧ w = w' := by
  by_cases h1 : n < 1
  · go_enter Tryz.func103, Tryz.ntmps103
    go_wp2
    go_ret
    exact ⟨by simp [oneB, h1], rfl⟩
  · by_cases h2 : 9 < n
    · go_enter Tryz.func103, Tryz.ntmps103
      go_wp2
      go_ret
      exact ⟨by simp [oneB, h2], rfl⟩
    · have h1' : 1 ≤ n := by omega
      have h2' : n ≤ 9 := by omega
      have HO : Hid (oneB n = 2 ^ n.toNat) := by show _ = _; unfold oneB; rw [if_neg (by omega)]
      clear h1 h2
      go_enter Tryz.func103, Tryz.ntmps103
      go_wp2
      go_loop [3, 4] (fun v i => ∃ (k : Nat) (p : Int), (k : Int) ≤ n ∧ i = .int .i64 k ∧ v = .int .i64 p ∧ Hid (p = 2 ^ k)) (fun _ i => (n - intOf i).toNat)
      case atStart => exact ⟨0, 1, by omega, rfl, rfl, rfl⟩
      case round =>
        obtain ⟨k, p, hk, rfl, rfl, hp⟩ := hrel
        have hb : 1 ≤ p ∧ p ≤ 512 := by rw [hp.out]; exact pow_grow n k hk h2'
        obtain ⟨hb1, hb2⟩ := hb
        by_cases hlt : (k : Int) < n
        · go_wp2
          go_round
          case rel => exact ⟨k + 1, p * 2, by omega, by go_num, rfl, by show _ = _; rw [hp.out]; exact (Int.pow_succ 2 k).symm⟩
          case measure => simp [intOf]; omega
        · go_wp2
          go_ret
          exact ⟨ret_intC (by rw [HO.out, hp.out, show n.toNat = k by omega]), rfl⟩

set_option maxRecDepth 100000 in
set_option maxHeartbeats 400000 in
theorem refHas_any (s n : Int) (w : World) (h0 : 0 ≤ s) (hs : s ≤ 65535) :
    Calls Tryz.prog 102 #[.int .u16 s, .int .i64 n] w fun e w' => e = .returned (.bool (hasB s n)) ∧ w = w' := by
  have hf := oneB_fit n
  obtain ⟨hf1, hf2⟩ := hf
  by_cases h1 : 1 ≤ n ∧ n ≤ 9
  · obtain ⟨h1, h2⟩ := h1
    have hp := oneB_pos n h1 h2
    have HO := Lib.hid (div_bit s n h0 h1 h2)
    have hq : 0 ≤ s / oneB n := Int.ediv_nonneg h0 (by omega)
    go_enter Tryz.func102, Tryz.ntmps102
    go_wp2_with (go_at_call 103; refine (bit_any _ _).mono ?_; rintro e w' ⟨rfl, rfl⟩)
    go_ret
    exact ⟨ret_boolS HO.out, rfl⟩
  · have HZ : Hid (hasB s n = false) := by show _ = _; unfold hasB; simp; omega
    have hz : ¬ 0 < oneB n := by unfold oneB; rw [if_pos (by omega)]; omega
    clear h1
    go_enter Tryz.func102, Tryz.ntmps102
    go_wp2_with (go_at_call 103; refine (bit_any _ _).mono ?_; rintro e w' ⟨rfl, rfl⟩)
    go_ret
    exact ⟨ret_boolS HZ.out.symm, rfl⟩

set_option maxRecDepth 100000 in
set_option maxHeartbeats 400000 in
theorem refWith_any (s n : Int) (w : World) (h0 : 0 ≤ s) (hs : s ≤ 65535) :
    Calls Tryz.prog 52 #[.int .u16 s, .int .i64 n] w fun e w' => e = .returned (.int .u16 (bits .or .u16 s (oneB n))) ∧ w = w' := by
  obtain ⟨hf1, hf2⟩ := oneB_fit n
  cases hb : hasB s n
  · have HO := Lib.hid (with_ref s n h0 hs hb)
    have HB := Lib.hid hb
    clear hb
    go_enter Tryz.func52, Tryz.ntmps52
    go_wp2_with (first | (go_at_call 102; refine (refHas_any _ _ _ h0 hs).mono ?_; rintro e w' ⟨rfl, rfl⟩; rw [HB.out]) | (go_at_call 103; refine (bit_any _ _).mono ?_; rintro e w' ⟨rfl, rfl⟩))
    go_ret
    exact ⟨ret_intC HO.out, rfl⟩
  · have HO := Lib.hid (with_has s n h0 hs hb)
    have HB := Lib.hid hb
    clear hb
    go_enter Tryz.func52, Tryz.ntmps52
    go_wp2_with (go_at_call 102; refine (refHas_any _ _ _ h0 hs).mono ?_; rintro e w' ⟨rfl, rfl⟩; rw [HB.out])
    go_ret
    exact ⟨ret_intC HO.out.symm, rfl⟩

theorem Tryz.infoInt : (Tryz.prog.info? 3).map (fun i => (i.zero, i.size, i.bytes)) = some (some (.int .i64 0), 1, 8) := by kernel_rfl

set_option maxRecDepth 100000 in
set_option maxHeartbeats 400000 in
theorem refList_any (s : Int) (w : World) (h0 : 0 ≤ s) (hs : s ≤ 65535) :
    Calls Tryz.prog 74 #[.int .u16 s] w fun e w' => ∃ v, e = .returned v ∧ w'.ownsRow w.heap.size 3 1 v (lst s 9).length ((lst s 9).map (Value.int .i64)) ∧ Below w.heap.size w w' := by
  obtain ⟨i0, hi, hz0, hz1, hz2⟩ := info_parts Tryz.infoInt
  go_enter Tryz.func74, Tryz.ntmps74
  go_wp2
  go_loopw [3, 4] (fun v i wr => ∃ k : Nat, k ≤ 9 ∧ i = .int .i64 (k + 1) ∧ wr.ownsRow w.heap.size 3 1 v (lst s k).length ((lst s k).map (Value.int .i64)) ∧ Below w.heap.size w wr) (fun _ i _ => 10 - (intOf i).toNat)
  case atStart => exact ⟨0, by omega, rfl, World.ownsRow_nil _ _ _ _, Below.refl _ _⟩
  case round =>
    obtain ⟨k, hk, rfl, hown, hbel⟩ := hrel
    have hl := lst_le s k
    have hsz := hbel.size
    by_cases hlt : k < 9
    · cases hb : hasB s ((k : Int) + 1)
      · have HB := Lib.hid hb
        have HL := Lib.hid (lst_miss s k hb)
        clear hb
        go_wp2_with (go_at_call 102; refine (refHas_any _ _ _ h0 hs).mono ?_; rintro e w' ⟨rfl, rfl⟩; rw [HB.out])
        go_roundw
        case rel => exact ⟨k + 1, by omega, by go_num, by rw [HL.out]; exact hown, hbel⟩
        case measure => simp [intOf]; omega
      · have HB := Lib.hid hb
        have HL := Lib.hid (lst_hit s k hb)
        clear hb
        go_wp2_with (first | (go_at_call 102; refine (refHas_any _ _ _ h0 hs).mono ?_; rintro e w' ⟨rfl, rfl⟩; rw [HB.out]) | (at_builtin; refine wpList_append_own _ rfl _ _ 86 rfl w.heap.size 3 i0 (.int .i64 0) 1 8 Tryz.underlying86 hi hz0 hz1 hz2 rfl (by decide) _ _ _ rfl (hown.alloc _) ⟨_, 0, none⟩ 1 1 [.int .i64 ((k : Int) + 1)] rfl rfl (cell_one_new _ _ _) ?c2 ?c3 ?c4 ?c5 ?_))
        case c2 => simp [Value.oneCell']
        case c3 => unfold maxLen; omega
        case c4 => omega
        case c5 => simp; omega
        intro v' w1 hown' hgrow _
        have hb1 : Below w.heap.size w w1 := (hbel.alloc hsz _).grown hgrow (by simp; omega) (fun j hj => (hown.lt j hj).1)
        have HO : Hid (w1.ownsRow w.heap.size 3 1 v' (lst s (k + 1)).length ((lst s (k + 1)).map (Value.int .i64))) := by show World.ownsRow _ _ _ _ _ _ _; rw [HL.out]; simpa using hown'
        clear hown' hgrow hbel hown
        go_wp2
        go_roundw
        case rel => exact ⟨k + 1, by omega, by go_num, HO.out, hb1⟩
        case measure => simp [intOf]; omega
    · go_wp2
      go_ret
      obtain rfl : k = 9 := by omega
      exact ⟨_, rfl, hown, hbel⟩

/-- A row that the call owns, one cell an element: its slice, and where its cells lie. -/
theorem own_sliceS {w : World} {base : Nat} {e : TypeId} {v : Value} {n : Nat} {xs : List Value} (h : w.ownsRow base e 1 v n xs) :
    ∃ a cap, v = .slice a n cap ∧ (∀ j, j < n → ∃ g, a = some ⟨g, 0, none⟩ ∧ base ≤ g ∧ g < w.heap.size ∧ w.cell? ⟨g, j, none⟩ = xs[j]?) := by
  have h0 := h
  rcases h.2 with ⟨rfl, rfl⟩ | ⟨g, cap, cur, rfl, hb, hg, hn, hm, hs, ht⟩
  · exact ⟨none, 0, rfl, fun j hj => absurd hj (by omega)⟩
  · exact ⟨_, cap, rfl, fun j hj => ⟨g, rfl, hb, (Array.getElem?_eq_some_iff.1 hg).1, h0.cellAt j (by omega)⟩⟩

set_option maxRecDepth 100000 in
set_option maxHeartbeats 400000 in
theorem refCount_any (s : Int) (w : World) (h0 : 0 ≤ s) (hs : s ≤ 65535) :
    Calls Tryz.prog 105 #[.int .u16 s] w fun e w' => e = .returned (.int .i64 (cnt s)) ∧ Below w.heap.size w w' := by
  go_enter Tryz.func105, Tryz.ntmps105
  go_wp2_with fail
  refine (refList_any s _ h0 hs).mono ?_
  rintro e w1 ⟨v, rfl, hown, hb⟩
  obtain ⟨a, cap, rfl, -⟩ := own_sliceS hown
  clear hown
  go_wp2
  go_ret
  exact ⟨rfl, hb⟩

theorem lst_len (s : Int) : (lst s 9).length ≤ 9 := lst_le s 9

set_option maxRecDepth 100000 in
set_option maxHeartbeats 400000 in
theorem refMay_any (s : Int) (w : World) (h0 : 0 ≤ s) (hs : s ≤ 65535) :
    Calls Tryz.prog 152 #[.int .u16 s] w fun e w' => e = .returned (.bool (mayB s)) ∧ Below w.heap.size w w' := by
  have HM := Lib.hid (may_ref s h0 hs)
  have hlen := lst_len s
  have HB := Lib.hid (fun k => sumB_bound ((lst s 9).take k))
  go_enter Tryz.func152, Tryz.ntmps152
  go_wp2_with fail
  refine (refList_any s _ h0 hs).mono ?_
  rintro e w1 ⟨v, rfl, hown, hb⟩
  obtain ⟨a, cap, rfl, hc⟩ := own_sliceS hown
  have HC := Lib.hid hc
  clear hown hc
  go_wp2
  go_loop [3, 5] (fun v i => ∃ k : Nat, k ≤ (lst s 9).length ∧ i = .int .i64 k ∧ v = .int .i64 (sumB ((lst s 9).take k))) (fun _ i => (lst s 9).length - (intOf i).toNat)
  case atStart => exact ⟨0, by omega, rfl, rfl⟩
  case round =>
    obtain ⟨k, hk, rfl, rfl⟩ := hrel
    obtain ⟨hb1, hb2⟩ := HB.out k
    rw [List.length_take] at hb2
    by_cases hlt : k < (lst s 9).length
    · obtain ⟨g, rfl, -, -, hcell⟩ := HC.out k hlt
      have hcell' : w1.cell? ⟨g, k, none⟩ = some (.int .i64 ((lst s 9)[k])) := by rw [hcell]; simp [hlt]
      have HS : Hid (sumB ((lst s 9).take (k + 1)) = sumB ((lst s 9).take k) + oneB ((lst s 9)[k])) := by
        show _ = _
        rw [List.take_add_one, ← sumB_snoc]; simp [hlt]
      have hO := oneB_fit ((lst s 9)[k])
      obtain ⟨hO1, hO2⟩ := hO
      clear hcell
      go_wp2_with (go_at_call 103; refine (bit_any _ _).mono ?_; rintro e w' ⟨rfl, rfl⟩)
      go_round
      case rel => exact ⟨k + 1, by omega, by go_num, by rw [HS.out]⟩
      case measure => simp [intOf]; omega
    · have HE : Hid (sumB ((lst s 9).take k) = sumB (lst s 9)) := by show _ = _; rw [List.take_of_length_le (by omega)]
      go_wp2
      go_ret
      exact ⟨ret_boolS (by rw [HE.out]; exact HM.out), hb⟩

theorem gat_step (f : Int → Bool) (k : Nat) (b : Bool) (h : f ((k : Int) + 1) = b) : gat f (k + 1) = if b then bits .or .u16 (gat f k) (oneB ((k : Int) + 1)) else gat f k := by
  subst h; simp only [gat]

set_option maxRecDepth 100000 in
set_option maxHeartbeats 800000 in
theorem refMeet_any (x y : Int) (w : World) (hx0 : 0 ≤ x) (hx1 : x ≤ 65535) (hy0 : 0 ≤ y) (hy1 : y ≤ 65535) :
    Calls Tryz.prog 106 #[.int .u16 x, .int .u16 y] w fun e w' => e = .returned (.int .u16 (meetB x y)) ∧ w = w' := by
  have HM := Lib.hid (gat_meet x y hx0 hy0)
  go_enter Tryz.func106, Tryz.ntmps106
  go_wp2
  go_loop [5, 6] (fun v i => ∃ (k : Nat) (g : Int), k ≤ 9 ∧ i = .int .i64 (k + 1) ∧ v = .int .u16 g ∧ Hid (g = gat (fun n => hasB x n && hasB y n) k)) (fun _ i => 10 - (intOf i).toNat)
  case atStart => exact ⟨0, 0, by omega, rfl, rfl, rfl⟩
  case round =>
    obtain ⟨k, g, hk, rfl, rfl, hg⟩ := hrel
    obtain ⟨hg0, hg1⟩ : 0 ≤ g ∧ g ≤ 65535 := by rw [hg.out]; exact gat_fit _ _
    by_cases hlt : k < 9
    · cases hbx : hasB x ((k : Int) + 1)
      · have HX := Lib.hid hbx
        have HS : Hid (gat (fun n => hasB x n && hasB y n) (k + 1) = g) := by show _ = _; rw [gat_step _ k false (by simp [hbx]), hg.out]; rfl
        clear hbx
        go_wp2_with (go_at_call 102; refine (refHas_any _ _ _ hx0 hx1).mono ?_; rintro e w' ⟨rfl, rfl⟩; rw [HX.out])
        go_round
        case rel => exact ⟨k + 1, g, by omega, by go_num, rfl, HS.out.symm⟩
        case measure => simp [intOf]; omega
      · have HX := Lib.hid hbx
        cases hby : hasB y ((k : Int) + 1)
        · have HY := Lib.hid hby
          have HS : Hid (gat (fun n => hasB x n && hasB y n) (k + 1) = g) := by show _ = _; rw [gat_step _ k false (by simp [hby]), hg.out]; rfl
          clear hbx hby
          go_wp2_with fail
          refine (refHas_any _ _ _ hx0 hx1).mono ?_; rintro e w' ⟨rfl, rfl⟩; rw [HX.out]
          go_wp2_with fail
          refine (refHas_any _ _ _ hy0 hy1).mono ?_; rintro e w' ⟨rfl, rfl⟩; rw [HY.out]
          go_wp2_with fail
          go_round
          case rel => exact ⟨k + 1, g, by omega, by go_num, rfl, HS.out.symm⟩
          case measure => simp [intOf]; omega
        · have HY := Lib.hid hby
          have HS : Hid (gat (fun n => hasB x n && hasB y n) (k + 1) = bits .or .u16 g (oneB ((k : Int) + 1))) := by show _ = _; rw [gat_step _ k true (by simp [hbx, hby]), hg.out]; rfl
          clear hbx hby
          go_wp2_with fail
          refine (refHas_any _ _ _ hx0 hx1).mono ?_; rintro e w' ⟨rfl, rfl⟩; rw [HX.out]
          go_wp2_with fail
          refine (refHas_any _ _ _ hy0 hy1).mono ?_; rintro e w' ⟨rfl, rfl⟩; rw [HY.out]
          go_wp2_with fail
          refine (refWith_any _ _ _ hg0 hg1).mono ?_; rintro e w' ⟨rfl, rfl⟩
          go_wp2_with fail
          go_round
          case rel => exact ⟨k + 1, _, by omega, by go_num, rfl, HS.out.symm⟩
          case measure => simp [intOf]; omega
    · obtain rfl : k = 9 := by omega
      go_wp2
      go_ret
      exact ⟨ret_intC (by rw [hg.out, HM.out]), rfl⟩
theorem quiet_index_pop {P : Program} {C : World → Prop} {a : Act} {o : Oper} {K : Act → Prop} (t : TypeId) (s : ByteArray) (x : Operand) (k : IntKind) (i : Int)
    (h : o.op = .index t (.const (.string s)) x) (hx : a.eval x = .int k i) (ht : P.underlying t = some .string) (hs : s = Lib.pop8tab) (h0 : 0 ≤ i) (h1 : i ≤ 255)
    (hk : K (a.put o.dst (.int .u8 (Lib.pop8 i)))) : o.quiet P a C K := by
  refine ⟨_, fun w _ => ?_, hk⟩
  unfold Oper.quietAt
  have hr := Lib.run_index_pop8tab (P := P) w t k i ht h0 h1
  have hc : a.eval (.const (.string s)) = .string s := rfl
  generalize a.eval = ρ at *
  subst hs
  unfold execOp
  simp only [h, hx, hc, Sem.run_bind, hr, Result.andThen_ok, Sem.run_pure, Oper.quietUpon, and_self]


theorem pop_all : ∀ k : Fin 1024, ((Lib.pop8 ((k.val : Int) / 256) + Lib.pop8 (bits .and .u16 k.val 255)) % 256 : Int) = cnt k.val + (k.val : Int) % 2 := by decide +kernel
theorem and255 (x : Int) : 0 ≤ bits .and .u16 x 255 ∧ bits .and .u16 x 255 ≤ 255 := by
  have h := bits_fit .and x 255
  refine ⟨h.1, ?_⟩
  have e : (bits .and .u16 x 255).toNat = (BitVec.ofInt 16 x).toNat &&& 255 := by
    show (IntKind.u16.wrap ((BitVec.ofInt 16 x &&& BitVec.ofInt 16 255).toNat : Int)).toNat = _
    have h1 := (BitVec.ofInt 16 x &&& BitVec.ofInt 16 255).isLt
    rw [wrap_u16, show (((BitVec.ofInt 16 x &&& BitVec.ofInt 16 255).toNat : Int) % 65536).toNat = (BitVec.ofInt 16 x &&& BitVec.ofInt 16 255).toNat by omega, BitVec.toNat_and]
    rfl
  have : (BitVec.ofInt 16 x).toNat &&& 255 ≤ 255 := Nat.and_le_right
  omega
theorem cnt_even (x : Int) (h0 : 0 ≤ x) (h1 : x ≤ 1023) (he : x % 2 = 0) : (Lib.pop8 (x / 256) + Lib.pop8 (bits .and .u16 x 255)) % 256 = cnt x := by
  have := pop_all ⟨x.toNat, by omega⟩
  simp only [Int.toNat_of_nonneg h0] at this
  omega

set_option maxRecDepth 100000 in
set_option maxHeartbeats 400000 in
theorem ones_any (x : Int) (w : World) (h0 : 0 ≤ x) (h1 : x ≤ 1023) (he : x % 2 = 0) :
    Calls Tryz.prog 143 #[.int .u16 x] w fun e w' => e = .returned (.int .i64 (cnt x)) ∧ Below w.heap.size w w' := by
  have HC := Lib.hid (cnt_even x h0 h1 he)
  have hq0 : 0 ≤ x / 256 := by omega
  have hq1 : x / 256 ≤ 3 := by omega
  obtain ⟨hr0, hr1⟩ := and255 x
  clear he
  go_enter Tryz.func143, Tryz.ntmps143
  go_wp2
  refine wp_region_quiet_lit (by kernel_rfl) (by kernel_rfl) ?_
  go_big_quiet_step (fail)
  go_big_quiet_step (fail)
  go_big_quiet_want
  refine quiet_index_pop _ _ _ .u16 (x / 256) rfl rfl Tryz.underlying9 (by kernel_rfl) hq0 (by omega) ?_
  simp only [Act.put, List.setIfInBounds_toArray, List.set_cons_zero, List.set_cons_succ]
  go_big_quiet_on
  go_big_quiet_step (fail)
  go_big_quiet_step (fail)
  go_big_quiet_want
  refine quiet_index_pop _ _ _ .u16 (bits .and .u16 x 255) rfl rfl Tryz.underlying9 (by kernel_rfl) hr0 (by omega) ?_
  simp only [Act.put, List.setIfInBounds_toArray, List.set_cons_zero, List.set_cons_succ]
  go_big_quiet_on
  repeat (go_big_quiet_step (fail))
  refine wpQuiet_nil ?_
  rintro _ ⟨nq, rfl⟩
  go_wp2
  go_ret
  exact ⟨ret_intC HC.out, below_drewN (Below.refl _ _) _⟩

theorem cnt_and (s : Int) (h0 : 0 ≤ s) : cnt (bits .and .u16 s 1022) = cnt s := by
  have e : ∀ k : Nat, k ≤ 9 → lst (bits .and .u16 s 1022) k = lst s k := by
    intro k
    induction k with
    | zero => intro _; rfl
    | succ k ih =>
      intro hk
      have : hasB (bits .and .u16 s 1022) ((k : Int) + 1) = hasB s ((k : Int) + 1) := by
        have e1 : ((k : Int) + 1) = ((k + 1 : Nat) : Int) := by omega
        rw [e1, hasB_tb _ (k + 1) (by omega) (by omega), hasB_tb s (k + 1) (by omega) (by omega), tb_and _ _ h0 (by omega) _ (by omega), tb_every]
        simp; omega
      simp only [lst, ih (by omega), this]
  unfold cnt; rw [e 9 (by omega)]
theorem even_and (s : Int) (h0 : 0 ≤ s) : bits .and .u16 s 1022 % 2 = 0 ∧ bits .and .u16 s 1022 ≤ 1023 := by
  have hf := bits_fit .and s 1022
  have h1 := tb_and s 1022 h0 (by omega) 0 (by omega)
  have e : (bits .and .u16 s 1022).toNat = (BitVec.ofInt 16 s).toNat &&& 1022 := by
    show (IntKind.u16.wrap ((BitVec.ofInt 16 s &&& BitVec.ofInt 16 1022).toNat : Int)).toNat = _
    have h1 := (BitVec.ofInt 16 s &&& BitVec.ofInt 16 1022).isLt
    rw [wrap_u16, show (((BitVec.ofInt 16 s &&& BitVec.ofInt 16 1022).toNat : Int) % 65536).toNat = (BitVec.ofInt 16 s &&& BitVec.ofInt 16 1022).toNat by omega, BitVec.toNat_and]
    rfl
  have h2 : (BitVec.ofInt 16 s).toNat &&& 1022 ≤ 1022 := Nat.and_le_right
  unfold tb at h1
  rw [Nat.testBit_zero] at h1
  have : (1022 : Int).toNat.testBit 0 = false := by decide
  rw [this] at h1
  simp at h1
  omega

set_option maxRecDepth 100000 in
set_option maxHeartbeats 400000 in
theorem count_any (s : Int) (w : World) (h0 : 0 ≤ s) :
    Calls Tryz.prog 93 #[.int .u16 s] w fun e w' => e = .returned (.int .i64 (cnt s)) ∧ Below w.heap.size w w' := by
  have HC := Lib.hid (cnt_and s h0)
  obtain ⟨h2, h1⟩ := even_and s h0
  have h3 := (bits_fit .and s 1022).1
  have HE := Lib.hid h2
  clear h2
  go_enter Tryz.func93, Tryz.ntmps93
  go_wp2_with (go_at_call 143; refine (ones_any _ _ h3 h1 HE.out).mono ?_; rintro e w' ⟨rfl, hb⟩)
  go_ret
  exact ⟨ret_intC HC.out, hb⟩
end Go.Proofs.YtbnndbdnejfehaaGreatDoor
