/- TrailingZeros16 by its table; sets.List, sets.Less, the reference's Less and Of. -/
import Derived.Test.YtaaagidooieejaaDoorSets
import Derived.Test.YtaaagidooieejaaDoorCalm
import Derived.Test.YtaaagidooieejaaDoorPlainTz
namespace Go.Proofs.YtaaagidooieejaaDoor
open Go.RowKit

/-- The table reads as it was laid. -/
def Tab (w : World) : Prop := 0 < w.heap.size ∧ ∀ j : Nat, j < 32 → w.cell? ⟨0, j, none⟩ = some (.int .u8 (tabD.getD j 0))
theorem Tab.keep {w w' : World} (h : Tab w) (hb : Below w.heap.size w w') : Tab w' := ⟨Nat.lt_of_lt_of_le h.1 hb.size, fun j hj => by rw [hb.cell (by exact h.1)]; exact h.2 j hj⟩

theorem lst_and (s : Int) (h0 : 0 ≤ s) : lst (bits .and .u16 s 1022) 9 = lst s 9 := by
  have e : ∀ k : Nat, k ≤ 9 → lst (bits .and .u16 s 1022) k = lst s k := by
    intro k
    induction k with
    | zero => intro _; rfl
    | succ k ih =>
      intro hk
      have : hasB (bits .and .u16 s 1022) ((k : Int) + 1) = hasB s ((k : Int) + 1) := by
        have e1 : ((k : Int) + 1) = ((k + 1 : Nat) : Int) := by omega
        rw [e1, hasB_tb _ (k + 1) (by omega) (by omega), hasB_tb s (k + 1) (by omega) (by omega), tb_and _ _ h0 (by omega) _ (by omega), tb_every]
        simp; omega
      simp only [lst, ih (by omega), this]
  exact e 9 (by omega)
theorem tab_fit (j : Nat) : 0 ≤ tabD.getD j 0 ∧ tabD.getD j 0 ≤ 31 := by
  by_cases h : j < 32
  · exact (show ∀ j : Fin 32, 0 ≤ tabD.getD j.val 0 ∧ tabD.getD j.val 0 ≤ 31 by decide) ⟨j, h⟩
  · rw [List.getD_eq_getElem?_getD, List.getElem?_eq_none (by show 32 ≤ j; omega)]; decide
set_option maxRecDepth 100000 in
set_option maxHeartbeats 1000000 in
theorem tz_any (x : Int) (w : World) (h0 : 0 < x) (h1 : x ≤ 1023) (he : x % 2 = 0) (ht : Tab w) :
    Calls Tryd.prog 23 #[.int .u16 x] w fun r w' => r = .returned (.int .i64 (tzI x)) ∧ w = w' := by
  obtain ⟨-, -, -, t0, t1⟩ := tz_step x h0 h1 he
  have hcell := ht.2 (tzIx x).toNat (by omega)
  unfold tzIx at t0 t1
  have hix : 0 ≤ bits .and .u16 x (IntKind.u16.wrap (-x)) % 4294967296 * 125613361 % 4294967296 / 134217728 ∧ bits .and .u16 x (IntKind.u16.wrap (-x)) % 4294967296 * 125613361 % 4294967296 / 134217728 < 32 := ⟨t0, by omega⟩
  obtain ⟨V, hV⟩ : ∃ V, tabD.getD (tzIx x).toNat 0 = V := ⟨_, rfl⟩
  rw [hV] at hcell
  unfold tzIx at hcell
  have HV : Hid (tzI x = V) := hV
  have hv : 0 ≤ V ∧ V ≤ 31 := by rw [← hV]; exact tab_fit _
  clear hV
  have hne : (x == 0) = false := by simp; omega
  clear he ht
  go_enter Tryd.func23, Tryd.ntmps23
  go_wp2_with fail
  go_ret
  exact ⟨ret_int HV.out.symm, rfl⟩

set_option maxHeartbeats 400000 in
theorem less_any (s n : Int) (w : World) :
    Calls Tryd.prog 15 #[.int .u16 s, .int .i64 n] w fun e w' => e = .returned (.int .u16 (bits .andNot .u16 s (oneB n))) ∧ w = w' := by
  go_enter Tryd.func15, Tryd.ntmps15
  go_wp2_with (go_at_call 21; refine (one_any _ _).mono ?_; rintro e w' ⟨rfl, rfl⟩)
  go_ret
  exact ⟨rfl, rfl⟩

set_option maxRecDepth 100000 in
set_option maxHeartbeats 1000000 in
theorem list_any (s : Int) (w : World) (h0 : 0 ≤ s) (ht : Tab w) :
    Calls Tryd.prog 8 #[.int .u16 s] w fun e w' => ∃ v, e = .returned v ∧ w'.ownsRow w.heap.size 3 1 v (lst s 9).length ((lst s 9).map (Value.int .i64)) ∧ Below w.heap.size w w' := by
  obtain ⟨i0, hi, hz0, hz1, hz2⟩ := info_parts Tryd.infoInt
  have hl := lst_and s h0
  obtain ⟨he, h1⟩ := even_and s h0
  have h3 := (bits_fit .and s 1022).1
  have HT := Lib.hid ht
  have HL := Lib.hid hl
  have HE := Lib.hid he
  clear ht hl he
  go_enter Tryd.func8, Tryd.ntmps8
  go_wp2_with fail
  go_loopw [0, 3] (fun x v wr => ∃ (y : Int) (d : List Int), x = .int .u16 y ∧ 0 ≤ y ∧ y ≤ 1023 ∧ Hid (y % 2 = 0) ∧ Hid (d ++ lst y 9 = lst s 9) ∧ wr.ownsRow w.heap.size 3 1 v d.length (d.map (Value.int .i64)) ∧ Below w.heap.size w wr) (fun x _ _ => (lst (intOf x) 9).length)
  case atStart => exact ⟨_, [], rfl, h3, h1, HE, HL, World.ownsRow_nil _ _ _ _, Below.refl _ _⟩
  case round =>
    obtain ⟨y, d, rfl, y0, y1, hye, hd, hown, hbel⟩ := hrel
    have hsz := hbel.size
    by_cases hy : y = 0
    · subst hy
      have HD : Hid (d = lst s 9) := by show _ = _; rw [← hd.out, lst_none, List.append_nil]
      clear hd
      go_wp2_with fail
      go_ret
      rw [HD.out] at hown
      exact ⟨_, rfl, hown, hbel⟩
    · have hne : (y != 0) = true := by simp [hy]
      have hpos : 0 < y := by omega
      obtain ⟨q1, q2, q3, -, -⟩ := tz_step y hpos y1 hye.out
      have Q1 := Lib.hid q1; have Q2 := Lib.hid q2
      have q4 := (bits_fit .and y (y - 1)).1
      have HK := Lib.hid (HT.out.keep hbel)
      have hdl : d.length ≤ 9 := by
        have h := congrArg List.length hd.out
        rw [List.length_append] at h
        have := lst_len s; omega
      clear q1 q2 hy
      go_wp2_with (first | (go_at_call 23; refine (tz_any y _ hpos y1 hye.out HK.out).mono ?_; rintro e w' ⟨rfl, rfl⟩) | (at_builtin; refine wpList_append_own _ rfl _ _ 22 rfl w.heap.size 3 i0 (.int .i64 0) 1 8 Tryd.underlying22 hi hz0 hz1 hz2 rfl (by decide) _ _ _ rfl (hown.alloc _) ⟨_, 0, none⟩ 1 1 [.int .i64 (tzI y)] rfl rfl (cell_one_new _ _ _) ?c2 ?c3 ?c4 ?c5 ?_))
      case c2 => simp [Value.oneCell']
      case c3 => unfold maxLen; omega
      case c4 => omega
      case c5 => simp; omega
      intro v' w1 hown' hgrow _
      have hb1 : Below w.heap.size w w1 := (hbel.alloc hsz _).grown hgrow (by simp; omega) (fun j hj => (hown.lt j hj).1)
      have HO : Hid (w1.ownsRow w.heap.size 3 1 v' (d ++ [tzI y]).length ((d ++ [tzI y]).map (Value.int .i64))) := by show World.ownsRow _ _ _ _ _ _ _; simpa using hown'
      clear hown' hgrow hbel hown
      go_wp2_with fail
      go_roundw
      case rel => exact ⟨_, d ++ [tzI y], rfl, q4, q3, Q2, by show _ = _; rw [List.append_assoc, List.singleton_append, ← Q1.out]; exact hd.out, HO.out, hb1⟩
      case measure => simp only [intOf]; rw [Q1.out]; exact Nat.lt_succ_self _
end Go.Proofs.YtaaagidooieejaaDoor
