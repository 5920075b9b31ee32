import Derived.Test.YtbnndbdnejfehaaGreatDoorSets
import Derived.Test.YtbnndbdnejfehaaGreatDoorTakeT
import Derived.Test.YtbnndbdnejfehaaGreatDoorPlainTz
import Derived.Test.YtbnndbdnejfehaaGreatDoorPlainConf
/- TrailingZeros16 by its table; sets.List, sets.Less, the reference's Less and Of. -/
namespace Go.Proofs.YtbnndbdnejfehaaGreatDoor
open Go.RowKit

/-- The table reads as it was laid. -/
def Tab (w : World) : Prop := 0 < w.heap.size ∧ ∀ j : Nat, j < 32 → w.cell? ⟨0, j, none⟩ = some (.int .u8 (tabD.getD j 0))
theorem Tab.keep {w w' : World} (h : Tab w) (hb : Below w.heap.size w w') : Tab w' := ⟨Nat.lt_of_lt_of_le h.1 hb.size, fun j hj => by rw [hb.cell (by exact h.1)]; exact h.2 j hj⟩

theorem lst_and (s : Int) (h0 : 0 ≤ s) : lst (bits .and .u16 s 1022) 9 = lst s 9 := by
  have e : ∀ k : Nat, k ≤ 9 → lst (bits .and .u16 s 1022) k = lst s k := by
    intro k
    induction k with
    | zero => intro _; rfl
    | succ k ih =>
      intro hk
      have : hasB (bits .and .u16 s 1022) ((k : Int) + 1) = hasB s ((k : Int) + 1) := by
        have e1 : ((k : Int) + 1) = ((k + 1 : Nat) : Int) := by omega
        rw [e1, hasB_tb _ (k + 1) (by omega) (by omega), hasB_tb s (k + 1) (by omega) (by omega), tb_and _ _ h0 (by omega) _ (by omega), tb_every]
        simp; omega
      simp only [lst, ih (by omega), this]
  exact e 9 (by omega)
theorem tab_fit (j : Nat) : 0 ≤ tabD.getD j 0 ∧ tabD.getD j 0 ≤ 31 := by
  by_cases h : j < 32
  · exact (show ∀ j : Fin 32, 0 ≤ tabD.getD j.val 0 ∧ tabD.getD j.val 0 ≤ 31 by decide) ⟨j, h⟩
  · rw [List.getD_eq_getElem?_getD, List.getElem?_eq_none (by show 32 ≤ j; omega)]; decide
set_option maxRecDepth 100000 in
set_option maxHeartbeats 1000000 in
theorem tz_any (x : Int) (w : World) (h0 : 0 < x) (h1 : x ≤ 1023) (he : x % 2 = 0) (ht : Tab w) :
    Calls Tryz.prog 149 #[.int .u16 x] w fun r w' => r = .returned (.int .i64 (tzI x)) ∧ w = w' := by
  obtain ⟨-, -, -, t0, t1⟩ := tz_step x h0 h1 he
  have hcell := ht.2 (tzIx x).toNat (by omega)
  unfold tzIx at t0 t1
  have hix : 0 ≤ bits .and .u16 x (IntKind.u16.wrap (-x)) % 4294967296 * 125613361 % 4294967296 / 134217728 ∧ bits .and .u16 x (IntKind.u16.wrap (-x)) % 4294967296 * 125613361 % 4294967296 / 134217728 < 32 := ⟨t0, by omega⟩
  obtain ⟨V, hV⟩ : ∃ V, tabD.getD (tzIx x).toNat 0 = V := ⟨_, rfl⟩
  rw [hV] at hcell
  unfold tzIx at hcell
  have HV : Hid (tzI x = V) := hV
  have hv : 0 ≤ V ∧ V ≤ 31 := by rw [← hV]; exact tab_fit _
  clear hV
  have hne : (x == 0) = false := by simp; omega
  clear he ht
  go_enter Tryz.func149, Tryz.ntmps149
  go_wp2_with fail
  go_ret
  exact ⟨ret_intC HV.out.symm, rfl⟩

set_option maxRecDepth 100000 in
set_option maxHeartbeats 400000 in
theorem less_any (s n : Int) (w : World) :
    Calls Tryz.prog 122 #[.int .u16 s, .int .i64 n] w fun e w' => e = .returned (.int .u16 (bits .andNot .u16 s (oneB n))) ∧ w = w' := by
  go_enter Tryz.func122, Tryz.ntmps122
  go_wp2_with (go_at_call 91; refine (sone_any _ _).mono ?_; rintro e w' ⟨rfl, rfl⟩)
  go_ret
  exact ⟨rfl, rfl⟩

set_option maxRecDepth 100000 in
set_option maxHeartbeats 1000000 in
theorem list_any (s : Int) (w : World) (h0 : 0 ≤ s) (ht : Tab w) :
    Calls Tryz.prog 121 #[.int .u16 s] w fun e w' => ∃ v, e = .returned v ∧ w'.ownsRow w.heap.size 3 1 v (lst s 9).length ((lst s 9).map (Value.int .i64)) ∧ Below w.heap.size w w' := by
  obtain ⟨i0, hi, hz0, hz1, hz2⟩ := info_parts Tryz.infoInt
  have hl := lst_and s h0
  obtain ⟨he, h1⟩ := even_and s h0
  have h3 := (bits_fit .and s 1022).1
  have HT := Lib.hid ht
  have HL := Lib.hid hl
  have HE := Lib.hid he
  clear ht hl he
  go_enter Tryz.func121, Tryz.ntmps121
  go_wp2_with fail
  go_loopw [0, 3] (fun x v wr => ∃ (y : Int) (d : List Int), x = .int .u16 y ∧ 0 ≤ y ∧ y ≤ 1023 ∧ Hid (y % 2 = 0) ∧ Hid (d ++ lst y 9 = lst s 9) ∧ wr.ownsRow w.heap.size 3 1 v d.length (d.map (Value.int .i64)) ∧ Below w.heap.size w wr) (fun x _ _ => (lst (intOf x) 9).length)
  case atStart => exact ⟨_, [], rfl, h3, h1, HE, HL, World.ownsRow_nil _ _ _ _, Below.refl _ _⟩
  case round =>
    obtain ⟨y, d, rfl, y0, y1, hye, hd, hown, hbel⟩ := hrel
    have hsz := hbel.size
    by_cases hy : y = 0
    · subst hy
      have HD : Hid (d = lst s 9) := by show _ = _; rw [← hd.out, lst_none, List.append_nil]
      clear hd
      go_wp2_with fail
      go_ret
      rw [HD.out] at hown
      exact ⟨_, rfl, hown, hbel⟩
    · have hne : (y != 0) = true := by simp [hy]
      have hpos : 0 < y := by omega
      obtain ⟨q1, q2, q3, -, -⟩ := tz_step y hpos y1 hye.out
      have Q1 := Lib.hid q1; have Q2 := Lib.hid q2
      have q4 := (bits_fit .and y (y - 1)).1
      have HK := Lib.hid (HT.out.keep hbel)
      have hdl : d.length ≤ 9 := by
        have h := congrArg List.length hd.out
        rw [List.length_append] at h
        have := lst_len s; omega
      clear q1 q2 hy
      go_wp2_with (first | (go_at_call 149; refine (tz_any y _ hpos y1 hye.out HK.out).mono ?_; rintro e w' ⟨rfl, rfl⟩) | (at_builtin; refine wpList_append_own _ rfl _ _ 86 rfl w.heap.size 3 i0 (.int .i64 0) 1 8 Tryz.underlying86 hi hz0 hz1 hz2 rfl (by decide) _ _ _ rfl (hown.alloc _) ⟨_, 0, none⟩ 1 1 [.int .i64 (tzI y)] rfl rfl (cell_one_new _ _ _) ?c2 ?c3 ?c4 ?c5 ?_))
      case c2 => simp [Value.oneCell']
      case c3 => unfold maxLen; omega
      case c4 => omega
      case c5 => simp; omega
      intro v' w1 hown' hgrow _
      have hb1 : Below w.heap.size w w1 := (hbel.alloc hsz _).grown hgrow (by simp; omega) (fun j hj => (hown.lt j hj).1)
      have HO : Hid (w1.ownsRow w.heap.size 3 1 v' (d ++ [tzI y]).length ((d ++ [tzI y]).map (Value.int .i64))) := by show World.ownsRow _ _ _ _ _ _ _; simpa using hown'
      clear hown' hgrow hbel hown
      go_wp2_with fail
      go_roundw
      case rel => exact ⟨_, d ++ [tzI y], rfl, q4, q3, Q2, by show _ = _; rw [List.append_assoc, List.singleton_append, ← Q1.out]; exact hd.out, HO.out, hb1⟩
      case measure => simp only [intOf]; rw [Q1.out]; exact Nat.lt_succ_self _
end Go.Proofs.YtbnndbdnejfehaaGreatDoor
/- Contracts of package conf and of its reference. -/
namespace Go.Proofs.YtbnndbdnejfehaaGreatDoor
open Go.RowKit

set_option maxRecDepth 100000 in
set_option maxHeartbeats 800000 in
theorem refJoin_any (x y : Int) (w : World) (hx0 : 0 ≤ x) (hx1 : x ≤ 65535) (hy0 : 0 ≤ y) (hy1 : y ≤ 65535) :
    Calls Tryz.prog 125 #[.int .u16 x, .int .u16 y] w fun e w' => e = .returned (.int .u16 (joinB x y)) ∧ w = w' := by
  have HM := Lib.hid (gat_join x y hx0 hy0)
  go_enter Tryz.func125, Tryz.ntmps125
  go_wp2
  go_loop [5, 6] (fun v i => ∃ (k : Nat) (g : Int), k ≤ 9 ∧ i = .int .i64 (k + 1) ∧ v = .int .u16 g ∧ Hid (g = gat (fun n => hasB x n || hasB y n) k)) (fun _ i => 10 - (intOf i).toNat)
  case atStart => exact ⟨0, 0, by omega, rfl, rfl, rfl⟩
  case round =>
    obtain ⟨k, g, hk, rfl, rfl, hg⟩ := hrel
    obtain ⟨hg0, hg1⟩ : 0 ≤ g ∧ g ≤ 65535 := by rw [hg.out]; exact gat_fit _ _
    by_cases hlt : k < 9
    · cases hbx : hasB x ((k : Int) + 1)
      · have HX := Lib.hid hbx
        cases hby : hasB y ((k : Int) + 1)
        · have HY := Lib.hid hby
          have HS : Hid (gat (fun n => hasB x n || hasB y n) (k + 1) = g) := by show _ = _; rw [gat_step _ k false (by simp [hbx, hby]), hg.out]; rfl
          clear hbx hby
          go_wp2_with fail
          refine (refHas_any _ _ _ hx0 hx1).mono ?_; rintro e w' ⟨rfl, rfl⟩; rw [HX.out]
          go_wp2_with fail
          refine (refHas_any _ _ _ hy0 hy1).mono ?_; rintro e w' ⟨rfl, rfl⟩; rw [HY.out]
          go_wp2_with fail
          go_round
          case rel => exact ⟨k + 1, g, by omega, by go_num, rfl, HS.out.symm⟩
          case measure => simp [intOf]; omega
        · have HY := Lib.hid hby
          have HS : Hid (gat (fun n => hasB x n || hasB y n) (k + 1) = bits .or .u16 g (oneB ((k : Int) + 1))) := by show _ = _; rw [gat_step _ k true (by simp [hby]), hg.out]; rfl
          clear hbx hby
          go_wp2_with fail
          refine (refHas_any _ _ _ hx0 hx1).mono ?_; rintro e w' ⟨rfl, rfl⟩; rw [HX.out]
          go_wp2_with fail
          refine (refHas_any _ _ _ hy0 hy1).mono ?_; rintro e w' ⟨rfl, rfl⟩; rw [HY.out]
          go_wp2_with fail
          refine (refWith_any _ _ _ hg0 hg1).mono ?_; rintro e w' ⟨rfl, rfl⟩
          go_wp2_with fail
          go_round
          case rel => exact ⟨k + 1, _, by omega, by go_num, rfl, HS.out.symm⟩
          case measure => simp [intOf]; omega
      · have HX := Lib.hid hbx
        have HS : Hid (gat (fun n => hasB x n || hasB y n) (k + 1) = bits .or .u16 g (oneB ((k : Int) + 1))) := by show _ = _; rw [gat_step _ k true (by simp [hbx]), hg.out]; rfl
        clear hbx
        go_wp2_with fail
        refine (refHas_any _ _ _ hx0 hx1).mono ?_; rintro e w' ⟨rfl, rfl⟩; rw [HX.out]
        go_wp2_with fail
        refine (refWith_any _ _ _ hg0 hg1).mono ?_; rintro e w' ⟨rfl, rfl⟩
        go_wp2_with fail
        go_round
        case rel => exact ⟨k + 1, _, by omega, by go_num, rfl, HS.out.symm⟩
        case measure => simp [intOf]; omega
    · obtain rfl : k = 9 := by omega
      go_wp2
      go_ret
      exact ⟨ret_intC (by rw [hg.out, HM.out]), rfl⟩

theorem Below.step {W0 W1 W2 : World} (h : Below W0.heap.size W0 W1) (k : Below W1.heap.size W1 W2) : Below W0.heap.size W0 W2 := h.trans (k.mono h.size)
theorem below_box (w : World) (o : Obj) : Below w.heap.size w (w.alloc o) := (Below.refl _ _).alloc (Nat.le_refl _) o

set_option maxRecDepth 100000 in
set_option maxHeartbeats 400000 in
theorem votes_any (v x l e k : Int) (w : World) :
    Calls Tryz.prog 94 #[.agg #[.int .u16 v, .int .u16 x, .int .u16 l, .int .i64 e, .int .i64 k]] w fun r w' => r = .returned (.int .u16 (bits .or .u16 v x)) ∧ Below w.heap.size w w' := by
  go_enter Tryz.func94, Tryz.ntmps94
  go_wp2
  go_ret
  exact ⟨rfl, below_box _ _⟩

theorem cnt_le (s : Int) : 0 ≤ cnt s ∧ cnt s ≤ 9 := by have := lst_le s 9; unfold cnt; omega

set_option maxRecDepth 100000 in
set_option maxHeartbeats 4000000 in
theorem confMay_any (v x l e k : Int) (w : World) :
    Calls Tryz.prog 113 #[.agg #[.int .u16 v, .int .u16 x, .int .u16 l, .int .i64 e, .int .i64 k]] w fun r w' => r = .returned (.bool (mayC v x l e k)) ∧ Below w.heap.size w w' := by
  obtain ⟨hc0, hc1⟩ := cnt_le (bits .or .u16 v x)
  have hv0 := (bits_fit .or v x).1
  have B0 := below_box w (.cells #[.int .u16 v, .int .u16 x, .int .u16 l, .int .i64 e, .int .i64 k] 25)
  have K3 : ∀ w', Below (w.heap.size + 1) (w.alloc (.cells #[.int .u16 v, .int .u16 x, .int .u16 l, .int .i64 e, .int .i64 k] 25)) w' → w'.cell? ⟨w.heap.size, 3, none⟩ = some (.int .i64 e) := fun w' h => by
    rw [h.cell (by simp)]; simp
  have K4 : ∀ w', Below (w.heap.size + 1) (w.alloc (.cells #[.int .u16 v, .int .u16 x, .int .u16 l, .int .i64 e, .int .i64 k] 25)) w' → w'.cell? ⟨w.heap.size, 4, none⟩ = some (.int .i64 k) := fun w' h => by
    rw [h.cell (by simp)]; simp
  by_cases hvz : v = 0
  · have hvb : (v == 0) = true := by rw [hvz]; rfl
    have HZ := Lib.hid hvz
    clear hvz
    go_enter Tryz.func113, Tryz.ntmps113
    go_wp2_with (first | (go_at_call 146; refine (smay_any _ _).mono ?_; rintro e w' ⟨rfl, rfl⟩) | (go_at_call 94; refine (votes_any _ _ _ _ _ _).mono ?_; rintro e w1 ⟨rfl, hb1⟩; rw [World.size_alloc] at hb1) | (go_at_call 93; refine (count_any _ _ hv0).mono ?_; rintro e w2 ⟨rfl, hb2⟩; replace hb2 := hb1.trans (hb2.mono (by have := hb1.size; simpa using this))))
    all_goals (go_ret; refine ⟨ret_boolS (by have hz := HZ.out; simp [mayC, mayB, hz]), ?_⟩; first | exact B0 | exact B0.trans (hb2.mono (by omega)))
  · have hvb : (v == 0) = false := by simpa using hvz
    go_enter Tryz.func113, Tryz.ntmps113
    go_wp2_with (first | (go_at_call 146; refine (smay_any _ _).mono ?_; rintro e w' ⟨rfl, rfl⟩) | (go_at_call 94; refine (votes_any _ _ _ _ _ _).mono ?_; rintro e w1 ⟨rfl, hb1⟩; rw [World.size_alloc] at hb1) | (go_at_call 93; refine (count_any _ _ hv0).mono ?_; rintro e w2 ⟨rfl, hb2⟩; replace hb2 := hb1.trans (hb2.mono (by have := hb1.size; simpa using this))))
    all_goals (go_ret; refine ⟨ret_boolS (by simp [mayC, mayB, *]; try omega), ?_⟩; first | exact B0 | exact B0.trans (hb2.mono (by omega)))
end Go.Proofs.YtbnndbdnejfehaaGreatDoor
/- Contracts of package conf and of its reference, two. -/
namespace Go.Proofs.YtbnndbdnejfehaaGreatDoor
open Go.RowKit

theorem box_keeps (w : World) (cs : Array Value) (t : TypeId) : ∀ w' j, Below (w.heap.size + 1) (w.alloc (.cells cs t)) w' → w'.cell? ⟨w.heap.size, j, none⟩ = (w.alloc (.cells cs t)).cell? ⟨w.heap.size, j, none⟩ := fun _ _ h => h.cell (by simp)
theorem box_step {w w1 w2 : World} {cs : Array Value} {t : TypeId} (h : Below (w.heap.size + 1) (w.alloc (.cells cs t)) w1) (k : Below w1.heap.size w1 w2) : Below (w.heap.size + 1) (w.alloc (.cells cs t)) w2 :=
  h.trans (k.mono (by have := h.size; simpa using this))
theorem box_first {w w1 : World} {cs : Array Value} {t : TypeId} (k : Below (w.alloc (.cells cs t)).heap.size (w.alloc (.cells cs t)) w1) : Below (w.heap.size + 1) (w.alloc (.cells cs t)) w1 := by simpa using k
theorem box_out {w w1 : World} {cs : Array Value} {t : TypeId} (k : Below (w.heap.size + 1) (w.alloc (.cells cs t)) w1) : Below w.heap.size w w1 := (below_box _ _).trans (k.mono (by omega))

set_option maxRecDepth 100000 in
set_option maxHeartbeats 1000000 in
theorem confMayJoint_any (jov jox jol joe jok jnv jnx jnl jne jnk : Int) (jt : Bool) (w : World) :
    Calls Tryz.prog 62 #[.agg #[.int .u16 jov, .int .u16 jox, .int .u16 jol, .int .i64 joe, .int .i64 jok, .int .u16 jnv, .int .u16 jnx, .int .u16 jnl, .int .i64 jne, .int .i64 jnk, .bool jt]] w fun r w' => r = .returned (.bool (mayJ jov jox jol joe jok jnv jnx jnl jne jnk jt)) ∧ Below w.heap.size w w' := by
  have KB := box_keeps w #[.int .u16 jov, .int .u16 jox, .int .u16 jol, .int .i64 joe, .int .i64 jok, .int .u16 jnv, .int .u16 jnx, .int .u16 jnl, .int .i64 jne, .int .i64 jnk, .bool jt] 27
  cases jt
  · cases ho : mayC jov jox jol joe jok
    · have HO := Lib.hid ho
      clear ho
      go_enter Tryz.func62, Tryz.ntmps62
      go_wp2_with (go_at_call 113; refine (confMay_any _ _ _ _ _ _).mono ?_; rintro r w1 ⟨rfl, hb⟩; rw [HO.out]; replace hb := box_first hb)
      go_ret
      exact ⟨ret_boolS (by simp [mayJ, HO.out]), box_out hb⟩
    · have HO := Lib.hid ho
      clear ho
      go_enter Tryz.func62, Tryz.ntmps62
      go_wp2_with (go_at_call 113; refine (confMay_any _ _ _ _ _ _).mono ?_; rintro r w1 ⟨rfl, hb⟩; rw [HO.out]; replace hb := box_first hb)
      all_goals (go_ret; exact ⟨ret_boolS (by simp [mayJ, HO.out, *]), box_out hb⟩)
  · cases ho : mayC jov jox jol joe jok
    · have HO := Lib.hid ho
      clear ho
      go_enter Tryz.func62, Tryz.ntmps62
      go_wp2_with (go_at_call 113; refine (confMay_any _ _ _ _ _ _).mono ?_; rintro r w1 ⟨rfl, hb⟩; rw [HO.out]; replace hb := box_first hb)
      go_ret
      exact ⟨ret_boolS (by simp [mayJ, HO.out]), box_out hb⟩
    · have HO := Lib.hid ho
      clear ho
      go_enter Tryz.func62, Tryz.ntmps62
      go_wp2_with fail
      refine (confMay_any _ _ _ _ _ _).mono ?_; rintro r w1 ⟨rfl, hb⟩; rw [HO.out]; replace hb := box_first hb
      go_wp2_with fail
      refine (confMay_any _ _ _ _ _ _).mono ?_; rintro r w2 ⟨rfl, hb2⟩; replace hb2 := box_step hb hb2
      go_wp2_with fail
      go_ret
      exact ⟨ret_boolS (by simp [mayJ, HO.out]), box_out hb2⟩

end Go.Proofs.YtbnndbdnejfehaaGreatDoor
/- Contracts of package conf, three: who is in a joint. -/
namespace Go.Proofs.YtbnndbdnejfehaaGreatDoor
open Go.RowKit

set_option maxRecDepth 100000 in
set_option maxHeartbeats 400000 in
theorem Members1_any (cv cx cl ce ck : Int) (w : World) :
    Calls Tryz.prog 155 #[.agg #[.int .u16 cv, .int .u16 cx, .int .u16 cl, .int .i64 ce, .int .i64 ck]] w fun r w' => r = .returned (.int .u16 (bits .or .u16 (bits .or .u16 cv cx) cl)) ∧ Below w.heap.size w w' := by
  go_enter Tryz.func155, Tryz.ntmps155
  go_wp2
  go_ret
  exact ⟨rfl, below_box _ _⟩

set_option maxRecDepth 100000 in
set_option maxHeartbeats 1000000 in
theorem bothMembers_any (jov jox jol joe jok jnv jnx jnl jne jnk : Int) (jt : Bool) (w : World) :
    Calls Tryz.prog 119 #[.agg #[.int .u16 jov, .int .u16 jox, .int .u16 jol, .int .i64 joe, .int .i64 jok, .int .u16 jnv, .int .u16 jnx, .int .u16 jnl, .int .i64 jne, .int .i64 jnk, .bool jt], .func (.func 155) #[] #[]] w fun r w' => r = .returned (.int .u16 (pickB jt (bits .or .u16 (bits .or .u16 jov jox) jol) (bits .or .u16 (bits .or .u16 jnv jnx) jnl))) ∧ Below w.heap.size w w' := by
  cases jt
  · go_enter Tryz.func119, Tryz.ntmps119
    go_wp2_with (go_at_call 155; refine (Members1_any _ _ _ _ _ _).mono ?_; rintro r w1 ⟨rfl, hb⟩; replace hb := box_first hb)
    go_ret
    exact ⟨rfl, box_out hb⟩
  · go_enter Tryz.func119, Tryz.ntmps119
    go_wp2_with fail
    obtain ⟨U, f, hU, hf, hg⟩ := calm_class (w.alloc (.cells #[.int .u16 jov, .int .u16 jox, .int .u16 jol, .int .i64 joe, .int .i64 jok, .int .u16 jnv, .int .u16 jnx, .int .u16 jnl, .int .i64 jne, .int .i64 jnk, .bool true] 27))
    refine wp_region_calm f (by kernel_rfl) (by kernel_rfl) (hg _ (Below.refl _ _).drew) ?_
    have ka := calm_block hf (heap_last w (.cells #[.int .u16 jov, .int .u16 jox, .int .u16 jol, .int .i64 joe, .int .i64 jok, .int .u16 jnv, .int .u16 jnx, .int .u16 jnl, .int .i64 jne, .int .i64 jnk, .bool true] 27))
    repeat (go_big_quiet_step ((go_at_call 155; exact calm_of hf hg (Members1_any _ _ _ _ _ _))))
    refine wpQuiet_nil ?_
    rintro _ ⟨u1, rfl⟩
    go_wp2
    go_ret
    exact ⟨rfl, box_out (box_first (hf u1))⟩

set_option maxRecDepth 100000 in
set_option maxHeartbeats 400000 in
theorem confMembers_any (jov jox jol joe jok jnv jnx jnl jne jnk : Int) (jt : Bool) (w : World) :
    Calls Tryz.prog 147 #[.agg #[.int .u16 jov, .int .u16 jox, .int .u16 jol, .int .i64 joe, .int .i64 jok, .int .u16 jnv, .int .u16 jnx, .int .u16 jnl, .int .i64 jne, .int .i64 jnk, .bool jt]] w fun r w' => r = .returned (.int .u16 (pickB jt (bits .or .u16 (bits .or .u16 jov jox) jol) (bits .or .u16 (bits .or .u16 jnv jnx) jnl))) ∧ Below w.heap.size w w' := by
  go_enter Tryz.func147, Tryz.ntmps147
  go_wp2_with (go_at_call 119; refine (bothMembers_any _ _ _ _ _ _ _ _ _ _ _ _).mono ?_; rintro r w1 ⟨rfl, hb⟩; replace hb := box_first hb)
  go_ret
  exact ⟨rfl, box_out hb⟩
set_option maxRecDepth 100000 in
set_option maxHeartbeats 400000 in
theorem Voting1_any (cv cx cl ce ck : Int) (w : World) :
    Calls Tryz.prog 94 #[.agg #[.int .u16 cv, .int .u16 cx, .int .u16 cl, .int .i64 ce, .int .i64 ck]] w fun r w' => r = .returned (.int .u16 (bits .or .u16 cv cx)) ∧ Below w.heap.size w w' := by
  go_enter Tryz.func94, Tryz.ntmps94
  go_wp2
  go_ret
  exact ⟨rfl, below_box _ _⟩

set_option maxRecDepth 100000 in
set_option maxHeartbeats 1000000 in
theorem bothVoting_any (jov jox jol joe jok jnv jnx jnl jne jnk : Int) (jt : Bool) (w : World) :
    Calls Tryz.prog 119 #[.agg #[.int .u16 jov, .int .u16 jox, .int .u16 jol, .int .i64 joe, .int .i64 jok, .int .u16 jnv, .int .u16 jnx, .int .u16 jnl, .int .i64 jne, .int .i64 jnk, .bool jt], .func (.func 94) #[] #[]] w fun r w' => r = .returned (.int .u16 (pickB jt (bits .or .u16 jov jox) (bits .or .u16 jnv jnx))) ∧ Below w.heap.size w w' := by
  cases jt
  · go_enter Tryz.func119, Tryz.ntmps119
    go_wp2_with (go_at_call 94; refine (Voting1_any _ _ _ _ _ _).mono ?_; rintro r w1 ⟨rfl, hb⟩; replace hb := box_first hb)
    go_ret
    exact ⟨rfl, box_out hb⟩
  · go_enter Tryz.func119, Tryz.ntmps119
    go_wp2_with fail
    obtain ⟨U, f, hU, hf, hg⟩ := calm_class (w.alloc (.cells #[.int .u16 jov, .int .u16 jox, .int .u16 jol, .int .i64 joe, .int .i64 jok, .int .u16 jnv, .int .u16 jnx, .int .u16 jnl, .int .i64 jne, .int .i64 jnk, .bool true] 27))
    refine wp_region_calm f (by kernel_rfl) (by kernel_rfl) (hg _ (Below.refl _ _).drew) ?_
    have ka := calm_block hf (heap_last w (.cells #[.int .u16 jov, .int .u16 jox, .int .u16 jol, .int .i64 joe, .int .i64 jok, .int .u16 jnv, .int .u16 jnx, .int .u16 jnl, .int .i64 jne, .int .i64 jnk, .bool true] 27))
    repeat (go_big_quiet_step ((go_at_call 94; exact calm_of hf hg (Voting1_any _ _ _ _ _ _))))
    refine wpQuiet_nil ?_
    rintro _ ⟨u1, rfl⟩
    go_wp2
    go_ret
    exact ⟨rfl, box_out (box_first (hf u1))⟩

set_option maxRecDepth 100000 in
set_option maxHeartbeats 400000 in
theorem confVoting_any (jov jox jol joe jok jnv jnx jnl jne jnk : Int) (jt : Bool) (w : World) :
    Calls Tryz.prog 123 #[.agg #[.int .u16 jov, .int .u16 jox, .int .u16 jol, .int .i64 joe, .int .i64 jok, .int .u16 jnv, .int .u16 jnx, .int .u16 jnl, .int .i64 jne, .int .i64 jnk, .bool jt]] w fun r w' => r = .returned (.int .u16 (pickB jt (bits .or .u16 jov jox) (bits .or .u16 jnv jnx))) ∧ Below w.heap.size w w' := by
  go_enter Tryz.func123, Tryz.ntmps123
  go_wp2_with (go_at_call 119; refine (bothVoting_any _ _ _ _ _ _ _ _ _ _ _ _).mono ?_; rintro r w1 ⟨rfl, hb⟩; replace hb := box_first hb)
  go_ret
  exact ⟨rfl, box_out hb⟩
set_option maxRecDepth 100000 in
set_option maxHeartbeats 400000 in
theorem Leads1_any (cv cx cl ce ck : Int) (w : World) :
    Calls Tryz.prog 120 #[.agg #[.int .u16 cv, .int .u16 cx, .int .u16 cl, .int .i64 ce, .int .i64 ck]] w fun r w' => r = .returned (.int .u16 (cv)) ∧ Below w.heap.size w w' := by
  go_enter Tryz.func120, Tryz.ntmps120
  go_wp2
  go_ret
  exact ⟨rfl, below_box _ _⟩

set_option maxRecDepth 100000 in
set_option maxHeartbeats 1000000 in
theorem bothLeads_any (jov jox jol joe jok jnv jnx jnl jne jnk : Int) (jt : Bool) (w : World) :
    Calls Tryz.prog 119 #[.agg #[.int .u16 jov, .int .u16 jox, .int .u16 jol, .int .i64 joe, .int .i64 jok, .int .u16 jnv, .int .u16 jnx, .int .u16 jnl, .int .i64 jne, .int .i64 jnk, .bool jt], .func (.func 120) #[] #[]] w fun r w' => r = .returned (.int .u16 (pickB jt (jov) (jnv))) ∧ Below w.heap.size w w' := by
  cases jt
  · go_enter Tryz.func119, Tryz.ntmps119
    go_wp2_with (go_at_call 120; refine (Leads1_any _ _ _ _ _ _).mono ?_; rintro r w1 ⟨rfl, hb⟩; replace hb := box_first hb)
    go_ret
    exact ⟨rfl, box_out hb⟩
  · go_enter Tryz.func119, Tryz.ntmps119
    go_wp2_with fail
    obtain ⟨U, f, hU, hf, hg⟩ := calm_class (w.alloc (.cells #[.int .u16 jov, .int .u16 jox, .int .u16 jol, .int .i64 joe, .int .i64 jok, .int .u16 jnv, .int .u16 jnx, .int .u16 jnl, .int .i64 jne, .int .i64 jnk, .bool true] 27))
    refine wp_region_calm f (by kernel_rfl) (by kernel_rfl) (hg _ (Below.refl _ _).drew) ?_
    have ka := calm_block hf (heap_last w (.cells #[.int .u16 jov, .int .u16 jox, .int .u16 jol, .int .i64 joe, .int .i64 jok, .int .u16 jnv, .int .u16 jnx, .int .u16 jnl, .int .i64 jne, .int .i64 jnk, .bool true] 27))
    repeat (go_big_quiet_step ((go_at_call 120; exact calm_of hf hg (Leads1_any _ _ _ _ _ _))))
    refine wpQuiet_nil ?_
    rintro _ ⟨u1, rfl⟩
    go_wp2
    go_ret
    exact ⟨rfl, box_out (box_first (hf u1))⟩

set_option maxRecDepth 100000 in
set_option maxHeartbeats 400000 in
theorem confLeads_any (jov jox jol joe jok jnv jnx jnl jne jnk n : Int) (jt : Bool) (w : World) (ho : 0 ≤ jov) :
    Calls Tryz.prog 68 #[.agg #[.int .u16 jov, .int .u16 jox, .int .u16 jol, .int .i64 joe, .int .i64 jok, .int .u16 jnv, .int .u16 jnx, .int .u16 jnl, .int .i64 jne, .int .i64 jnk, .bool jt], .int .i64 n] w fun r w' => r = .returned (.bool (hasB (pickB jt jov jnv) n)) ∧ Below w.heap.size w w' := by
  have h0 := pickB_0 jt jov jnv ho
  go_enter Tryz.func68, Tryz.ntmps68
  go_wp2_with fail
  refine (bothLeads_any _ _ _ _ _ _ _ _ _ _ _ _).mono ?_; rintro r w1 ⟨rfl, hb⟩; replace hb := box_first hb
  go_wp2_with fail
  refine (has_any _ _ _ h0).mono ?_; rintro r w2 ⟨rfl, rfl⟩
  go_wp2_with fail
  go_ret
  exact ⟨rfl, box_out hb⟩
end Go.Proofs.YtbnndbdnejfehaaGreatDoor
