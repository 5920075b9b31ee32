/- The counter's 'next', and Subsets that calls it. -/
import Derived.Test.YtaaagidooieejaaDoorSets
import Derived.Test.YtaaagidooieejaaDoorCalm
import Derived.Test.YtaaagidooieejaaDoorPlainParts
namespace Go.Proofs.YtaaagidooieejaaDoor
open Go.RowKit

theorem cells_setCell {w : World} {b o : Nat} {cs : Array Value} {t : TypeId} {u : Value} (h : w.heap[b]? = some (.cells cs t (0, 0))) : (w.setCell ⟨b, o, none⟩ u).heap[b]? = some (.cells (cs.setIfInBounds o u) t (0, 0)) := by
  have hlt := block_lt h
  have h' : w.heap[b] = .cells cs t (0, 0) := by simpa [Array.getElem?_eq_getElem hlt] using h
  show (w.heap.modify b _)[b]? = _
  rw [Array.getElem?_eq_getElem (by simpa using hlt), Array.getElem_modify_self, h']
  rfl
theorem below_set3 (c : Nat) (w : World) (o1 o2 o3 : Nat) (u1 u2 u3 : Value) : Below c w (((w.setCell ⟨c, o1, none⟩ u1).setCell ⟨c, o2, none⟩ u2).setCell ⟨c, o3, none⟩ u3) :=
  (((Below.refl c w).setCell (p := ⟨c, o1, none⟩) (Nat.le_refl c) u1).setCell (p := ⟨c, o2, none⟩) (Nat.le_refl c) u2).setCell (p := ⟨c, o3, none⟩) (Nat.le_refl c) u3
abbrev ctr (n last stop : Int) (good : Bool) (all : Int) : Array Value := #[.int .i64 n, .int .i64 last, .int .i64 stop, .bool good, .int .u16 all]

set_option maxRecDepth 100000 in
set_option maxHeartbeats 1000000 in
theorem next_any (c : Nat) (n last stop x all : Int) (good : Bool) (w : World) (n0 : 0 ≤ n) (n1 : n ≤ 1000) (x0 : 0 ≤ x) (x1 : x ≤ 65535)
    (hc : w.heap[c]? = some (.cells (ctr n last stop good all) 38 (0, 0))) :
    Calls Tryd.prog 20 #[.pointer (some ⟨c, 0, none⟩), .int .u16 x] w fun r w' => r = .returned (.bool (n + 1 != stop)) ∧
      w'.heap[c]? = some (.cells (ctr (n + 1) x stop (nextG all last good x) all) 38 (0, 0)) ∧ Below c w w' := by
  have kc := block_cells hc
  have fc := block_free hc
  cases good
  · go_enter Tryd.func20, Tryd.ntmps20
    go_wp2_with fail
    obtain ⟨W, hW⟩ : ∃ W, ((w.setCell ⟨c, 3, none⟩ (.bool false)).setCell ⟨c, 0, none⟩ (.int .i64 (n + 1))).setCell ⟨c, 1, none⟩ (.int .i64 x) = W := ⟨_, rfl⟩
    have HA := cells_setCell (o := 1) (u := .int .i64 x) (cells_setCell (o := 0) (u := .int .i64 (n + 1)) (cells_setCell (o := 3) (u := .bool false) hc))
    have hb : Below c w W := by rw [← hW]; exact below_set3 c w _ _ _ _ _ _
    rw [hW] at HA ⊢
    obtain ⟨U, f, hU, hf, hg⟩ := calm_class W
    have kA := calm_block hf HA
    have HA2 := Lib.hid HA
    have HB := Lib.hid hb
    clear hc kc fc hW HA hb
    refine wp_region_calm f (by kernel_rfl) (by kernel_rfl) (hg _ (Below.refl _ _).drew) ?_
    repeat (go_big_quiet_step (fail))
    refine wpQuiet_nil ?_; rintro _ ⟨u1, rfl⟩
    go_wp2
    go_ret
    refine ⟨rfl, ?_, HB.out.trans ((hf u1).mono (Nat.le_of_lt (block_lt HA2.out)))⟩
    rw [below_block (hf u1) (block_lt HA2.out) HA2.out]
    rfl
  by_cases hlt : last < x
  · go_enter Tryd.func20, Tryd.ntmps20
    go_wp2_with fail
    obtain ⟨W, hW⟩ : ∃ W, ((w.setCell ⟨c, 3, none⟩ (.bool (bits .and .u16 x all == x))).setCell ⟨c, 0, none⟩ (.int .i64 (n + 1))).setCell ⟨c, 1, none⟩ (.int .i64 x) = W := ⟨_, rfl⟩
    have HA := cells_setCell (o := 1) (u := .int .i64 x) (cells_setCell (o := 0) (u := .int .i64 (n + 1)) (cells_setCell (o := 3) (u := .bool (bits .and .u16 x all == x)) hc))
    have hb : Below c w W := by rw [← hW]; exact below_set3 c w _ _ _ _ _ _
    rw [hW] at HA ⊢
    obtain ⟨U, f, hU, hf, hg⟩ := calm_class W
    have kA := calm_block hf HA
    have HA2 := Lib.hid HA
    have HB := Lib.hid hb
    clear hc kc fc hW HA hb
    refine wp_region_calm f (by kernel_rfl) (by kernel_rfl) (hg _ (Below.refl _ _).drew) ?_
    repeat (go_big_quiet_step (fail))
    refine wpQuiet_nil ?_; rintro _ ⟨u1, rfl⟩
    go_wp2
    go_ret
    refine ⟨rfl, ?_, HB.out.trans ((hf u1).mono (Nat.le_of_lt (block_lt HA2.out)))⟩
    rw [below_block (hf u1) (block_lt HA2.out) HA2.out]
    have e : nextG all last true x = (bits .and .u16 x all == x) := by simp [nextG, hlt]
    rw [e]; rfl
  · go_enter Tryd.func20, Tryd.ntmps20
    go_wp2_with fail
    obtain ⟨W, hW⟩ : ∃ W, ((w.setCell ⟨c, 3, none⟩ (.bool false)).setCell ⟨c, 0, none⟩ (.int .i64 (n + 1))).setCell ⟨c, 1, none⟩ (.int .i64 x) = W := ⟨_, rfl⟩
    have HA := cells_setCell (o := 1) (u := .int .i64 x) (cells_setCell (o := 0) (u := .int .i64 (n + 1)) (cells_setCell (o := 3) (u := .bool false) hc))
    have hb : Below c w W := by rw [← hW]; exact below_set3 c w _ _ _ _ _ _
    rw [hW] at HA ⊢
    obtain ⟨U, f, hU, hf, hg⟩ := calm_class W
    have kA := calm_block hf HA
    have HA2 := Lib.hid HA
    have HB := Lib.hid hb
    clear hc kc fc hW HA hb
    refine wp_region_calm f (by kernel_rfl) (by kernel_rfl) (hg _ (Below.refl _ _).drew) ?_
    repeat (go_big_quiet_step (fail))
    refine wpQuiet_nil ?_; rintro _ ⟨u1, rfl⟩
    go_wp2
    go_ret
    refine ⟨rfl, ?_, HB.out.trans ((hf u1).mono (Nat.le_of_lt (block_lt HA2.out)))⟩
    rw [below_block (hf u1) (block_lt HA2.out) HA2.out]
    have e : nextG all last true x = false := by simp [nextG]; intro h; omega
    rw [e]; rfl

theorem rise_next {S : Int} {k : Nat} {x last : Int} {L : Nat} (h : rise S k x last = some L) : ∃ k', k = k' + 1 ∧ (x ≠ S → ∃ L', rise S k' (bits .and .u16 (IntKind.u16.wrap (x - S)) S) x = some L') := by
  cases k with
  | zero => cases h
  | succ k =>
    refine ⟨k, rfl, fun hx => ?_⟩
    unfold rise at h
    split at h
    · cases hr : rise S k (bits .and .u16 (IntKind.u16.wrap (x - S)) S) x with
      | none => rw [hr] at h; cases h
      | some L' => exact ⟨L', rfl⟩
    · cases h
/-- What the counter has counted. -/
def counted (w : World) (c : Nat) : Nat := match w.cell? ⟨c, 0, none⟩ with | some v => (intOf v).toNat | none => 0

set_option maxRecDepth 100000 in
set_option maxHeartbeats 1000000 in
theorem subsets_any (c : Nat) (s S stop all : Int) (L : Nat) (w : World) (hS : S = bits .and .u16 s 1022) (hr : rise S 512 0 (-1) = some L)
    (hc : w.heap[c]? = some (.cells (ctr 0 (-1) stop true all) 38 (0, 0))) :
    Calls Tryd.prog 19 #[.int .u16 s, .func (.func 20) #[.pointer (some ⟨c, 0, none⟩)] #[]] w fun r w' => r = .returned (.tuple #[]) ∧
      w'.heap[c]? = some (.cells (ctr (tells all stop S 512 0 0 (-1) true).1 (tells all stop S 512 0 0 (-1) true).2.1 stop (tells all stop S 512 0 0 (-1) true).2.2 all) 38 (0, 0)) ∧ Below c w w' := by
  have HR := Lib.hid hr
  have HC := Lib.hid hc
  obtain ⟨F, hF⟩ : ∃ F, tells all stop S 512 0 0 (-1) true = F := ⟨_, rfl⟩
  rw [hF]
  have HF := Lib.hid hF
  have HE := Lib.hid hS
  obtain ⟨S0, S1⟩ := (show 0 ≤ S ∧ S ≤ 65535 by rw [hS]; exact bits_fit .and s 1022)
  clear hr hc hF hS
  have hq : ∀ (w : World) (fn : Fn) (a b : Array Value), (binOp .eql 33 (.func fn a b) .nilFunc).run Tryd.prog w = .ok (.bool false) w := fun _ _ _ _ => by kernel_rfl
  go_enter Tryd.func19, Tryd.ntmps19
  go_wp2_with fail
  rw [← HE.out]
  go_loopw [4] (fun v wr => ∃ (k : Nat) (x n last : Int) (good : Bool) (M : Nat), v = .int .u16 x ∧ 0 ≤ x ∧ x ≤ 65535 ∧ 0 ≤ n ∧ n + k = 512 ∧ Hid (wr.heap[c]? = some (.cells (ctr n last stop good all) 38 (0, 0))) ∧ Below c w wr ∧ Hid (rise S k x last = some M) ∧ Hid (tells all stop S k x n last good = F)) (fun _ wr => 512 - counted wr c)
  case atStart => exact ⟨512, 0, 0, -1, true, L, rfl, by decide, by decide, by decide, rfl, HC, Below.refl _ _, HR, HF⟩
  case round =>
    obtain ⟨k, x, n, last, good, M, rfl, x0, x1, n0, hk, hcw, hb, hr, ht⟩ := hrel
    obtain ⟨k', hkk, hnx⟩ := rise_next hr.out
    have HT : Hid (F = if n + 1 = stop ∨ x = S then (n + 1, x, nextG all last good x) else tells all stop S k' (bits .and .u16 (IntKind.u16.wrap (x - S)) S) (n + 1) x (nextG all last good x)) := by
      show _ = _; rw [← ht.out, hkk]; rfl
    have HN := Lib.hid hnx
    have hk' : n + k' + 1 = 512 := by omega
    have HM : Hid (counted wr c = n.toNat) := by show _ = _; unfold counted; rw [block_cells hcw.out 0]; rfl
    have hbx := bits_fit .and (IntKind.u16.wrap (x - S)) S
    obtain ⟨hb0, hb1⟩ := hbx
    have HB := Lib.hid hb
    clear ht hnx hr hkk hk hb
    have NX := Lib.hid (fun w => next_any c n last stop x all good w n0 (by omega) x0 x1)
    by_cases hs : n + 1 = stop
    · have hs1 : (n + 1 != stop) = false := by simp [hs]
      have HS := Lib.hid hs
      clear hs
      go_wp2_with fail
      refine (NX.out _ hcw.out).mono ?_; rintro r w2 ⟨rfl, hc2, hb2⟩; rw [hs1]
      go_wp2_with fail
      go_end0
      rw [HT.out, if_pos (.inl HS.out)]
      exact ⟨rfl, hc2, HB.out.trans hb2⟩
    · have hs1 : (n + 1 != stop) = true := by simp [hs]
      have HS := Lib.hid hs
      clear hs
      by_cases hx : x = S
      · have HX := Lib.hid hx
        have hx1 : (x == S) = true := by simp [hx]
        clear hx
        go_wp2_with fail
        refine (NX.out _ hcw.out).mono ?_; rintro r w2 ⟨rfl, hc2, hb2⟩; rw [hs1]
        go_wp2_with fail
        (first | (simp only [Exit.inBlock, Exit.then]; refine bodyPost_ret (results_none rfl _ _ _) rfl ?_) | refine bodyPost_ret (results_none rfl _ _ _) rfl ?_)
        rw [HT.out, if_pos (.inr HX.out)]
        exact ⟨rfl, hc2, HB.out.trans hb2⟩
      · have HX := Lib.hid hx
        have hx1 : (x == S) = false := by simp [hx]
        clear hx
        go_wp2_with fail
        refine (NX.out _ hcw.out).mono ?_; rintro r w2 ⟨rfl, hc2, hb2⟩; rw [hs1]
        obtain ⟨M', hM'⟩ := HN.out HX.out
        have HM' := Lib.hid hM'
        have HC2 := Lib.hid hc2
        clear hM' hc2
        go_wp2_with fail
        go_roundw
        case rel => exact ⟨k', _, n + 1, x, _, M', rfl, hb0, hb1, by omega, by omega, HC2, HB.out.trans hb2, HM', by rw [HT.out, if_neg (by simp [HS.out, HX.out])]; rfl⟩
        case measure => rw [HM.out]; have : counted w2 c = (n + 1).toNat := (by unfold counted; rw [block_cells HC2.out 0]; rfl); omega
end Go.Proofs.YtaaagidooieejaaDoor
