import Derived.Test.YtjaabakobpabjaaPlainHard
import Derived.Test.YtjaabakobpabjaaPlainMayL
import Derived.Test.YtjaabakobpabjaaLogD
import Derived.Test.YtjaabakobpabjaaPlainConf
import Derived.Test.YtjaabakobpabjaaNums
import Derived.Test.YtjaabakobpabjaaProg
import Derived.Test.YtjaabakobpabjaaPlainSets
import Derived.WalkKit
import Derived.WalkSpells
import Derived.WalkLawsBesides
import Derived.BigQuiet
import Derived.Deep.QuietTactic
import Derived.Lib.Hide
import Derived.IntWalk
import Derived.Outline
import Derived.Lib.Tables
/- Core: the plain law: which cores may be. -/
namespace Go.Proofs.Ytjaabakobpabjaa

/-- May a joint be? -/
def jnM (j : Jn) : Bool := mayJ j.ov j.ox j.ol j.oe j.ok j.nv j.nx j.nl j.ne j.nk j.two
def enM (e : Ent) : Bool := !decide (e.k = 2) || jnM e.j
def logM (l : Lg) : Bool := mayL l && jnM l.j && l.es.all enM
/-- May a core be? -/
structure CoMay (c : Co) : Prop where
  id0 : 1 ≤ c.id
  id1 : c.id ≤ 9
  ro0 : 0 ≤ c.role
  ro1 : c.role ≤ 2
  tm0 : 0 ≤ c.tm
  tm1 : c.tm ≤ 1099511627776
  vt0 : 0 ≤ c.vt
  vt1 : c.vt ≤ 9
  ld0 : 0 ≤ c.ld
  ld1 : c.ld ≤ 9
  l : logM c.l = true
  lt : lastTerm c.l ≤ c.tm
  cm0 : c.l.b ≤ c.cm
  cm1 : c.cm ≤ c.l.last
  wt0 : 0 ≤ c.wt
  wt1 : c.wt ≤ 1099511627776
  sf0 : 0 ≤ c.sf
  sf1 : c.sf ≤ 1099511627776
  nx : ∀ n, n < 10 → 0 ≤ c.nx n ∧ c.nx n ≤ 2199023255552
  mt : ∀ n, n < 10 → 0 ≤ c.mt n ∧ c.mt n ≤ c.l.last
theorem logM_may {l : Lg} (h : logM l = true) : mayL l = true := by
  unfold logM at h
  simp only [Bool.and_eq_true] at h
  exact h.1.1
theorem enM_at {l : List Ent} {k : Nat} (hk : k < l.length) : (l.drop k).all enM = (enM l[k] && (l.drop (k + 1)).all enM) := by
  rw [List.drop_eq_getElem_cons hk, List.all_cons]
theorem enM_other {e : Ent} (h : e.k ≠ 2) : enM e = true := by unfold enM; rw [decide_eq_false h]; rfl
theorem enM_conf {e : Ent} (h : e.k = 2) : enM e = jnM e.j := by unfold enM; rw [decide_eq_true h]; rfl
end Go.Proofs.Ytjaabakobpabjaa
/- Contracts of package sets and of its reference: what each function computes, for every argument. -/
namespace Go.Proofs.Ytjaabakobpabjaa
open Go.RowKit

theorem ret_intC {k : IntKind} {a b : Int} (h : a = b) : Ending.returned (.int k a) = .returned (.int k b) := by rw [h]
theorem ret_boolS {a b : Bool} (h : a = b) : Ending.returned (.bool a) = .returned (.bool b) := by rw [h]

theorem pow_grow (n : Int) (k : Nat) (hk : (k : Int) ≤ n) (hn : n ≤ 9) : (1 : Int) ≤ 2 ^ k ∧ (2 : Int) ^ k ≤ 512 := by
  have : k = 0 ∨ k = 1 ∨ k = 2 ∨ k = 3 ∨ k = 4 ∨ k = 5 ∨ k = 6 ∨ k = 7 ∨ k = 8 ∨ k = 9 := by omega
  rcases this with h | h | h | h | h | h | h | h | h | h <;> subst h <;> decide

set_option maxRecDepth 100000 in
set_option maxHeartbeats 400000 in
theorem bit_any (n : Int) (w : World) :
    Calls Try.prog 113 #[.int .i64 n] w fun e w' => e = .returned (.int .i64 (oneB n)) ∧ w = w' := by
  by_cases h1 : n < 1
  · go_enter Try.func113, Try.ntmps113
    go_wp2
    go_ret
    exact ⟨by simp [oneB, h1], rfl⟩
  · by_cases h2 : 9 < n
    · go_enter Try.func113, Try.ntmps113
      go_wp2
      go_ret
      exact ⟨by simp [oneB, h2], rfl⟩
    · have h1' : 1 ≤ n := by omega
      have h2' : n ≤ 9 := by omega
      have HO : Hid (oneB n = 2 ^ n.toNat) := by show _ = _; unfold oneB; rw [if_neg (by omega)]
      clear h1 h2
      go_enter Try.func113, Try.ntmps113
      go_wp2
      go_loop [3, 4] (fun v i => ∃ (k : Nat) (p : Int), (k : Int) ≤ n ∧ i = .int .i64 k ∧ v = .int .i64 p ∧ Hid (p = 2 ^ k)) (fun _ i => (n - intOf i).toNat)
      case atStart => exact ⟨0, 1, by omega, rfl, rfl, rfl⟩
      case round =>
        obtain ⟨k, p, hk, rfl, rfl, hp⟩ := hrel
        have hb : 1 ≤ p ∧ p ≤ 512 := by rw [hp.out]; exact pow_grow n k hk h2'
        obtain ⟨hb1, hb2⟩ := hb
        by_cases hlt : (k : Int) < n
        · go_wp2
          go_round
          case rel => exact ⟨k + 1, p * 2, by omega, by go_num, rfl, by show _ = _; rw [hp.out]; exact (Int.pow_succ 2 k).symm⟩
          case measure => simp [intOf]; omega
        · go_wp2
          go_ret
          exact ⟨ret_intC (by rw [HO.out, hp.out, show n.toNat = k by omega]), rfl⟩

set_option maxRecDepth 100000 in
set_option maxHeartbeats 400000 in
theorem refHas_any (s n : Int) (w : World) (h0 : 0 ≤ s) (hs : s ≤ 65535) :
    Calls Try.prog 114 #[.int .u16 s, .int .i64 n] w fun e w' => e = .returned (.bool (hasB s n)) ∧ w = w' := by
  have hf := oneB_fit n
  obtain ⟨hf1, hf2⟩ := hf
  by_cases h1 : 1 ≤ n ∧ n ≤ 9
  · obtain ⟨h1, h2⟩ := h1
    have hp := oneB_pos n h1 h2
    have HO := Lib.hid (div_bit s n h0 h1 h2)
    have hq : 0 ≤ s / oneB n := Int.ediv_nonneg h0 (by omega)
    go_enter Try.func114, Try.ntmps114
    go_wp2_with (go_at_call 113; refine (bit_any _ _).mono ?_; rintro e w' ⟨rfl, rfl⟩)
    go_ret
    exact ⟨ret_boolS HO.out, rfl⟩
  · have HZ : Hid (hasB s n = false) := by show _ = _; unfold hasB; simp; omega
    have hz : ¬ 0 < oneB n := by unfold oneB; rw [if_pos (by omega)]; omega
    clear h1
    go_enter Try.func114, Try.ntmps114
    go_wp2_with (go_at_call 113; refine (bit_any _ _).mono ?_; rintro e w' ⟨rfl, rfl⟩)
    go_ret
    exact ⟨ret_boolS HZ.out.symm, rfl⟩

set_option maxRecDepth 100000 in
set_option maxHeartbeats 400000 in
theorem refWith_any (s n : Int) (w : World) (h0 : 0 ≤ s) (hs : s ≤ 65535) :
    Calls Try.prog 115 #[.int .u16 s, .int .i64 n] w fun e w' => e = .returned (.int .u16 (bits .or .u16 s (oneB n))) ∧ w = w' := by
  obtain ⟨hf1, hf2⟩ := oneB_fit n
  cases hb : hasB s n
  · have HO := Lib.hid (with_ref s n h0 hs hb)
    have HB := Lib.hid hb
    clear hb
    go_enter Try.func115, Try.ntmps115
    go_wp2_with (first | (go_at_call 114; refine (refHas_any _ _ _ h0 hs).mono ?_; rintro e w' ⟨rfl, rfl⟩; rw [HB.out]) | (go_at_call 113; refine (bit_any _ _).mono ?_; rintro e w' ⟨rfl, rfl⟩))
    go_ret
    exact ⟨ret_intC HO.out, rfl⟩
  · have HO := Lib.hid (with_has s n h0 hs hb)
    have HB := Lib.hid hb
    clear hb
    go_enter Try.func115, Try.ntmps115
    go_wp2_with (go_at_call 114; refine (refHas_any _ _ _ h0 hs).mono ?_; rintro e w' ⟨rfl, rfl⟩; rw [HB.out])
    go_ret
    exact ⟨ret_intC HO.out.symm, rfl⟩

theorem Try.infoInt : (Try.prog.info? 3).map (fun i => (i.zero, i.size, i.bytes)) = some (some (.int .i64 0), 1, 8) := by kernel_rfl

set_option maxRecDepth 100000 in
set_option maxHeartbeats 400000 in
theorem refList_any (s : Int) (w : World) (h0 : 0 ≤ s) (hs : s ≤ 65535) :
    Calls Try.prog 112 #[.int .u16 s] w fun e w' => ∃ v, e = .returned v ∧ w'.ownsRow w.heap.size 3 1 v (lst s 9).length ((lst s 9).map (Value.int .i64)) ∧ Below w.heap.size w w' := by
  obtain ⟨i0, hi, hz0, hz1, hz2⟩ := info_parts Try.infoInt
  go_enter Try.func112, Try.ntmps112
  go_wp2
  go_loopw [3, 4] (fun v i wr => ∃ k : Nat, k ≤ 9 ∧ i = .int .i64 (k + 1) ∧ wr.ownsRow w.heap.size 3 1 v (lst s k).length ((lst s k).map (Value.int .i64)) ∧ Below w.heap.size w wr) (fun _ i _ => 10 - (intOf i).toNat)
  case atStart => exact ⟨0, by omega, rfl, World.ownsRow_nil _ _ _ _, Below.refl _ _⟩
  case round =>
    obtain ⟨k, hk, rfl, hown, hbel⟩ := hrel
    have hl := lst_le s k
    have hsz := hbel.size
    by_cases hlt : k < 9
    · cases hb : hasB s ((k : Int) + 1)
      · have HB := Lib.hid hb
        have HL := Lib.hid (lst_miss s k hb)
        clear hb
        go_wp2_with (go_at_call 114; refine (refHas_any _ _ _ h0 hs).mono ?_; rintro e w' ⟨rfl, rfl⟩; rw [HB.out])
        go_roundw
        case rel => exact ⟨k + 1, by omega, by go_num, by rw [HL.out]; exact hown, hbel⟩
        case measure => simp [intOf]; omega
      · have HB := Lib.hid hb
        have HL := Lib.hid (lst_hit s k hb)
        clear hb
        go_wp2_with (first | (go_at_call 114; refine (refHas_any _ _ _ h0 hs).mono ?_; rintro e w' ⟨rfl, rfl⟩; rw [HB.out]) | (at_builtin; refine wpList_append_own _ rfl _ _ 108 rfl w.heap.size 3 i0 (.int .i64 0) 1 8 Try.underlying108 hi hz0 hz1 hz2 rfl (by decide) _ _ _ rfl (hown.alloc _) ⟨_, 0, none⟩ 1 1 [.int .i64 ((k : Int) + 1)] rfl rfl (cell_one_new _ _ _) ?c2 ?c3 ?c4 ?c5 ?_))
        case c2 => simp [Value.oneCell']
        case c3 => unfold maxLen; omega
        case c4 => omega
        case c5 => simp; omega
        intro v' w1 hown' hgrow _
        have hb1 : Below w.heap.size w w1 := (hbel.alloc hsz _).grown hgrow (by simp; omega) (fun j hj => (hown.lt j hj).1)
        have HO : Hid (w1.ownsRow w.heap.size 3 1 v' (lst s (k + 1)).length ((lst s (k + 1)).map (Value.int .i64))) := by show World.ownsRow _ _ _ _ _ _ _; rw [HL.out]; simpa using hown'
        clear hown' hgrow hbel hown
        go_wp2
        go_roundw
        case rel => exact ⟨k + 1, by omega, by go_num, HO.out, hb1⟩
        case measure => simp [intOf]; omega
    · go_wp2
      go_ret
      obtain rfl : k = 9 := by omega
      exact ⟨_, rfl, hown, hbel⟩

/-- A row that the call owns, one cell an element: its slice, and where its cells lie. -/
theorem own_sliceS {w : World} {base : Nat} {e : TypeId} {v : Value} {n : Nat} {xs : List Value} (h : w.ownsRow base e 1 v n xs) :
    ∃ a cap, v = .slice a n cap ∧ (∀ j, j < n → ∃ g, a = some ⟨g, 0, none⟩ ∧ base ≤ g ∧ g < w.heap.size ∧ w.cell? ⟨g, j, none⟩ = xs[j]?) := by
  have h0 := h
  rcases h.2 with ⟨rfl, rfl⟩ | ⟨g, cap, cur, rfl, hb, hg, hn, hm, hs, ht⟩
  · exact ⟨none, 0, rfl, fun j hj => absurd hj (by omega)⟩
  · exact ⟨_, cap, rfl, fun j hj => ⟨g, rfl, hb, (Array.getElem?_eq_some_iff.1 hg).1, h0.cellAt j (by omega)⟩⟩

set_option maxRecDepth 100000 in
set_option maxHeartbeats 400000 in
theorem refCount_any (s : Int) (w : World) (h0 : 0 ≤ s) (hs : s ≤ 65535) :
    Calls Try.prog 103 #[.int .u16 s] w fun e w' => e = .returned (.int .i64 (cnt s)) ∧ Below w.heap.size w w' := by
  go_enter Try.func103, Try.ntmps103
  go_wp2_with fail
  refine (refList_any s _ h0 hs).mono ?_
  rintro e w1 ⟨v, rfl, hown, hb⟩
  obtain ⟨a, cap, rfl, -⟩ := own_sliceS hown
  clear hown
  go_wp2
  go_ret
  exact ⟨rfl, hb⟩

theorem lst_len (s : Int) : (lst s 9).length ≤ 9 := lst_le s 9

set_option maxRecDepth 100000 in
set_option maxHeartbeats 400000 in
theorem refMay_any (s : Int) (w : World) (h0 : 0 ≤ s) (hs : s ≤ 65535) :
    Calls Try.prog 100 #[.int .u16 s] w fun e w' => e = .returned (.bool (mayB s)) ∧ Below w.heap.size w w' := by
  have HM := Lib.hid (may_ref s h0 hs)
  have hlen := lst_len s
  have HB := Lib.hid (fun k => sumB_bound ((lst s 9).take k))
  go_enter Try.func100, Try.ntmps100
  go_wp2_with fail
  refine (refList_any s _ h0 hs).mono ?_
  rintro e w1 ⟨v, rfl, hown, hb⟩
  obtain ⟨a, cap, rfl, hc⟩ := own_sliceS hown
  have HC := Lib.hid hc
  clear hown hc
  go_wp2
  go_loop [3, 5] (fun v i => ∃ k : Nat, k ≤ (lst s 9).length ∧ i = .int .i64 k ∧ v = .int .i64 (sumB ((lst s 9).take k))) (fun _ i => (lst s 9).length - (intOf i).toNat)
  case atStart => exact ⟨0, by omega, rfl, rfl⟩
  case round =>
    obtain ⟨k, hk, rfl, rfl⟩ := hrel
    obtain ⟨hb1, hb2⟩ := HB.out k
    rw [List.length_take] at hb2
    by_cases hlt : k < (lst s 9).length
    · obtain ⟨g, rfl, -, -, hcell⟩ := HC.out k hlt
      have hcell' : w1.cell? ⟨g, k, none⟩ = some (.int .i64 ((lst s 9)[k])) := by rw [hcell]; simp [hlt]
      have HS : Hid (sumB ((lst s 9).take (k + 1)) = sumB ((lst s 9).take k) + oneB ((lst s 9)[k])) := by
        show _ = _
        rw [List.take_add_one, ← sumB_snoc]; simp [hlt]
      have hO := oneB_fit ((lst s 9)[k])
      obtain ⟨hO1, hO2⟩ := hO
      clear hcell
      go_wp2_with (go_at_call 113; refine (bit_any _ _).mono ?_; rintro e w' ⟨rfl, rfl⟩)
      go_round
      case rel => exact ⟨k + 1, by omega, by go_num, by rw [HS.out]⟩
      case measure => simp [intOf]; omega
    · have HE : Hid (sumB ((lst s 9).take k) = sumB (lst s 9)) := by show _ = _; rw [List.take_of_length_le (by omega)]
      go_wp2
      go_ret
      exact ⟨ret_boolS (by rw [HE.out]; exact HM.out), hb⟩

theorem gat_step (f : Int → Bool) (k : Nat) (b : Bool) (h : f ((k : Int) + 1) = b) : gat f (k + 1) = if b then bits .or .u16 (gat f k) (oneB ((k : Int) + 1)) else gat f k := by
  subst h; simp only [gat]

end Go.Proofs.Ytjaabakobpabjaa
