import Derived.Test.YtbnndbdnejfehaaGreatDoorActL
import Derived.Test.YtbnndbdnejfehaaGreatDoorActB
import Derived.Test.YtbnndbdnejfehaaGreatDoorSets
/- Core: the plain law: the least number that all voters have, as the program and as the reference reckon it. -/
namespace Go.Proofs.YtbnndbdnejfehaaGreatDoor

/-- The least of some, and of a first one. -/
def mnF (mt : Nat → Int) (L : List Int) (m : Int) : Int := L.foldl (fun m n => min m (mt n.toNat)) m
theorem mnF_app (mt : Nat → Int) (L L' : List Int) (m : Int) : mnF mt (L ++ L') m = mnF mt L' (mnF mt L m) := by unfold mnF; rw [List.foldl_append]
/-- What is in force behind an entry of a configuration's kind. -/
theorem conf_push {l : Lg} {e : Ent} (h : e.k = 2) : confL (pushL l e) = e.j := by
  unfold confL pushL
  show confF l.j (l.es ++ [e]) = _
  rw [confF_app]
  show (if e.k = 2 then e.j else _) = _
  rw [if_pos h]
theorem counts_two {c : Co} (h : ¬ (count1 c).cm < standL c.l) (h2 : (confL c.l).two = true) : countsC c = countsC (pushC (count1 c) (finE c)) := by
  have e : confL (pushC (count1 c) (finE c)).l = finalN (confL c.l) := conf_push rfl
  have e2 : (confL (pushC (count1 c) (finE c)).l).two = false := by rw [e]; exact final_one _
  conv => lhs; unfold countsC
  rw [if_neg h, if_pos h2]
  conv => rhs; unfold countsC
  rw [if_neg (by rw [e2]; decide : ¬ (confL (pushC (count1 c) (finE c)).l).two = true)]
  unfold endC
  split
  · rename_i h3; exact (if_pos (show _ < standL (pushC (count1 c) (finE c)).l from h3)).symm
  · rename_i h3; exact (if_neg (show ¬ _ < standL (pushC (count1 c) (finE c)).l from h3)).symm
theorem counts_low {c : Co} (h : (count1 c).cm < standL c.l) : countsC c = count1 c := by unfold countsC; rw [if_pos h]
theorem counts_one {c : Co} (h : ¬ (count1 c).cm < standL c.l) (h2 : (confL c.l).two = false) : countsC c = if leadsN (confL c.l) c.id = true then count1 c else yieldsC (count1 c) := by
  unfold countsC
  rw [if_neg h, if_neg (by rw [h2]; decide)]
  unfold endC
  exact if_neg (show ¬ _ < standL (count1 c).l from h)
end Go.Proofs.YtbnndbdnejfehaaGreatDoor
/- Core: methods of an act: who has the log up to a number. -/
namespace Go.Proofs.YtbnndbdnejfehaaGreatDoor
open Go.ChangeShapes Go.WideShapes Go.ChangeAt Go.RowKit

theorem matchedF_fit (mt : Nat → Int) (i : Int) : ∀ n, 0 ≤ matchedF mt i n ∧ matchedF mt i n ≤ 65535
  | 0 => ⟨Int.le_refl 0, by show (0 : Int) ≤ 65535; decide⟩
  | n + 1 => by
    unfold matchedF
    split
    · exact bits_fit _ _ _
    · exact matchedF_fit mt i n

set_option maxRecDepth 100000 in
set_option maxHeartbeats 8000000 in
theorem matched_act (R : Nat) (c : Co) (p : Option Addr) (k : Nat) (v : Value) (x : Int) (w : World) (hR : w.heap[R]? = some (.cells #[.int .i64 c.id, .int .i64 c.role, .int .i64 c.tm, .int .i64 c.vt, .int .i64 c.ld, .int .i64 c.wt, .int .i64 c.cm, .int .i64 c.sf, .int .i64 c.l.b, .int .i64 c.l.bt, .int .u16 c.l.j.ov, .int .u16 c.l.j.ox, .int .u16 c.l.j.ol, .int .i64 c.l.j.oe, .int .i64 c.l.j.ok, .int .u16 c.l.j.nv, .int .u16 c.l.j.nx, .int .u16 c.l.j.nl, .int .i64 c.l.j.ne, .int .i64 c.l.j.nk, .bool c.l.j.two, .slice p c.l.es.length k, .string c.sn, .int .u16 c.vs, .int .u16 c.hd, .int .i64 (c.nx 0), .int .i64 (c.nx 1), .int .i64 (c.nx 2), .int .i64 (c.nx 3), .int .i64 (c.nx 4), .int .i64 (c.nx 5), .int .i64 (c.nx 6), .int .i64 (c.nx 7), .int .i64 (c.nx 8), .int .i64 (c.nx 9), .int .i64 (c.mt 0), .int .i64 (c.mt 1), .int .i64 (c.mt 2), .int .i64 (c.mt 3), .int .i64 (c.mt 4), .int .i64 (c.mt 5), .int .i64 (c.mt 6), .int .i64 (c.mt 7), .int .i64 (c.mt 8), .int .i64 (c.mt 9), v] 69 (0, 0))) :
    Calls Tryz.prog 129 #[.pointer (some ⟨R, 0, none⟩), .int .i64 x] w fun e w' => e = .returned (.int .u16 (matchedC c x)) ∧ w = w' := by
  have HR := Lib.hid hR
  clear hR
  go_enter Tryz.func129, Tryz.ntmps129
  go_wp2_with fail
  go_loop [5, 6] (fun s i => ∃ n : Nat, n ≤ 9 ∧ s = .int .u16 (matchedF c.mt x n) ∧ i = .int .i64 ((n : Int) + 1)) (fun _ i => 10 - (intOf i).toNat)
  case atStart => exact ⟨0, Nat.zero_le _, rfl, rfl⟩
  case round =>
    obtain ⟨n, hn, rfl, rfl⟩ := hrel
    by_cases hlt : n < 9
    · have hd : decide ((n : Int) + 1 ≤ 9) = true := by simp; omega
      have kM := ac_mt HR.out (n := n + 1) (by omega)
      have hn0 : 0 ≤ (n : Int) + 1 := by omega
      have hn1 : (n : Int) + 1 < 10 := by omega
      obtain ⟨y, hy⟩ : ∃ y, c.mt (n + 1) = y := ⟨_, rfl⟩
      obtain ⟨s, hs⟩ : ∃ s, matchedF c.mt x n = s := ⟨_, rfl⟩
      have hf := matchedF_fit c.mt x n
      rewrite [hy] at kM
      rewrite [hs] at hf ⊢
      by_cases h : x ≤ y
      · have hN : matchedF c.mt x (n + 1) = bits .or .u16 s (oneB ((n : Int) + 1)) := by
          have h2 : x ≤ c.mt (n + 1) := by rw [hy]; exact h
          rw [matchedF, if_pos h2, hs]; rfl
        have HN := Lib.hid hN
        have HW := Lib.hid (show Calls Tryz.prog 40 #[.int .u16 s, .int .i64 ((n : Int) + 1)] w fun e w' => e = .returned (.int .u16 (bits .or .u16 s (oneB ((n : Int) + 1)))) ∧ w = w' from with_any _ _ w)
        clear hN hy hs hf
        go_wp2_with fail
        refine HW.out.mono ?_; rintro e w2 ⟨rfl, rfl⟩
        rewrite [← HN.out]
        go_wp2_with fail
        go_round
        case rel => exact ⟨n + 1, by omega, by go_num, by go_num⟩
        case measure => simp [intOf]; omega
      · have hN : matchedF c.mt x (n + 1) = s := by
          have h2 : ¬ x ≤ c.mt (n + 1) := by rw [hy]; exact h
          rw [matchedF, if_neg h2, hs]
        have HN := Lib.hid hN
        clear hN hy hs hf
        go_wp2_with fail
        go_round
        case rel => exact ⟨n + 1, by omega, by rw [HN.out], by go_num⟩
        case measure => simp [intOf]; omega
    · obtain rfl : n = 9 := by omega
      go_wp2_with fail
      go_ret
      exact ⟨rfl, rfl⟩
end Go.Proofs.YtbnndbdnejfehaaGreatDoor
/- Core: methods of an act: who is late is answered. -/
namespace Go.Proofs.YtbnndbdnejfehaaGreatDoor
open Go.ChangeShapes Go.WideShapes Go.ChangeAt Go.RowKit

set_option maxRecDepth 100000 in
set_option maxHeartbeats 8000000 in
theorem late_act (B R : Nat) (c : Co) (p : Option Addr) (k : Nat) (v : Value) (l : List MsX) (m : Ms) (q : Option Addr) (d : Nat) (w : World) (h : AcW 69 B w R ⟨c, p, k⟩ v l) (hl : l.length ≤ 90000) :
    Calls Tryz.prog 38 #[.pointer (some ⟨R, 0, none⟩), .agg #[.int .i64 m.k, .int .i64 m.fr, .int .i64 m.dst, .int .i64 m.tm, .int .i64 m.ix, .int .i64 m.lt, .int .i64 m.cm, .int .i64 m.sf, .bool m.yes, .slice q m.es.length d, .string m.sn, .int .u16 m.cf.ov, .int .u16 m.cf.ox, .int .u16 m.cf.ol, .int .i64 m.cf.oe, .int .i64 m.cf.ok, .int .u16 m.cf.nv, .int .u16 m.cf.nx, .int .u16 m.cf.nl, .int .i64 m.cf.ne, .int .i64 m.cf.nk, .bool m.cf.two]] w fun e w' => e = .returned (.tuple #[]) ∧ ∃ v' l', l'.map MsX.m = (lateA ⟨c, l.map MsX.m⟩ m).out ∧ AcW 69 B w' R ⟨c, p, k⟩ v' l' ∧ AcR w w' R v v' := by
  obtain ⟨W, hW⟩ : ∃ z : World, w.alloc (.cells #[.int .i64 m.k, .int .i64 m.fr, .int .i64 m.dst, .int .i64 m.tm, .int .i64 m.ix, .int .i64 m.lt, .int .i64 m.cm, .int .i64 m.sf, .bool m.yes, .slice q m.es.length d, .string m.sn, .int .u16 m.cf.ov, .int .u16 m.cf.ox, .int .u16 m.cf.ol, .int .i64 m.cf.oe, .int .i64 m.cf.ok, .int .u16 m.cf.nv, .int .u16 m.cf.nx, .int .u16 m.cf.nl, .int .i64 m.cf.ne, .int .i64 m.cf.nk, .bool m.cf.two] 39) = z := ⟨_, rfl⟩
  have hb : Below w.heap.size w W := by rw [← hW]; exact (Below.refl _ _).alloc (Nat.le_refl _) _
  have hX : W.heap[w.heap.size]? = some (.cells #[.int .i64 m.k, .int .i64 m.fr, .int .i64 m.dst, .int .i64 m.tm, .int .i64 m.ix, .int .i64 m.lt, .int .i64 m.cm, .int .i64 m.sf, .bool m.yes, .slice q m.es.length d, .string m.sn, .int .u16 m.cf.ov, .int .u16 m.cf.ox, .int .u16 m.cf.ol, .int .i64 m.cf.oe, .int .i64 m.cf.ok, .int .u16 m.cf.nv, .int .u16 m.cf.nx, .int .u16 m.cf.nl, .int .i64 m.cf.ne, .int .i64 m.cf.nk, .bool m.cf.two] 39 (0, 0)) := by rw [← hW]; exact heap_last w _
  have HA := Lib.hid (h.keep hb); have HB := Lib.hid (AcR.below (R := R) (v := v) hb); have HW := Lib.hid hW
  have kX := block_cells hX
  obtain ⟨L, hL⟩ : ∃ L, (lateA ⟨c, l.map MsX.m⟩ m).out = L := ⟨_, rfl⟩
  have HL := Lib.hid hL
  rw [hL]
  have HS := Lib.hid (show ∀ kk : Int, Calls Tryz.prog 89 #[.pointer (some ⟨R, 0, none⟩), .int .i64 m.fr, .agg #[.int .i64 kk, .int .i64 0, .int .i64 0, .int .i64 0, .int .i64 0, .int .i64 0, .int .i64 0, .int .i64 0, .bool false, .slice none 0 0, .string ⟨#[]⟩, .int .u16 0, .int .u16 0, .int .u16 0, .int .i64 0, .int .i64 0, .int .u16 0, .int .u16 0, .int .u16 0, .int .i64 0, .int .i64 0, .bool false]] W fun e w' => e = .returned (.tuple #[]) ∧ ∃ v', AcW 69 B w' R ⟨c, p, k⟩ v' (l ++ [⟨putM c m.fr { ms0 with k := kk }, none, 0⟩]) ∧ AcR W w' R v v' from fun kk => send_act B R c p k v l m.fr { ms0 with k := kk } none 0 W HA.out (MsOwn.none rfl) (fun b hb => by cases hb) (by omega))
  clear h hW hb hX hL
  go_enter Tryz.func38, Tryz.ntmps38
  go_upto_region 1 with fail
  rw [HW.out]
  clear HW
  by_cases h1 : m.k = 1
  · have e1 : (m.k == 1) = true := by simp [h1]
    have HZ : Hid (L = (l ++ [(⟨putM c m.fr { ms0 with k := 2 }, none, 0⟩ : MsX)]).map MsX.m) := by show _ = _; rw [← HL.out, List.map_append]; unfold lateA; rw [if_pos h1]; rfl
    clear h1
    go_wp2_with fail
    refine (HS.out 2).mono ?_; rintro e w2 ⟨rfl, v2, hA2, hr2⟩
    have HO := Lib.hid (And.intro hA2 (HB.out.trans hr2))
    clear hA2 hr2 HS
    go_wp2_with fail
    first | (go_end0; exact ⟨rfl, v2, _, HZ.out.symm, HO.out.1, HO.out.2⟩) | (refine bodyPost_ret (results_none rfl _ _ _) rfl ?_; exact ⟨rfl, v2, _, HZ.out.symm, HO.out.1, HO.out.2⟩)
  have e1 : (m.k == 1) = false := by simp [h1]
  by_cases h3 : m.k = 3
  · have e3 : (m.k == 3) = true := by simp [h3]
    have h35 : m.k = 3 ∨ m.k = 5 := .inl h3
    clear h3
    have HZ : Hid (L = (l ++ [(⟨putM c m.fr { ms0 with k := 4 }, none, 0⟩ : MsX)]).map MsX.m) := by show _ = _; rw [← HL.out, List.map_append]; unfold lateA; rw [if_neg h1, if_pos h35]; rfl
    clear h1 h35
    go_wp2_with fail
    refine (HS.out 4).mono ?_; rintro e w2 ⟨rfl, v2, hA2, hr2⟩
    have HO := Lib.hid (And.intro hA2 (HB.out.trans hr2))
    clear hA2 hr2 HS
    go_wp2_with fail
    first | (go_end0; exact ⟨rfl, v2, _, HZ.out.symm, HO.out.1, HO.out.2⟩) | (refine bodyPost_ret (results_none rfl _ _ _) rfl ?_; exact ⟨rfl, v2, _, HZ.out.symm, HO.out.1, HO.out.2⟩)
  have e3 : (m.k == 3) = false := by simp [h3]
  by_cases h5 : m.k = 5
  · have e5 : (m.k == 5) = true := by simp [h5]
    have h35 : m.k = 3 ∨ m.k = 5 := .inr h5
    clear h3 h5
    have HZ : Hid (L = (l ++ [(⟨putM c m.fr { ms0 with k := 4 }, none, 0⟩ : MsX)]).map MsX.m) := by show _ = _; rw [← HL.out, List.map_append]; unfold lateA; rw [if_neg h1, if_pos h35]; rfl
    clear h1 h35
    go_wp2_with fail
    refine (HS.out 4).mono ?_; rintro e w2 ⟨rfl, v2, hA2, hr2⟩
    have HO := Lib.hid (And.intro hA2 (HB.out.trans hr2))
    clear hA2 hr2 HS
    go_wp2_with fail
    first | (go_end0; exact ⟨rfl, v2, _, HZ.out.symm, HO.out.1, HO.out.2⟩) | (refine bodyPost_ret (results_none rfl _ _ _) rfl ?_; exact ⟨rfl, v2, _, HZ.out.symm, HO.out.1, HO.out.2⟩)
  have e5 : (m.k == 5) = false := by simp [h5]
  have HZ : Hid (L = l.map MsX.m) := by show _ = _; rw [← HL.out]; unfold lateA; simp only [h1, h3, h5, if_neg, not_false_eq_true, or_self]
  clear h1 h3 h5
  go_wp2_with fail
  go_end0
  exact ⟨rfl, v, l, HZ.out.symm, HA.out, HB.out⟩
end Go.Proofs.YtbnndbdnejfehaaGreatDoor
/- Core: small laws for the methods that reckon what is committed. -/
namespace Go.Proofs.YtbnndbdnejfehaaGreatDoor
open Go.ChangeShapes Go.WideShapes Go.ChangeAt Go.RowKit

theorem joint_cells {w : World} {X : Nat} {J : Jn} (h : w.heap[X]? = some (.cells #[.int .u16 J.ov, .int .u16 J.ox, .int .u16 J.ol, .int .i64 J.oe, .int .i64 J.ok, .int .u16 J.nv, .int .u16 J.nx, .int .u16 J.nl, .int .i64 J.ne, .int .i64 J.nk, .bool J.two] 27 (0, 0))) : ∀ w', Below w.heap.size w w' → ∀ j, w'.cell? ⟨X, j, none⟩ = (#[.int .u16 J.ov, .int .u16 J.ox, .int .u16 J.ol, .int .i64 J.oe, .int .i64 J.ok, .int .u16 J.nv, .int .u16 J.nx, .int .u16 J.nl, .int .i64 J.ne, .int .i64 J.nk, .bool J.two] : Array Value)[j]? := fun _w' hb => block_cells (below_block hb (block_lt h) h)
theorem mnF_next (mt : Nat → Int) {O : List Int} {n x : Nat} {m : Int} (h : n < O.length) (hx : O[n] = (x : Int)) : min (mnF mt (O.take n) m) (mt x) = mnF mt (O.take (n + 1)) m := by
  rw [List.take_succ_eq_append_getElem h, mnF_app, hx]; rfl
/-- All cells of a block but one. -/
structure ExS (R n : Nat) (cs : Array Value) (w' : World) : Prop where
  r : ∀ j, j ≠ n → w'.cell? ⟨R, j, none⟩ = cs[j]?
theorem ExS.of {R n : Nat} {cs : Array Value} {t : TypeId} {w : World} (h : w.heap[R]? = some (.cells cs t (0, 0))) : ExS R n cs w := ⟨fun j _ => block_cells h j⟩
theorem ExS.put {R n : Nat} {cs : Array Value} {t : TypeId} {w : World} {u : Value} (h : w.heap[R]? = some (.cells cs t (0, 0))) : ExS R n cs (w.setCell ⟨R, n, none⟩ u) := ⟨fun j hj => by
  rw [block_cells (cells_setW h n u), Array.getElem?_setIfInBounds_ne (by omega)]⟩
end Go.Proofs.YtbnndbdnejfehaaGreatDoor
