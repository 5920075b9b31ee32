/- EntriesMerge: for all two lists of steps (40 at most each; others are let through), and all two numbers: behind a merge that is ok the log has the other one's entries up to last, once more changes nothing, and where terms agree nothing is cut off; no condition. -/
import Derived.Test.YtabiccpodnjieaaLogX0
import Derived.Test.YtabiccpodnjieaaOrdFit
import Derived.Test.YtabiccpodnjieaaLogO
import Derived.Test.YtabiccpodnjieaaLogR
import Derived.Test.YtabiccpodnjieaaPlainMergeW
import Derived.Test.YtabiccpodnjieaaFrame
import Derived.Test.YtabiccpodnjieaaRows
import Derived.Lib.MinMax
namespace Go.Proofs.Ytabiccpodnjieaa
open Go.ChangeShapes Go.WideShapes Go.ChangeAt Go.RowKit

set_option maxRecDepth 100000 in
set_option maxHeartbeats 16000000 in
theorem emerge_walk (va vb : Value) (xs ys : List Int) (pv nv : Int) (ha : Oct xs) (hb : Oct ys) (hp : -9223372036854775808 ≤ pv ∧ pv ≤ 9223372036854775807) (hn : -9223372036854775808 ≤ nv ∧ nv ≤ 9223372036854775807) (w : World) (sa : Sl w.heap.size w va 1 xs.length (byt xs)) (sb : Sl w.heap.size w vb 1 ys.length (byt ys)) :
    Calls Try.prog 6 #[va, vb, .int .i64 pv, .int .i64 nv] w fun r w' => r = .returned (.bool true) ∧ Below w.heap.size w w' := by
  have SA := Lib.hid sa; have SB := Lib.hid sb
  obtain ⟨pa, ca, rfl, a1, a2, -, -⟩ := sa.form
  obtain ⟨pb, cb, rfl, b1, b2, -, -⟩ := sb.form
  unfold maxLen at a2 b2
  clear sa sb
  by_cases hl : 40 < xs.length ∨ 40 < ys.length
  · have h3 : (40 < xs.length) ∨ (¬ 40 < xs.length ∧ 40 < ys.length) := by omega
    clear hl
    rcases h3 with h | ⟨h, h'⟩
    all_goals
      go_enter Try.func6, Try.ntmps6
      go_wp2_with fail
      refine (begun_any _).mono ?_; rintro r w1 ⟨rfl, hb⟩
      go_wp2_with fail
      go_ret
      exact ⟨rfl, hb⟩
  have hla : xs.length ≤ 40 := by omega
  have hlb : ys.length ≤ 40 := by omega
  have HX := Lib.hid ha; have HY := Lib.hid hb
  clear hl ha hb
  obtain ⟨l, hl⟩ : ∃ l, madeL xs 0 0 = l := ⟨_, rfl⟩
  obtain ⟨o, ho⟩ : ∃ o, madeL ys 0 0 = o := ⟨_, rfl⟩
  have FL : Hid (LgFit l) := by show LgFit l; rw [← hl]; exact made_fitX xs (by omega) (by decide) (by decide)
  have FO : Hid (LgFit o) := by show LgFit o; rw [← ho]; exact made_fitX ys (by omega) (by decide) (by decide)
  have hlb0 : Hid (l.b = 0) := by show _ = _; rw [← hl]; rfl
  have hln : l.es.length ≤ 40 := by rw [← hl, made_len]; exact hla
  have HL := Lib.hid hl; have HO := Lib.hid ho
  clear hl ho
  go_enter Try.func6, Try.ntmps6
  obtain ⟨Q', hQ⟩ : ∃ Q', bodyPost Try.prog Try.f6 (fun r w' => r = .returned (.bool true) ∧ Below w.heap.size w w') = Q' := ⟨_, rfl⟩
  have HQ : Hid (∀ (a : Act) (w' : World), a.tmps.getD 8 undef = .bool true → a.defers = [] → Below w.heap.size w w' → Q' .ret a w') := fun a w' h6 hd hb => by
    rw [← hQ]; exact bodyPost_ret (v := .bool true) (by rw [results_tmp rfl, h6]) hd ⟨rfl, hb⟩
  rw [hQ]
  clear hQ
  go_wp2_with fail
  refine (begun_any _).mono ?_; rintro r w1 ⟨rfl, hb1⟩
  have B1 := Lib.hid hb1
  clear hb1
  go_upto_region 5 with fail
  have hM1 := made_any (.slice pa xs.length ca) xs 0 0 w1 HX.out ((SA.out.keep B1.out).mono B1.out.size) (by omega) (by decide)
  rw [HL.out] at hM1
  have hM1' := Lib.hid hM1
  clear hM1
  go_wp2_with fail
  refine hM1'.out.mono ?_; rintro r w2 ⟨p1, k1, rfl, ho1, hb2⟩
  have B2 := Lib.hid (B1.out.trans (hb2.mono B1.out.size))
  have E1 := Lib.hid (EnSl.of_own ho1)
  clear hb2 ho1
  have hM2 := made_any (.slice pb ys.length cb) ys 0 0 w2 HY.out ((SB.out.keep B2.out).mono B2.out.size) (by omega) (by decide)
  rw [HO.out] at hM2
  have hM2' := Lib.hid hM2
  clear hM2
  go_wp2_with fail
  refine hM2'.out.mono ?_; rintro r w3 ⟨p2, k2, rfl, ho2, hb3⟩
  have B3 := Lib.hid (B2.out.trans (hb3.mono B2.out.size))
  have E2 := Lib.hid (EnSl.of_own ho2)
  have E13 := Lib.hid (E1.out.keep hb3 (Nat.le_refl _))
  clear hb3 ho2
  go_upto_region 6 with fail
  obtain ⟨W0, hW0⟩ : ∃ W0, w3.alloc (.cells #[.int .i64 l.b, .int .i64 l.bt, .int .u16 l.j.ov, .int .u16 l.j.ox, .int .u16 l.j.ol, .int .i64 l.j.oe, .int .i64 l.j.ok, .int .u16 l.j.nv, .int .u16 l.j.nx, .int .u16 l.j.nl, .int .i64 l.j.ne, .int .i64 l.j.nk, .bool l.j.two, .slice p1 l.es.length k1] 32) = W0 := ⟨_, rfl⟩
  obtain ⟨W, hW⟩ : ∃ W, W0.alloc (.cells #[.int .i64 o.b, .int .i64 o.bt, .int .u16 o.j.ov, .int .u16 o.j.ox, .int .u16 o.j.ol, .int .i64 o.j.oe, .int .i64 o.j.ok, .int .u16 o.j.nv, .int .u16 o.j.nx, .int .u16 o.j.nl, .int .i64 o.j.ne, .int .i64 o.j.nk, .bool o.j.two, .slice p2 o.es.length k2] 32) = W := ⟨_, rfl⟩
  have hs0 : W0.heap.size = w3.heap.size + 1 := by rw [← hW0]; simp
  have lo := Lies.new (E2.out.keep (below_new _ _ hW0) (Nat.le_refl _)) hW
  rw [hs0] at lo
  have LO := Lib.hid lo
  have LL := Lib.hid ((Lies.new E13.out hW0).keep (below_new _ _ hW))
  have HBW : Hid (Below w.heap.size w W) := (B3.out.trans ((below_new _ _ hW0).mono B3.out.size)).trans ((below_new _ _ hW).mono (B3.out.trans ((below_new _ _ hW0).mono B3.out.size)).size)
  rw [hW0, hW]
  clear hW hW0 hs0 lo
  obtain ⟨A, eA⟩ : ∃ A, w3.heap.size = A := ⟨_, rfl⟩
  rw [eA] at LO LL ⊢
  clear eA E1 E2 E13 hM1' hM2' B1 B2 B3 SA SB HX HY HL HO
  go_upto_region 7 with fail
  obtain ⟨P, hP⟩ : ∃ P, min (max pv 0) (ys.length : Int) = P := ⟨_, rfl⟩
  rw [hP]
  have hP0 : 0 ≤ P := by omega
  have hP1 : P ≤ 40 := by omega
  clear hP
  obtain ⟨tm, htm⟩ : ∃ t, (termL o P).1 = t := ⟨_, rfl⟩
  obtain ⟨ti, hti⟩ : ∃ t, (termL o P).2 = t := ⟨_, rfl⟩
  obtain ⟨U, f, hU, hf, hg⟩ := calm_class (W); obtain ⟨u0, hu0⟩ := hg _ (Below.refl _ _); rw [hu0]; clear hu0
  have kO := fun u => block_cells (calm_heap hf LO.out.h u)
  have TA : Hid (∀ u, Calls Try.prog 14 #[.agg #[.int .i64 o.b, .int .i64 o.bt, .int .u16 o.j.ov, .int .u16 o.j.ox, .int .u16 o.j.ol, .int .i64 o.j.oe, .int .i64 o.j.ok, .int .u16 o.j.nv, .int .u16 o.j.nx, .int .u16 o.j.nl, .int .i64 o.j.ne, .int .i64 o.j.nk, .bool o.j.two, .slice p2 o.es.length k2], .int .i64 P] (f u) fun r w' => r = .returned (.tuple #[.int .i64 tm, .bool ti]) ∧ Below (f u).heap.size (f u) w') := fun u => by
    have := term_is o p2 k2 (f u) FO.out (i := P) ⟨by omega, by omega⟩ (LO.out.e.keep (hf u) (Nat.le_refl _)); rw [htm, hti] at this; exact this
  clear htm hti
  go_upto_region 8 with (first | (go_at_call 14; refine (TA.out _).mono ?_; rintro r w' ⟨rfl, hb⟩; obtain ⟨u, rfl⟩ := calm_step hf hg hb; clear hb))
  obtain ⟨N, hN⟩ : ∃ N, min (max nv 0) 40 = N := ⟨_, rfl⟩
  have hN0 : 0 ≤ N := by omega
  have hN1 : N ≤ 40 := by omega
  obtain ⟨es, hes⟩ : ∃ es, sliceL o (P + 1) N = es := ⟨_, rfl⟩
  have hen : es.length ≤ 40 := by rw [← hes]; exact slice_len _ _ _ (by omega)
  have HSl : Hid (∀ u, Calls Try.prog 26 #[.agg #[.int .i64 o.b, .int .i64 o.bt, .int .u16 o.j.ov, .int .u16 o.j.ox, .int .u16 o.j.ol, .int .i64 o.j.oe, .int .i64 o.j.ok, .int .u16 o.j.nv, .int .u16 o.j.nx, .int .u16 o.j.nl, .int .i64 o.j.ne, .int .i64 o.j.nk, .bool o.j.two, .slice p2 o.es.length k2], .int .i64 (P + 1), .int .i64 (min (max nv 0) 40)] (f u) fun r w' => ∃ v, r = .returned v ∧ w'.ownsRow (f u).heap.size 47 14 v es.length (entRow es) ∧ Below (f u).heap.size (f u) w') := fun u => by
    have := slice_any o p2 k2 (P + 1) N (f u) FO.out.b0 FO.out.b1 FO.out.n (by omega) (by omega) (LO.out.e.keep (hf u) (Nat.le_refl _)); rw [hes, ← hN] at this; exact this
  clear hN hes
  go_wp2_with fail
  refine (HSl.out _).mono ?_; rintro r w5 ⟨v, rfl, ho5, hb5⟩
  obtain ⟨p3, k3, rfl⟩ := own_slice ho5
  have ES := Lib.hid (EnSl.of_own ho5)
  have L5 := Lib.hid ((LL.out.keep (hf _)).keep hb5)
  have HB5 : Hid (Below w.heap.size w w5) := (HBW.out.trans ((hf _).mono HBW.out.size)).trans (hb5.mono (HBW.out.trans ((hf _).mono HBW.out.size)).size)
  clear ho5 hb5 kO TA HSl hN0 hN1 LO LL HBW hU hg hf FO
  go_upto_region 9 with fail
  obtain ⟨⟨m, last, ok⟩, hx⟩ : ∃ x, mergeL l P tm es = x := ⟨_, rfl⟩
  have HMS := Lib.hid (merge_says hlb0.out hP0 hx)
  have hM := merge_any l p1 k1 P tm es p3 k3 w5 FL.out ⟨by omega, by omega⟩ L5.out.e ES.out (by omega)
  rw [hx] at hM
  have HM := Lib.hid hM
  have hmn : m.es.length ≤ 80 := by have := HMS.out.n; omega
  have FM : Hid (LgFit m) := ⟨by rw [HMS.out.b]; decide, by rw [HMS.out.b]; decide, by omega⟩
  have k5 := L5.out.cell
  clear hx hM hlb0
  go_wp2_with fail
  refine HM.out.mono ?_; rintro r w6 ⟨p4, k4, rfl, ho6, hb6⟩
  dsimp only at ho6 ⊢
  have EM6 := Lib.hid (EnSl.of_own ho6)
  have L6 := Lib.hid (L5.out.keep hb6)
  have ES6 := Lib.hid (ES.out.keep hb6 (Nat.le_refl _))
  have HB6 : Hid (Below w.heap.size w w6) := HB5.out.trans (hb6.mono HB5.out.size)
  clear ho6 hb6 k5 HM L5 ES HB5
  go_upto_region 10 with fail
  obtain ⟨W7, hW7⟩ : ∃ W7, w6.alloc (.cells #[.int .i64 m.b, .int .i64 m.bt, .int .u16 m.j.ov, .int .u16 m.j.ox, .int .u16 m.j.ol, .int .i64 m.j.oe, .int .i64 m.j.ok, .int .u16 m.j.nv, .int .u16 m.j.nx, .int .u16 m.j.nl, .int .i64 m.j.ne, .int .i64 m.j.nk, .bool m.j.two, .slice p4 m.es.length k4] 32) = W7 := ⟨_, rfl⟩
  have LM := Lib.hid (Lies.new EM6.out hW7)
  have L7 := Lib.hid (L6.out.keep (below_new _ _ hW7))
  have ES7 := Lib.hid (ES6.out.keep (below_new _ _ hW7) (Nat.le_refl _))
  have HB7 : Hid (Below w.heap.size w W7) := HB6.out.trans ((below_new _ _ hW7).mono HB6.out.size)
  rw [hW7]
  obtain ⟨C, eC⟩ : ∃ C, w6.heap.size = C := ⟨_, rfl⟩
  rw [eC] at LM ⊢
  clear hW7 eC EM6 L6 ES6 HB6
  cases ok with
  | false =>
    have hno := HMS.out.no rfl
    obtain ⟨t, ht⟩ : ∃ t, (termL l P).1 = t := ⟨_, rfl⟩
    obtain ⟨is, his⟩ : ∃ t, (termL l P).2 = t := ⟨_, rfl⟩
    rw [ht, his] at hno
    obtain ⟨U, f, hU, hf, hg⟩ := calm_class (W7); obtain ⟨u0, hu0⟩ := hg _ (Below.refl _ _); rw [hu0]; clear hu0
    have kA := fun u => block_cells (calm_heap hf L7.out.h u)
    have TA : Hid (∀ u, Calls Try.prog 14 #[.agg #[.int .i64 l.b, .int .i64 l.bt, .int .u16 l.j.ov, .int .u16 l.j.ox, .int .u16 l.j.ol, .int .i64 l.j.oe, .int .i64 l.j.ok, .int .u16 l.j.nv, .int .u16 l.j.nx, .int .u16 l.j.nl, .int .i64 l.j.ne, .int .i64 l.j.nk, .bool l.j.two, .slice p1 l.es.length k1], .int .i64 P] (f u) fun r w' => r = .returned (.tuple #[.int .i64 t, .bool is]) ∧ Below (f u).heap.size (f u) w') := fun u => by
      have := term_is l p1 k1 (f u) FL.out (i := P) ⟨by omega, by omega⟩ (L7.out.e.keep (hf u) (Nat.le_refl _)); rw [ht, his] at this; exact this
    clear ht his
    cases is with
    | false =>
      clear hno
      go_wp2_with (first | (go_at_call 14; refine (TA.out _).mono ?_; rintro r w' ⟨rfl, hb⟩; obtain ⟨u, rfl⟩ := calm_step hf hg hb; clear hb))
      exact HQ.out _ _ rfl rfl (HB7.out.trans ((hf _).mono HB7.out.size))
    | true =>
      have hne : (t != tm) = true := by simpa using hno
      clear hno
      go_wp2_with (first | (go_at_call 14; refine (TA.out _).mono ?_; rintro r w' ⟨rfl, hb⟩; obtain ⟨u, rfl⟩ := calm_step hf hg hb; clear hb))
      exact HQ.out _ _ rfl rfl (HB7.out.trans ((hf _).mono HB7.out.size))
  | true => as_aux_lemma =>
    have hlast := HMS.out.last' rfl
    subst hlast
    have hM := merge_any m p4 k4 P tm es p3 k3 W7 FM.out ⟨by omega, by omega⟩ LM.out.e ES7.out (by omega)
    rw [HMS.out.again rfl] at hM
    have HM := Lib.hid hM
    clear hM
    have k7 := LM.out.cell
    go_wp2_with fail
    refine HM.out.mono ?_; rintro r w8 ⟨p5, k5, rfl, ho8, hb8⟩
    dsimp only at ho8 ⊢
    have EX8 := Lib.hid (EnSl.of_own ho8)
    have L8 := Lib.hid (L7.out.keep hb8)
    have LM8 := Lib.hid (LM.out.keep hb8)
    have ES8 := Lib.hid (ES7.out.keep hb8 (Nat.le_refl _))
    have HB8 : Hid (Below w.heap.size w w8) := HB7.out.trans (hb8.mono HB7.out.size)
    clear ho8 hb8 k7 HM L7 ES7 HB7 LM
    go_upto_region 14 with fail
    obtain ⟨W9, hW9⟩ : ∃ W9, w8.alloc (.cells #[.int .i64 m.b, .int .i64 m.bt, .int .u16 m.j.ov, .int .u16 m.j.ox, .int .u16 m.j.ol, .int .i64 m.j.oe, .int .i64 m.j.ok, .int .u16 m.j.nv, .int .u16 m.j.nx, .int .u16 m.j.nl, .int .i64 m.j.ne, .int .i64 m.j.nk, .bool m.j.two, .slice p5 m.es.length k5] 32) = W9 := ⟨_, rfl⟩
    have LX := Lib.hid (Lies.new EX8.out hW9)
    have LM := Lib.hid (LM8.out.keep (below_new _ _ hW9))
    have LL := Lib.hid (L8.out.keep (below_new _ _ hW9))
    have ES := Lib.hid (ES8.out.keep (below_new _ _ hW9) (Nat.le_refl _))
    have HB9 : Hid (Below w.heap.size w W9) := HB8.out.trans ((below_new _ _ hW9).mono HB8.out.size)
    rw [hW9]
    obtain ⟨D, eD⟩ : ∃ D, w8.heap.size = D := ⟨_, rfl⟩
    rw [eD] at LX ⊢
    clear hW9 eD EX8 L8 ES8 HB8 LM8
    obtain ⟨U, f, hU, hf, hg⟩ := calm_class (W9); obtain ⟨u0, hu0⟩ := hg _ (Below.refl _ _); rw [hu0]; clear hu0
    have kA := fun u => block_cells (calm_heap hf LL.out.h u)
    have kM := fun u => block_cells (calm_heap hf LM.out.h u)
    have kX := fun u => block_cells (calm_heap hf LX.out.h u)
    have SA : Hid (∀ u, Calls Try.prog 16 #[.agg #[.int .i64 m.b, .int .i64 m.bt, .int .u16 m.j.ov, .int .u16 m.j.ox, .int .u16 m.j.ol, .int .i64 m.j.oe, .int .i64 m.j.ok, .int .u16 m.j.nv, .int .u16 m.j.nx, .int .u16 m.j.nl, .int .i64 m.j.ne, .int .i64 m.j.nk, .bool m.j.two, .slice p5 m.es.length k5], .agg #[.int .i64 m.b, .int .i64 m.bt, .int .u16 m.j.ov, .int .u16 m.j.ox, .int .u16 m.j.ol, .int .i64 m.j.oe, .int .i64 m.j.ok, .int .u16 m.j.nv, .int .u16 m.j.nx, .int .u16 m.j.nl, .int .i64 m.j.ne, .int .i64 m.j.nk, .bool m.j.two, .slice p4 m.es.length k4]] (f u) fun r w' => r = .returned (.bool true) ∧ Below (f u).heap.size (f u) w') := fun u => by
      have := same_any m m p5 p4 k5 k4 (f u) (by omega) (by omega) (LX.out.e.keep (hf u) (Nat.le_refl _)) (LM.out.e.keep (hf u) (Nat.le_refl _)); rw [decide_eq_true (rfl : m = m)] at this; exact this
    obtain ⟨ML, hML⟩ : ∃ x, m.last = x := ⟨_, rfl⟩
    have LA : Hid (∀ u, Calls Try.prog 12 #[.agg #[.int .i64 m.b, .int .i64 m.bt, .int .u16 m.j.ov, .int .u16 m.j.ox, .int .u16 m.j.ol, .int .i64 m.j.oe, .int .i64 m.j.ok, .int .u16 m.j.nv, .int .u16 m.j.nx, .int .u16 m.j.nl, .int .i64 m.j.ne, .int .i64 m.j.nk, .bool m.j.two, .slice p4 m.es.length k4]] (f u) fun r w' => r = .returned (.int .i64 ML) ∧ Below (f u).heap.size (f u) w') := fun u => by
      have := last_any m p4 k4 (f u) FM.out.b0 FM.out.b1 FM.out.n; rw [hML] at this; exact this
    have hd0 : decide (ML < P + (es.length : Int)) = false := by have := HMS.out.most rfl; rw [hML] at this; simp; omega
    clear hML
    go_wp2_with (first | (go_at_call 16; refine (SA.out _).mono ?_; rintro r w' ⟨rfl, hb⟩; obtain ⟨u, rfl⟩ := calm_step hf hg hb; clear hb) | (go_at_call 12; refine (LA.out _).mono ?_; rintro r w' ⟨rfl, hb⟩; obtain ⟨u, rfl⟩ := calm_step hf hg hb; clear hb))
    clear hd0 SA LA kX
    go_loopw [22] (fun i wr => ∃ k : Nat, k ≤ es.length ∧ i = .int .i64 (P + 1 + k) ∧ ∃ u, wr = f u) (fun i _ => 200 - (intOf i).toNat)
    case atStart => exact ⟨0, Nat.zero_le _, by simp, _, rfl⟩
    case round =>
      obtain ⟨k, hk, rfl, u, rfl⟩ := hrel
      by_cases hlt : k < es.length
      · have hd1 : decide (P + 1 + (k : Int) ≤ P + (es.length : Int)) = true := by simp; omega
        have hEV := HMS.out.has rfl k hlt
        obtain ⟨⟨e, is⟩, hat⟩ : ∃ x, atL m (P + 1 + k) = x := ⟨_, rfl⟩
        have AT : Hid (∀ u, Calls Try.prog 27 #[.agg #[.int .i64 m.b, .int .i64 m.bt, .int .u16 m.j.ov, .int .u16 m.j.ox, .int .u16 m.j.ol, .int .i64 m.j.oe, .int .i64 m.j.ok, .int .u16 m.j.nv, .int .u16 m.j.nx, .int .u16 m.j.nl, .int .i64 m.j.ne, .int .i64 m.j.nk, .bool m.j.two, .slice p4 m.es.length k4], .int .i64 (P + 1 + k)] (f u) fun r w' => r = .returned (.tuple #[.agg #[.int .i64 e.t, .int .i64 e.k, .string e.d, .int .u16 e.j.ov, .int .u16 e.j.ox, .int .u16 e.j.ol, .int .i64 e.j.oe, .int .i64 e.j.ok, .int .u16 e.j.nv, .int .u16 e.j.nx, .int .u16 e.j.nl, .int .i64 e.j.ne, .int .i64 e.j.nk, .bool e.j.two], .bool is]) ∧ Below (f u).heap.size (f u) w') := fun u => at_any m p4 k4 (P + 1 + k) (f u) FM.out.b0 FM.out.b1 FM.out.n (by omega) (by omega) (LM.out.e.keep (hf u) (Nat.le_refl _)) hat
        obtain ⟨g, oo, cap, hv, hgl, hc⟩ := ES.out.at k hlt
        simp only [Value.slice.injEq] at hv
        obtain ⟨rfl, -, rfl⟩ := hv
        rw [show es.getD k ent0 = es[k] by simp [List.getD, List.getElem?_eq_getElem hlt], hat] at hEV
        obtain ⟨e2, he2⟩ : ∃ e, es[k] = e := ⟨_, rfl⟩
        rw [he2] at hEV hc
        have hne : (e.t != e2.t) = false := by simpa using hEV
        have hc0 : W9.cell? ⟨g, oo + k * 14, none⟩ = some (.int .i64 e2.t) := hc 0 (by decide)
        have HC0 := Lib.hid hc0
        clear hEV hat he2 hc hc0
        go_upto_region 20 with (first | (go_at_call 27; refine (AT.out _).mono ?_; rintro r w' ⟨rfl, hb⟩; obtain ⟨u, rfl⟩ := calm_step hf hg hb; clear hb))
        obtain ⟨W10, hW10⟩ : ∃ W10, (f u).alloc (.cells #[.int .i64 e.t, .int .i64 e.k, .string e.d, .int .u16 e.j.ov, .int .u16 e.j.ox, .int .u16 e.j.ol, .int .i64 e.j.oe, .int .i64 e.j.ok, .int .u16 e.j.nv, .int .u16 e.j.nx, .int .u16 e.j.nl, .int .i64 e.j.ne, .int .i64 e.j.nk, .bool e.j.two] 47) = W10 := ⟨_, rfl⟩
        have hE10 : W10.heap[(f u).heap.size]? = some (.cells #[.int .i64 e.t, .int .i64 e.k, .string e.d, .int .u16 e.j.ov, .int .u16 e.j.ox, .int .u16 e.j.ol, .int .i64 e.j.oe, .int .i64 e.j.ok, .int .u16 e.j.nv, .int .u16 e.j.nx, .int .u16 e.j.nl, .int .i64 e.j.ne, .int .i64 e.j.nk, .bool e.j.two] 47 (0, 0)) := by rw [← hW10]; exact heap_last _ _
        have hB10 := Lib.hid ((hf u).trans ((below_new _ _ hW10).mono (hf u).size))
        rw [hW10]
        obtain ⟨F, eF⟩ : ∃ D, (f u).heap.size = D := ⟨_, rfl⟩
        rw [eF] at hE10 ⊢
        clear hW10 eF AT
        obtain ⟨U2, f2, hU2, hf2, hg2⟩ := calm_class W10
        obtain ⟨u2, hu2⟩ := hg2 _ (Below.refl _ _)
        rw [hu2]
        clear hu2 kA kM
        have kE := fun u => block_cells (calm_heap hf2 hE10 u)
        have hq : ∀ u, (f2 u).cell? ⟨g, oo + k * 14, none⟩ = some (.int .i64 e2.t) := fun u => by
          have h1 := hB10.out.trans ((hf2 u).mono hB10.out.size)
          exact (h1.cell (p := ⟨g, oo + k * 14, none⟩) hgl).trans HC0.out
        have HUP : Hid (∀ u, ∃ v, f2 u = f v) := fun u => hg _ (hB10.out.trans ((hf2 u).mono hB10.out.size))
        have hkk : P + 1 + (k : Int) - P - 1 = k := by omega
        refine wp_region_calm f2 (by kernel_rfl) (by kernel_rfl) (calm_drew hf2 hg2 _) ?_
        repeat (go_big_quiet_step ((first | fail)))
        refine wpQuiet_nil ?_; rintro _ ⟨u, rfl⟩
        go_wp2_with fail
        go_roundw
        case rel => exact ⟨k + 1, by omega, by go_num, HUP.out _⟩
        case measure => simp [intOf]; omega
      · obtain rfl : k = es.length := by omega
        have hd1 : decide (P + 1 + (es.length : Int) ≤ P + (es.length : Int)) = false := by simp; omega
        go_wp2_with fail
        clear hd1
        go_loopw [25, 26] (fun s i wr => ∃ k : Nat, k ≤ es.length ∧ s = .bool (smB l P es k) ∧ i = .int .i64 (P + 1 + k) ∧ ∃ u, wr = f u) (fun _ i _ => 200 - (intOf i).toNat)
        case atStart => exact ⟨0, Nat.zero_le _, rfl, by simp, _, rfl⟩
        case round =>
          obtain ⟨k, hk, rfl, rfl, u, rfl⟩ := hrel
          by_cases hlt : k < es.length
          · have hd1 : decide (P + 1 + (k : Int) ≤ P + (es.length : Int)) = true := by simp; omega
            have hsm : smB l P es (k + 1) = (smB l P es k && ((termL l (P + 1 + k)).2 && decide ((termL l (P + 1 + k)).1 = (es.getD k ent0).t))) := rfl
            obtain ⟨g, oo, cap, hv, hgl, hc⟩ := ES.out.at k hlt
            simp only [Value.slice.injEq] at hv
            obtain ⟨rfl, -, rfl⟩ := hv
            rw [show es.getD k ent0 = es[k] by simp [List.getD, List.getElem?_eq_getElem hlt]] at hsm
            obtain ⟨e2, he2⟩ : ∃ e, es[k] = e := ⟨_, rfl⟩
            rw [he2] at hsm hc
            obtain ⟨t, ht⟩ : ∃ t, (termL l (P + 1 + k)).1 = t := ⟨_, rfl⟩
            obtain ⟨is, his⟩ : ∃ t, (termL l (P + 1 + k)).2 = t := ⟨_, rfl⟩
            obtain ⟨b, hb⟩ : ∃ b, smB l P es k = b := ⟨_, rfl⟩
            rw [ht, his, hb] at hsm
            rw [hb]
            have HSM := Lib.hid hsm
            have TA : Hid (∀ u, Calls Try.prog 14 #[.agg #[.int .i64 l.b, .int .i64 l.bt, .int .u16 l.j.ov, .int .u16 l.j.ox, .int .u16 l.j.ol, .int .i64 l.j.oe, .int .i64 l.j.ok, .int .u16 l.j.nv, .int .u16 l.j.nx, .int .u16 l.j.nl, .int .i64 l.j.ne, .int .i64 l.j.nk, .bool l.j.two, .slice p1 l.es.length k1], .int .i64 (P + 1 + k)] (f u) fun r w' => r = .returned (.tuple #[.int .i64 t, .bool is]) ∧ Below (f u).heap.size (f u) w') := fun u => by
              have := term_is l p1 k1 (f u) FL.out (i := P + 1 + k) ⟨by omega, by omega⟩ (LL.out.e.keep (hf u) (Nat.le_refl _)); rw [ht, his] at this; exact this
            have hc0 : W9.cell? ⟨g, oo + k * 14, none⟩ = some (.int .i64 e2.t) := hc 0 (by decide)
            have hq : ∀ u, (f u).cell? ⟨g, oo + k * 14, none⟩ = some (.int .i64 e2.t) := fun u => ((hf u).cell (p := ⟨g, oo + k * 14, none⟩) hgl).trans hc0
            have hkk : P + 1 + (k : Int) - P - 1 = k := by omega
            clear hc hc0 he2 ht his hb hsm kM
            cases b with
            | false =>
              (try dsimp only); repeat (first | go_values | go_skip | go_guarded | (refine wpList_skip (by rfl) ?_; simp only [Act.put, List.setIfInBounds_toArray, List.set_cons_zero, List.set_cons_succ]) | go_step | go_upon)
              go_at_call 14; refine (TA.out _).mono ?_; rintro r w' ⟨rfl, hb⟩; obtain ⟨u, rfl⟩ := calm_step hf hg hb; clear hb
              (try dsimp only); repeat (first | go_values | go_skip | go_guarded | (refine wpList_skip (by rfl) ?_; simp only [Act.put, List.setIfInBounds_toArray, List.set_cons_zero, List.set_cons_succ]) | go_step | go_upon)
              go_roundw
              case rel => exact ⟨k + 1, by omega, by rw [HSM.out]; rfl, by go_num, _, rfl⟩
              case measure => simp [intOf]; omega
            | true =>
              cases is with
              | false =>
                (try dsimp only); repeat (first | go_values | go_skip | go_guarded | (refine wpList_skip (by rfl) ?_; simp only [Act.put, List.setIfInBounds_toArray, List.set_cons_zero, List.set_cons_succ]) | go_step | go_upon)
                go_at_call 14; refine (TA.out _).mono ?_; rintro r w' ⟨rfl, hb⟩; obtain ⟨u, rfl⟩ := calm_step hf hg hb; clear hb
                (try dsimp only); repeat (first | go_values | go_skip | go_guarded | (refine wpList_skip (by rfl) ?_; simp only [Act.put, List.setIfInBounds_toArray, List.set_cons_zero, List.set_cons_succ]) | go_step | go_upon)
                go_roundw
                case rel => exact ⟨k + 1, by omega, by rw [HSM.out]; rfl, by go_num, _, rfl⟩
                case measure => simp [intOf]; omega
              | true =>
                go_wp2_with (first | (go_at_call 14; refine (TA.out _).mono ?_; rintro r w' ⟨rfl, hb⟩; obtain ⟨u, rfl⟩ := calm_step hf hg hb; clear hb))
                go_roundw
                case rel => exact ⟨k + 1, by omega, by rw [HSM.out]; rfl, by go_num, _, rfl⟩
                case measure => simp [intOf]; omega
          · obtain rfl : k = es.length := by omega
            have hd1 : decide (P + 1 + (es.length : Int) ≤ P + (es.length : Int)) = false := by simp; omega
            have hsa := HMS.out.same rfl
            obtain ⟨b, hb⟩ : ∃ b, smB l P es es.length = b := ⟨_, rfl⟩
            rw [hb] at hsa ⊢
            clear hb
            cases b with
            | false =>
              clear hsa
              go_wp2_with fail
              exact HQ.out _ _ rfl rfl (HB9.out.trans ((hf _).mono HB9.out.size))
            | true =>
              have SA : Hid (∀ u, Calls Try.prog 16 #[.agg #[.int .i64 m.b, .int .i64 m.bt, .int .u16 m.j.ov, .int .u16 m.j.ox, .int .u16 m.j.ol, .int .i64 m.j.oe, .int .i64 m.j.ok, .int .u16 m.j.nv, .int .u16 m.j.nx, .int .u16 m.j.nl, .int .i64 m.j.ne, .int .i64 m.j.nk, .bool m.j.two, .slice p4 m.es.length k4], .agg #[.int .i64 l.b, .int .i64 l.bt, .int .u16 l.j.ov, .int .u16 l.j.ox, .int .u16 l.j.ol, .int .i64 l.j.oe, .int .i64 l.j.ok, .int .u16 l.j.nv, .int .u16 l.j.nx, .int .u16 l.j.nl, .int .i64 l.j.ne, .int .i64 l.j.nk, .bool l.j.two, .slice p1 l.es.length k1]] (f u) fun r w' => r = .returned (.bool true) ∧ Below (f u).heap.size (f u) w') := fun u => by
                have := same_any m l p4 p1 k4 k1 (f u) (by omega) (by omega) (LM.out.e.keep (hf u) (Nat.le_refl _)) (LL.out.e.keep (hf u) (Nat.le_refl _)); rw [decide_eq_true (hsa rfl)] at this; exact this
              clear hsa
              go_wp2_with (first | (go_at_call 16; refine (SA.out _).mono ?_; rintro r w' ⟨rfl, hb⟩; obtain ⟨u, rfl⟩ := calm_step hf hg hb; clear hb))
              exact HQ.out _ _ rfl rfl (HB9.out.trans ((hf _).mono HB9.out.size))

set_option maxRecDepth 100000 in
theorem emerge_lifted (os : Os) (started : os.Started) (H : Type) (enc : TypeId × Value → H) :
    ReturnsInHanded {} Try.checked os 6 .any (Rows.entriesMergeSpec.pre6 enc Try.prog Try.f6 Rows.entriesMergeRow.domain false) (Rows.entriesMergeSpec.post enc Try.prog Try.f6 false true false false) := by
  refine lift_law (C := Try.checked) (tb := 4) (by kernel_rfl) started (by kernel_rfl) Try.func6 (ChangeSpec.witness6 (enc := enc) (C := Try.checked) false ⟨#[], #[.slice none 0 0, .slice none 0 0, .int .i64 0, .int .i64 0], []⟩ 8 (by kernel_rfl) (by kernel_rfl) (by kernel_rfl) (by kernel_rfl)) (by kernel_rfl) (by kernel_rfl) rfl Try.underlying4 rfl ?_ ?_
  · intro ds h
    match ds, h with
    | [_, _, _, _], _ => rfl
  · intro W base args ds ps hval0 hA0 hlt hsz
    have hval : ∀ (j : Nat) t v, Try.f6.params[j]? = some t → args[j]? = some v → Value.okWide Try.prog W .any base t v := hval0
    have hA : DataW.TrodAll enc Try.prog W 0 (fun _ => true) true Try.f6.params.toList args.toList ds ps := hA0
    rw [Try.params6] at hA hval
    obtain ⟨v0, v1, v2, v3, d0, d1, d2, d3, p0, p1, p2, p3, rfl, rfl, rfl, h0, h1, h2, h3⟩ := trodAll_four hA
    obtain ⟨xs, hs, hw⟩ := open_nums Try.underlying22 Try.underlying5 (by kernel_rfl) (hval 0 22 v0 rfl rfl) h0
    obtain ⟨ys, hs1, hw1⟩ := open_nums Try.underlying22 Try.underlying5 (by kernel_rfl) (hval 1 22 v1 rfl rfl) h1
    obtain ⟨x, rfl, rfl, rfl, wx⟩ := open_int Try.underlying3 (hval 2 3 v2 rfl rfl) h2
    obtain ⟨z, rfl, rfl, rfl, wz⟩ := open_int Try.underlying3 (hval 3 3 v3 rfl rfl) h3
    exact emerge_walk v0 v1 xs ys x z (fun x hm => wf_u8 (hw x hm)) (fun x hm => wf_u8 (hw1 x hm)) (wf_i64 wx) (wf_i64 wz) W hs hs1

theorem emerge_holds : Rows.EntriesMergeSaid :=
  OpenClaim.holds_of_wide 6 Try.f6 rfl rfl rfl rfl rfl rfl rfl ⟨rfl, rfl, rfl, rfl, rfl⟩ rfl rfl rfl rfl rfl (by kernel_rfl) Try.func6 (by kernel_rfl)
    (of_decide_eq_true (by kernel_rfl)) (by unfold Func.isWrapper; first | (rw [if_pos (by decide +kernel)]; kernel_rfl) | (rw [if_neg (by decide +kernel)]; exact ⟨rfl, rfl⟩))
    (fun os started H enc _ => emerge_lifted os started H enc)
#print axioms emerge_holds

end Go.Proofs.Ytabiccpodnjieaa
