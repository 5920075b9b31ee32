/- EntriesCompact: for all two lists of steps (40 at most each; others are let through), and all two numbers: a compacted log tells the same of all that is behind, and merges the same; no condition. -/
import Derived.Test.YtabiccpodnjieaaLogX0
import Derived.Test.YtabiccpodnjieaaLogO
import Derived.Test.YtabiccpodnjieaaLogR
import Derived.Test.YtabiccpodnjieaaOrdFit
import Derived.Test.YtabiccpodnjieaaPlainCompactW
import Derived.Test.YtabiccpodnjieaaFrame
import Derived.Test.YtabiccpodnjieaaRows
import Derived.Lib.MinMax
namespace Go.Proofs.Ytabiccpodnjieaa
open Go.ChangeShapes Go.WideShapes Go.ChangeAt Go.RowKit

theorem neq_jn_yes (j : Jn) (w : World) : (binOp .neq 29 (.agg #[.int .u16 j.ov, .int .u16 j.ox, .int .u16 j.ol, .int .i64 j.oe, .int .i64 j.ok, .int .u16 j.nv, .int .u16 j.nx, .int .u16 j.nl, .int .i64 j.ne, .int .i64 j.nk, .bool j.two]) (.agg #[.int .u16 j.ov, .int .u16 j.ox, .int .u16 j.ol, .int .i64 j.oe, .int .i64 j.ok, .int .u16 j.nv, .int .u16 j.nx, .int .u16 j.nl, .int .i64 j.ne, .int .i64 j.nk, .bool j.two])).run Try.prog w = .ok (.bool false) w := by rw [run_neq_jn, decide_eq_true rfl]; rfl
set_option maxRecDepth 100000 in
set_option maxHeartbeats 16000000 in
theorem ecompact_walk (va vb : Value) (xs ys : List Int) (tv pv : Int) (ha : Oct xs) (hb : Oct ys) (ht : -9223372036854775808 ≤ tv ∧ tv ≤ 9223372036854775807) (hp : -9223372036854775808 ≤ pv ∧ pv ≤ 9223372036854775807) (w : World) (sa : Sl w.heap.size w va 1 xs.length (byt xs)) (sb : Sl w.heap.size w vb 1 ys.length (byt ys)) :
    Calls Try.prog 3 #[va, vb, .int .i64 tv, .int .i64 pv] w fun r w' => r = .returned (.bool true) ∧ Below w.heap.size w w' := by
  have SA := Lib.hid sa; have SB := Lib.hid sb
  obtain ⟨pa, ca, rfl, a1, a2, -, -⟩ := sa.form
  obtain ⟨pb, cb, rfl, b1, b2, -, -⟩ := sb.form
  unfold maxLen at a2 b2
  clear sa sb
  by_cases hl : 40 < xs.length ∨ 40 < ys.length
  · have h3 : (40 < xs.length) ∨ (¬ 40 < xs.length ∧ 40 < ys.length) := by omega
    clear hl
    rcases h3 with h | ⟨h, h'⟩
    all_goals
      go_enter Try.func3, Try.ntmps3
      go_wp2_with fail
      refine (begun_any _).mono ?_; rintro r w1 ⟨rfl, hb⟩
      go_wp2_with fail
      go_ret
      exact ⟨rfl, hb⟩
  have hla : xs.length ≤ 40 := by omega
  have hlb : ys.length ≤ 40 := by omega
  have HX := Lib.hid ha; have HY := Lib.hid hb
  obtain ⟨n, hn⟩ : ∃ n : Nat, min (max tv 0) (xs.length : Int) = n := ⟨(min (max tv 0) (xs.length : Int)).toNat, by omega⟩
  have hn1 : n ≤ xs.length := by omega
  have HN := Lib.hid hn
  clear hl ha hb hn
  have hlx : (madeL xs 0 0).es.length = xs.length := made_len _ _ _
  have HT : Hid (∀ i, 0 ≤ (termL (madeL xs 0 0) i).1 ∧ (termL (madeL xs 0 0) i).1 ≤ 1 + 2 * xs.length) := fun i => made_term HX.out i
  obtain ⟨l, hl⟩ : ∃ l, madeL xs 0 0 = l := ⟨_, rfl⟩
  rw [hl] at hlx HT
  have FL : Hid (LgFit l) := by show LgFit l; rw [← hl]; exact made_fitX xs (by omega) (by decide) (by decide)
  have hlb0 : l.b = 0 := by rw [← hl]; rfl
  have HLB := Lib.hid hlb0
  have HLL : Hid (l.last = (xs.length : Int)) := by show l.b + l.es.length = _; rw [hlx, hlb0]; omega
  have HL := Lib.hid hl
  have HLX := Lib.hid hlx
  clear hl hlb0 hlx
  go_enter Try.func3, Try.ntmps3
  obtain ⟨Q', hQ⟩ : ∃ Q', bodyPost Try.prog Try.f3 (fun r w' => r = .returned (.bool true) ∧ Below w.heap.size w w') = Q' := ⟨_, rfl⟩
  have HQ : Hid (∀ (a : Act) (w' : World), a.tmps.getD 8 undef = .bool true → a.defers = [] → Below w.heap.size w w' → Q' .ret a w') := fun a w' h6 hd hb => by
    rw [← hQ]; exact bodyPost_ret (v := .bool true) (by rw [results_tmp rfl, h6]) hd ⟨rfl, hb⟩
  rw [hQ]
  clear hQ
  go_wp2_with fail
  refine (begun_any _).mono ?_; rintro r w1 ⟨rfl, hb1⟩
  have B1 := Lib.hid hb1
  clear hb1
  go_upto_region 5 with fail
  have hM1 := made_any (.slice pa xs.length ca) xs 0 0 w1 HX.out ((SA.out.keep B1.out).mono B1.out.size) (by omega) (by decide)
  rw [HL.out] at hM1
  have hM1' := Lib.hid hM1
  clear hM1
  go_wp2_with fail
  refine hM1'.out.mono ?_; rintro r w2 ⟨p1, k1, rfl, ho1, hb2⟩
  have B2 := Lib.hid (B1.out.trans (hb2.mono B1.out.size))
  have E1 := Lib.hid (EnSl.of_own ho1)
  clear hb2 ho1
  go_upto_region 6 with fail
  obtain ⟨W0, hW0⟩ : ∃ W0, w2.alloc (.cells #[.int .i64 l.b, .int .i64 l.bt, .int .u16 l.j.ov, .int .u16 l.j.ox, .int .u16 l.j.ol, .int .i64 l.j.oe, .int .i64 l.j.ok, .int .u16 l.j.nv, .int .u16 l.j.nx, .int .u16 l.j.nl, .int .i64 l.j.ne, .int .i64 l.j.nk, .bool l.j.two, .slice p1 l.es.length k1] 32) = W0 := ⟨_, rfl⟩
  have L0 := Lib.hid (Lies.new E1.out hW0)
  have HB0 : Hid (Below w.heap.size w W0) := B2.out.trans ((below_new _ _ hW0).mono B2.out.size)
  rw [hW0]
  obtain ⟨A, eA⟩ : ∃ A, w2.heap.size = A := ⟨_, rfl⟩
  rw [eA] at L0 ⊢
  clear hW0 eA E1 hM1' B1 B2
  go_upto_region 7 with fail
  rw [HN.out]
  -- Compact
  have HCP : Hid (compactL l n = (cutL l n, 0)) := compactL_cut HLB.out (by rw [HLL.out]; omega)
  have HCE : Hid (∀ i : Int, (n : Int) ≤ i → termL (cutL l n) i = termL l i) := fun i hi => cutL_term HLB.out (by rw [HLL.out]; omega) hi
  have HCL : Hid ((cutL l n).last = (xs.length : Int)) := (cutL_last HLB.out (by rw [HLL.out]; omega)).trans HLL.out
  have HCC : Hid (confL (cutL l n) = confL l) := cutL_conf l n
  have HCM : Hid (∀ (P : Int) (es : List Ent), (n : Int) ≤ P → P ≤ xs.length → cutL (joinL l P es) n = joinL (cutL l n) P es) := fun P es h1 h2 => cutL_merge HLB.out (by rw [HLL.out]; omega) h1 (by rw [HLL.out]; exact h2) es
  have HCB : Hid ((cutL l n).b = n) := rfl
  have hcn : (cutL l n).es.length ≤ 40 := by show (l.es.drop n).length ≤ 40; rw [List.length_drop, HLX.out]; omega
  obtain ⟨c, hc⟩ : ∃ c, cutL l n = c := ⟨_, rfl⟩
  rw [hc] at HCP HCE HCL HCC HCM HCB hcn
  clear hc
  have FC : Hid (LgFit c) := ⟨by rw [HCB.out]; omega, by rw [HCB.out]; omega, by omega⟩
  have hM := compact_any l p1 k1 n W0 FL.out ⟨by omega, by omega⟩ L0.out.e
  rw [HCP.out] at hM
  have HM := Lib.hid hM
  clear hM
  have k0 := L0.out.cell
  go_wp2_with fail
  refine HM.out.mono ?_; rintro r w3 ⟨p2, k2, rfl, ho3, hb3⟩
  dsimp only at ho3 ⊢
  have EC3 := Lib.hid (EnSl.of_own ho3)
  have L3 := Lib.hid (L0.out.keep hb3)
  have HB3 : Hid (Below w.heap.size w w3) := HB0.out.trans (hb3.mono HB0.out.size)
  clear ho3 hb3 k0 HM L0 HB0
  go_upto_region 8 with fail
  obtain ⟨W, hW⟩ : ∃ W, w3.alloc (.cells #[.int .i64 c.b, .int .i64 c.bt, .int .u16 c.j.ov, .int .u16 c.j.ox, .int .u16 c.j.ol, .int .i64 c.j.oe, .int .i64 c.j.ok, .int .u16 c.j.nv, .int .u16 c.j.nx, .int .u16 c.j.nl, .int .i64 c.j.ne, .int .i64 c.j.nk, .bool c.j.two, .slice p2 c.es.length k2] 32) = W := ⟨_, rfl⟩
  have LC := Lib.hid (Lies.new EC3.out hW)
  have LL := Lib.hid (L3.out.keep (below_new _ _ hW))
  have HBW : Hid (Below w.heap.size w W) := HB3.out.trans ((below_new _ _ hW).mono HB3.out.size)
  rw [hW]
  obtain ⟨C, eC⟩ : ∃ C, w3.heap.size = C := ⟨_, rfl⟩
  rw [eC] at LC ⊢
  clear hW eC EC3 L3 HB3
  obtain ⟨U, f, hU, hf, hg⟩ := calm_class (W); obtain ⟨u0, hu0⟩ := hg _ (Below.refl _ _); rw [hu0]; clear hu0
  have kA := fun u => block_cells (calm_heap hf LL.out.h u)
  have kC := fun u => block_cells (calm_heap hf LC.out.h u)
  have LA : Hid (∀ u, Calls Try.prog 12 #[.agg #[.int .i64 l.b, .int .i64 l.bt, .int .u16 l.j.ov, .int .u16 l.j.ox, .int .u16 l.j.ol, .int .i64 l.j.oe, .int .i64 l.j.ok, .int .u16 l.j.nv, .int .u16 l.j.nx, .int .u16 l.j.nl, .int .i64 l.j.ne, .int .i64 l.j.nk, .bool l.j.two, .slice p1 l.es.length k1]] (f u) fun r w' => r = .returned (.int .i64 xs.length) ∧ Below (f u).heap.size (f u) w') := fun u => by
    have := last_any l p1 k1 (f u) FL.out.b0 FL.out.b1 FL.out.n; rw [HLL.out] at this; exact this
  have LB : Hid (∀ u, Calls Try.prog 12 #[.agg #[.int .i64 c.b, .int .i64 c.bt, .int .u16 c.j.ov, .int .u16 c.j.ox, .int .u16 c.j.ol, .int .i64 c.j.oe, .int .i64 c.j.ok, .int .u16 c.j.nv, .int .u16 c.j.nx, .int .u16 c.j.nl, .int .i64 c.j.ne, .int .i64 c.j.nk, .bool c.j.two, .slice p2 c.es.length k2]] (f u) fun r w' => r = .returned (.int .i64 xs.length) ∧ Below (f u).heap.size (f u) w') := fun u => by
    have := last_any c p2 k2 (f u) FC.out.b0 FC.out.b1 FC.out.n; rw [HCL.out] at this; exact this
  obtain ⟨jc, hjc⟩ : ∃ j, confL l = j := ⟨_, rfl⟩
  have CA : Hid (∀ u, Calls Try.prog 13 #[.agg #[.int .i64 l.b, .int .i64 l.bt, .int .u16 l.j.ov, .int .u16 l.j.ox, .int .u16 l.j.ol, .int .i64 l.j.oe, .int .i64 l.j.ok, .int .u16 l.j.nv, .int .u16 l.j.nx, .int .u16 l.j.nl, .int .i64 l.j.ne, .int .i64 l.j.nk, .bool l.j.two, .slice p1 l.es.length k1]] (f u) fun r w' => r = .returned (.agg #[.int .u16 jc.ov, .int .u16 jc.ox, .int .u16 jc.ol, .int .i64 jc.oe, .int .i64 jc.ok, .int .u16 jc.nv, .int .u16 jc.nx, .int .u16 jc.nl, .int .i64 jc.ne, .int .i64 jc.nk, .bool jc.two]) ∧ Below (f u).heap.size (f u) w') := fun u => by
    have := conf_any l p1 k1 (f u) (by have := FL.out.n; omega) (LL.out.e.keep (hf u) (Nat.le_refl _)); rw [hjc] at this; exact this
  have CB : Hid (∀ u, Calls Try.prog 13 #[.agg #[.int .i64 c.b, .int .i64 c.bt, .int .u16 c.j.ov, .int .u16 c.j.ox, .int .u16 c.j.ol, .int .i64 c.j.oe, .int .i64 c.j.ok, .int .u16 c.j.nv, .int .u16 c.j.nx, .int .u16 c.j.nl, .int .i64 c.j.ne, .int .i64 c.j.nk, .bool c.j.two, .slice p2 c.es.length k2]] (f u) fun r w' => r = .returned (.agg #[.int .u16 jc.ov, .int .u16 jc.ox, .int .u16 jc.ol, .int .i64 jc.oe, .int .i64 jc.ok, .int .u16 jc.nv, .int .u16 jc.nx, .int .u16 jc.nl, .int .i64 jc.ne, .int .i64 jc.nk, .bool jc.two]) ∧ Below (f u).heap.size (f u) w') := fun u => by
    have := conf_any c p2 k2 (f u) (by omega) (LC.out.e.keep (hf u) (Nat.le_refl _)); rw [HCC.out, hjc] at this; exact this
  have hq := neq_jn_yes jc
  clear hjc HCC
  refine wp_region_calm f (by kernel_rfl) (by kernel_rfl) (calm_drew hf hg _) ?_
  repeat (go_big_quiet_step ((first | (go_at_call 12; with_reducible exact calm_of hf hg (LB.out _)) | (go_at_call 12; with_reducible exact calm_of hf hg (LA.out _)) | (go_at_call 13; with_reducible exact calm_of hf hg (CB.out _)) | (go_at_call 13; with_reducible exact calm_of hf hg (CA.out _)))))
  refine wpQuiet_nil ?_; rintro _ ⟨u, rfl⟩
  clear hq CA CB LB
  go_wp2_with fail
  go_loopw [12] (fun i wr => ∃ k : Nat, k ≤ xs.length - n + 1 ∧ i = .int .i64 (n + k) ∧ ∃ u, wr = f u) (fun i _ => 200 - (intOf i).toNat)
  case atStart => exact ⟨0, Nat.zero_le _, by simp, _, rfl⟩
  case round =>
    obtain ⟨k, hk, rfl, u, rfl⟩ := hrel
    by_cases hlt : k ≤ xs.length - n
    · have hd1 : decide ((n : Int) + (k : Int) ≤ (xs.length : Int)) = true := by simp; omega
      obtain ⟨T, hT⟩ : ∃ t, (termL l (n + k)).1 = t := ⟨_, rfl⟩
      have hT2 : (termL l (n + k)).2 = true := termL_has (by rw [HLB.out]; omega) (by rw [HLL.out]; omega)
      have TL : Hid (∀ u, Calls Try.prog 14 #[.agg #[.int .i64 l.b, .int .i64 l.bt, .int .u16 l.j.ov, .int .u16 l.j.ox, .int .u16 l.j.ol, .int .i64 l.j.oe, .int .i64 l.j.ok, .int .u16 l.j.nv, .int .u16 l.j.nx, .int .u16 l.j.nl, .int .i64 l.j.ne, .int .i64 l.j.nk, .bool l.j.two, .slice p1 l.es.length k1], .int .i64 (n + k)] (f u) fun r w' => r = .returned (.tuple #[.int .i64 T, .bool true]) ∧ Below (f u).heap.size (f u) w') := fun u => by
        have := term_is l p1 k1 (f u) FL.out (i := n + k) ⟨by omega, by omega⟩ (LL.out.e.keep (hf u) (Nat.le_refl _)); rw [hT, hT2] at this; exact this
      have TC : Hid (∀ u, Calls Try.prog 14 #[.agg #[.int .i64 c.b, .int .i64 c.bt, .int .u16 c.j.ov, .int .u16 c.j.ox, .int .u16 c.j.ol, .int .i64 c.j.oe, .int .i64 c.j.ok, .int .u16 c.j.nv, .int .u16 c.j.nx, .int .u16 c.j.nl, .int .i64 c.j.ne, .int .i64 c.j.nk, .bool c.j.two, .slice p2 c.es.length k2], .int .i64 (n + k)] (f u) fun r w' => r = .returned (.tuple #[.int .i64 T, .bool true]) ∧ Below (f u).heap.size (f u) w') := fun u => by
        have := term_is c p2 k2 (f u) FC.out (i := n + k) ⟨by omega, by omega⟩ (LC.out.e.keep (hf u) (Nat.le_refl _)); rw [HCE.out _ (by omega), hT, hT2] at this; exact this
      clear hT hT2
      go_wp2_with (first | (go_at_call 12; refine (LA.out _).mono ?_; rintro r w' ⟨rfl, hb⟩; obtain ⟨u, rfl⟩ := calm_step hf hg hb; clear hb) | (go_at_call 14; with_reducible refine (TL.out _).mono ?_; rintro r w' ⟨rfl, hb⟩; obtain ⟨u, rfl⟩ := calm_step hf hg hb; clear hb) | (go_at_call 14; with_reducible refine (TC.out _).mono ?_; rintro r w' ⟨rfl, hb⟩; obtain ⟨u, rfl⟩ := calm_step hf hg hb; clear hb))
      go_roundw
      case rel => exact ⟨k + 1, by omega, by go_num, _, rfl⟩
      case measure => simp [intOf]; omega
    · obtain rfl : k = xs.length - n + 1 := by omega
      have hd1 : decide ((n : Int) + ((xs.length - n + 1 : Nat) : Int) ≤ (xs.length : Int)) = false := by simp; omega
      obtain ⟨i0, hi0⟩ : ∃ i : Int, (n : Int) + ((xs.length - n + 1 : Nat) : Int) = i := ⟨_, rfl⟩
      rw [hi0] at hd1 ⊢
      clear hi0 hlt
      go_upto_region 18 with (first | (go_at_call 12; refine (LA.out _).mono ?_; rintro r w' ⟨rfl, hb⟩; obtain ⟨u, rfl⟩ := calm_step hf hg hb; clear hb))
      obtain ⟨P, hP⟩ : ∃ P, (n : Int) + min (max pv 0) ((xs.length : Int) - n) = P := ⟨_, rfl⟩
      rw [hP]
      have hP0 : (n : Int) ≤ P := by omega
      have hP1 : P ≤ xs.length := by omega
      clear hP hd1
      obtain ⟨t, ht'⟩ : ∃ t, (termL l P).1 = t := ⟨_, rfl⟩
      obtain ⟨ti, hti⟩ : ∃ t, (termL l P).2 = t := ⟨_, rfl⟩
      have htb := HT.out P
      rw [ht'] at htb
      have HTP := Lib.hid ht'
      have TL : Hid (∀ u, Calls Try.prog 14 #[.agg #[.int .i64 l.b, .int .i64 l.bt, .int .u16 l.j.ov, .int .u16 l.j.ox, .int .u16 l.j.ol, .int .i64 l.j.oe, .int .i64 l.j.ok, .int .u16 l.j.nv, .int .u16 l.j.nx, .int .u16 l.j.nl, .int .i64 l.j.ne, .int .i64 l.j.nk, .bool l.j.two, .slice p1 l.es.length k1], .int .i64 P] (f u) fun r w' => r = .returned (.tuple #[.int .i64 t, .bool ti]) ∧ Below (f u).heap.size (f u) w') := fun u => by
        have := term_is l p1 k1 (f u) FL.out (i := P) ⟨by omega, by omega⟩ (LL.out.e.keep (hf u) (Nat.le_refl _)); rw [ht', hti] at this; exact this
      clear ht' hti
      go_upto_region 19 with (first | (go_at_call 14; refine (TL.out _).mono ?_; rintro r w' ⟨rfl, hb⟩; obtain ⟨u, rfl⟩ := calm_step hf hg hb; clear hb))
      clear_value *
      as_aux_lemma =>
        have HBu := HBW.out.trans ((hf u).mono HBW.out.size)
        have hM2 := made_any (.slice pb ys.length cb) ys P t (f u) HY.out ((SB.out.keep HBu).mono HBu.size) (by omega) ⟨by omega, by omega⟩
        have hel : (madeL ys P t).es.length ≤ 40 := by rw [made_len]; omega
        obtain ⟨e, he⟩ : ∃ e, madeL ys P t = e := ⟨_, rfl⟩
        rw [he] at hM2 hel
        have HM2 := Lib.hid hM2
        have HB4 := Lib.hid HBu
        have L4 := Lib.hid (LL.out.keep (hf u))
        have C4 := Lib.hid (LC.out.keep (hf u))
        clear he hM2 HBu TL LA LL LC HBW kA kC
        go_wp2_with fail
        refine HM2.out.mono ?_; rintro r w5 ⟨p3, k3, rfl, ho5, hb5⟩
        have ES5 := Lib.hid (EnSl.of_own ho5)
        have L5 := Lib.hid (L4.out.keep hb5)
        have C5 := Lib.hid (C4.out.keep hb5)
        have HB5 : Hid (Below w.heap.size w w5) := HB4.out.trans (hb5.mono HB4.out.size)
        clear ho5 hb5 HM2 L4 C4 HB4 hU hf hg SA SB HX HY HL HT
        have hfd : ∀ w : World, (Instr.field 32 (.agg #[.int .i64 e.b, .int .i64 e.bt, .int .u16 e.j.ov, .int .u16 e.j.ox, .int .u16 e.j.ol, .int .i64 e.j.oe, .int .i64 e.j.ok, .int .u16 e.j.nv, .int .u16 e.j.nx, .int .u16 e.j.nl, .int .i64 e.j.ne, .int .i64 e.j.nk, .bool e.j.two, .slice p3 e.es.length k3]) 3).run Try.prog w = .ok (.slice p3 e.es.length k3) w := fun _ => by kernel_rfl
        go_upto_region 20 with fail
        clear hfd
        -- Merge l
        have h0P : 0 ≤ P := by omega
        have hM3 := merge_any l p1 k1 P t e.es p3 k3 w5 FL.out ⟨by omega, by omega⟩ L5.out.e ES5.out (by have := HLX.out; omega)
        rw [mergeL_ok h0P (by rw [HLB.out]; exact h0P) (by rw [HLL.out]; exact hP1) HTP.out] at hM3
        have hMC : ∀ w, EnSl w (.slice p2 c.es.length k2) c.es → EnSl w (.slice p3 e.es.length k3) e.es → Calls Try.prog 15 #[.agg #[.int .i64 c.b, .int .i64 c.bt, .int .u16 c.j.ov, .int .u16 c.j.ox, .int .u16 c.j.ol, .int .i64 c.j.oe, .int .i64 c.j.ok, .int .u16 c.j.nv, .int .u16 c.j.nx, .int .u16 c.j.nl, .int .i64 c.j.ne, .int .i64 c.j.nk, .bool c.j.two, .slice p2 c.es.length k2], .int .i64 P, .int .i64 t, .slice p3 e.es.length k3] w (LgEnd3 w.heap.size w (joinL c P e.es, P + e.es.length, true)) := fun w h1 h2 => by
          have := merge_any c p2 k2 P t e.es p3 k3 w FC.out ⟨by omega, by omega⟩ h1 h2 (by omega)
          rw [mergeL_ok h0P (by rw [HCB.out]; exact hP0) (by rw [HCL.out]; exact hP1) (by rw [HCE.out _ hP0]; exact HTP.out)] at this; exact this
        have HMC := Lib.hid hMC
        have hjb := (joinL_b (l := l) (prev := P) (es := e.es)).1.trans HLB.out
        have hjl : P + (e.es.length : Int) ≤ (joinL l P e.es).last := joinL_len (by rw [HLB.out]; exact h0P) (by rw [HLL.out]; exact hP1)
        have hjs : (joinL l P e.es).es.length ≤ l.es.length + e.es.length := joinL_size (by rw [HLB.out]; exact h0P) (by rw [HLL.out]; exact hP1)
        have hjc : (joinL c P e.es).es.length ≤ c.es.length + e.es.length := joinL_size (by rw [HCB.out]; exact hP0) (by rw [HCL.out]; exact hP1)
        have hjm := HCM.out P e.es hP0 hP1
        obtain ⟨m, hm⟩ : ∃ m, joinL l P e.es = m := ⟨_, rfl⟩
        obtain ⟨v, hv⟩ : ∃ m, joinL c P e.es = m := ⟨_, rfl⟩
        rw [hm] at hM3 hjb hjl hjs hjm
        rw [hv] at HMC hjc hjm
        have hcm := compactL_cut hjb (by omega : (n : Int) ≤ m.last)
        rw [hjm] at hcm
        have HCQ := Lib.hid hcm
        have FM : Hid (LgFit m) := ⟨by rw [hjb]; decide, by rw [hjb]; decide, by have := HLX.out; omega⟩
        have hvl : v.es.length ≤ 80 := by omega
        have HM3 := Lib.hid hM3
        have k5 := L5.out.cell
        clear hM3 hMC hjb hjl hjs hjm hjc hm hv hcm HTP
        go_wp2_with fail
        refine HM3.out.mono ?_; rintro r w6 ⟨p4, k4, rfl, ho6, hb6⟩
        dsimp only at ho6 ⊢
        have EM6 := Lib.hid (EnSl.of_own ho6)
        have C6 := Lib.hid (C5.out.keep hb6)
        have ES6 := Lib.hid (ES5.out.keep hb6 (Nat.le_refl _))
        have HB6 : Hid (Below w.heap.size w w6) := HB5.out.trans (hb6.mono HB5.out.size)
        clear ho6 hb6 k5 HM3 L5 C5 ES5 HB5
        go_upto_region 21 with fail
        obtain ⟨W7, hW7⟩ : ∃ W7, w6.alloc (.cells #[.int .i64 m.b, .int .i64 m.bt, .int .u16 m.j.ov, .int .u16 m.j.ox, .int .u16 m.j.ol, .int .i64 m.j.oe, .int .i64 m.j.ok, .int .u16 m.j.nv, .int .u16 m.j.nx, .int .u16 m.j.nl, .int .i64 m.j.ne, .int .i64 m.j.nk, .bool m.j.two, .slice p4 m.es.length k4] 32) = W7 := ⟨_, rfl⟩
        have LM7 := Lib.hid (Lies.new EM6.out hW7)
        have C7 := Lib.hid (C6.out.keep (below_new _ _ hW7))
        have ES7 := Lib.hid (ES6.out.keep (below_new _ _ hW7) (Nat.le_refl _))
        have HB7 : Hid (Below w.heap.size w W7) := HB6.out.trans ((below_new _ _ hW7).mono HB6.out.size)
        rw [hW7]
        obtain ⟨D, eD⟩ : ∃ D, w6.heap.size = D := ⟨_, rfl⟩
        rw [eD] at LM7 ⊢
        clear hW7 eD EM6 C6 ES6 HB6
        have k7 := C7.out.cell
        go_wp2_with fail
        refine (HMC.out _ C7.out.e ES7.out).mono ?_; rintro r w8 ⟨p5, k5, rfl, ho8, hb8⟩
        dsimp only at ho8 ⊢
        have EV8 := Lib.hid (EnSl.of_own ho8)
        have LM8 := Lib.hid (LM7.out.keep hb8)
        have HB8 : Hid (Below w.heap.size w w8) := HB7.out.trans (hb8.mono HB7.out.size)
        clear ho8 hb8 k7 HMC LM7 C7 ES7 HB7
        go_upto_region 24 with fail
        obtain ⟨W9, hW9⟩ : ∃ W9, w8.alloc (.cells #[.int .i64 v.b, .int .i64 v.bt, .int .u16 v.j.ov, .int .u16 v.j.ox, .int .u16 v.j.ol, .int .i64 v.j.oe, .int .i64 v.j.ok, .int .u16 v.j.nv, .int .u16 v.j.nx, .int .u16 v.j.nl, .int .i64 v.j.ne, .int .i64 v.j.nk, .bool v.j.two, .slice p5 v.es.length k5] 32) = W9 := ⟨_, rfl⟩
        have LV9 := Lib.hid (Lies.new EV8.out hW9)
        have LM9 := Lib.hid (LM8.out.keep (below_new _ _ hW9))
        have HB9 : Hid (Below w.heap.size w W9) := HB8.out.trans ((below_new _ _ hW9).mono HB8.out.size)
        rw [hW9]
        obtain ⟨E, eE⟩ : ∃ D, w8.heap.size = D := ⟨_, rfl⟩
        rw [eE] at LV9 ⊢
        clear hW9 eE EV8 LM8 HB8
        have hM4 := compact_any m p4 k4 n W9 FM.out ⟨by omega, by omega⟩ LM9.out.e
        rw [HCQ.out] at hM4
        have HM4 := Lib.hid hM4
        have k9 := LM9.out.cell
        clear hM4
        go_wp2_with fail
        refine HM4.out.mono ?_; rintro r w10 ⟨p6, k6, rfl, ho10, hb10⟩
        dsimp only at ho10 ⊢
        have ED10 := Lib.hid (EnSl.of_own ho10)
        have LV10 := Lib.hid (LV9.out.keep hb10)
        have HB10 : Hid (Below w.heap.size w w10) := HB9.out.trans (hb10.mono HB9.out.size)
        clear ho10 hb10 k9 HM4 LM9 LV9 HB9
        go_upto_region 25 with fail
        obtain ⟨W11, hW11⟩ : ∃ W11, w10.alloc (.cells #[.int .i64 v.b, .int .i64 v.bt, .int .u16 v.j.ov, .int .u16 v.j.ox, .int .u16 v.j.ol, .int .i64 v.j.oe, .int .i64 v.j.ok, .int .u16 v.j.nv, .int .u16 v.j.nx, .int .u16 v.j.nl, .int .i64 v.j.ne, .int .i64 v.j.nk, .bool v.j.two, .slice p6 v.es.length k6] 32) = W11 := ⟨_, rfl⟩
        have LD := Lib.hid (Lies.new ED10.out hW11)
        have LV := Lib.hid (LV10.out.keep (below_new _ _ hW11))
        have HB11 : Hid (Below w.heap.size w W11) := HB10.out.trans ((below_new _ _ hW11).mono HB10.out.size)
        rw [hW11]
        obtain ⟨G, eG⟩ : ∃ D, w10.heap.size = D := ⟨_, rfl⟩
        rw [eG] at LD ⊢
        clear hW11 eG ED10 LV10 HB10
        have kD := LD.out.cell
        have kV := LV.out.cell
        have hS := same_any v v p6 p5 k6 k5 W11 (by omega) (by omega) LD.out.e LV.out.e
        rw [decide_eq_true (rfl : v = v)] at hS
        have HS := Lib.hid hS
        clear hS
        go_wp2_with fail
        refine HS.out.mono ?_; rintro r w12 ⟨rfl, hb12⟩
        have HB12 : Hid (Below w.heap.size w w12) := HB11.out.trans (hb12.mono HB11.out.size)
        clear hb12 kD kV
        go_wp2_with fail
        exact HQ.out _ _ rfl rfl HB12.out

set_option maxRecDepth 100000 in
theorem ecompact_lifted (os : Os) (started : os.Started) (H : Type) (enc : TypeId × Value → H) :
    ReturnsInHanded {} Try.checked os 3 .any (Rows.entriesCompactSpec.pre6 enc Try.prog Try.f3 Rows.entriesCompactRow.domain false) (Rows.entriesCompactSpec.post enc Try.prog Try.f3 false true false false) := by
  refine lift_law (C := Try.checked) (tb := 4) (by kernel_rfl) started (by kernel_rfl) Try.func3 (ChangeSpec.witness6 (enc := enc) (C := Try.checked) false ⟨#[], #[.slice none 0 0, .slice none 0 0, .int .i64 0, .int .i64 0], []⟩ 8 (by kernel_rfl) (by kernel_rfl) (by kernel_rfl) (by kernel_rfl)) (by kernel_rfl) (by kernel_rfl) rfl Try.underlying4 rfl ?_ ?_
  · intro ds h
    match ds, h with
    | [_, _, _, _], _ => rfl
  · intro W base args ds ps hval0 hA0 hlt hsz
    have hval : ∀ (j : Nat) t v, Try.f3.params[j]? = some t → args[j]? = some v → Value.okWide Try.prog W .any base t v := hval0
    have hA : DataW.TrodAll enc Try.prog W 0 (fun _ => true) true Try.f3.params.toList args.toList ds ps := hA0
    rw [Try.params3] at hA hval
    obtain ⟨v0, v1, v2, v3, d0, d1, d2, d3, p0, p1, p2, p3, rfl, rfl, rfl, h0, h1, h2, h3⟩ := trodAll_four hA
    obtain ⟨xs, hs, hw⟩ := open_nums Try.underlying22 Try.underlying5 (by kernel_rfl) (hval 0 22 v0 rfl rfl) h0
    obtain ⟨ys, hs1, hw1⟩ := open_nums Try.underlying22 Try.underlying5 (by kernel_rfl) (hval 1 22 v1 rfl rfl) h1
    obtain ⟨x, rfl, rfl, rfl, wx⟩ := open_int Try.underlying3 (hval 2 3 v2 rfl rfl) h2
    obtain ⟨z, rfl, rfl, rfl, wz⟩ := open_int Try.underlying3 (hval 3 3 v3 rfl rfl) h3
    exact ecompact_walk v0 v1 xs ys x z (fun x hm => wf_u8 (hw x hm)) (fun x hm => wf_u8 (hw1 x hm)) (wf_i64 wx) (wf_i64 wz) W hs hs1

theorem ecompact_holds : Rows.EntriesCompactSaid :=
  OpenClaim.holds_of_wide 3 Try.f3 rfl rfl rfl rfl rfl rfl rfl ⟨rfl, rfl, rfl, rfl, rfl⟩ rfl rfl rfl rfl rfl (by kernel_rfl) Try.func3 (by kernel_rfl)
    (of_decide_eq_true (by kernel_rfl)) (by unfold Func.isWrapper; first | (rw [if_pos (by decide +kernel)]; kernel_rfl) | (rw [if_neg (by decide +kernel)]; exact ⟨rfl, rfl⟩))
    (fun os started H enc _ => ecompact_lifted os started H enc)
#print axioms ecompact_holds

end Go.Proofs.Ytabiccpodnjieaa
