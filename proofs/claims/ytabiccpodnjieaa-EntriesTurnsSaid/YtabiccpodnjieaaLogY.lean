/- The reference of entries: Compact. -/
import Derived.Test.YtabiccpodnjieaaLogY0
import Derived.Test.YtabiccpodnjieaaLogM
namespace Go.Proofs.Ytabiccpodnjieaa
open Go.ChangeShapes Go.WideShapes Go.ChangeAt Go.RowKit

theorem rcompact_fin {w wr : World} {A R : Nat} {m : Lg} {q : Option Addr} {cc O : Nat} {W : World} (hR : wr.heap[R]? = some (.cells #[.int .i64 0, .int .i64 0, .int .u16 0, .int .u16 0, .int .u16 0, .int .i64 0, .int .i64 0, .int .u16 0, .int .u16 0, .int .u16 0, .int .i64 0, .int .i64 0, .bool false, .slice none 0 0] 32 (0, 0))) (hO : OutAt W O m q cc wr) (hb : Below A w wr) (hA : A ≤ R) (hRO : R < O) :
    (∀ j, (put14 wr R (.int .i64 m.b) (.int .i64 m.bt) (.int .u16 m.j.ov) (.int .u16 m.j.ox) (.int .u16 m.j.ol) (.int .i64 m.j.oe) (.int .i64 m.j.ok) (.int .u16 m.j.nv) (.int .u16 m.j.nx) (.int .u16 m.j.nl) (.int .i64 m.j.ne) (.int .i64 m.j.nk) (.bool m.j.two) (.slice q m.es.length cc)).cell? ⟨R, j, none⟩ = #[.int .i64 m.b, .int .i64 m.bt, .int .u16 m.j.ov, .int .u16 m.j.ox, .int .u16 m.j.ol, .int .i64 m.j.oe, .int .i64 m.j.ok, .int .u16 m.j.nv, .int .u16 m.j.nx, .int .u16 m.j.nl, .int .i64 m.j.ne, .int .i64 m.j.nk, .bool m.j.two, .slice q m.es.length cc][j]?) ∧ (put14 wr R (.int .i64 m.b) (.int .i64 m.bt) (.int .u16 m.j.ov) (.int .u16 m.j.ox) (.int .u16 m.j.ol) (.int .i64 m.j.oe) (.int .i64 m.j.ok) (.int .u16 m.j.nv) (.int .u16 m.j.nx) (.int .u16 m.j.nl) (.int .i64 m.j.ne) (.int .i64 m.j.nk) (.bool m.j.two) (.slice q m.es.length cc)).ownsRow (O + 1) 47 14 (.slice q m.es.length cc) m.es.length (entRow m.es) ∧ Below A w (put14 wr R (.int .i64 m.b) (.int .i64 m.bt) (.int .u16 m.j.ov) (.int .u16 m.j.ox) (.int .u16 m.j.ol) (.int .i64 m.j.oe) (.int .i64 m.j.ok) (.int .u16 m.j.nv) (.int .u16 m.j.nx) (.int .u16 m.j.nl) (.int .i64 m.j.ne) (.int .i64 m.j.nk) (.bool m.j.two) (.slice q m.es.length cc)) := by
  have F := put14_ok hR hb hA (.int .i64 m.b) (.int .i64 m.bt) (.int .u16 m.j.ov) (.int .u16 m.j.ox) (.int .u16 m.j.ol) (.int .i64 m.j.oe) (.int .i64 m.j.ok) (.int .u16 m.j.nv) (.int .u16 m.j.nx) (.int .u16 m.j.nl) (.int .i64 m.j.ne) (.int .i64 m.j.nk) (.bool m.j.two) (.slice q m.es.length cc)
  exact ⟨block_cells F.1, own_farL hO.o (put14_grown wr R (.int .i64 m.b) (.int .i64 m.bt) (.int .u16 m.j.ov) (.int .u16 m.j.ox) (.int .u16 m.j.ol) (.int .i64 m.j.oe) (.int .i64 m.j.ok) (.int .u16 m.j.nv) (.int .u16 m.j.nx) (.int .u16 m.j.nl) (.int .i64 m.j.ne) (.int .i64 m.j.nk) (.bool m.j.two) (.slice q m.es.length cc)) (by omega), F.2⟩
theorem OutAt.two {w wr : World} {O : Nat} {m : Lg} {q : Option Addr} {cc : Nat} (h : OutAt w O m q cc wr) (b bt : Int) :
    OutAt w O ⟨b, bt, m.j, m.es⟩ q cc ((wr.setCell ⟨O, 0, none⟩ (.int .i64 b)).setCell ⟨O, 1, none⟩ (.int .i64 bt)) := by
  have k0 : KpG wr wr O _ _ := ⟨h.h, grown_reflL wr _⟩
  have k := ((k0.step 0 (.int .i64 b)).step 1 (.int .i64 bt))
  have hk := k.blk
  simp only [List.setIfInBounds_toArray, List.set_cons_zero, List.set_cons_succ] at hk
  exact ⟨hk, own_farL h.o k.gr (Nat.lt_succ_self _), below_grown h.b k.gr (Nat.le_of_lt (block_lt h.h)) (Nat.le_refl _)⟩
set_option maxRecDepth 100000 in
set_option maxHeartbeats 16000000 in
theorem rcompact_any (l : Lg) (p : Option Addr) (c : Nat) (tv : Int) (w : World) (hF : LgFit l) (hi : -9223372036854775808 ≤ tv ∧ tv ≤ 9223372036854775807) (hE : EnSl w (.slice p l.es.length c) l.es) :
    Calls Try.prog 23 #[.agg #[.int .i64 l.b, .int .i64 l.bt, .int .u16 l.j.ov, .int .u16 l.j.ox, .int .u16 l.j.ol, .int .i64 l.j.oe, .int .i64 l.j.ok, .int .u16 l.j.nv, .int .u16 l.j.nx, .int .u16 l.j.nl, .int .i64 l.j.ne, .int .i64 l.j.nk, .bool l.j.two, .slice p l.es.length c], .int .i64 tv] w (LgEnd2 w.heap.size w (compactL l tv).1 (compactL l tv).2) := by
  obtain ⟨i0, hi0, hz0, hz1, hz2⟩ := info_parts Try.infoEn
  have HF : Hid (LgFit l) := hF
  have HE := Lib.hid hE
  have hb0 := hF.b0; have hb1 := hF.b1; have hn2 := hF.n
  obtain ⟨⟨X, k0⟩, hX⟩ : ∃ x, compactL l tv = x := ⟨_, rfl⟩
  obtain ⟨⟨t, is⟩, hT⟩ : ∃ x, termL l tv = x := ⟨_, rfl⟩
  rw [hX]
  have HX := Lib.hid hX; have HT := Lib.hid hT
  clear hF hE hX hT
  go_enter Try.func23, Try.ntmps23
  go_upto_region 1 with fail
  obtain ⟨W0, hW0⟩ : ∃ W0, w.alloc (.cells #[.int .i64 l.b, .int .i64 l.bt, .int .u16 l.j.ov, .int .u16 l.j.ox, .int .u16 l.j.ol, .int .i64 l.j.oe, .int .i64 l.j.ok, .int .u16 l.j.nv, .int .u16 l.j.nx, .int .u16 l.j.nl, .int .i64 l.j.ne, .int .i64 l.j.nk, .bool l.j.two, .slice p l.es.length c] 32) = W0 := ⟨_, rfl⟩
  obtain ⟨W, hW⟩ : ∃ W, W0.alloc (.cells #[.int .i64 0, .int .i64 0, .int .u16 0, .int .u16 0, .int .u16 0, .int .i64 0, .int .i64 0, .int .u16 0, .int .u16 0, .int .u16 0, .int .i64 0, .int .i64 0, .bool false, .slice none 0 0] 32) = W := ⟨_, rfl⟩
  have hs0 : W0.heap.size = w.heap.size + 1 := by rw [← hW0]; simp
  have LL := Lib.hid ((Lies.new HE.out hW0).keep (below_new _ _ hW))
  have hZ : W.heap[w.heap.size + 1]? = some (.cells #[.int .i64 0, .int .i64 0, .int .u16 0, .int .u16 0, .int .u16 0, .int .i64 0, .int .i64 0, .int .u16 0, .int .u16 0, .int .u16 0, .int .i64 0, .int .i64 0, .bool false, .slice none 0 0] 32 (0, 0)) := by rw [← hW, ← hs0]; exact heap_last _ _
  have HZ := Lib.hid hZ
  have HBW : Hid (Below w.heap.size w W) := (below_new _ _ hW0).trans ((below_new _ _ hW).mono (below_new _ _ hW0).size)
  rw [hW0, hW]
  clear hW hW0 hs0 hZ HE
  obtain ⟨A, eA⟩ : ∃ A, w.heap.size = A := ⟨_, rfl⟩
  have HEA : Hid (w.heap.size = A) := eA
  rw [eA] at LL HZ HBW ⊢
  clear eA
  have HTA : Hid (Calls Try.prog 30 #[.agg #[.int .i64 l.b, .int .i64 l.bt, .int .u16 l.j.ov, .int .u16 l.j.ox, .int .u16 l.j.ol, .int .i64 l.j.oe, .int .i64 l.j.ok, .int .u16 l.j.nv, .int .u16 l.j.nx, .int .u16 l.j.nl, .int .i64 l.j.ne, .int .i64 l.j.nk, .bool l.j.two, .slice p l.es.length c], .int .i64 tv] W fun r w' => r = .returned (.tuple #[.int .i64 t, .bool is]) ∧ Below W.heap.size W w') := by
    have := rterm_is l p c W HF.out (i := tv) hi LL.out.e; rw [HT.out] at this; exact this
  have kA := LL.out.cell
  go_wp2_with fail
  refine HTA.out.mono ?_; rintro r w1 ⟨rfl, hb1'⟩
  have L1 := Lib.hid (LL.out.keep hb1')
  have HZ1 := Lib.hid (below_block hb1' (block_lt HZ.out) HZ.out)
  have HB1 : Hid (Below A w w1) := HBW.out.trans (hb1'.mono (by have := block_lt HZ.out; omega))
  clear hb1' kA HTA LL HZ HBW
  cases is with
  | false =>
    have hx : compactL l tv = (⟨0, 0, jn0, []⟩, 1) := by unfold compactL; rw [HT.out]; rfl
    obtain ⟨rfl, rfl⟩ : (⟨0, 0, jn0, []⟩ : Lg) = X ∧ 1 = k0 := by have := hx.symm.trans HX.out; simpa using this
    have kZ := block_cells HZ1.out
    have fZ := block_free HZ1.out
    clear hx
    go_wp2_with fail
    have F := put14_ok HZ1.out HB1.out (Nat.le_succ _) (.int .i64 0) (.int .i64 0) (.int .u16 0) (.int .u16 0) (.int .u16 0) (.int .i64 0) (.int .i64 0) (.int .u16 0) (.int .u16 0) (.int .u16 0) (.int .i64 0) (.int .i64 0) (.bool false) (.slice none 0 0)
    have kF := block_cells F.1
    obtain ⟨W5, hW5⟩ : ∃ W5, put14 w1 (A + 1) (.int .i64 0) (.int .i64 0) (.int .u16 0) (.int .u16 0) (.int .u16 0) (.int .i64 0) (.int .i64 0) (.int .u16 0) (.int .u16 0) (.int .u16 0) (.int .i64 0) (.int .i64 0) (.bool false) (.slice none 0 0) = W5 := ⟨_, rfl⟩
    rw [hW5] at F kF
    unfold put14 at hW5
    rw [hW5]
    refine bodyPost_ret (v := .tuple #[.agg #[.int .i64 0, .int .i64 0, .int .u16 0, .int .u16 0, .int .u16 0, .int .i64 0, .int .i64 0, .int .u16 0, .int .u16 0, .int .u16 0, .int .i64 0, .int .i64 0, .bool false, .slice none 0 0], .int .i64 1]) ?_ rfl ⟨none, 0, rfl, World.ownsRow_nil _ _ _ _, by rw [HEA.out]; exact F.2⟩
    simp [results, Try.results23, go_sem, kF]
  | true =>
    have hk := termL_known (l := l) (i := tv) (by rw [HT.out])
    have hlast : Hid (l.last = l.b + l.es.length) := rfl
    obtain ⟨D, hD⟩ : ∃ D : Nat, tv = l.b + D := ⟨(tv - l.b).toNat, by omega⟩
    have hDl : D ≤ l.es.length := by have := hlast.out; omega
    have hx := outL_end hb0 (by have := hlast.out; omega : (l.b + D : Int) ≤ l.last)
    rw [← hD] at hx
    obtain ⟨h5, rfl⟩ : outL l D l.es.length = X ∧ 0 = k0 := by have := hx.symm.trans HX.out; simpa using this
    have HXX := Lib.hid h5
    have HDD := Lib.hid hD
    have htt : (termL l (l.b + D)).1 = t := by rw [← hD, HT.out]
    have HTT := Lib.hid htt
    clear hk hx h5 hD htt
    go_upto_region 5 with fail
    obtain ⟨W2, hW2⟩ : ∃ W2, w1.alloc (.cells #[.int .i64 0, .int .i64 0, .int .u16 0, .int .u16 0, .int .u16 0, .int .i64 0, .int .i64 0, .int .u16 0, .int .u16 0, .int .u16 0, .int .i64 0, .int .i64 0, .bool false, .slice none 0 0] 32) = W2 := ⟨_, rfl⟩
    have HO2 : Hid (W2.heap[w1.heap.size]? = some (.cells #[.int .i64 0, .int .i64 0, .int .u16 0, .int .u16 0, .int .u16 0, .int .i64 0, .int .i64 0, .int .u16 0, .int .u16 0, .int .u16 0, .int .i64 0, .int .i64 0, .bool false, .slice none 0 0] 32 (0, 0))) := by show _ = _; rw [← hW2]; exact heap_last _ _
    have hAO : A + 1 < w1.heap.size := block_lt HZ1.out
    have HBO : Hid (Below w1.heap.size w1 W2) := below_new _ _ hW2
    rw [hW2]
    obtain ⟨O, eO⟩ : ∃ O, w1.heap.size = O := ⟨_, rfl⟩
    have HLL : Hid (∀ wr, Below O w1 wr → Lies wr A l p c) := fun wr h => L1.out.keep (by rw [eO]; exact h)
    have HZZ : Hid (∀ wr, Below O w1 wr → wr.heap[A + 1]? = some (.cells #[.int .i64 0, .int .i64 0, .int .u16 0, .int .u16 0, .int .u16 0, .int .i64 0, .int .i64 0, .int .u16 0, .int .u16 0, .int .u16 0, .int .i64 0, .int .i64 0, .bool false, .slice none 0 0] 32 (0, 0))) := fun wr h => below_block (by rw [← eO] at h; exact h) hAO HZ1.out
    have HUP : Hid (∀ wr, Below O w1 wr → Below A w wr) := fun wr h => HB1.out.trans (h.mono (by omega))
    rw [eO] at HO2 hAO HBO ⊢
    clear hW2 eO L1 HZ1 HB1
    have kA := (HLL.out _ HBO.out).cell
    have kO := block_cells HO2.out
    have fO := block_free HO2.out
    have hne : A ≠ O := by omega
    have hne2 : O ≠ A := by omega
    apply cut2
    · intro h
      go_region_law (fail)
      all_goals exact h
    have hz0' : OutAt w1 O ⟨0, 0, jn0, []⟩ none 0 W2 := ⟨HO2.out, World.ownsRow_nil _ _ _ _, HBO.out⟩
    have hz1' := ((hz0'.two tv t).conf l.j).keep (Below.refl _ _).drew
    simp only at hz1'
    have hz2' : (⟨tv, t, l.j, []⟩ : Lg) = outL l D 0 := by rw [outL_zero, HTT.out, ← HDD.out]
    rw [hz2'] at hz1'
    have HS := Lib.hid hz1'
    obtain ⟨W3, hW3⟩ : ∃ W3, (((((((((((((W2.setCell ⟨O, 0, none⟩ (.int .i64 tv)).setCell ⟨O, 1, none⟩ (.int .i64 t)).setCell ⟨O, 2, none⟩ (.int .u16 l.j.ov)).setCell ⟨O, 3, none⟩ (.int .u16 l.j.ox)).setCell ⟨O, 4, none⟩ (.int .u16 l.j.ol)).setCell ⟨O, 5, none⟩ (.int .i64 l.j.oe)).setCell ⟨O, 6, none⟩ (.int .i64 l.j.ok)).setCell ⟨O, 7, none⟩ (.int .u16 l.j.nv)).setCell ⟨O, 8, none⟩ (.int .u16 l.j.nx)).setCell ⟨O, 9, none⟩ (.int .u16 l.j.nl)).setCell ⟨O, 10, none⟩ (.int .i64 l.j.ne)).setCell ⟨O, 11, none⟩ (.int .i64 l.j.nk)).setCell ⟨O, 12, none⟩ (.bool l.j.two)).drew = W3 := ⟨_, rfl⟩
    rw [hW3] at HS ⊢
    clear hW3 hz0' hz1' hz2' HO2 HBO kA kO fO
    have kA := (HLL.out _ HS.out.b).cell
    go_wp2_with fail
    clear kA
    go_loopw [9] (fun i wr => ∃ (k : Nat) (m : Lg) (q : Option Addr) (cc : Nat), k ≤ l.es.length ∧ i = .int .i64 (l.b + 1 + k) ∧ Hid (outL l D k = m) ∧ Hid (OutAt w1 O m q cc wr)) (fun i _ => (l.b + 1 + l.es.length - intOf i).toNat)
    case atStart => exact ⟨0, _, none, 0, Nat.zero_le _, by simp, rfl, HS⟩
    case round =>
      clear HS
      obtain ⟨k, m, q, cc, hk, rfl, HM, HO⟩ := hrel
      obtain ⟨wk, rfl⟩ : ∃ wk : World, wk = wr := ⟨_, rfl⟩
      have Lk := Lib.hid (HLL.out _ HO.out.b)
      have kA := Lk.out.cell
      have hla := rlast_any l p c wk hb0 hb1 hn2
      rw [hlast.out] at hla
      have HLA := Lib.hid hla
      clear hla
      by_cases hlt : k < l.es.length
      · have hd1 : decide (l.b + 1 + (k : Int) ≤ l.b + (l.es.length : Int)) = true := by simp; omega
        obtain ⟨e, he⟩ : ∃ e, l.es[k] = e := ⟨_, rfl⟩
        have hat : atL l (l.b + 1 + k) = (e, true) := by rw [atL_in (k := k) (by omega) hlt, he]
        have HEE := Lib.hid he
        have HAT := Lib.hid hat
        clear he hat
        go_wp2_with fail
        refine HLA.out.mono ?_; rintro r w5 ⟨rfl, hb5⟩
        have HO5 := Lib.hid (HO.out.keep hb5)
        have HRA := Lib.hid (rat_any l p c (l.b + 1 + k) w5 hb0 hb1 hn2 (by omega) (by omega) (Lk.out.keep hb5).e HAT.out)
        clear hb5 HLA kA HO Lk
        have kA := (HLL.out _ HO5.out.b).cell
        go_wp2_with fail
        refine HRA.out.mono ?_; rintro r w6 ⟨rfl, hb6⟩
        have HO6 := Lib.hid (HO5.out.keep hb6)
        clear hb6 HRA HO5 kA
        go_upto_region 10 with fail
        obtain ⟨W7, hW7⟩ : ∃ W10, w6.alloc (.cells #[.int .i64 e.t, .int .i64 e.k, .string e.d, .int .u16 e.j.ov, .int .u16 e.j.ox, .int .u16 e.j.ol, .int .i64 e.j.oe, .int .i64 e.j.ok, .int .u16 e.j.nv, .int .u16 e.j.nx, .int .u16 e.j.nl, .int .i64 e.j.ne, .int .i64 e.j.nk, .bool e.j.two] 47) = W10 := ⟨_, rfl⟩
        have hE7 : W7.heap[w6.heap.size]? = some (.cells #[.int .i64 e.t, .int .i64 e.k, .string e.d, .int .u16 e.j.ov, .int .u16 e.j.ox, .int .u16 e.j.ol, .int .i64 e.j.oe, .int .i64 e.j.ok, .int .u16 e.j.nv, .int .u16 e.j.nx, .int .u16 e.j.nl, .int .i64 e.j.ne, .int .i64 e.j.nk, .bool e.j.two] 47 (0, 0)) := by rw [← hW7]; exact heap_last _ _
        have HO7 := Lib.hid (HO6.out.keep (below_new _ _ hW7))
        rw [hW7]
        have hOF : O < w6.heap.size := block_lt HO6.out.h
        obtain ⟨F, eF⟩ : ∃ D, w6.heap.size = D := ⟨_, rfl⟩
        rw [eF] at hE7 hOF ⊢
        have HE7 := Lib.hid hE7
        have kE := block_cells hE7
        have kO := block_cells HO7.out.h
        have fO := block_free HO7.out.h
        clear hW7 eF hE7 HO6
        by_cases hDk : D ≤ k
        · have hd2 : decide (tv < l.b + 1 + (k : Int)) = true := by rw [HDD.out]; simp; omega
          have HN := Lib.hid (outL_keep hlt hDk)
          have HNN : Hid (outL l D (k + 1) = ⟨m.b, m.bt, m.j, m.es ++ [e]⟩) := by show _ = _; rw [HN.out, HEE.out, HM.out]
          have hml : m.es.length ≤ k := by
            have := congrArg (fun x : Lg => x.es.length) HM.out
            simp only [outL, List.length_drop, List.length_take] at this; omega
          obtain ⟨L2, hL2⟩ : ∃ L2, m.es ++ [e] = L2 := ⟨_, rfl⟩
          have hl2 : L2.length = m.es.length + 1 := by rw [← hL2]; simp
          have hr2 : entRow m.es ++ entRow [e] = entRow L2 := by rw [← hL2, entRow_app]
          rw [hL2] at HNN
          have HL2 := Lib.hid hl2; have HR2 := Lib.hid hr2
          have HO8 := Lib.hid (own_belowL HO7.out.o (below_new W7 (.cells #[.int .i64 e.t, .int .i64 e.k, .string e.d, .int .u16 e.j.ov, .int .u16 e.j.ox, .int .u16 e.j.ol, .int .i64 e.j.oe, .int .i64 e.j.ok, .int .u16 e.j.nv, .int .u16 e.j.nx, .int .u16 e.j.nl, .int .i64 e.j.ne, .int .i64 e.j.nk, .bool e.j.two] 47) rfl) (Nat.le_refl _))
          have HS8 := Lib.hid (EnSl.one (e := e) (heap_last W7 (.cells #[.int .i64 e.t, .int .i64 e.k, .string e.d, .int .u16 e.j.ov, .int .u16 e.j.ox, .int .u16 e.j.ol, .int .i64 e.j.oe, .int .i64 e.j.ok, .int .u16 e.j.nv, .int .u16 e.j.nx, .int .u16 e.j.nl, .int .i64 e.j.ne, .int .i64 e.j.nk, .bool e.j.two] 47)))
          have hW7 : O < W7.heap.size := block_lt HO7.out.h
          have HB8 := Lib.hid (HO7.out.b.trans ((below_new W7 (.cells #[.int .i64 e.t, .int .i64 e.k, .string e.d, .int .u16 e.j.ov, .int .u16 e.j.ox, .int .u16 e.j.ol, .int .i64 e.j.oe, .int .i64 e.j.ok, .int .u16 e.j.nv, .int .u16 e.j.nx, .int .u16 e.j.nl, .int .i64 e.j.ne, .int .i64 e.j.nk, .bool e.j.two] 47) rfl).mono (Nat.le_of_lt hW7)))
          have HH8 := Lib.hid (heap_prev (.cells #[.int .i64 e.t, .int .i64 e.k, .string e.d, .int .u16 e.j.ov, .int .u16 e.j.ox, .int .u16 e.j.ol, .int .i64 e.j.oe, .int .i64 e.j.ok, .int .u16 e.j.nv, .int .u16 e.j.nx, .int .u16 e.j.nl, .int .i64 e.j.ne, .int .i64 e.j.nk, .bool e.j.two] 47) HO7.out.h)
          have HL8 : Hid (∀ u ∈ entRow [e], u.oneCell' = true) := entC_one [e]
          have HSZ : Hid (O + 1 ≤ (W7.alloc (.cells #[.int .i64 e.t, .int .i64 e.k, .string e.d, .int .u16 e.j.ov, .int .u16 e.j.ox, .int .u16 e.j.ol, .int .i64 e.j.oe, .int .i64 e.j.ok, .int .u16 e.j.nv, .int .u16 e.j.nx, .int .u16 e.j.nl, .int .i64 e.j.ne, .int .i64 e.j.nk, .bool e.j.two] 47)).heap.size) := by show O + 1 ≤ _; simp; omega
          clear hl2 hr2 hL2 fO
          go_wp2_with (at_builtin; refine wpList_append_sl rfl _ _ 30 rfl (O + 1) 47 i0 (.agg #[.int .i64 0, .int .i64 0, .string ⟨#[]⟩, .int .u16 0, .int .u16 0, .int .u16 0, .int .i64 0, .int .i64 0, .int .u16 0, .int .u16 0, .int .u16 0, .int .i64 0, .int .i64 0, .bool false]) 14 88 Try.underlying30 hi0 hz0 hz1 hz2 rfl (by decide) _ m.es.length (entRow m.es) rfl HO8.out _ _ 1 (entRow [e]) rfl HS8.out HL8.out ?_ ?_ HSZ.out ?_)
          · unfold maxLen; omega
          · omega
          intro v3 w3 hown3 hgrow3
          rw [HR2.out, ← HL2.out] at hown3
          obtain ⟨q3, cc3, rfl⟩ := own_slice hown3
          have hH3 := (hgrow3.block O (block_lt HH8.out) (fun h => by have := (own_geL HO8.out O h.symm).1; omega)).trans HH8.out
          have hB3 := HB8.out.grown hgrow3 (by have := HSZ.out; omega) (fun j hj => Nat.le_of_succ_le (own_geL HO8.out j hj).1)
          have HP := Lib.hid (OutAt.push (m := m) (m' := ⟨m.b, m.bt, m.j, L2⟩) hH3 hB3 ⟨rfl, rfl, rfl⟩ hown3)
          have kO := block_cells hH3
          have fO := block_free hH3
          clear hown3 hgrow3 HO8 HS8 HL8 HB8 HH8 kE hH3 hB3 HO7
          go_wp2_with fail
          go_roundw
          case rel => exact ⟨k + 1, _, q3, cc3, by omega, by go_num, HNN, HP⟩
          case measure => simp [intOf]; omega
        · have hd2 : decide (tv < l.b + 1 + (k : Int)) = false := by rw [HDD.out]; simp; omega
          have HN := Lib.hid (outL_pass hlt (by omega : k < D))
          by_cases hk2 : e.k = 2
          · have hq2 : (e.k == 2) = true := by simpa using hk2
            have HNN : Hid (outL l D (k + 1) = ⟨m.b, m.bt, e.j, m.es⟩) := by show _ = _; rw [HN.out, HEE.out, if_pos hk2, HM.out]
            have HOC := Lib.hid (HO7.out.conf e.j)
            clear hk2 HO7
            go_wp2_with fail
            go_roundw
            case rel => exact ⟨k + 1, _, q, cc, by omega, by go_num, HNN, HOC⟩
            case measure => simp [intOf]; omega
          · have hq2 : (e.k == 2) = false := by simpa using hk2
            have HNN : Hid (outL l D (k + 1) = m) := by show _ = _; rw [HN.out, HEE.out, if_neg hk2, HM.out]
            clear hk2
            go_wp2_with fail
            go_roundw
            case rel => exact ⟨k + 1, _, q, cc, by omega, by go_num, HNN, HO7⟩
            case measure => simp [intOf]; omega
      · obtain rfl : k = l.es.length := by omega
        have hd1 : decide (l.b + 1 + (l.es.length : Int) ≤ l.b + (l.es.length : Int)) = false := by simp; omega
        obtain rfl : m = X := HM.out.symm.trans HXX.out
        go_wp2_with fail
        refine HLA.out.mono ?_; rintro r w5 ⟨rfl, hb5⟩
        have HO5 := Lib.hid (HO.out.keep hb5)
        clear hb5 HLA kA HO Lk
        have hz := HZZ.out _ HO5.out.b
        have HF := rcompact_fin hz HO5.out (HUP.out _ HO5.out.b) (Nat.le_succ _) hAO
        have kO := block_cells HO5.out.h
        have kZ := block_cells hz
        have fZ := block_free hz
        obtain ⟨W5, hW5⟩ : ∃ W5, put14 w5 (A + 1) (.int .i64 m.b) (.int .i64 m.bt) (.int .u16 m.j.ov) (.int .u16 m.j.ox) (.int .u16 m.j.ol) (.int .i64 m.j.oe) (.int .i64 m.j.ok) (.int .u16 m.j.nv) (.int .u16 m.j.nx) (.int .u16 m.j.nl) (.int .i64 m.j.ne) (.int .i64 m.j.nk) (.bool m.j.two) (.slice q m.es.length cc) = W5 := ⟨_, rfl⟩
        rw [hW5] at HF
        unfold put14 at hW5
        obtain ⟨kF, hFo, hFb⟩ := HF
        have HFO := Lib.hid hFo; have HFB := Lib.hid hFb; have KF := Lib.hid kF; have HW5 := Lib.hid hW5
        clear hz hW5 kF hFo hFb
        go_wp2_with fail
        have kF := KF.out
        rw [HW5.out]
        refine bodyPost_ret (v := .tuple #[.agg #[.int .i64 m.b, .int .i64 m.bt, .int .u16 m.j.ov, .int .u16 m.j.ox, .int .u16 m.j.ol, .int .i64 m.j.oe, .int .i64 m.j.ok, .int .u16 m.j.nv, .int .u16 m.j.nx, .int .u16 m.j.nl, .int .i64 m.j.ne, .int .i64 m.j.nk, .bool m.j.two, .slice q m.es.length cc], .int .i64 0]) ?_ rfl ⟨q, cc, rfl, HFO.out.mono (by rw [HEA.out]; omega), by rw [HEA.out]; exact HFB.out⟩
        simp [results, Try.results23, go_sem, kF]
end Go.Proofs.Ytabiccpodnjieaa
