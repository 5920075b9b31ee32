/- EntriesPieces: for all two lists of steps (40 at most each) and all lists of sizes (50 at most; others are let through): a log that is sent piece by piece comes to have the sender's terms; no condition. -/
import Derived.Test.YtabiccpodnjieaaLogX1
import Derived.Test.YtabiccpodnjieaaLogX2
import Derived.Test.YtabiccpodnjieaaLogO
import Derived.Test.YtabiccpodnjieaaOrdFit
import Derived.Test.YtabiccpodnjieaaPlainPieces
import Derived.Test.YtabiccpodnjieaaFrame
import Derived.Test.YtabiccpodnjieaaRows
namespace Go.Proofs.Ytabiccpodnjieaa
open Go.ChangeShapes Go.WideShapes Go.ChangeAt Go.RowKit

/-- What stands at the loop's head. -/
structure PieceAt (w : World) (A : Nat) (o : Lg) (p2 : Option Addr) (k2 : Nat) (l : Lg) (p : Option Addr) (c : Nat) (a : Int) (wr : World) : Prop where
  hl : Lies wr A l p c
  hf : FarE A wr p c l.es
  ho : Lies wr (A + 1) o p2 k2
  hg : FarE A wr p2 k2 o.es
  hb : Below A w wr
  hs : A + 2 ≤ wr.heap.size
  hn : l.es.length ≤ 40
  ag : Agree l o a
  z : 0 ≤ a
  y : a ≤ o.last
theorem PieceAt.keep {w wr w' : World} {A : Nat} {o : Lg} {p2 : Option Addr} {k2 : Nat} {l : Lg} {p : Option Addr} {c : Nat} {a : Int} (h : PieceAt w A o p2 k2 l p c a wr) (hb : Below wr.heap.size wr w') : PieceAt w A o p2 k2 l p c a w' :=
  ⟨h.hl.keep hb, h.hf.keep hb (Nat.le_refl _), h.ho.keep hb, h.hg.keep hb (Nat.le_refl _), h.hb.trans (hb.mono (by have := h.hs; omega)), Nat.le_trans h.hs hb.size, h.hn, h.ag, h.z, h.y⟩
theorem PieceAt.put {w wr : World} {A : Nat} {o : Lg} {p2 : Option Addr} {k2 : Nat} {l : Lg} {p : Option Addr} {c : Nat} {a : Int} (h : PieceAt w A o p2 k2 l p c a wr) {m : Lg} {q : Option Addr} {d : Nat} {b : Int} (hm : FarE A wr q d m.es) (hn : m.es.length ≤ 40) (ag : Agree m o b) (z : 0 ≤ b) (y : b ≤ o.last) :
    PieceAt w A o p2 k2 m q d b (put14 wr A (.int .i64 m.b) (.int .i64 m.bt) (.int .u16 m.j.ov) (.int .u16 m.j.ox) (.int .u16 m.j.ol) (.int .i64 m.j.oe) (.int .i64 m.j.ok) (.int .u16 m.j.nv) (.int .u16 m.j.nx) (.int .u16 m.j.nl) (.int .i64 m.j.ne) (.int .i64 m.j.nk) (.bool m.j.two) (.slice q m.es.length d)) := by
  obtain ⟨h1, h2, h3⟩ := put_log h.hl h.hb (Nat.le_refl _) hm
  have hg := put14_grown wr A (.int .i64 m.b) (.int .i64 m.bt) (.int .u16 m.j.ov) (.int .u16 m.j.ox) (.int .u16 m.j.ol) (.int .i64 m.j.oe) (.int .i64 m.j.ok) (.int .u16 m.j.nv) (.int .u16 m.j.nx) (.int .u16 m.j.nl) (.int .i64 m.j.ne) (.int .i64 m.j.nk) (.bool m.j.two) (.slice q m.es.length d)
  have hO := h.hg.grown hg
  refine ⟨h1, h3, ⟨(hg.block (A + 1) (block_lt h.ho.h) (by simp)).trans h.ho.h, hO.e⟩, hO, h2, Nat.le_trans h.hs hg.size, hn, ag, z, y⟩
set_option maxRecDepth 100000 in
set_option maxHeartbeats 16000000 in
theorem epieces_walk (va vb vs : Value) (xs ys zs : List Int) (ha : Oct xs) (hb : Oct ys) (hz : Oct zs) (w : World) (sa : Sl w.heap.size w va 1 xs.length (byt xs)) (sb : Sl w.heap.size w vb 1 ys.length (byt ys)) (ss : Sl w.heap.size w vs 1 zs.length (byt zs)) :
    Calls Try.prog 7 #[va, vb, vs] w fun r w' => r = .returned (.bool true) ∧ Below w.heap.size w w' := by
  have SA := Lib.hid sa; have SB := Lib.hid sb; have SS := Lib.hid ss
  obtain ⟨pa, ca, rfl, a1, a2, -, -⟩ := sa.form
  obtain ⟨pb, cb, rfl, b1, b2, -, -⟩ := sb.form
  obtain ⟨ps, cs, rfl, c1, c2, -, -⟩ := ss.form
  unfold maxLen at a2 b2 c2
  clear sa sb ss
  by_cases hl : 40 < xs.length ∨ 40 < ys.length ∨ 50 < zs.length
  · have h3 : (40 < xs.length) ∨ (¬ 40 < xs.length ∧ 40 < ys.length) ∨ (¬ 40 < xs.length ∧ ¬ 40 < ys.length ∧ 50 < zs.length) := by omega
    clear hl
    rcases h3 with h | ⟨h, h'⟩ | ⟨h, h', h''⟩
    all_goals
      go_enter Try.func7, Try.ntmps7
      go_wp2_with fail
      refine (begun_any _).mono ?_; rintro r w1 ⟨rfl, hb⟩
      go_wp2_with fail
      go_ret
      exact ⟨rfl, hb⟩
  have hla : xs.length ≤ 40 := by omega
  have hlb : ys.length ≤ 40 := by omega
  have hlc : zs.length ≤ 50 := by omega
  have HX := Lib.hid ha; have HY := Lib.hid hb; have HZ := Lib.hid hz
  clear hl ha hb hz
  have hly : (madeL ys 0 0).es.length = ys.length := made_len _ _ _
  have hlx : (madeL xs 0 0).es.length = xs.length := made_len _ _ _
  obtain ⟨l, hl⟩ : ∃ l, madeL xs 0 0 = l := ⟨_, rfl⟩
  obtain ⟨o, ho⟩ : ∃ o, madeL ys 0 0 = o := ⟨_, rfl⟩
  rw [ho] at hly
  rw [hl] at hlx
  have FO : Hid (LgFit o) := by show LgFit o; rw [← ho]; exact made_fitX ys (by omega) (by decide) (by decide)
  have HOB : Hid (o.b = 0) := by show _ = _; rw [← ho]; rfl
  have HLB : Hid (l.b = 0) := by show _ = _; rw [← hl]; rfl
  have HAG : Hid (Agree l o 0) := agree_start HLB.out HOB.out (by rw [← hl, ← ho]; rfl)
  have HOL : Hid (o.last = (ys.length : Int)) := by show o.b + o.es.length = _; rw [HOB.out, hly]; omega
  have HLX := Lib.hid hlx; have HLY := Lib.hid hly
  have HL := Lib.hid hl; have HO := Lib.hid ho
  clear hl ho hlx hly
  go_enter Try.func7, Try.ntmps7
  obtain ⟨Q', hQ⟩ : ∃ Q', bodyPost Try.prog Try.f7 (fun r w' => r = .returned (.bool true) ∧ Below w.heap.size w w') = Q' := ⟨_, rfl⟩
  have HQ : Hid (∀ (a : Act) (w' : World), a.tmps.getD 6 undef = .bool true → a.defers = [] → Below w.heap.size w w' → Q' .ret a w') := fun a w' h6 hd hb => by
    rw [← hQ]; exact bodyPost_ret (v := .bool true) (by rw [results_tmp rfl, h6]) hd ⟨rfl, hb⟩
  rw [hQ]
  clear hQ
  go_wp2_with fail
  refine (begun_any _).mono ?_; rintro r w1 ⟨rfl, hb1⟩
  have B1 := Lib.hid hb1
  clear hb1
  go_upto_region 5 with fail
  have hM1 := made_any (.slice pa xs.length ca) xs 0 0 w1 HX.out ((SA.out.keep B1.out).mono B1.out.size) (by omega) (by decide)
  rw [HL.out] at hM1
  have hM1' := Lib.hid hM1
  clear hM1
  go_wp2_with fail
  refine hM1'.out.mono ?_; rintro r w2 ⟨p1, k1, rfl, ho1, hb2⟩
  have B2 := Lib.hid (B1.out.trans (hb2.mono B1.out.size))
  have E1 := Lib.hid (EnSl.of_own ho1)
  clear hb2 ho1
  have hM2 := made_any (.slice pb ys.length cb) ys 0 0 w2 HY.out ((SB.out.keep B2.out).mono B2.out.size) (by omega) (by decide)
  rw [HO.out] at hM2
  have hM2' := Lib.hid hM2
  clear hM2
  go_wp2_with fail
  refine hM2'.out.mono ?_; rintro r w3 ⟨p2, k2, rfl, ho2, hb3⟩
  have B3 := Lib.hid (B2.out.trans (hb3.mono B2.out.size))
  have E2 := Lib.hid (EnSl.of_own ho2)
  have E13 := Lib.hid (E1.out.keep hb3 (Nat.le_refl _))
  clear hb3 ho2
  go_upto_region 6 with fail
  obtain ⟨W0, hW0⟩ : ∃ W0, w3.alloc (.cells #[.int .i64 l.b, .int .i64 l.bt, .int .u16 l.j.ov, .int .u16 l.j.ox, .int .u16 l.j.ol, .int .i64 l.j.oe, .int .i64 l.j.ok, .int .u16 l.j.nv, .int .u16 l.j.nx, .int .u16 l.j.nl, .int .i64 l.j.ne, .int .i64 l.j.nk, .bool l.j.two, .slice p1 l.es.length k1] 32) = W0 := ⟨_, rfl⟩
  obtain ⟨W, hW⟩ : ∃ W, W0.alloc (.cells #[.int .i64 o.b, .int .i64 o.bt, .int .u16 o.j.ov, .int .u16 o.j.ox, .int .u16 o.j.ol, .int .i64 o.j.oe, .int .i64 o.j.ok, .int .u16 o.j.nv, .int .u16 o.j.nx, .int .u16 o.j.nl, .int .i64 o.j.ne, .int .i64 o.j.nk, .bool o.j.two, .slice p2 o.es.length k2] 32) = W := ⟨_, rfl⟩
  have hs0 : W0.heap.size = w3.heap.size + 1 := by rw [← hW0]; simp
  have hs1 : W.heap.size = w3.heap.size + 2 := by rw [← hW]; simp; omega
  have lo := Lies.new (E2.out.keep (below_new _ _ hW0) (Nat.le_refl _)) hW
  rw [hs0] at lo
  have hbw : Below w3.heap.size w3 W := (below_new _ _ hW0).trans ((below_new _ _ hW).mono (by omega))
  have PA0 : Hid (PieceAt w3 w3.heap.size o p2 k2 l p1 k1 0 W) := ⟨(Lies.new E13.out hW0).keep (below_new _ _ hW), (FarE.of_below E13.out (Nat.le_refl _)).keep hbw (Nat.le_refl _), lo, (FarE.of_below E2.out (Nat.le_refl _)).keep hbw (Nat.le_refl _), hbw, by omega, by rw [HLX.out]; exact hla, HAG.out, by omega, by rw [HOL.out]; omega⟩
  rw [hW0, hW]
  clear hW hW0 hs0 hs1 lo hbw
  have SZ : Hid (Sl w3.heap.size w3 (.slice ps zs.length cs) 1 zs.length (byt zs)) := (SS.out.keep B3.out).mono B3.out.size
  obtain ⟨A, eA⟩ : ∃ A, w3.heap.size = A := ⟨_, rfl⟩
  rw [eA] at PA0 SZ ⊢
  have HB3 : Hid (∀ wr, Below A w3 wr → Below w.heap.size w wr) := fun wr h => B3.out.trans (h.mono (by rw [← eA]; exact B3.out.size))
  clear eA E1 E2 E13 hM1' hM2' B1 B2 B3 SA SB SS HX HY HL HO HAG
  go_wp2_with fail
  go_loopw [9, 10] (fun a i wr => ∃ (n : Int) (k : Nat) (L : Lg) (q : Option Addr) (d : Nat), a = .int .i64 n ∧ i = .int .i64 k ∧ (k : Int) ≤ zs.length + n ∧ Hid (n ≤ ys.length) ∧ Hid (PieceAt w3 A o p2 k2 L q d n wr)) (fun _ i _ => 200 - (intOf i).toNat)
  case atStart => exact ⟨0, 0, l, p1, k1, rfl, rfl, by omega, by show (0 : Int) ≤ _; omega, PA0⟩
  case round =>
    clear PA0 HLX HLB
    obtain ⟨n, k, L, q, d, rfl, rfl, hk, HN, HP⟩ := hrel
    obtain ⟨wk, rfl⟩ : ∃ wk : World, wk = wr := ⟨_, rfl⟩
    have hn1 := HN.out
    have hn0 := HP.out.z
    by_cases hkz : k < zs.length
    · have hd1 : decide ((k : Int) < (zs.length : Int)) = true := by simp; omega
      obtain ⟨g, oo, cap, hv, hc1, hc2, hgl⟩ := sl_headL SZ.out (by omega)
      simp only [Value.slice.injEq] at hv
      obtain ⟨rfl, -, rfl⟩ := hv
      have hc := (sl_cellL (SZ.out.keep HP.out.hb) k hkz)
      obtain ⟨sz, hsz⟩ : ∃ x, zs.getD k 0 = x := ⟨_, rfl⟩
      rw [hsz] at hc
      have hsb : 0 ≤ sz ∧ sz ≤ 255 := by
        rw [← hsz]; have : zs.getD k 0 = zs[k] := by simp [List.getD, List.getElem?_eq_getElem hkz]
        rw [this]; exact HZ.out _ (List.getElem_mem hkz)
      obtain ⟨hs0, hs1⟩ := hsb
      clear hsz hgl
      go_upto_region 15 with fail
      obtain ⟨N, hN⟩ : ∃ N, sz % 6 = N := ⟨_, rfl⟩
      have hN0 : 0 ≤ N := by omega
      have hN1 : N ≤ 5 := by omega
      rw [hN]
      clear hc hs0 hs1 hN
      obtain ⟨es, hes⟩ : ∃ es, sliceL o (n + 1) N = es := ⟨_, rfl⟩
      obtain ⟨g1, g2, g3, g4⟩ := piece_step HOB.out hn0 HP.out.y HP.out.ag hes
      have hen : es.length ≤ 40 := by have := HOL.out; omega
      have g5 := joinL_size0 (l := L) (P := n) (es := es) (n := 40) HP.out.ag.b hn0 HP.out.ag.last HP.out.hn (by have := HOL.out; omega)
      obtain ⟨m, hm⟩ : ∃ m, joinL L n es = m := ⟨_, rfl⟩
      rw [hm] at g1 g2 g5
      obtain ⟨t, ht⟩ : ∃ t, (termL o n).1 = t := ⟨_, rfl⟩
      obtain ⟨ti, hti⟩ : ∃ t, (termL o n).2 = t := ⟨_, rfl⟩
      rw [ht] at g1
      have FL : Hid (LgFit L) := ⟨by rw [HP.out.ag.b]; decide, by rw [HP.out.ag.b]; decide, by have := HP.out.hn; omega⟩
      have G1 := Lib.hid g1; have G2 := Lib.hid g2; have G3 := Lib.hid g3; have G4 := Lib.hid g4; have G5 := Lib.hid g5; have HES := Lib.hid hes
      have TA : Hid (Calls Try.prog 14 #[.agg #[.int .i64 o.b, .int .i64 o.bt, .int .u16 o.j.ov, .int .u16 o.j.ox, .int .u16 o.j.ol, .int .i64 o.j.oe, .int .i64 o.j.ok, .int .u16 o.j.nv, .int .u16 o.j.nx, .int .u16 o.j.nl, .int .i64 o.j.ne, .int .i64 o.j.nk, .bool o.j.two, .slice p2 o.es.length k2], .int .i64 n] wk fun r w' => r = .returned (.tuple #[.int .i64 t, .bool ti]) ∧ Below wk.heap.size wk w') := by
        have := term_is o p2 k2 wk FO.out (i := n) ⟨by omega, by omega⟩ HP.out.ho.e; rw [ht, hti] at this; exact this
      have kO := HP.out.ho.cell
      clear g1 g2 g3 g4 g5 hm ht hti hes
      go_wp2_with fail
      refine TA.out.mono ?_; rintro r w5 ⟨rfl, hb5⟩
      have P5 := Lib.hid (HP.out.keep hb5)
      clear hb5 kO TA HP
      have hSl := slice_any o p2 k2 (n + 1) N w5 FO.out.b0 FO.out.b1 FO.out.n (by omega) (by omega) P5.out.ho.e
      rw [HES.out] at hSl
      have HSl := Lib.hid hSl
      have kO := P5.out.ho.cell
      clear hSl
      go_wp2_with fail
      refine HSl.out.mono ?_; rintro r w6 ⟨v, rfl, ho6, hb6⟩
      obtain ⟨p3, k3, rfl⟩ := own_slice ho6
      have ES6 := Lib.hid (EnSl.of_own ho6)
      have P6 := Lib.hid (P5.out.keep hb6)
      have hM := merge_any L q d n t es p3 k3 w6 FL.out ⟨by omega, by omega⟩ P6.out.hl.e ES6.out (by have := P6.out.hn; omega)
      rw [G1.out] at hM
      have HM := Lib.hid hM
      have kL := P6.out.hl.cell
      clear hM ho6 hb6 kO HSl P5
      go_wp2_with fail
      refine HM.out.mono ?_; rintro r w7 ⟨p4, k4, rfl, ho7, hb7⟩
      dsimp only at ho7 ⊢
      have FM7 := Lib.hid (FarE.of_own (A := A) ho7 (by have := P6.out.hs; omega))
      have EM7 := Lib.hid (EnSl.of_own ho7)
      have P7 := Lib.hid (P6.out.keep hb7)
      clear ho7 hb7 kL HM P6 ES6
      go_upto_region 18 with fail
      obtain ⟨W8, hW8⟩ : ∃ W8, w7.alloc (.cells #[.int .i64 m.b, .int .i64 m.bt, .int .u16 m.j.ov, .int .u16 m.j.ox, .int .u16 m.j.ol, .int .i64 m.j.oe, .int .i64 m.j.ok, .int .u16 m.j.nv, .int .u16 m.j.nx, .int .u16 m.j.nl, .int .i64 m.j.ne, .int .i64 m.j.nk, .bool m.j.two, .slice p4 m.es.length k4] 32) = W8 := ⟨_, rfl⟩
      have hLM := Lies.new EM7.out hW8
      have P8 := Lib.hid (P7.out.keep (below_new _ _ hW8))
      have FM8 := Lib.hid (FM7.out.keep (below_new _ _ hW8) (Nat.le_refl _))
      have PN := Lib.hid (P8.out.put FM8.out G5.out G2.out (by omega) G3.out)
      rw [hW8]
      obtain ⟨C, eC⟩ : ∃ C, w7.heap.size = C := ⟨_, rfl⟩
      rw [eC] at hLM ⊢
      have kM := hLM.cell
      have kA := P8.out.hl.cell
      have fA := block_free P8.out.hl.h
      clear hW8 eC EM7 P7 FM7 hLM
      go_wp2_with fail
      go_roundw
      case rel => exact ⟨n + es.length, k + 1, m, p4, k4, by go_num, by go_num, by omega, by show n + (es.length : Int) ≤ ys.length; have := HOL.out; have := G3.out; omega, PN.out⟩
      case measure => simp [intOf]; omega
    · by_cases hny : n < ys.length
      · have hd1 : decide ((k : Int) < (zs.length : Int)) = false := by simp; omega
        have hd2 : decide (n < (ys.length : Int)) = true := by simp; omega
        have hd3 : decide ((200 : Int) < (k : Int)) = false := by simp; omega
        go_upto_region 15 with fail
        obtain ⟨N, hN⟩ : ∃ N : Int, 3 = N := ⟨_, rfl⟩
        have hN0 : 0 < N := by omega
        have hN1 : N ≤ 5 := by omega
        have hnN : Value.int .i64 3 = .int .i64 N := by rw [hN]
        rw [hnN]
        clear hN hnN
        obtain ⟨es, hes⟩ : ∃ es, sliceL o (n + 1) N = es := ⟨_, rfl⟩
        obtain ⟨g1, g2, g3, g4⟩ := piece_step HOB.out hn0 HP.out.y HP.out.ag hes
        have hen : es.length ≤ 40 := by have := HOL.out; omega
        have g5 := joinL_size0 (l := L) (P := n) (es := es) (n := 40) HP.out.ag.b hn0 HP.out.ag.last HP.out.hn (by have := HOL.out; omega)
        obtain ⟨m, hm⟩ : ∃ m, joinL L n es = m := ⟨_, rfl⟩
        rw [hm] at g1 g2 g5
        obtain ⟨t, ht⟩ : ∃ t, (termL o n).1 = t := ⟨_, rfl⟩
        obtain ⟨ti, hti⟩ : ∃ t, (termL o n).2 = t := ⟨_, rfl⟩
        rw [ht] at g1
        have FL : Hid (LgFit L) := ⟨by rw [HP.out.ag.b]; decide, by rw [HP.out.ag.b]; decide, by have := HP.out.hn; omega⟩
        have G1 := Lib.hid g1; have G2 := Lib.hid g2; have G3 := Lib.hid g3; have G4 := Lib.hid g4; have G5 := Lib.hid g5; have HES := Lib.hid hes
        have TA : Hid (Calls Try.prog 14 #[.agg #[.int .i64 o.b, .int .i64 o.bt, .int .u16 o.j.ov, .int .u16 o.j.ox, .int .u16 o.j.ol, .int .i64 o.j.oe, .int .i64 o.j.ok, .int .u16 o.j.nv, .int .u16 o.j.nx, .int .u16 o.j.nl, .int .i64 o.j.ne, .int .i64 o.j.nk, .bool o.j.two, .slice p2 o.es.length k2], .int .i64 n] wk fun r w' => r = .returned (.tuple #[.int .i64 t, .bool ti]) ∧ Below wk.heap.size wk w') := by
          have := term_is o p2 k2 wk FO.out (i := n) ⟨by omega, by omega⟩ HP.out.ho.e; rw [ht, hti] at this; exact this
        have kO := HP.out.ho.cell
        clear g1 g2 g3 g4 g5 hm ht hti hes
        go_wp2_with fail
        refine TA.out.mono ?_; rintro r w5 ⟨rfl, hb5⟩
        have P5 := Lib.hid (HP.out.keep hb5)
        clear hb5 kO TA HP
        have hSl := slice_any o p2 k2 (n + 1) N w5 FO.out.b0 FO.out.b1 FO.out.n (by omega) (by omega) P5.out.ho.e
        rw [HES.out] at hSl
        have HSl := Lib.hid hSl
        have kO := P5.out.ho.cell
        clear hSl
        go_wp2_with fail
        refine HSl.out.mono ?_; rintro r w6 ⟨v, rfl, ho6, hb6⟩
        obtain ⟨p3, k3, rfl⟩ := own_slice ho6
        have ES6 := Lib.hid (EnSl.of_own ho6)
        have P6 := Lib.hid (P5.out.keep hb6)
        have hM := merge_any L q d n t es p3 k3 w6 FL.out ⟨by omega, by omega⟩ P6.out.hl.e ES6.out (by have := P6.out.hn; omega)
        rw [G1.out] at hM
        have HM := Lib.hid hM
        have kL := P6.out.hl.cell
        clear hM ho6 hb6 kO HSl P5
        go_wp2_with fail
        refine HM.out.mono ?_; rintro r w7 ⟨p4, k4, rfl, ho7, hb7⟩
        dsimp only at ho7 ⊢
        have FM7 := Lib.hid (FarE.of_own (A := A) ho7 (by have := P6.out.hs; omega))
        have EM7 := Lib.hid (EnSl.of_own ho7)
        have P7 := Lib.hid (P6.out.keep hb7)
        clear ho7 hb7 kL HM P6 ES6
        go_upto_region 18 with fail
        obtain ⟨W8, hW8⟩ : ∃ W8, w7.alloc (.cells #[.int .i64 m.b, .int .i64 m.bt, .int .u16 m.j.ov, .int .u16 m.j.ox, .int .u16 m.j.ol, .int .i64 m.j.oe, .int .i64 m.j.ok, .int .u16 m.j.nv, .int .u16 m.j.nx, .int .u16 m.j.nl, .int .i64 m.j.ne, .int .i64 m.j.nk, .bool m.j.two, .slice p4 m.es.length k4] 32) = W8 := ⟨_, rfl⟩
        have hLM := Lies.new EM7.out hW8
        have P8 := Lib.hid (P7.out.keep (below_new _ _ hW8))
        have FM8 := Lib.hid (FM7.out.keep (below_new _ _ hW8) (Nat.le_refl _))
        have PN := Lib.hid (P8.out.put FM8.out G5.out G2.out (by omega) G3.out)
        rw [hW8]
        obtain ⟨C, eC⟩ : ∃ C, w7.heap.size = C := ⟨_, rfl⟩
        rw [eC] at hLM ⊢
        have kM := hLM.cell
        have kA := P8.out.hl.cell
        have fA := block_free P8.out.hl.h
        clear hW8 eC EM7 P7 FM7 hLM
        go_wp2_with fail
        go_roundw
        case rel => exact ⟨n + es.length, k + 1, m, p4, k4, by go_num, by go_num, by have := G4.out (by omega) (by have := HOL.out; omega); omega, by show n + (es.length : Int) ≤ ys.length; have := HOL.out; have := G3.out; omega, PN.out⟩
        case measure => simp [intOf]; omega
      · have hd1 : decide ((k : Int) < (zs.length : Int)) = false := by simp; omega
        have hd2 : decide (n < (ys.length : Int)) = false := by simp; omega
        obtain rfl : n = ys.length := by omega
        have hag := HP.out.ag
        rw [← HOL.out] at hag
        have HS : Hid (∀ k, k < o.es.length → (atL L (1 + k)).2 = true ∧ (atL L (1 + k)).1.t = (atL o (1 + k)).1.t) := fun k hk => agree_at hag HOB.out hk
        have FL : Hid (LgFit L) := ⟨by rw [HP.out.ag.b]; decide, by rw [HP.out.ag.b]; decide, by have := HP.out.hn; omega⟩
        have hLA := last_any L q d wk FL.out.b0 FL.out.b1 FL.out.n
        have hlst := HP.out.ag.last
        obtain ⟨X, hX⟩ : ∃ x, L.last = x := ⟨_, rfl⟩
        rw [hX] at hLA hlst
        have hd3 : decide ((ys.length : Int) ≤ X) = true := by simpa using hlst
        have HLA := Lib.hid hLA
        have kA := HP.out.hl.cell
        have kO := HP.out.ho.cell
        clear hLA hX hag hlst
        go_wp2_with fail
        clear_value *
        as_aux_lemma =>
          refine HLA.out.mono ?_; rintro r w5 ⟨rfl, hb5⟩
          have P5 := Lib.hid (HP.out.keep hb5)
          have HAL := Lib.hid (alike12_any L o q p2 d k2 w5 FL.out FO.out P5.out.hl.e P5.out.ho.e HOB.out HS.out)
          clear hb5 HP HLA kA kO
          have kA := P5.out.hl.cell
          have kO := P5.out.ho.cell
          go_wp2_with fail
          refine HAL.out.mono ?_; rintro r w6 ⟨rfl, hb6⟩
          have P6 := Lib.hid (P5.out.keep hb6)
          clear hb6 HAL kA kO P5
          go_wp2_with fail
          exact HQ.out _ _ rfl rfl (HB3.out _ P6.out.hb)

set_option maxRecDepth 100000 in
theorem epieces_lifted (os : Os) (started : os.Started) (H : Type) (enc : TypeId × Value → H) :
    ReturnsInHanded {} Try.checked os 7 .any (Rows.entriesPiecesSpec.pre6 enc Try.prog Try.f7 Rows.entriesPiecesRow.domain false) (Rows.entriesPiecesSpec.post enc Try.prog Try.f7 false true false false) := by
  refine lift_law (C := Try.checked) (tb := 4) (by kernel_rfl) started (by kernel_rfl) Try.func7 (ChangeSpec.witness6 (enc := enc) (C := Try.checked) false ⟨#[], #[.slice none 0 0, .slice none 0 0, .slice none 0 0], []⟩ 8 (by kernel_rfl) (by kernel_rfl) (by kernel_rfl) (by kernel_rfl)) (by kernel_rfl) (by kernel_rfl) rfl Try.underlying4 rfl ?_ ?_
  · intro ds h
    match ds, h with
    | [_, _, _], _ => rfl
  · intro W base args ds ps hval0 hA0 hlt hsz
    have hval : ∀ (j : Nat) t v, Try.f7.params[j]? = some t → args[j]? = some v → Value.okWide Try.prog W .any base t v := hval0
    have hA : DataW.TrodAll enc Try.prog W 0 (fun _ => true) true Try.f7.params.toList args.toList ds ps := hA0
    rw [Try.params7] at hA hval
    obtain ⟨v0, v1, v2, d0, d1, d2, p0, p1, p2, rfl, rfl, rfl, h0, h1, h2⟩ := trodAll_three hA
    obtain ⟨xs, hs, hw⟩ := open_nums Try.underlying22 Try.underlying5 (by kernel_rfl) (hval 0 22 v0 rfl rfl) h0
    obtain ⟨ys, hs1, hw1⟩ := open_nums Try.underlying22 Try.underlying5 (by kernel_rfl) (hval 1 22 v1 rfl rfl) h1
    obtain ⟨zs, hs2, hw2⟩ := open_nums Try.underlying22 Try.underlying5 (by kernel_rfl) (hval 2 22 v2 rfl rfl) h2
    exact epieces_walk v0 v1 v2 xs ys zs (fun x hm => wf_u8 (hw x hm)) (fun x hm => wf_u8 (hw1 x hm)) (fun x hm => wf_u8 (hw2 x hm)) W hs hs1 hs2

theorem epieces_holds : Rows.EntriesPiecesSaid :=
  OpenClaim.holds_of_wide 7 Try.f7 rfl rfl rfl rfl rfl rfl rfl ⟨rfl, rfl, rfl, rfl, rfl⟩ rfl rfl rfl rfl rfl (by kernel_rfl) Try.func7 (by kernel_rfl)
    (of_decide_eq_true (by kernel_rfl)) (by unfold Func.isWrapper; first | (rw [if_pos (by decide +kernel)]; kernel_rfl) | (rw [if_neg (by decide +kernel)]; exact ⟨rfl, rfl⟩))
    (fun os started H enc _ => epieces_lifted os started H enc)
#print axioms epieces_holds

end Go.Proofs.Ytabiccpodnjieaa
