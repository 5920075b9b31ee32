/- Core: methods of an act: a newer log that is lent (the program's). -/
import Derived.Test.YtbnndbdnejfehaaGreatDoorActW
namespace Go.Proofs.YtbnndbdnejfehaaGreatDoor
open Go.ChangeShapes Go.WideShapes Go.ChangeAt Go.RowKit

theorem mergeL_b (l : Lg) (prev term : Int) (es : List Ent) : (mergeL l prev term es).1.b = l.b := by
  unfold mergeL
  split
  · rfl
  · split
    · rfl
    · split
      · exact joinL_b.1
      · exact joinL_b.1
theorem mergeL_fit {l : Lg} {prev term : Int} {es : List Ent} {x : Lg × Int × Bool} (h : mergeL l prev term es = x) (hF : LgFit l) (hn : l.es.length + es.length ≤ 1000000) : LgFit x.1 := by
  rw [← h]
  exact ⟨by rw [mergeL_b]; exact hF.b0, by rw [mergeL_b]; exact hF.b1, by have := mergeL_len l prev term es; omega⟩
theorem msg_range {X : Nat} {w : World} {m : Ms} {q : Option Addr} {d : Nat} (h : w.heap[X]? = some (.cells #[.int .i64 m.k, .int .i64 m.fr, .int .i64 m.dst, .int .i64 m.tm, .int .i64 m.ix, .int .i64 m.lt, .int .i64 m.cm, .int .i64 m.sf, .bool m.yes, .slice q m.es.length d, .string m.sn, .int .u16 m.cf.ov, .int .u16 m.cf.ox, .int .u16 m.cf.ol, .int .i64 m.cf.oe, .int .i64 m.cf.ok, .int .u16 m.cf.nv, .int .u16 m.cf.nx, .int .u16 m.cf.nl, .int .i64 m.cf.ne, .int .i64 m.cf.nk, .bool m.cf.two] 39 (0, 0))) : w.rangeAt X 0 (msC m q d) :=
  range_of (n := 22) rfl (fun j _ => by
    have h' : w.heap[X]? = some (.cells (msC m q d).toArray 39 (0, 0)) := h
    rw [Nat.zero_add, block_cells h', List.getElem?_toArray])
/-- The log of an act is another one now. -/
theorem AcW.log {T : TypeId} {B R : Nat} {w : World} {c : Co} {p : Option Addr} {k : Nat} {v : Value} {l : List MsX} (h : AcW T B w R ⟨c, p, k⟩ v l) (lg : Lg) (q : Option Addr) (d : Nat) {b0 : Nat} (ho : w.ownsRow b0 47 14 (.slice q lg.es.length d) lg.es.length (entRow lg.es)) (hb : B ≤ b0) (hs : ∀ z ∈ l, ∀ b, z.bk = some b → CoX.bk ⟨{ c with l := lg }, q, d⟩ ≠ some b) :
    AcW T B (w.setCells R 8 [.int .i64 lg.b, .int .i64 lg.bt, .int .u16 lg.j.ov, .int .u16 lg.j.ox, .int .u16 lg.j.ol, .int .i64 lg.j.oe, .int .i64 lg.j.ok, .int .u16 lg.j.nv, .int .u16 lg.j.nx, .int .u16 lg.j.nl, .int .i64 lg.j.ne, .int .i64 lg.j.nk, .bool lg.j.two, .slice q lg.es.length d]) R ⟨{ c with l := lg }, q, d⟩ v l ∧ AcR w (w.setCells R 8 [.int .i64 lg.b, .int .i64 lg.bt, .int .u16 lg.j.ov, .int .u16 lg.j.ox, .int .u16 lg.j.ol, .int .i64 lg.j.oe, .int .i64 lg.j.ok, .int .u16 lg.j.nv, .int .u16 lg.j.nx, .int .u16 lg.j.nl, .int .i64 lg.j.ne, .int .i64 lg.j.nk, .bool lg.j.two, .slice q lg.es.length d]) R v v :=
  h.puts 8 [.int .i64 lg.b, .int .i64 lg.bt, .int .u16 lg.j.ov, .int .u16 lg.j.ox, .int .u16 lg.j.ol, .int .i64 lg.j.oe, .int .i64 lg.j.ok, .int .u16 lg.j.nv, .int .u16 lg.j.nx, .int .u16 lg.j.nl, .int .i64 lg.j.ne, .int .i64 lg.j.nk, .bool lg.j.two, .slice q lg.es.length d] (by show 8 + 14 ≤ 45; decide) ⟨{ c with l := lg }, q, d⟩ rfl (ho.mono hb) hs

set_option maxRecDepth 100000 in
set_option maxHeartbeats 16000000 in
theorem lent_act (B R : Nat) (c : Co) (p : Option Addr) (k : Nat) (v : Value) (l : List MsX) (m : Ms) (q : Option Addr) (d : Nat) (w : World) (h : AcW 69 B w R ⟨c, p, k⟩ v l) (hF : LgFit c.l) (hM : EnSl w (.slice q m.es.length d) m.es) (hm : MgFit m) (hl : c.l.es.length ≤ 800000) :
    Calls Tryz.prog 47 #[.pointer (some ⟨R, 0, none⟩), .agg #[.int .i64 m.k, .int .i64 m.fr, .int .i64 m.dst, .int .i64 m.tm, .int .i64 m.ix, .int .i64 m.lt, .int .i64 m.cm, .int .i64 m.sf, .bool m.yes, .slice q m.es.length d, .string m.sn, .int .u16 m.cf.ov, .int .u16 m.cf.ox, .int .u16 m.cf.ol, .int .i64 m.cf.oe, .int .i64 m.cf.ok, .int .u16 m.cf.nv, .int .u16 m.cf.nx, .int .u16 m.cf.nl, .int .i64 m.cf.ne, .int .i64 m.cf.nk, .bool m.cf.two]] w (AcDo 69 B w R v (lentA ⟨c, l.map MsX.m⟩ m)) := by
  obtain ⟨W, hW⟩ : ∃ z : World, w.alloc (.cells #[.int .i64 m.k, .int .i64 m.fr, .int .i64 m.dst, .int .i64 m.tm, .int .i64 m.ix, .int .i64 m.lt, .int .i64 m.cm, .int .i64 m.sf, .bool m.yes, .slice q m.es.length d, .string m.sn, .int .u16 m.cf.ov, .int .u16 m.cf.ox, .int .u16 m.cf.ol, .int .i64 m.cf.oe, .int .i64 m.cf.ok, .int .u16 m.cf.nv, .int .u16 m.cf.nx, .int .u16 m.cf.nl, .int .i64 m.cf.ne, .int .i64 m.cf.nk, .bool m.cf.two] 39) = z := ⟨_, rfl⟩
  have hb : Below w.heap.size w W := by rw [← hW]; exact (Below.refl _ _).alloc (Nat.le_refl _) _
  have hX : W.heap[w.heap.size]? = some (.cells #[.int .i64 m.k, .int .i64 m.fr, .int .i64 m.dst, .int .i64 m.tm, .int .i64 m.ix, .int .i64 m.lt, .int .i64 m.cm, .int .i64 m.sf, .bool m.yes, .slice q m.es.length d, .string m.sn, .int .u16 m.cf.ov, .int .u16 m.cf.ox, .int .u16 m.cf.ol, .int .i64 m.cf.oe, .int .i64 m.cf.ok, .int .u16 m.cf.nv, .int .u16 m.cf.nx, .int .u16 m.cf.nl, .int .i64 m.cf.ne, .int .i64 m.cf.nk, .bool m.cf.two] 39 (0, 0)) := by rw [← hW]; exact heap_last w _
  obtain ⟨X, eX⟩ : ∃ X, w.heap.size = X := ⟨_, rfl⟩
  rw [eX] at hX
  have HBl := Lib.hid (show B ≤ w.heap.size from by have := h.le; have := h.lt; omega)
  have HA := Lib.hid (h.keep hb); have HB := Lib.hid (AcR.below (R := R) (v := v) hb)
  have HW := Lib.hid hW; have HEX := Lib.hid eX; have HX := Lib.hid hX
  have HF : Hid (LgFit c.l) := hF
  have hnl : c.l.es.length + m.es.length ≤ 1000000 := by have := hm.n; omega
  have HNL := Lib.hid hnl
  have HRG := Lib.hid (msg_range hX)
  have HTK := Lib.hid (takes_act R c p k v m q d W HA.out.blk hF (EnSl.of_own HA.out.en) (hM.keep hb (Nat.le_refl _)) ⟨by have := hm.ix0; omega, by have := hm.ix1; omega⟩ hnl)
  obtain ⟨A, hA⟩ : ∃ A, lentA ⟨c, l.map MsX.m⟩ m = A := ⟨_, rfl⟩
  have HAA := Lib.hid hA
  rw [hA]
  have HOV := Lib.hid h.out
  clear h hF hM hm hW hb hX eX hl hA hnl
  go_enter Tryz.func47, Tryz.ntmps47
  go_upto_region 1 with fail
  rw [HW.out]
  (try rw [HEX.out])
  clear HW
  go_wp2_with (with_reducible refine wpList_load_mid (op := ⟨some 13, _, _, _, _, _⟩) rfl _ _ rfl X 0 rfl (msC m q d) _ HRG.out Tryz.underlying39 rfl (by kernel_rfl) ?_)
  refine (show Calls Tryz.prog 98 #[.pointer (some ⟨R, 0, none⟩), .agg (msC m q d).toArray] W (TkLog W c m) from HTK.out).mono ?_; rintro r w1 ⟨⟨lg, y, ok⟩, q1, d1, rfl, hx, ho, b1⟩
  obtain ⟨tb, htb⟩ : ∃ tb, takesB c m = tb := ⟨_, rfl⟩
  rw [htb] at hx ⊢
  have HTB := Lib.hid htb; have HMX := Lib.hid hx
  clear htb hx HTK HRG
  dsimp only
  dsimp only at ho
  go_upto_region 2 with fail
  obtain ⟨W2, hW2⟩ : ∃ z : World, w1.alloc (.cells #[.int .i64 lg.b, .int .i64 lg.bt, .int .u16 lg.j.ov, .int .u16 lg.j.ox, .int .u16 lg.j.ol, .int .i64 lg.j.oe, .int .i64 lg.j.ok, .int .u16 lg.j.nv, .int .u16 lg.j.nx, .int .u16 lg.j.nl, .int .i64 lg.j.ne, .int .i64 lg.j.nk, .bool lg.j.two, .slice q1 lg.es.length d1] 30) = z := ⟨_, rfl⟩
  have hb2 : Below W.heap.size W W2 := by rw [← hW2]; exact b1.trans (((Below.refl _ _).alloc (Nat.le_refl _) _).mono b1.size)
  have hY : W2.heap[w1.heap.size]? = some (.cells #[.int .i64 lg.b, .int .i64 lg.bt, .int .u16 lg.j.ov, .int .u16 lg.j.ox, .int .u16 lg.j.ol, .int .i64 lg.j.oe, .int .i64 lg.j.ok, .int .u16 lg.j.nv, .int .u16 lg.j.nx, .int .u16 lg.j.nl, .int .i64 lg.j.ne, .int .i64 lg.j.nk, .bool lg.j.two, .slice q1 lg.es.length d1] 30 (0, 0)) := by rw [← hW2]; exact heap_last w1 _
  obtain ⟨Y, eY⟩ : ∃ Y, w1.heap.size = Y := ⟨_, rfl⟩
  rw [eY] at hY
  have ho2 : W2.ownsRow W.heap.size 47 14 (.slice q1 lg.es.length d1) lg.es.length (entRow lg.es) := by rw [← hW2]; exact own_keptC ho ((Below.refl _ _).alloc (Nat.le_refl _) _)
  have HO2 := Lib.hid ho2
  have HA2 := Lib.hid (HA.out.keep hb2); have HR2 := Lib.hid (HB.out.trans (AcR.below hb2)); have HY := Lib.hid hY
  rw [hW2]
  (try rw [eY])
  clear hW2 hb2 hY eY ho ho2 b1
  cases tb with
  | false =>
    have HZ : Hid (A = ⟨c, l.map MsX.m⟩) := by show _ = _; rw [← HAA.out]; exact if_neg (fun h => by rw [HTB.out] at h; exact absurd h.1 (by decide))
    have HO : Hid (AcDo 69 B w R v A (.returned (.tuple #[])) W2) := ⟨rfl, v, p, k, l, by rw [HZ.out], by rw [HZ.out]; exact HA2.out, HR2.out⟩
    cases ok with
    | false =>
      go_wp2_with fail
      first | go_end0 | refine bodyPost_ret (results_none rfl _ _ _) rfl ?_
      exact HO.out
    | true =>
      go_wp2_with fail
      first | go_end0 | refine bodyPost_ret (results_none rfl _ _ _) rfl ?_
      exact HO.out
  | true =>
    have hmx := HMX.out rfl
    have HME := Lib.hid hmx.symm
    cases ok with
    | false =>
      have HZ : Hid (A = ⟨c, l.map MsX.m⟩) := by show _ = _; rw [← HAA.out]; exact if_neg (fun h => by rw [HME.out] at h; exact Bool.false_ne_true h.2.1)
      have HO : Hid (AcDo 69 B w R v A (.returned (.tuple #[])) W2) := ⟨rfl, v, p, k, l, by rw [HZ.out], by rw [HZ.out]; exact HA2.out, HR2.out⟩
      clear hmx
      go_wp2_with fail
      first | go_end0 | refine bodyPost_ret (results_none rfl _ _ _) rfl ?_
      exact HO.out
    | true =>
      have hFl : LgFit lg := mergeL_fit HME.out HF.out HNL.out
      have HFL : Hid (LgFit lg) := hFl
      obtain ⟨L, hL⟩ : ∃ L, lg.last = L := ⟨_, rfl⟩
      obtain ⟨T, hT⟩ : ∃ T, lastTerm lg = T := ⟨_, rfl⟩
      obtain ⟨⟨T0, is⟩, hT0⟩ : ∃ x, termL lg L = x := ⟨_, rfl⟩
      have hTT : T0 = T := by rw [← hT]; unfold lastTerm; rw [hL, hT0]
      have hLb : -9223372036854775808 ≤ L ∧ L ≤ 9223372036854775807 := by rw [← hL]; exact hFl.last0
      obtain ⟨nw, hnw⟩ : ∃ b, newerL c.l L T = b := ⟨_, rfl⟩
      have HCL := Lib.hid (show ∀ w', Calls Tryz.prog 64 #[.agg #[.int .i64 lg.b, .int .i64 lg.bt, .int .u16 lg.j.ov, .int .u16 lg.j.ox, .int .u16 lg.j.ol, .int .i64 lg.j.oe, .int .i64 lg.j.ok, .int .u16 lg.j.nv, .int .u16 lg.j.nx, .int .u16 lg.j.nl, .int .i64 lg.j.ne, .int .i64 lg.j.nk, .bool lg.j.two, .slice q1 lg.es.length d1]] w' fun r w2 => r = .returned (.int .i64 L) ∧ Below w'.heap.size w' w2 from fun w' => by have := last_any lg q1 d1 w' HFL.out.b0 HFL.out.b1 HFL.out.n; rw [hL] at this; exact this)
      have HCT := Lib.hid (show ∀ w', Below W2.heap.size W2 w' → Calls Tryz.prog 65 #[.agg #[.int .i64 lg.b, .int .i64 lg.bt, .int .u16 lg.j.ov, .int .u16 lg.j.ox, .int .u16 lg.j.ol, .int .i64 lg.j.oe, .int .i64 lg.j.ok, .int .u16 lg.j.nv, .int .u16 lg.j.nx, .int .u16 lg.j.nl, .int .i64 lg.j.ne, .int .i64 lg.j.nk, .bool lg.j.two, .slice q1 lg.es.length d1], .int .i64 L] w' fun r w2 => r = .returned (.tuple #[.int .i64 T, .bool is]) ∧ Below w'.heap.size w' w2 from fun w' hb => by have := term_is lg q1 d1 w' HFL.out hLb ((EnSl.of_own HO2.out).keep hb (Nat.le_refl _)); rw [hT0, hTT] at this; exact this)
      have HCN := Lib.hid (show ∀ w', Below W2.heap.size W2 w' → Calls Tryz.prog 90 #[.agg #[.int .i64 c.l.b, .int .i64 c.l.bt, .int .u16 c.l.j.ov, .int .u16 c.l.j.ox, .int .u16 c.l.j.ol, .int .i64 c.l.j.oe, .int .i64 c.l.j.ok, .int .u16 c.l.j.nv, .int .u16 c.l.j.nx, .int .u16 c.l.j.nl, .int .i64 c.l.j.ne, .int .i64 c.l.j.nk, .bool c.l.j.two, .slice p c.l.es.length k], .int .i64 L, .int .i64 T] w' fun r w2 => r = .returned (.bool nw) ∧ Below w'.heap.size w' w2 from fun w' hb => by have := newer_any c.l p k L T w' HF.out ((EnSl.of_own HA2.out.en).keep hb (Nat.le_refl _)); rw [hnw] at this; exact this)
      have HNW := Lib.hid hnw; have HLL := Lib.hid hL; have HTT := Lib.hid hT
      clear hL hT hT0 hTT hLb hnw hmx hFl
      have kY := block_cells HY.out
      go_wp2_with fail
      refine (HCL.out W2).mono ?_; rintro r w3 ⟨rfl, b3⟩
      have HB3 := Lib.hid b3
      clear b3 kY HCL
      have kY := block_cells (below_block HB3.out (block_lt HY.out) HY.out)
      go_wp2_with fail
      refine (HCT.out w3 HB3.out).mono ?_; rintro r w4 ⟨rfl, b4⟩
      have HB4 := Lib.hid (HB3.out.trans (b4.mono HB3.out.size))
      clear b4 kY HCT HB3
      have hRb : w4.heap[R]? = some (.cells #[.int .i64 c.id, .int .i64 c.role, .int .i64 c.tm, .int .i64 c.vt, .int .i64 c.ld, .int .i64 c.wt, .int .i64 c.cm, .int .i64 c.sf, .int .i64 c.l.b, .int .i64 c.l.bt, .int .u16 c.l.j.ov, .int .u16 c.l.j.ox, .int .u16 c.l.j.ol, .int .i64 c.l.j.oe, .int .i64 c.l.j.ok, .int .u16 c.l.j.nv, .int .u16 c.l.j.nx, .int .u16 c.l.j.nl, .int .i64 c.l.j.ne, .int .i64 c.l.j.nk, .bool c.l.j.two, .slice p c.l.es.length k, .string c.sn, .int .u16 c.vs, .int .u16 c.hd, .int .i64 (c.nx 0), .int .i64 (c.nx 1), .int .i64 (c.nx 2), .int .i64 (c.nx 3), .int .i64 (c.nx 4), .int .i64 (c.nx 5), .int .i64 (c.nx 6), .int .i64 (c.nx 7), .int .i64 (c.nx 8), .int .i64 (c.nx 9), .int .i64 (c.mt 0), .int .i64 (c.mt 1), .int .i64 (c.mt 2), .int .i64 (c.mt 3), .int .i64 (c.mt 4), .int .i64 (c.mt 5), .int .i64 (c.mt 6), .int .i64 (c.mt 7), .int .i64 (c.mt 8), .int .i64 (c.mt 9), v] 69 (0, 0)) := below_block HB4.out HA2.out.lt HA2.out.blk
      have kR := block_cells hRb
      clear hRb
      go_wp2_with fail
      refine (HCN.out w4 HB4.out).mono ?_; rintro r w5 ⟨rfl, b5⟩
      have HB5 := Lib.hid (HB4.out.trans (b5.mono HB4.out.size))
      clear b5 kR HCN HB4
      have HA5 := Lib.hid (HA2.out.keep HB5.out); have HR5 := Lib.hid (HR2.out.trans (AcR.below HB5.out)); have HY5 := Lib.hid (below_block HB5.out (block_lt HY.out) HY.out)
      cases nw with
      | false =>
        have HZ : Hid (A = ⟨c, l.map MsX.m⟩) := by show _ = _; rw [← HAA.out]; exact if_neg (fun h => by rw [HME.out] at h; have h3 := h.2.2; rw [show (lg, y, true).1 = lg from rfl, HLL.out, HTT.out, HNW.out] at h3; cases h3)
        have HO : Hid (AcDo 69 B w R v A (.returned (.tuple #[])) w5) := ⟨rfl, v, p, k, l, by rw [HZ.out], by rw [HZ.out]; exact HA5.out, HR5.out⟩
        go_wp2_with fail
        first | go_end0 | refine bodyPost_ret (results_none rfl _ _ _) rfl ?_
        exact HO.out
      | true =>
        have HZ : Hid (A = ⟨{ c with l := lg, cm := min c.cm L }, l.map MsX.m⟩) := by
          show _ = _
          rw [← HAA.out, ← HLL.out]
          refine (if_pos ⟨HTB.out, by rw [HME.out], by rw [HME.out]; show newerL c.l lg.last (lastTerm lg) = true; rw [HLL.out, HTT.out]; exact HNW.out⟩).trans ?_
          show (⟨{ c with l := (mergeL c.l m.ix m.lt m.es).1, cm := min c.cm (mergeL c.l m.ix m.lt m.es).1.last }, _⟩ : Ac) = _
          rw [HME.out]
        have ho5 := own_keptC HO2.out HB5.out
        have hp1 := HA5.out.log lg q1 d1 ho5 (by have := HBl.out; have := HB.out.size; omega) (fun z hz b hzb e => by
          have h1 := ((HOV.out.en z hz).lt b hzb).2
          have h2 := (ho5.lt b e).1
          have := HB.out.size; omega)
        have hp2 := hp1.1.put 6 (.int .i64 (min c.cm L)) (by decide) ⟨{ c with l := lg, cm := min c.cm L }, q1, d1⟩ rfl rfl rfl rfl
        have k6 : (w5.setCells R 8 [.int .i64 lg.b, .int .i64 lg.bt, .int .u16 lg.j.ov, .int .u16 lg.j.ox, .int .u16 lg.j.ol, .int .i64 lg.j.oe, .int .i64 lg.j.ok, .int .u16 lg.j.nv, .int .u16 lg.j.nx, .int .u16 lg.j.nl, .int .i64 lg.j.ne, .int .i64 lg.j.nk, .bool lg.j.two, .slice q1 lg.es.length d1]).cell? ⟨R, 6, none⟩ = some (.int .i64 c.cm) := block_cells hp1.1.blk 6
        have f6 : (w5.setCells R 8 [.int .i64 lg.b, .int .i64 lg.bt, .int .u16 lg.j.ov, .int .u16 lg.j.ox, .int .u16 lg.j.ol, .int .i64 lg.j.oe, .int .i64 lg.j.ok, .int .u16 lg.j.nv, .int .u16 lg.j.nx, .int .u16 lg.j.nl, .int .i64 lg.j.ne, .int .i64 lg.j.nk, .bool lg.j.two, .slice q1 lg.es.length d1]).frozen? ⟨R, 6, none⟩ = false := block_free hp1.1.blk 6
        have HTH := Lib.hid (there_of_block (o := 8) (n := 14) HA5.out.blk (by show 8 + 14 ≤ 46; decide))
        have HO : Hid (AcDo 69 B w R v A (.returned (.tuple #[])) ((w5.setCells R 8 [.int .i64 lg.b, .int .i64 lg.bt, .int .u16 lg.j.ov, .int .u16 lg.j.ox, .int .u16 lg.j.ol, .int .i64 lg.j.oe, .int .i64 lg.j.ok, .int .u16 lg.j.nv, .int .u16 lg.j.nx, .int .u16 lg.j.nl, .int .i64 lg.j.ne, .int .i64 lg.j.nk, .bool lg.j.two, .slice q1 lg.es.length d1]).setCell ⟨R, 6, none⟩ (.int .i64 (min c.cm L)))) := ⟨rfl, v, q1, d1, l, by rw [HZ.out], by rw [HZ.out]; exact hp2.1, (HR5.out.trans hp1.2).trans hp2.2⟩
        have kY := block_cells HY5.out
        clear hp1 hp2 ho5
        go_wp2_with (with_reducible refine wpList_store_at (op := ⟨none, .store 30 _ _, _, _, _, _⟩) rfl _ _ _ rfl R 8 14 #[.int .i64 lg.b, .int .i64 lg.bt, .int .u16 lg.j.ov, .int .u16 lg.j.ox, .int .u16 lg.j.ol, .int .i64 lg.j.oe, .int .i64 lg.j.ok, .int .u16 lg.j.nv, .int .u16 lg.j.nx, .int .u16 lg.j.nl, .int .i64 lg.j.ne, .int .i64 lg.j.nk, .bool lg.j.two, .slice q1 lg.es.length d1] (by kernel_rfl) rfl rfl HTH.out (by kernel_rfl) (one_all rfl) ?_)
        first | go_end0 | refine bodyPost_ret (results_none rfl _ _ _) rfl ?_
        exact HO.out
end Go.Proofs.YtbnndbdnejfehaaGreatDoor
