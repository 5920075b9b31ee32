import Derived.Test.YtbnndbdnejfehaaGreatDoorActW
/- Core: methods of an act: a newer log that is lent (the program's). -/
namespace Go.Proofs.YtbnndbdnejfehaaGreatDoor
open Go.ChangeShapes Go.WideShapes Go.ChangeAt Go.RowKit

theorem mergeL_b (l : Lg) (prev term : Int) (es : List Ent) : (mergeL l prev term es).1.b = l.b := by
  unfold mergeL
  split
  · rfl
  · split
    · rfl
    · split
      · exact joinL_b.1
      · exact joinL_b.1
theorem mergeL_fit {l : Lg} {prev term : Int} {es : List Ent} {x : Lg × Int × Bool} (h : mergeL l prev term es = x) (hF : LgFit l) (hn : l.es.length + es.length ≤ 1000000) : LgFit x.1 := by
  rw [← h]
  exact ⟨by rw [mergeL_b]; exact hF.b0, by rw [mergeL_b]; exact hF.b1, by have := mergeL_len l prev term es; omega⟩
theorem msg_range {X : Nat} {w : World} {m : Ms} {q : Option Addr} {d : Nat} (h : w.heap[X]? = some (.cells #[.int .i64 m.k, .int .i64 m.fr, .int .i64 m.dst, .int .i64 m.tm, .int .i64 m.ix, .int .i64 m.lt, .int .i64 m.cm, .int .i64 m.sf, .bool m.yes, .slice q m.es.length d, .string m.sn, .int .u16 m.cf.ov, .int .u16 m.cf.ox, .int .u16 m.cf.ol, .int .i64 m.cf.oe, .int .i64 m.cf.ok, .int .u16 m.cf.nv, .int .u16 m.cf.nx, .int .u16 m.cf.nl, .int .i64 m.cf.ne, .int .i64 m.cf.nk, .bool m.cf.two] 39 (0, 0))) : w.rangeAt X 0 (msC m q d) :=
  range_of (n := 22) rfl (fun j _ => by
    have h' : w.heap[X]? = some (.cells (msC m q d).toArray 39 (0, 0)) := h
    rw [Nat.zero_add, block_cells h', List.getElem?_toArray])
/-- The log of an act is another one now. -/
theorem AcW.log {T : TypeId} {B R : Nat} {w : World} {c : Co} {p : Option Addr} {k : Nat} {v : Value} {l : List MsX} (h : AcW T B w R ⟨c, p, k⟩ v l) (lg : Lg) (q : Option Addr) (d : Nat) {b0 : Nat} (ho : w.ownsRow b0 47 14 (.slice q lg.es.length d) lg.es.length (entRow lg.es)) (hb : B ≤ b0) (hs : ∀ z ∈ l, ∀ b, z.bk = some b → CoX.bk ⟨{ c with l := lg }, q, d⟩ ≠ some b) :
    AcW T B (w.setCells R 8 [.int .i64 lg.b, .int .i64 lg.bt, .int .u16 lg.j.ov, .int .u16 lg.j.ox, .int .u16 lg.j.ol, .int .i64 lg.j.oe, .int .i64 lg.j.ok, .int .u16 lg.j.nv, .int .u16 lg.j.nx, .int .u16 lg.j.nl, .int .i64 lg.j.ne, .int .i64 lg.j.nk, .bool lg.j.two, .slice q lg.es.length d]) R ⟨{ c with l := lg }, q, d⟩ v l ∧ AcR w (w.setCells R 8 [.int .i64 lg.b, .int .i64 lg.bt, .int .u16 lg.j.ov, .int .u16 lg.j.ox, .int .u16 lg.j.ol, .int .i64 lg.j.oe, .int .i64 lg.j.ok, .int .u16 lg.j.nv, .int .u16 lg.j.nx, .int .u16 lg.j.nl, .int .i64 lg.j.ne, .int .i64 lg.j.nk, .bool lg.j.two, .slice q lg.es.length d]) R v v :=
  h.puts 8 [.int .i64 lg.b, .int .i64 lg.bt, .int .u16 lg.j.ov, .int .u16 lg.j.ox, .int .u16 lg.j.ol, .int .i64 lg.j.oe, .int .i64 lg.j.ok, .int .u16 lg.j.nv, .int .u16 lg.j.nx, .int .u16 lg.j.nl, .int .i64 lg.j.ne, .int .i64 lg.j.nk, .bool lg.j.two, .slice q lg.es.length d] (by show 8 + 14 ≤ 45; decide) ⟨{ c with l := lg }, q, d⟩ rfl (ho.mono hb) hs

set_option maxRecDepth 100000 in
set_option maxHeartbeats 16000000 in
theorem lent_act (B R : Nat) (c : Co) (p : Option Addr) (k : Nat) (v : Value) (l : List MsX) (m : Ms) (q : Option Addr) (d : Nat) (w : World) (h : AcW 69 B w R ⟨c, p, k⟩ v l) (hF : LgFit c.l) (hM : EnSl w (.slice q m.es.length d) m.es) (hm : MgFit m) (hl : c.l.es.length ≤ 800000) :
    Calls Tryz.prog 47 #[.pointer (some ⟨R, 0, none⟩), .agg #[.int .i64 m.k, .int .i64 m.fr, .int .i64 m.dst, .int .i64 m.tm, .int .i64 m.ix, .int .i64 m.lt, .int .i64 m.cm, .int .i64 m.sf, .bool m.yes, .slice q m.es.length d, .string m.sn, .int .u16 m.cf.ov, .int .u16 m.cf.ox, .int .u16 m.cf.ol, .int .i64 m.cf.oe, .int .i64 m.cf.ok, .int .u16 m.cf.nv, .int .u16 m.cf.nx, .int .u16 m.cf.nl, .int .i64 m.cf.ne, .int .i64 m.cf.nk, .bool m.cf.two]] w (AcDo 69 B w R v (lentA ⟨c, l.map MsX.m⟩ m)) := by
  obtain ⟨W, hW⟩ : ∃ z : World, w.alloc (.cells #[.int .i64 m.k, .int .i64 m.fr, .int .i64 m.dst, .int .i64 m.tm, .int .i64 m.ix, .int .i64 m.lt, .int .i64 m.cm, .int .i64 m.sf, .bool m.yes, .slice q m.es.length d, .string m.sn, .int .u16 m.cf.ov, .int .u16 m.cf.ox, .int .u16 m.cf.ol, .int .i64 m.cf.oe, .int .i64 m.cf.ok, .int .u16 m.cf.nv, .int .u16 m.cf.nx, .int .u16 m.cf.nl, .int .i64 m.cf.ne, .int .i64 m.cf.nk, .bool m.cf.two] 39) = z := ⟨_, rfl⟩
  have hb : Below w.heap.size w W := by rw [← hW]; exact (Below.refl _ _).alloc (Nat.le_refl _) _
  have hX : W.heap[w.heap.size]? = some (.cells #[.int .i64 m.k, .int .i64 m.fr, .int .i64 m.dst, .int .i64 m.tm, .int .i64 m.ix, .int .i64 m.lt, .int .i64 m.cm, .int .i64 m.sf, .bool m.yes, .slice q m.es.length d, .string m.sn, .int .u16 m.cf.ov, .int .u16 m.cf.ox, .int .u16 m.cf.ol, .int .i64 m.cf.oe, .int .i64 m.cf.ok, .int .u16 m.cf.nv, .int .u16 m.cf.nx, .int .u16 m.cf.nl, .int .i64 m.cf.ne, .int .i64 m.cf.nk, .bool m.cf.two] 39 (0, 0)) := by rw [← hW]; exact heap_last w _
  obtain ⟨X, eX⟩ : ∃ X, w.heap.size = X := ⟨_, rfl⟩
  rw [eX] at hX
  have HBl := Lib.hid (show B ≤ w.heap.size from by have := h.le; have := h.lt; omega)
  have HA := Lib.hid (h.keep hb); have HB := Lib.hid (AcR.below (R := R) (v := v) hb)
  have HW := Lib.hid hW; have HEX := Lib.hid eX; have HX := Lib.hid hX
  have HF : Hid (LgFit c.l) := hF
  have hnl : c.l.es.length + m.es.length ≤ 1000000 := by have := hm.n; omega
  have HNL := Lib.hid hnl
  have HRG := Lib.hid (msg_range hX)
  have HTK := Lib.hid (takes_act R c p k v m q d W HA.out.blk hF (EnSl.of_own HA.out.en) (hM.keep hb (Nat.le_refl _)) ⟨by have := hm.ix0; omega, by have := hm.ix1; omega⟩ hnl)
  obtain ⟨A, hA⟩ : ∃ A, lentA ⟨c, l.map MsX.m⟩ m = A := ⟨_, rfl⟩
  have HAA := Lib.hid hA
  rw [hA]
  have HOV := Lib.hid h.out
  clear h hF hM hm hW hb hX eX hl hA hnl
  go_enter Tryz.func47, Tryz.ntmps47
  go_upto_region 1 with fail
  rw [HW.out]
  (try rw [HEX.out])
  clear HW
  go_wp2_with (with_reducible refine wpList_load_mid (op := ⟨some 13, _, _, _, _, _⟩) rfl _ _ rfl X 0 rfl (msC m q d) _ HRG.out Tryz.underlying39 rfl (by kernel_rfl) ?_)
  refine (show Calls Tryz.prog 98 #[.pointer (some ⟨R, 0, none⟩), .agg (msC m q d).toArray] W (TkLog W c m) from HTK.out).mono ?_; rintro r w1 ⟨⟨lg, y, ok⟩, q1, d1, rfl, hx, ho, b1⟩
  obtain ⟨tb, htb⟩ : ∃ tb, takesB c m = tb := ⟨_, rfl⟩
  rw [htb] at hx ⊢
  have HTB := Lib.hid htb; have HMX := Lib.hid hx
  clear htb hx HTK HRG
  dsimp only
  dsimp only at ho
  go_upto_region 2 with fail
  obtain ⟨W2, hW2⟩ : ∃ z : World, w1.alloc (.cells #[.int .i64 lg.b, .int .i64 lg.bt, .int .u16 lg.j.ov, .int .u16 lg.j.ox, .int .u16 lg.j.ol, .int .i64 lg.j.oe, .int .i64 lg.j.ok, .int .u16 lg.j.nv, .int .u16 lg.j.nx, .int .u16 lg.j.nl, .int .i64 lg.j.ne, .int .i64 lg.j.nk, .bool lg.j.two, .slice q1 lg.es.length d1] 30) = z := ⟨_, rfl⟩
  have hb2 : Below W.heap.size W W2 := by rw [← hW2]; exact b1.trans (((Below.refl _ _).alloc (Nat.le_refl _) _).mono b1.size)
  have hY : W2.heap[w1.heap.size]? = some (.cells #[.int .i64 lg.b, .int .i64 lg.bt, .int .u16 lg.j.ov, .int .u16 lg.j.ox, .int .u16 lg.j.ol, .int .i64 lg.j.oe, .int .i64 lg.j.ok, .int .u16 lg.j.nv, .int .u16 lg.j.nx, .int .u16 lg.j.nl, .int .i64 lg.j.ne, .int .i64 lg.j.nk, .bool lg.j.two, .slice q1 lg.es.length d1] 30 (0, 0)) := by rw [← hW2]; exact heap_last w1 _
  obtain ⟨Y, eY⟩ : ∃ Y, w1.heap.size = Y := ⟨_, rfl⟩
  rw [eY] at hY
  have ho2 : W2.ownsRow W.heap.size 47 14 (.slice q1 lg.es.length d1) lg.es.length (entRow lg.es) := by rw [← hW2]; exact own_keptC ho ((Below.refl _ _).alloc (Nat.le_refl _) _)
  have HO2 := Lib.hid ho2
  have HA2 := Lib.hid (HA.out.keep hb2); have HR2 := Lib.hid (HB.out.trans (AcR.below hb2)); have HY := Lib.hid hY
  rw [hW2]
  (try rw [eY])
  clear hW2 hb2 hY eY ho ho2 b1
  cases tb with
  | false =>
    have HZ : Hid (A = ⟨c, l.map MsX.m⟩) := by show _ = _; rw [← HAA.out]; exact if_neg (fun h => by rw [HTB.out] at h; exact absurd h.1 (by decide))
    have HO : Hid (AcDo 69 B w R v A (.returned (.tuple #[])) W2) := ⟨rfl, v, p, k, l, by rw [HZ.out], by rw [HZ.out]; exact HA2.out, HR2.out⟩
    cases ok with
    | false =>
      go_wp2_with fail
      first | go_end0 | refine bodyPost_ret (results_none rfl _ _ _) rfl ?_
      exact HO.out
    | true =>
      go_wp2_with fail
      first | go_end0 | refine bodyPost_ret (results_none rfl _ _ _) rfl ?_
      exact HO.out
  | true =>
    have hmx := HMX.out rfl
    have HME := Lib.hid hmx.symm
    cases ok with
    | false =>
      have HZ : Hid (A = ⟨c, l.map MsX.m⟩) := by show _ = _; rw [← HAA.out]; exact if_neg (fun h => by rw [HME.out] at h; exact Bool.false_ne_true h.2.1)
      have HO : Hid (AcDo 69 B w R v A (.returned (.tuple #[])) W2) := ⟨rfl, v, p, k, l, by rw [HZ.out], by rw [HZ.out]; exact HA2.out, HR2.out⟩
      clear hmx
      go_wp2_with fail
      first | go_end0 | refine bodyPost_ret (results_none rfl _ _ _) rfl ?_
      exact HO.out
    | true =>
      have hFl : LgFit lg := mergeL_fit HME.out HF.out HNL.out
      have HFL : Hid (LgFit lg) := hFl
      obtain ⟨L, hL⟩ : ∃ L, lg.last = L := ⟨_, rfl⟩
      obtain ⟨T, hT⟩ : ∃ T, lastTerm lg = T := ⟨_, rfl⟩
      obtain ⟨⟨T0, is⟩, hT0⟩ : ∃ x, termL lg L = x := ⟨_, rfl⟩
      have hTT : T0 = T := by rw [← hT]; unfold lastTerm; rw [hL, hT0]
      have hLb : -9223372036854775808 ≤ L ∧ L ≤ 9223372036854775807 := by rw [← hL]; exact hFl.last0
      obtain ⟨nw, hnw⟩ : ∃ b, newerL c.l L T = b := ⟨_, rfl⟩
      have HCL := Lib.hid (show ∀ w', Calls Tryz.prog 64 #[.agg #[.int .i64 lg.b, .int .i64 lg.bt, .int .u16 lg.j.ov, .int .u16 lg.j.ox, .int .u16 lg.j.ol, .int .i64 lg.j.oe, .int .i64 lg.j.ok, .int .u16 lg.j.nv, .int .u16 lg.j.nx, .int .u16 lg.j.nl, .int .i64 lg.j.ne, .int .i64 lg.j.nk, .bool lg.j.two, .slice q1 lg.es.length d1]] w' fun r w2 => r = .returned (.int .i64 L) ∧ Below w'.heap.size w' w2 from fun w' => by have := last_any lg q1 d1 w' HFL.out.b0 HFL.out.b1 HFL.out.n; rw [hL] at this; exact this)
      have HCT := Lib.hid (show ∀ w', Below W2.heap.size W2 w' → Calls Tryz.prog 65 #[.agg #[.int .i64 lg.b, .int .i64 lg.bt, .int .u16 lg.j.ov, .int .u16 lg.j.ox, .int .u16 lg.j.ol, .int .i64 lg.j.oe, .int .i64 lg.j.ok, .int .u16 lg.j.nv, .int .u16 lg.j.nx, .int .u16 lg.j.nl, .int .i64 lg.j.ne, .int .i64 lg.j.nk, .bool lg.j.two, .slice q1 lg.es.length d1], .int .i64 L] w' fun r w2 => r = .returned (.tuple #[.int .i64 T, .bool is]) ∧ Below w'.heap.size w' w2 from fun w' hb => by have := term_is lg q1 d1 w' HFL.out hLb ((EnSl.of_own HO2.out).keep hb (Nat.le_refl _)); rw [hT0, hTT] at this; exact this)
      have HCN := Lib.hid (show ∀ w', Below W2.heap.size W2 w' → Calls Tryz.prog 90 #[.agg #[.int .i64 c.l.b, .int .i64 c.l.bt, .int .u16 c.l.j.ov, .int .u16 c.l.j.ox, .int .u16 c.l.j.ol, .int .i64 c.l.j.oe, .int .i64 c.l.j.ok, .int .u16 c.l.j.nv, .int .u16 c.l.j.nx, .int .u16 c.l.j.nl, .int .i64 c.l.j.ne, .int .i64 c.l.j.nk, .bool c.l.j.two, .slice p c.l.es.length k], .int .i64 L, .int .i64 T] w' fun r w2 => r = .returned (.bool nw) ∧ Below w'.heap.size w' w2 from fun w' hb => by have := newer_any c.l p k L T w' HF.out ((EnSl.of_own HA2.out.en).keep hb (Nat.le_refl _)); rw [hnw] at this; exact this)
      have HNW := Lib.hid hnw; have HLL := Lib.hid hL; have HTT := Lib.hid hT
      clear hL hT hT0 hTT hLb hnw hmx hFl
      have kY := block_cells HY.out
      go_wp2_with fail
      refine (HCL.out W2).mono ?_; rintro r w3 ⟨rfl, b3⟩
      have HB3 := Lib.hid b3
      clear b3 kY HCL
      have kY := block_cells (below_block HB3.out (block_lt HY.out) HY.out)
      go_wp2_with fail
      refine (HCT.out w3 HB3.out).mono ?_; rintro r w4 ⟨rfl, b4⟩
      have HB4 := Lib.hid (HB3.out.trans (b4.mono HB3.out.size))
      clear b4 kY HCT HB3
      have hRb : w4.heap[R]? = some (.cells #[.int .i64 c.id, .int .i64 c.role, .int .i64 c.tm, .int .i64 c.vt, .int .i64 c.ld, .int .i64 c.wt, .int .i64 c.cm, .int .i64 c.sf, .int .i64 c.l.b, .int .i64 c.l.bt, .int .u16 c.l.j.ov, .int .u16 c.l.j.ox, .int .u16 c.l.j.ol, .int .i64 c.l.j.oe, .int .i64 c.l.j.ok, .int .u16 c.l.j.nv, .int .u16 c.l.j.nx, .int .u16 c.l.j.nl, .int .i64 c.l.j.ne, .int .i64 c.l.j.nk, .bool c.l.j.two, .slice p c.l.es.length k, .string c.sn, .int .u16 c.vs, .int .u16 c.hd, .int .i64 (c.nx 0), .int .i64 (c.nx 1), .int .i64 (c.nx 2), .int .i64 (c.nx 3), .int .i64 (c.nx 4), .int .i64 (c.nx 5), .int .i64 (c.nx 6), .int .i64 (c.nx 7), .int .i64 (c.nx 8), .int .i64 (c.nx 9), .int .i64 (c.mt 0), .int .i64 (c.mt 1), .int .i64 (c.mt 2), .int .i64 (c.mt 3), .int .i64 (c.mt 4), .int .i64 (c.mt 5), .int .i64 (c.mt 6), .int .i64 (c.mt 7), .int .i64 (c.mt 8), .int .i64 (c.mt 9), v] 69 (0, 0)) := below_block HB4.out HA2.out.lt HA2.out.blk
      have kR := block_cells hRb
      clear hRb
      go_wp2_with fail
      refine (HCN.out w4 HB4.out).mono ?_; rintro r w5 ⟨rfl, b5⟩
      have HB5 := Lib.hid (HB4.out.trans (b5.mono HB4.out.size))
      clear b5 kR HCN HB4
      have HA5 := Lib.hid (HA2.out.keep HB5.out); have HR5 := Lib.hid (HR2.out.trans (AcR.below HB5.out)); have HY5 := Lib.hid (below_block HB5.out (block_lt HY.out) HY.out)
      cases nw with
      | false =>
        have HZ : Hid (A = ⟨c, l.map MsX.m⟩) := by show _ = _; rw [← HAA.out]; exact if_neg (fun h => by rw [HME.out] at h; have h3 := h.2.2; rw [show (lg, y, true).1 = lg from rfl, HLL.out, HTT.out, HNW.out] at h3; cases h3)
        have HO : Hid (AcDo 69 B w R v A (.returned (.tuple #[])) w5) := ⟨rfl, v, p, k, l, by rw [HZ.out], by rw [HZ.out]; exact HA5.out, HR5.out⟩
        go_wp2_with fail
        first | go_end0 | refine bodyPost_ret (results_none rfl _ _ _) rfl ?_
        exact HO.out
      | true =>
        have HZ : Hid (A = ⟨{ c with l := lg, cm := min c.cm L }, l.map MsX.m⟩) := by
          show _ = _
          rw [← HAA.out, ← HLL.out]
          refine (if_pos ⟨HTB.out, by rw [HME.out], by rw [HME.out]; show newerL c.l lg.last (lastTerm lg) = true; rw [HLL.out, HTT.out]; exact HNW.out⟩).trans ?_
          show (⟨{ c with l := (mergeL c.l m.ix m.lt m.es).1, cm := min c.cm (mergeL c.l m.ix m.lt m.es).1.last }, _⟩ : Ac) = _
          rw [HME.out]
        have ho5 := own_keptC HO2.out HB5.out
        have hp1 := HA5.out.log lg q1 d1 ho5 (by have := HBl.out; have := HB.out.size; omega) (fun z hz b hzb e => by
          have h1 := ((HOV.out.en z hz).lt b hzb).2
          have h2 := (ho5.lt b e).1
          have := HB.out.size; omega)
        have hp2 := hp1.1.put 6 (.int .i64 (min c.cm L)) (by decide) ⟨{ c with l := lg, cm := min c.cm L }, q1, d1⟩ rfl rfl rfl rfl
        have k6 : (w5.setCells R 8 [.int .i64 lg.b, .int .i64 lg.bt, .int .u16 lg.j.ov, .int .u16 lg.j.ox, .int .u16 lg.j.ol, .int .i64 lg.j.oe, .int .i64 lg.j.ok, .int .u16 lg.j.nv, .int .u16 lg.j.nx, .int .u16 lg.j.nl, .int .i64 lg.j.ne, .int .i64 lg.j.nk, .bool lg.j.two, .slice q1 lg.es.length d1]).cell? ⟨R, 6, none⟩ = some (.int .i64 c.cm) := block_cells hp1.1.blk 6
        have f6 : (w5.setCells R 8 [.int .i64 lg.b, .int .i64 lg.bt, .int .u16 lg.j.ov, .int .u16 lg.j.ox, .int .u16 lg.j.ol, .int .i64 lg.j.oe, .int .i64 lg.j.ok, .int .u16 lg.j.nv, .int .u16 lg.j.nx, .int .u16 lg.j.nl, .int .i64 lg.j.ne, .int .i64 lg.j.nk, .bool lg.j.two, .slice q1 lg.es.length d1]).frozen? ⟨R, 6, none⟩ = false := block_free hp1.1.blk 6
        have HTH := Lib.hid (there_of_block (o := 8) (n := 14) HA5.out.blk (by show 8 + 14 ≤ 46; decide))
        have HO : Hid (AcDo 69 B w R v A (.returned (.tuple #[])) ((w5.setCells R 8 [.int .i64 lg.b, .int .i64 lg.bt, .int .u16 lg.j.ov, .int .u16 lg.j.ox, .int .u16 lg.j.ol, .int .i64 lg.j.oe, .int .i64 lg.j.ok, .int .u16 lg.j.nv, .int .u16 lg.j.nx, .int .u16 lg.j.nl, .int .i64 lg.j.ne, .int .i64 lg.j.nk, .bool lg.j.two, .slice q1 lg.es.length d1]).setCell ⟨R, 6, none⟩ (.int .i64 (min c.cm L)))) := ⟨rfl, v, q1, d1, l, by rw [HZ.out], by rw [HZ.out]; exact hp2.1, (HR5.out.trans hp1.2).trans hp2.2⟩
        have kY := block_cells HY5.out
        clear hp1 hp2 ho5
        go_wp2_with (with_reducible refine wpList_store_at (op := ⟨none, .store 30 _ _, _, _, _, _⟩) rfl _ _ _ rfl R 8 14 #[.int .i64 lg.b, .int .i64 lg.bt, .int .u16 lg.j.ov, .int .u16 lg.j.ox, .int .u16 lg.j.ol, .int .i64 lg.j.oe, .int .i64 lg.j.ok, .int .u16 lg.j.nv, .int .u16 lg.j.nx, .int .u16 lg.j.nl, .int .i64 lg.j.ne, .int .i64 lg.j.nk, .bool lg.j.two, .slice q1 lg.es.length d1] (by kernel_rfl) rfl rfl HTH.out (by kernel_rfl) (one_all rfl) ?_)
        first | go_end0 | refine bodyPost_ret (results_none rfl _ _ _) rfl ?_
        exact HO.out
end Go.Proofs.YtbnndbdnejfehaaGreatDoor
/- Core: methods of an act: a leader's entries (the program's appends). -/
namespace Go.Proofs.YtbnndbdnejfehaaGreatDoor
open Go.ChangeShapes Go.WideShapes Go.ChangeAt Go.RowKit

theorem AcDo.sent {T : TypeId} {B R : Nat} {w w' : World} {A : Ac} {c : Co} {l : List MsX} {x : Ms} {q q' : Option Addr} {d d' : Nat} {v v' : Value} (hz : A = ⟨c, l.map MsX.m ++ [x]⟩) (hA : AcW T B w' R ⟨c, q, d⟩ v' (l ++ [⟨x, q', d'⟩])) (hr : AcR w w' R v v') : AcDo T B w R v A (.returned (.tuple #[])) w' :=
  ⟨rfl, v', q, d, l ++ [⟨x, q', d'⟩], by rw [hz, List.map_append]; rfl, by rw [hz]; exact hA, hr⟩
theorem own_acr {w w' : World} {R b n len : Nat} {t : TypeId} {u v v' : Value} {xs : List Value} (h : w.ownsRow b t n u len xs) (hR : u.ownBlock ≠ some R) (hv : ∀ g, u.ownBlock = some g → v.ownBlock ≠ some g) (hr : AcR w w' R v v') : w'.ownsRow b t n u len xs := by
  refine ⟨h.1, ?_⟩
  rcases h.2 with h2 | ⟨g, cap, cur, hu, hb, hg, h3⟩
  · exact .inl h2
  · have hub : u.ownBlock = some g := by rw [hu]; rfl
    exact .inr ⟨g, cap, cur, hu, hb, (hr.oth g (block_lt hg) (fun e => hR (by rw [hub, e])) (hv g hub)).1.trans hg, h3⟩
set_option maxRecDepth 100000 in
set_option maxHeartbeats 16000000 in
theorem appends_act (B R : Nat) (c : Co) (p : Option Addr) (k : Nat) (v : Value) (l : List MsX) (m : Ms) (q : Option Addr) (d : Nat) (w : World) (h : AcW 69 B w R ⟨c, p, k⟩ v l) (hF : LgFit c.l) (hM : EnSl w (.slice q m.es.length d) m.es) (hm : MgFit m) (hl : c.l.es.length ≤ 800000) (hll : l.length ≤ 90000) :
    Calls Tryz.prog 45 #[.pointer (some ⟨R, 0, none⟩), .agg #[.int .i64 m.k, .int .i64 m.fr, .int .i64 m.dst, .int .i64 m.tm, .int .i64 m.ix, .int .i64 m.lt, .int .i64 m.cm, .int .i64 m.sf, .bool m.yes, .slice q m.es.length d, .string m.sn, .int .u16 m.cf.ov, .int .u16 m.cf.ox, .int .u16 m.cf.ol, .int .i64 m.cf.oe, .int .i64 m.cf.ok, .int .u16 m.cf.nv, .int .u16 m.cf.nx, .int .u16 m.cf.nl, .int .i64 m.cf.ne, .int .i64 m.cf.nk, .bool m.cf.two]] w (AcDo 69 B w R v (appendsA ⟨c, l.map MsX.m⟩ m)) := by
  obtain ⟨W, hW⟩ : ∃ z : World, w.alloc (.cells #[.int .i64 m.k, .int .i64 m.fr, .int .i64 m.dst, .int .i64 m.tm, .int .i64 m.ix, .int .i64 m.lt, .int .i64 m.cm, .int .i64 m.sf, .bool m.yes, .slice q m.es.length d, .string m.sn, .int .u16 m.cf.ov, .int .u16 m.cf.ox, .int .u16 m.cf.ol, .int .i64 m.cf.oe, .int .i64 m.cf.ok, .int .u16 m.cf.nv, .int .u16 m.cf.nx, .int .u16 m.cf.nl, .int .i64 m.cf.ne, .int .i64 m.cf.nk, .bool m.cf.two] 39) = z := ⟨_, rfl⟩
  have hb : Below w.heap.size w W := by rw [← hW]; exact (Below.refl _ _).alloc (Nat.le_refl _) _
  have hX : W.heap[w.heap.size]? = some (.cells #[.int .i64 m.k, .int .i64 m.fr, .int .i64 m.dst, .int .i64 m.tm, .int .i64 m.ix, .int .i64 m.lt, .int .i64 m.cm, .int .i64 m.sf, .bool m.yes, .slice q m.es.length d, .string m.sn, .int .u16 m.cf.ov, .int .u16 m.cf.ox, .int .u16 m.cf.ol, .int .i64 m.cf.oe, .int .i64 m.cf.ok, .int .u16 m.cf.nv, .int .u16 m.cf.nx, .int .u16 m.cf.nl, .int .i64 m.cf.ne, .int .i64 m.cf.nk, .bool m.cf.two] 39 (0, 0)) := by rw [← hW]; exact heap_last w _
  obtain ⟨X, eX⟩ : ∃ X, w.heap.size = X := ⟨_, rfl⟩
  rw [eX] at hX
  have HBl := Lib.hid (show B ≤ w.heap.size from by have := h.le; have := h.lt; omega)
  have HA := Lib.hid (h.keep hb); have HB := Lib.hid (AcR.below (R := R) (v := v) hb)
  have HW := Lib.hid hW; have HEX := Lib.hid eX; have HX := Lib.hid hX
  have HF : Hid (LgFit c.l) := hF
  have hnl : c.l.es.length + m.es.length ≤ 1000000 := by have := hm.n; omega
  have HNL := Lib.hid hnl
  have HRG := Lib.hid (msg_range hX)
  have HTK := Lib.hid (takes_act R c p k v m q d W HA.out.blk hF (EnSl.of_own HA.out.en) (hM.keep hb (Nat.le_refl _)) ⟨by have := hm.ix0; omega, by have := hm.ix1; omega⟩ hnl)
  obtain ⟨A, hA⟩ : ∃ A, appendsA ⟨c, l.map MsX.m⟩ m = A := ⟨_, rfl⟩
  have HAA := Lib.hid hA
  rw [hA]
  have HOV := Lib.hid h.out
  have HLL := Lib.hid hll
  have hix0 := hm.ix0; have hix1 := hm.ix1
  have hXR : X ≠ R := by have := h.lt; omega
  have hXv : v.ownBlock ≠ some X := fun e => by have := (h.vge _ e).2; omega
  clear h hF hM hm hW hb hX eX hl hA hnl hll
  go_enter Tryz.func45, Tryz.ntmps45
  go_upto_region 1 with fail
  rw [HW.out]
  (try rw [HEX.out])
  clear HW
  go_wp2_with (with_reducible refine wpList_load_mid (op := ⟨some 14, _, _, _, _, _⟩) rfl _ _ rfl X 0 rfl (msC m q d) _ HRG.out Tryz.underlying39 rfl (by kernel_rfl) ?_)
  refine (show Calls Tryz.prog 98 #[.pointer (some ⟨R, 0, none⟩), .agg (msC m q d).toArray] W (TkLog W c m) from HTK.out).mono ?_; rintro r w1 ⟨⟨lg, y, ok⟩, q1, d1, rfl, hx, ho, b1⟩
  obtain ⟨tb, htb⟩ : ∃ tb, takesB c m = tb := ⟨_, rfl⟩
  rw [htb] at hx ⊢
  have HTB := Lib.hid htb; have HMX := Lib.hid hx
  clear htb hx HTK HRG
  dsimp only
  dsimp only at ho
  go_upto_region 2 with fail
  obtain ⟨W2, hW2⟩ : ∃ z : World, w1.alloc (.cells #[.int .i64 lg.b, .int .i64 lg.bt, .int .u16 lg.j.ov, .int .u16 lg.j.ox, .int .u16 lg.j.ol, .int .i64 lg.j.oe, .int .i64 lg.j.ok, .int .u16 lg.j.nv, .int .u16 lg.j.nx, .int .u16 lg.j.nl, .int .i64 lg.j.ne, .int .i64 lg.j.nk, .bool lg.j.two, .slice q1 lg.es.length d1] 30) = z := ⟨_, rfl⟩
  have hb2 : Below W.heap.size W W2 := by rw [← hW2]; exact b1.trans (((Below.refl _ _).alloc (Nat.le_refl _) _).mono b1.size)
  have hY : W2.heap[w1.heap.size]? = some (.cells #[.int .i64 lg.b, .int .i64 lg.bt, .int .u16 lg.j.ov, .int .u16 lg.j.ox, .int .u16 lg.j.ol, .int .i64 lg.j.oe, .int .i64 lg.j.ok, .int .u16 lg.j.nv, .int .u16 lg.j.nx, .int .u16 lg.j.nl, .int .i64 lg.j.ne, .int .i64 lg.j.nk, .bool lg.j.two, .slice q1 lg.es.length d1] 30 (0, 0)) := by rw [← hW2]; exact heap_last w1 _
  obtain ⟨Y, eY⟩ : ∃ Y, w1.heap.size = Y := ⟨_, rfl⟩
  rw [eY] at hY
  have ho2 : W2.ownsRow W.heap.size 47 14 (.slice q1 lg.es.length d1) lg.es.length (entRow lg.es) := by rw [← hW2]; exact own_keptC ho ((Below.refl _ _).alloc (Nat.le_refl _) _)
  have HO2 := Lib.hid ho2
  have HA2 := Lib.hid (HA.out.keep hb2); have HR2 := Lib.hid (HB.out.trans (AcR.below hb2)); have HY := Lib.hid hY
  rw [hW2]
  (try rw [eY])
  have HX2 := Lib.hid (below_block hb2 (block_lt HX.out) HX.out)
  have hYR : Y ≠ R := by have := HA.out.lt; have := b1.size; omega
  have hYv : v.ownBlock ≠ some Y := fun e => by have := (HA.out.vge _ e).2; have := b1.size; omega
  clear hW2 hb2 hY eY ho ho2 b1
  cases tb with
  | false =>
    have HZ : Hid (A = ⟨c, l.map MsX.m⟩) := by show _ = _; rw [← HAA.out]; exact if_neg (fun h => by rw [HTB.out] at h; exact Bool.false_ne_true h)
    have HO : Hid (AcDo 69 B w R v A (.returned (.tuple #[])) W2) := ⟨rfl, v, p, k, l, by rw [HZ.out], by rw [HZ.out]; exact HA2.out, HR2.out⟩
    go_wp2_with fail
    first | go_end0 | refine bodyPost_ret (results_none rfl _ _ _) rfl ?_
    exact HO.out
  | true =>
    have hmx := HMX.out rfl
    have HME := Lib.hid hmx.symm
    obtain ⟨cf, hcf⟩ : ∃ cf, followC c m = cf := ⟨_, rfl⟩
    have hcfl : cf.l = c.l := by rw [← hcf]; rfl
    have HFO := Lib.hid (show Calls Tryz.prog 99 #[.pointer (some ⟨R, 0, none⟩), .agg (msC m q d).toArray] W2 fun e w' => e = .returned (.tuple #[]) ∧ AcW 69 B w' R ⟨cf, p, k⟩ v l ∧ AcR W2 w' R v v from by have := follows_act B R c p k v l m q d W2 HA2.out; rw [hcf] at this; exact this)
    have HCF := Lib.hid hcf; have HCFL := Lib.hid hcfl
    have HRG := Lib.hid (msg_range HX2.out)
    clear hmx hcf hcfl
    go_wp2_with (with_reducible refine wpList_load_mid (op := ⟨some 23, _, _, _, _, _⟩) rfl _ _ rfl X 0 rfl (msC m q d) _ HRG.out Tryz.underlying39 rfl (by kernel_rfl) ?_)
    refine HFO.out.mono ?_; rintro r w3 ⟨rfl, hA3, hr3⟩
    have HA3 := Lib.hid hA3; have HR3 := Lib.hid (HR2.out.trans hr3)
    have HX3 := Lib.hid (hr3.blk HX2.out hXR hXv).1; have HY3 := Lib.hid (hr3.blk HY.out hYR hYv).1
    have HO3 := Lib.hid (own_acr HO2.out (fun e => by have := (HO2.out.lt _ e).1; have := HA.out.lt; omega) (fun g e e2 => by have := (HO2.out.lt _ e).1; have := (HA.out.vge _ e2).2; omega) hr3)
    have HFF : Hid (LgFit cf.l) := by show LgFit cf.l; rw [HCFL.out]; exact HF.out
    clear hA3 hr3 HFO HRG HA2 HR2
    cases ok with
    | false =>
      obtain ⟨L, hL⟩ : ∃ L, c.l.last = L := ⟨_, rfl⟩
      have hLb : -9223372036854775808 ≤ L ∧ L ≤ 9223372036854775807 := by rw [← hL]; exact HF.out.last0
      have hwr : IntKind.i64.wrap (m.ix - 1) = m.ix - 1 := by rw [IntKind.wrap_i64]; omega
      have HLA := Lib.hid (show Calls Tryz.prog 96 #[.pointer (some ⟨R, 0, none⟩)] w3 fun e w' => e = .returned (.tuple #[.int .i64 L, .int .i64 (lastTerm cf.l)]) ∧ Below w3.heap.size w3 w' from by have := last_act R cf p k v w3 HA3.out.blk HFF.out (EnSl.of_own HA3.out.en); rw [show cf.l.last = L from by rw [HCFL.out]; exact hL] at this; exact this)
      have HZ : Hid (A = ⟨cf, l.map MsX.m ++ [putM cf m.fr { ms0 with k := 4, ix := max (min (m.ix - 1) L) 0 }]⟩) := by
        show _ = _
        rw [← HAA.out, ← HCF.out, ← hL]
        refine (if_pos HTB.out).trans ((if_neg ?_).trans rfl)
        rw [HME.out]; exact Bool.false_ne_true
      clear hL
      go_wp2_with fail
      refine HLA.out.mono ?_; rintro r w4 ⟨rfl, b4⟩
      have HA4 := Lib.hid (HA3.out.keep b4); have HR4 := Lib.hid (HR3.out.trans (AcR.below b4))
      have hX4 := below_block b4 (block_lt HX3.out) HX3.out
      have k1 : w4.cell? ⟨X, 1, none⟩ = some (.int .i64 m.fr) := block_cells hX4 1
      have k4 : w4.cell? ⟨X, 4, none⟩ = some (.int .i64 m.ix) := block_cells hX4 4
      have HSE := Lib.hid (show Calls Tryz.prog 89 #[.pointer (some ⟨R, 0, none⟩), .int .i64 m.fr, .agg #[.int .i64 4, .int .i64 0, .int .i64 0, .int .i64 0, .int .i64 (max (min (m.ix - 1) L) 0), .int .i64 0, .int .i64 0, .int .i64 0, .bool false, .slice none 0 0, .string ⟨#[]⟩, .int .u16 0, .int .u16 0, .int .u16 0, .int .i64 0, .int .i64 0, .int .u16 0, .int .u16 0, .int .u16 0, .int .i64 0, .int .i64 0, .bool false]] w4 fun e w' => e = .returned (.tuple #[]) ∧ ∃ v2, AcW 69 B w' R ⟨cf, p, k⟩ v2 (l ++ [⟨putM cf m.fr { ms0 with k := 4, ix := max (min (m.ix - 1) L) 0 }, none, 0⟩]) ∧ AcR w4 w' R v v2 from send_act B R cf p k v l m.fr { ms0 with k := 4, ix := max (min (m.ix - 1) L) 0 } none 0 w4 HA4.out (MsOwn.none rfl) (fun b hb => by cases hb) (by have := HLL.out; omega))
      clear b4 hX4 HLA
      go_wp2_with fail
      refine HSE.out.mono ?_; rintro r w5 ⟨rfl, v2, hA5, hr5⟩
      have HO : Hid (AcDo 69 B w R v A (.returned (.tuple #[])) w5) := AcDo.sent HZ.out hA5 (HR4.out.trans hr5)
      clear hA5 hr5 HSE
      go_wp2_with fail
      first | go_end0 | refine bodyPost_ret (results_none rfl _ _ _) rfl ?_
      exact HO.out
    | true =>
      have hFl : LgFit lg := mergeL_fit HME.out HF.out HNL.out
      have HFL : Hid (LgFit lg) := hFl
      obtain ⟨L, hL⟩ : ∃ L, lg.last = L := ⟨_, rfl⟩
      obtain ⟨c1, hc1⟩ : ∃ c1 : Co, { cf with l := lg } = c1 := ⟨_, rfl⟩
      obtain ⟨c2, hc2⟩ : ∃ c2 : Co, { c1 with cm := min (max c1.cm (min m.cm y)) L } = c2 := ⟨_, rfl⟩
      obtain ⟨c3, hc3⟩ : ∃ c3 : Co, { c2 with sf := max c2.sf m.sf } = c3 := ⟨_, rfl⟩
      have hc1l : c1.l = lg := by rw [← hc1]
      have HZ : Hid (A = ⟨c3, l.map MsX.m ++ [putM c3 m.fr { ms0 with k := 4, yes := true, ix := y }]⟩) := by
        show _ = _
        rw [← HAA.out, ← hc3, ← hc2, ← hc1, ← HCF.out, ← hL]
        refine (if_pos HTB.out).trans ((if_pos ?_).trans ?_)
        · rw [HME.out]
        · rw [HME.out]; rfl
      have hp1 := HA3.out.log lg q1 d1 HO3.out (by have := HBl.out; have := HB.out.size; omega) (fun z hz b hzb e => by
          have h1 := ((HOV.out.en z hz).lt b hzb).2
          have h2 := (HO3.out.lt b e).1
          have := HB.out.size; omega)
      rw [hc1] at hp1
      have HTH := Lib.hid (there_of_block (o := 8) (n := 14) HA3.out.blk (by show 8 + 14 ≤ 46; decide))
      have HA4 := Lib.hid hp1.1; have HR4 := Lib.hid (HR3.out.trans hp1.2); have HX4 := Lib.hid (hp1.2.blk HX3.out hXR hXv).1
      have HC1L := Lib.hid hc1l; have HLq := Lib.hid hL; have HC2 := Lib.hid hc2; have HC3 := Lib.hid hc3
      have kY := block_cells HY3.out
      clear hp1 hFl hL hc1l hc1 hc2 hc3
      go_upto_region 8 with (with_reducible refine wpList_store_at (op := ⟨none, .store 30 _ _, _, _, _, _⟩) rfl _ _ _ rfl R 8 14 #[.int .i64 lg.b, .int .i64 lg.bt, .int .u16 lg.j.ov, .int .u16 lg.j.ox, .int .u16 lg.j.ol, .int .i64 lg.j.oe, .int .i64 lg.j.ok, .int .u16 lg.j.nv, .int .u16 lg.j.nx, .int .u16 lg.j.nl, .int .i64 lg.j.ne, .int .i64 lg.j.nk, .bool lg.j.two, .slice q1 lg.es.length d1] (by kernel_rfl) rfl rfl HTH.out (by kernel_rfl) (one_all rfl) ?_)
      obtain ⟨W4, hW4⟩ : ∃ z : World, w3.setCells R 8 [.int .i64 lg.b, .int .i64 lg.bt, .int .u16 lg.j.ov, .int .u16 lg.j.ox, .int .u16 lg.j.ol, .int .i64 lg.j.oe, .int .i64 lg.j.ok, .int .u16 lg.j.nv, .int .u16 lg.j.nx, .int .u16 lg.j.nl, .int .i64 lg.j.ne, .int .i64 lg.j.nk, .bool lg.j.two, .slice q1 lg.es.length d1] = z := ⟨_, rfl⟩
      rw [hW4] at HA4 HR4 HX4
      (try rw [hW4])
      (try rw [show w3.setCells R 8 (#[.int .i64 lg.b, .int .i64 lg.bt, .int .u16 lg.j.ov, .int .u16 lg.j.ox, .int .u16 lg.j.ol, .int .i64 lg.j.oe, .int .i64 lg.j.ok, .int .u16 lg.j.nv, .int .u16 lg.j.nx, .int .u16 lg.j.nl, .int .i64 lg.j.ne, .int .i64 lg.j.nk, .bool lg.j.two, .slice q1 lg.es.length d1] : Array Value).toList = W4 from hW4])
      clear hW4 HTH kY
      have HLA := Lib.hid (show Calls Tryz.prog 96 #[.pointer (some ⟨R, 0, none⟩)] W4 fun e w' => e = .returned (.tuple #[.int .i64 L, .int .i64 (lastTerm c1.l)]) ∧ Below W4.heap.size W4 w' from by have := last_act R c1 q1 d1 v W4 HA4.out.blk (by rw [HC1L.out]; exact HFL.out) (EnSl.of_own HA4.out.en); rw [show c1.l.last = L from by rw [HC1L.out]; exact HLq.out] at this; exact this)
      go_wp2_with fail
      refine HLA.out.mono ?_; rintro r w5 ⟨rfl, b5⟩
      have HA5 := Lib.hid (HA4.out.keep b5); have HR5 := Lib.hid (HR4.out.trans (AcR.below b5)); have HX5 := Lib.hid (below_block b5 (block_lt HX4.out) HX4.out)
      clear b5 HLA HA4 HR4 HX4
      go_upto_region 9 with fail
      have hAd := HA5.out.keep (Below.refl _ _).drew
      have HXd : Hid (w5.drew.heap[X]? = some (.cells #[.int .i64 m.k, .int .i64 m.fr, .int .i64 m.dst, .int .i64 m.tm, .int .i64 m.ix, .int .i64 m.lt, .int .i64 m.cm, .int .i64 m.sf, .bool m.yes, .slice q m.es.length d, .string m.sn, .int .u16 m.cf.ov, .int .u16 m.cf.ox, .int .u16 m.cf.ol, .int .i64 m.cf.oe, .int .i64 m.cf.ok, .int .u16 m.cf.nv, .int .u16 m.cf.nx, .int .u16 m.cf.nl, .int .i64 m.cf.ne, .int .i64 m.cf.nk, .bool m.cf.two] 39 (0, 0))) := HX5.out
      have h0 : One X 6 (.int .i64 m.cm) w5.drew := ⟨block_cells HXd.out 6⟩
      have HBd := Lib.hid HR5.out.drew
      refine wp_region_held_drew (S := One X 6 (.int .i64 m.cm)) (by kernel_rfl) h0 (fun hHeld => ?_)
      obtain ⟨wd, ewd⟩ : ∃ x, w5.drew = x := ⟨_, rfl⟩
      rewrite [ewd] at hAd h0 hHeld HXd HBd ⊢
      clear ewd HA5 HR5 HX5
      have kx : ∀ w', One X 6 (.int .i64 m.cm) w' → w'.cell? ⟨X, 6, none⟩ = some (.int .i64 m.cm) := fun w' h => h.r
      have hq := hAd.put 6 (.int .i64 (min (max c1.cm (min m.cm y)) L)) (by decide) ⟨{ c1 with cm := (min (max c1.cm (min m.cm y)) L) }, q1, d1⟩ rfl rfl rfl rfl
      rw [HC2.out] at hq
      have yX := (hq.2.blk HXd.out hXR hXv).1
      have s1 : One X 6 (.int .i64 m.cm) (wd.setCell ⟨R, 6, none⟩ (.int .i64 (min (max c1.cm (min m.cm y)) L))) := ⟨block_cells yX 6⟩
      have kc : wd.cell? ⟨R, 6, none⟩ = some (.int .i64 c1.cm) := block_cells hAd.blk 6
      have fc : wd.frozen? ⟨R, 6, none⟩ = false := block_free hAd.blk 6
      have HA6 := Lib.hid hq.1; have HR6 := Lib.hid (HBd.out.trans hq.2); have HX6 := Lib.hid yX
      clear hAd hq yX
      refine tkH (i := 0) (v := ?_) rfl (Or.inl ⟨by rfl, ?_⟩) hHeld ?_
      rotate_left
      · (intro wz hSw; (try dsimp only at hSw); (try simp only [zA, zC]); go_simp; try with_reducible rfl)
      try simp only [zA, zC, Act.put, zD, zE, zF]
      refine tkH (i := 1) (v := ?_) rfl (Or.inl ⟨by rfl, ?_⟩) hHeld ?_
      rotate_left
      · (intro wz hSw; (try dsimp only at hSw); (try simp only [zA, zB, zC]); go_simp; try with_reducible rfl)
      try simp only [zA, zB, zC, Act.put, zD, zE, zF]
      refine tkH (i := 2) (v := ?_) rfl (Or.inl ⟨by rfl, ?_⟩) hHeld ?_
      rotate_left
      · (intro wz hSw; (try dsimp only at hSw); (try simp only [zA, zB, zC]); go_simp; try with_reducible rfl)
      try simp only [zA, zB, zC, Act.put, zD, zE, zF]
      refine tkH (i := 3) (v := ?_) rfl (Or.inl ⟨by rfl, ?_⟩) hHeld ?_
      rotate_left
      · (intro wz hSw; (try dsimp only at hSw); (try simp only [zA, zB, zC]); go_simp; try with_reducible rfl)
      try simp only [zA, zB, zC, Act.put, zD, zE, zF]
      refine tkH (i := 4) (v := ?_) rfl (Or.inl ⟨by rfl, ?_⟩) hHeld ?_
      rotate_left
      · (intro wz hSw; (try dsimp only at hSw); (try simp only [zA, zB, zC]); go_simp; try with_reducible rfl)
      try simp only [zA, zB, zC, Act.put, zD, zE, zF]
      refine tkH (i := 6) (v := ?_) rfl (Or.inl ⟨by rfl, ?_⟩) hHeld ?_
      rotate_left
      · (intro wz hSw; (try dsimp only at hSw); (try simp only [zA, zB, zC]); go_simp; try with_reducible rfl)
      try simp only [zA, zB, zC, Act.put, zD, zE, zF]
      refine tkH (i := 7) (v := ?_) rfl (Or.inl ⟨by rfl, ?_⟩) hHeld ?_
      rotate_left
      · (intro wz hSw; (try dsimp only at hSw); (try simp only [zA, zB, zC]); go_simp; try with_reducible rfl)
      try simp only [zA, zB, zC, Act.put, zD, zE, zF]
      refine tkH (i := 8) (v := ?_) rfl (Or.inl ⟨by rfl, ?_⟩) hHeld ?_
      rotate_left
      · (intro wz hSw; (try dsimp only at hSw); (try simp only [zA, zB, zC]); go_simp; try with_reducible rfl)
      try simp only [zA, zB, zC, Act.put, zD, zE, zF]
      refine tkH (i := 9) (v := ?_) rfl (Or.inl ⟨by rfl, ?_⟩) hHeld ?_
      rotate_left
      · (intro wz hSw; (try dsimp only at hSw); (try simp only [zA, zB, zC]); go_simp; try with_reducible rfl)
      try simp only [zA, zB, zC, Act.put, zD, zE, zF]
      refine tkH (i := 11) (v := ?_) rfl (Or.inl ⟨by rfl, ?_⟩) hHeld ?_
      rotate_left
      · (intro wz hSw; (try dsimp only at hSw); (try simp only [zA, zB, zC]); go_simp; try with_reducible rfl)
      try simp only [zA, zB, zC, Act.put, zD, zE, zF]
      clear kx
      refine wpAnyH_ready (rs := [5]) (by kernel_rfl) (by simp) ?_; refine AllReadyH.cons rfl (fun K hK => ?_) AllReadyH.nil
      try simp only [zA, zB, zC]
      go_simp
      refine hK.out _ _ hHeld (fun _ => ?_)
      clear hK K
      try simp only [zA, zB, zC, Act.put, zD, zE, zF]
      refine tkH (i := 10) (v := ?_) rfl (Or.inl ⟨by rfl, ?_⟩) hHeld ?_
      rotate_left
      · (intro wz hSw; (try dsimp only at hSw); (try simp only [zA, zB, zC]); go_simp; try with_reducible rfl)
      try simp only [zA, zB, zC, Act.put, zD, zE, zF]
      refine tkH (i := 12) (v := ?_) rfl (Or.inl ⟨by rfl, ?_⟩) hHeld ?_
      rotate_left
      · (intro wz hSw; (try dsimp only at hSw); (try simp only [zA, zB, zC]); go_simp; try with_reducible rfl)
      try simp only [zA, zB, zC, Act.put, zD, zE, zF]
      refine tkH (i := 13) (v := ?_) rfl (Or.inl ⟨by rfl, ?_⟩) hHeld ?_
      rotate_left
      · (intro wz hSw; (try dsimp only at hSw); (try simp only [zA, zB, zC]); go_simp; try with_reducible rfl)
      try simp only [zA, zB, zC, Act.put, zD, zE, zF]
      refine tkH (i := 14) (v := ?_) rfl (Or.inl ⟨by rfl, ?_⟩) hHeld ?_
      rotate_left
      · (intro wz hSw; (try dsimp only at hSw); (try simp only [zA, zB, zC]); go_simp; try with_reducible rfl)
      try simp only [zA, zB, zC, Act.put, zD, zE, zF]
      refine tkH (i := 15) (v := ?_) rfl (Or.inl ⟨by rfl, ?_⟩) hHeld ?_
      rotate_left
      · (intro wz hSw; (try dsimp only at hSw); (try simp only [zA, zB, zC]); go_simp; try with_reducible rfl)
      try simp only [zA, zB, zC, Act.put, zD, zE, zF]
      refine wpAnyH_ready (rs := [16]) (by kernel_rfl) (by simp) ?_; refine AllReadyH.cons rfl (fun K hK => ?_) AllReadyH.nil
      try simp only [zA, zB, zC]
      go_simp
      refine hK.out _ _ s1 (fun _ => ?_)
      clear hK K hHeld kc fc
      try simp only [zA, zB, zC, Act.put, zD, zE, zF]
      refine wpAnyH_done (by kernel_rfl) ?_ _
      obtain ⟨W6, hWn⟩ : ∃ z : World, wd.setCell ⟨R, 6, none⟩ (.int .i64 (min (max c1.cm (min m.cm y)) L)) = z := ⟨_, rfl⟩
      rw [hWn] at HA6 HR6 HX6 ⊢
      clear hWn h0 s1 HXd HBd
      go_upto_region 10 with fail
      have hAd := HA6.out.keep (Below.refl _ _).drew
      have HXd : Hid (W6.drew.heap[X]? = some (.cells #[.int .i64 m.k, .int .i64 m.fr, .int .i64 m.dst, .int .i64 m.tm, .int .i64 m.ix, .int .i64 m.lt, .int .i64 m.cm, .int .i64 m.sf, .bool m.yes, .slice q m.es.length d, .string m.sn, .int .u16 m.cf.ov, .int .u16 m.cf.ox, .int .u16 m.cf.ol, .int .i64 m.cf.oe, .int .i64 m.cf.ok, .int .u16 m.cf.nv, .int .u16 m.cf.nx, .int .u16 m.cf.nl, .int .i64 m.cf.ne, .int .i64 m.cf.nk, .bool m.cf.two] 39 (0, 0))) := HX6.out
      have h0 : One X 7 (.int .i64 m.sf) W6.drew := ⟨block_cells HXd.out 7⟩
      have HBd := Lib.hid HR6.out.drew
      refine wp_region_held_drew (S := One X 7 (.int .i64 m.sf)) (by kernel_rfl) h0 (fun hHeld => ?_)
      obtain ⟨wd, ewd⟩ : ∃ x, W6.drew = x := ⟨_, rfl⟩
      rewrite [ewd] at hAd h0 hHeld HXd HBd ⊢
      clear ewd HA6 HR6 HX6
      have kx : ∀ w', One X 7 (.int .i64 m.sf) w' → w'.cell? ⟨X, 7, none⟩ = some (.int .i64 m.sf) := fun w' h => h.r
      have hq := hAd.put 7 (.int .i64 (max c2.sf m.sf)) (by decide) ⟨{ c2 with sf := (max c2.sf m.sf) }, q1, d1⟩ rfl rfl rfl rfl
      rw [HC3.out] at hq
      have yX := (hq.2.blk HXd.out hXR hXv).1
      have s1 : One X 7 (.int .i64 m.sf) (wd.setCell ⟨R, 7, none⟩ (.int .i64 (max c2.sf m.sf))) := ⟨block_cells yX 7⟩
      have kc : wd.cell? ⟨R, 7, none⟩ = some (.int .i64 c2.sf) := block_cells hAd.blk 7
      have fc : wd.frozen? ⟨R, 7, none⟩ = false := block_free hAd.blk 7
      have HA7 := Lib.hid hq.1; have HR7 := Lib.hid (HBd.out.trans hq.2); have HX7 := Lib.hid yX
      clear hAd hq yX
      refine tkH (i := 0) (v := ?_) rfl (Or.inl ⟨by rfl, ?_⟩) hHeld ?_
      rotate_left
      · (intro wz hSw; (try dsimp only at hSw); (try simp only [zA, zC]); go_simp; try with_reducible rfl)
      try simp only [zA, zC, Act.put, zD, zE, zF]
      refine tkH (i := 1) (v := ?_) rfl (Or.inl ⟨by rfl, ?_⟩) hHeld ?_
      rotate_left
      · (intro wz hSw; (try dsimp only at hSw); (try simp only [zA, zB, zC]); go_simp; try with_reducible rfl)
      try simp only [zA, zB, zC, Act.put, zD, zE, zF]
      refine tkH (i := 2) (v := ?_) rfl (Or.inl ⟨by rfl, ?_⟩) hHeld ?_
      rotate_left
      · (intro wz hSw; (try dsimp only at hSw); (try simp only [zA, zB, zC]); go_simp; try with_reducible rfl)
      try simp only [zA, zB, zC, Act.put, zD, zE, zF]
      refine tkH (i := 3) (v := ?_) rfl (Or.inl ⟨by rfl, ?_⟩) hHeld ?_
      rotate_left
      · (intro wz hSw; (try dsimp only at hSw); (try simp only [zA, zB, zC]); go_simp; try with_reducible rfl)
      try simp only [zA, zB, zC, Act.put, zD, zE, zF]
      refine tkH (i := 4) (v := ?_) rfl (Or.inl ⟨by rfl, ?_⟩) hHeld ?_
      rotate_left
      · (intro wz hSw; (try dsimp only at hSw); (try simp only [zA, zB, zC]); go_simp; try with_reducible rfl)
      try simp only [zA, zB, zC, Act.put, zD, zE, zF]
      refine tkH (i := 6) (v := ?_) rfl (Or.inl ⟨by rfl, ?_⟩) hHeld ?_
      rotate_left
      · (intro wz hSw; (try dsimp only at hSw); (try simp only [zA, zB, zC]); go_simp; try with_reducible rfl)
      try simp only [zA, zB, zC, Act.put, zD, zE, zF]
      refine tkH (i := 7) (v := ?_) rfl (Or.inl ⟨by rfl, ?_⟩) hHeld ?_
      rotate_left
      · (intro wz hSw; (try dsimp only at hSw); (try simp only [zA, zB, zC]); go_simp; try with_reducible rfl)
      try simp only [zA, zB, zC, Act.put, zD, zE, zF]
      clear kx
      refine wpAnyH_ready (rs := [5]) (by kernel_rfl) (by simp) ?_; refine AllReadyH.cons rfl (fun K hK => ?_) AllReadyH.nil
      try simp only [zA, zB, zC]
      go_simp
      refine hK.out _ _ hHeld (fun _ => ?_)
      clear hK K
      try simp only [zA, zB, zC, Act.put, zD, zE, zF]
      refine tkH (i := 8) (v := ?_) rfl (Or.inl ⟨by rfl, ?_⟩) hHeld ?_
      rotate_left
      · (intro wz hSw; (try dsimp only at hSw); (try simp only [zA, zB, zC]); go_simp; try with_reducible rfl)
      try simp only [zA, zB, zC, Act.put, zD, zE, zF]
      refine tkH (i := 9) (v := ?_) rfl (Or.inl ⟨by rfl, ?_⟩) hHeld ?_
      rotate_left
      · (intro wz hSw; (try dsimp only at hSw); (try simp only [zA, zB, zC]); go_simp; try with_reducible rfl)
      try simp only [zA, zB, zC, Act.put, zD, zE, zF]
      refine tkH (i := 10) (v := ?_) rfl (Or.inl ⟨by rfl, ?_⟩) hHeld ?_
      rotate_left
      · (intro wz hSw; (try dsimp only at hSw); (try simp only [zA, zB, zC]); go_simp; try with_reducible rfl)
      try simp only [zA, zB, zC, Act.put, zD, zE, zF]
      refine tkH (i := 11) (v := ?_) rfl (Or.inl ⟨by rfl, ?_⟩) hHeld ?_
      rotate_left
      · (intro wz hSw; (try dsimp only at hSw); (try simp only [zA, zB, zC]); go_simp; try with_reducible rfl)
      try simp only [zA, zB, zC, Act.put, zD, zE, zF]
      refine wpAnyH_ready (rs := [12]) (by kernel_rfl) (by simp) ?_; refine AllReadyH.cons rfl (fun K hK => ?_) AllReadyH.nil
      try simp only [zA, zB, zC]
      go_simp
      refine hK.out _ _ s1 (fun _ => ?_)
      clear hK K hHeld kc fc
      try simp only [zA, zB, zC, Act.put, zD, zE, zF]
      refine wpAnyH_done (by kernel_rfl) ?_ _
      obtain ⟨W7, hWn⟩ : ∃ z : World, wd.setCell ⟨R, 7, none⟩ (.int .i64 (max c2.sf m.sf)) = z := ⟨_, rfl⟩
      rw [hWn] at HA7 HR7 HX7 ⊢
      clear hWn h0 s1 HXd HBd
      have k1 : W7.cell? ⟨X, 1, none⟩ = some (.int .i64 m.fr) := block_cells HX7.out 1
      have HSE := Lib.hid (show Calls Tryz.prog 89 #[.pointer (some ⟨R, 0, none⟩), .int .i64 m.fr, .agg #[.int .i64 4, .int .i64 0, .int .i64 0, .int .i64 0, .int .i64 y, .int .i64 0, .int .i64 0, .int .i64 0, .bool true, .slice none 0 0, .string ⟨#[]⟩, .int .u16 0, .int .u16 0, .int .u16 0, .int .i64 0, .int .i64 0, .int .u16 0, .int .u16 0, .int .u16 0, .int .i64 0, .int .i64 0, .bool false]] W7 fun e w' => e = .returned (.tuple #[]) ∧ ∃ v2, AcW 69 B w' R ⟨c3, q1, d1⟩ v2 (l ++ [⟨putM c3 m.fr { ms0 with k := 4, yes := true, ix := y }, none, 0⟩]) ∧ AcR W7 w' R v v2 from send_act B R c3 q1 d1 v l m.fr { ms0 with k := 4, yes := true, ix := y } none 0 W7 HA7.out (MsOwn.none rfl) (fun b hb => by cases hb) (by have := HLL.out; omega))
      go_wp2_with fail
      refine HSE.out.mono ?_; rintro r w9 ⟨rfl, v2, hA9, hr9⟩
      have HO : Hid (AcDo 69 B w R v A (.returned (.tuple #[])) w9) := AcDo.sent HZ.out hA9 (HR7.out.trans hr9)
      clear hA9 hr9 HSE
      go_wp2_with fail
      first | go_end0 | refine bodyPost_ret (results_none rfl _ _ _) rfl ?_
      exact HO.out
end Go.Proofs.YtbnndbdnejfehaaGreatDoor
