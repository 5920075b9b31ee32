import Derived.Test.YtbnndbdnejfehaaGreatDoorPlainB13
import Derived.Test.YtbnndbdnejfehaaGreatDoorPlainMayL
import Derived.Test.YtbnndbdnejfehaaGreatDoorLogP
import Derived.WalkKit
import Derived.ProofKit
import Derived.OpenShut
import Derived.SizedLaws
import Derived.Test.YtbnndbdnejfehaaGreatDoorProg
import Derived.Test.YtbnndbdnejfehaaGreatDoorLogG
import Derived.Deep.Slices
import Derived.Deep.Fields
import Derived.ChangeSame
/- Core: does core do anything yet (the law's own). -/
namespace Go.Proofs.YtbnndbdnejfehaaGreatDoor
open Go.ChangeShapes Go.WideShapes Go.ChangeAt Go.RowKit

/-- A new core after so many ticks, and what it sent last. -/
def b13 (n : Nat) : Ac := if n = 16 then ⟨candC (c3 16), askL (candC (c3 16))⟩ else ⟨c3 n, []⟩
theorem b13_fit (n : Nat) (N : Nat) : CoFit N (b13 n).c := by
  unfold b13; split
  · exact cand3_fit N
  · exact c3_fit _ N
theorem b13_tm {n : Nat} (h : n < 16) : (b13 n).c.tm = 0 ∧ (b13 n).c.wt = n := by
  unfold b13; rw [if_neg (by omega)]; exact ⟨rfl, rfl⟩
theorem b13_tick {n : Nat} (h : n < 16) : tickA (b13 n).c = b13 (n + 1) := by
  unfold b13
  rw [if_neg (by omega)]
  by_cases h2 : n = 15
  · subst h2; exact tick3e
  · rw [if_neg (by omega)]; exact tick3 n (by omega)
theorem store_own {B C : Nat} {w : World} {cs : Array Value} {x : CoX} (vs : List Value) (ho : CoOwn B w x) (hC : w.heap[C]? = some (.cells cs 33 (0, 0))) : CoOwn B (w.setCells C 0 vs) x :=
  ho.kept (block_setCells vs 0 hC).2 (own_other ho hC (by decide))
theorem store_below {w0 w : World} {C : Nat} {cs : Array Value} {t : TypeId} (vs : List Value) (hb : Below w0.heap.size w0 w) (hC : w.heap[C]? = some (.cells cs t (0, 0))) (h : w0.heap.size ≤ C) : Below w0.heap.size w0 (w.setCells C 0 vs) := by
  have hg := (block_setCells vs 0 hC).2
  exact hb.grown hg hb.size (fun b e => by simp only [Option.some.injEq] at e; omega)
set_option maxRecDepth 100000 in
theorem three_any (w : World) : Calls Tryz.prog 30 #[] w fun e w' => e = .returned (.agg (jnL j3).toArray) ∧ Below w.heap.size w w' := by
  go_enter Tryz.func30, Tryz.ntmps30
  go_wp2_with fail
  refine bodyPost_ret (v := .agg (jnL j3).toArray) ?_ rfl ⟨rfl, (Below.refl _ _).alloc (Nat.le_refl _) _⟩
  exact results_cell_row rfl _ _ w.heap.size _ _ _ _ (by rfl) (heap_last w _) Tryz.underlying27 rfl (by kernel_rfl)
theorem core_range {X : Nat} {w : World} {c : Co} {q : Option Addr} {d : Nat} (h : w.heap[X]? = some (.cells (coL c q d).toArray 33 (0, 0))) : w.rangeAt X 0 (coL c q d) :=
  range_of (n := 45) rfl (fun j _ => by rw [Nat.zero_add, block_cells h, List.getElem?_toArray])
theorem b13_len {l : List MsX} (h : l.map MsX.m = (b13 16).out) : l.length = 2 := by
  have h2 := congrArg List.length h
  rw [List.length_map] at h2
  rw [h2]; exact cand3_out
set_option maxRecDepth 100000 in
set_option maxHeartbeats 16000000 in
theorem begun13_any (w : World) (hT : Tab w) : Calls Tryz.prog 7 #[] w fun e w' => e = .returned (.bool true) ∧ Below w.heap.size w w' := by
  have HT := Lib.hid hT
  clear hT
  go_enter Tryz.func7, Tryz.ntmps7
  go_wp2_with fail
  refine (three_any w).mono ?_; rintro e w1 ⟨rfl, b1⟩
  have HB1 := Lib.hid b1
  clear b1
  go_wp2_with fail
  refine (show Calls Tryz.prog 29 #[.int .i64 1, .agg (jnL j3).toArray] w1 _ from hcnew_any 1 j3 w1).mono ?_; rintro e w2 ⟨rfl, b2⟩
  have HB2 := Lib.hid (HB1.out.trans (b2.mono HB1.out.size))
  clear b2 HB1
  go_upto_region 2 with (with_reducible refine wpList_store_new (op := ⟨none, .store 33 _ _, _, _, _, _⟩) rfl _ _ _ rfl _ (coL (newCo 1 j3) none 0).toArray rfl rfl (by kernel_rfl) rfl (one_all rfl) ?_)
  obtain ⟨w3, hw⟩ : ∃ z : World, w2.alloc (.cells (coL (newCo 1 j3) none 0).toArray 33) = z := ⟨_, rfl⟩
  have b3 : Below w2.heap.size w2 w3 := by rw [← hw]; exact (Below.refl _ _).alloc (Nat.le_refl _) _
  have hC : w3.heap[w2.heap.size]? = some (.cells (coL (newCo 1 j3) none 0).toArray 33 (0, 0)) := by rw [← hw]; exact heap_last w2 _
  (try rw [hw])
  obtain ⟨C, eC⟩ : ∃ z, w2.heap.size = z := ⟨_, rfl⟩
  (try rw [eC])
  rw [eC] at hC
  have HB3 := Lib.hid (HB2.out.trans (b3.mono HB2.out.size))
  have HC3 := Lib.hid hC
  have HCW := Lib.hid (show w.heap.size ≤ C from by rw [← eC]; exact HB2.out.size)
  clear hw b3 hC eC HB2
  go_wp2_with fail
  go_loopw [2, 3] (fun v i wr => ∃ n : Nat, n ≤ 16 ∧ i = .int .i64 n ∧ Hid (∃ p d l, l.map MsX.m = (b13 n).out ∧ MsAt w.heap.size wr v l ∧ wr.heap[C]? = some (.cells (coL (b13 n).c p d).toArray 33 (0, 0)) ∧ CoOwn w.heap.size wr ⟨(b13 n).c, p, d⟩ ∧ Below w.heap.size w wr)) (fun _ i _ => 16 - (intOf i).toNat)
  case atStart => exact ⟨0, by omega, rfl, Lib.hid ⟨none, 0, [], rfl, MsAt.nil _ _, HC3.out, CoOwn.new _ _ _ _, HB3.out⟩⟩
  case round =>
    obtain ⟨n, hn, rfl, HR⟩ := hrel
    obtain ⟨wk, rfl⟩ : ∃ wk : World, wk = wr := ⟨_, rfl⟩
    obtain ⟨p, d, l, hl, hM, hC, hO, hB⟩ := HR.out
    have HP := Lib.hid (show Calls Tryz.prog 23 #[.int .i64 1] wk fun e w' => e = .returned (.int .i64 16) ∧ wk = w' from patience_any 1 wk (by decide) (by decide))
    have HRG := Lib.hid (core_range hC)
    have HTH := fun (wz : World) (hb : Below wk.heap.size wk wz) => there_of_block (o := 0) (n := 45) (below_block hb (block_lt hC) hC) (Nat.le_of_ble_eq_true rfl)
    by_cases h16 : n < 16
    · have hd : decide ((n : Int) < 16) = true := by simp; omega
      have HTK := Lib.hid (show Calls Tryz.prog 19 #[.agg (coL (b13 n).c p d).toArray] wk (CoEnd wk (b13 (n + 1))) from by
        have h1 := tick_any 5 (b13 n).c p d wk (b13_fit _ _) (by rw [(b13_tm h16).1]; omega) (by rw [(b13_tm h16).2]; omega) (by decide) (HT.out.keep hB) (EnSl.of_own hO)
        rw [b13_tick h16] at h1; exact h1)
      have HC := Lib.hid hC; have HB := Lib.hid hB; have HTG := Lib.hid HTH
      clear hl hM hC hO hB HTH HR
      go_wp2_with fail
      refine HP.out.mono ?_; rintro e w4 ⟨rfl, rfl⟩
      go_wp2_with (with_reducible refine wpList_load_mid (op := ⟨some 14, _, _, _, _, _⟩) rfl _ _ rfl C 0 rfl (coL (b13 n).c p d) _ HRG.out Tryz.underlying33 rfl (by kernel_rfl) ?_)
      refine HTK.out.mono ?_; rintro e wz ⟨p9, d9, v9, l9, rfl, hl9, hO9, hM9, -, hb9⟩
      obtain ⟨c9, hc9⟩ : ∃ c9, (b13 (n + 1)).c = c9 := ⟨_, rfl⟩
      rw [hc9] at hO9
      have hCz := below_block hb9 (block_lt HC.out) HC.out
      have HTZ := Lib.hid (HTG.out wz hb9)
      have HO : Hid (∃ p d l, l.map MsX.m = (b13 (n + 1)).out ∧ MsAt w.heap.size (wz.setCells C 0 (coL c9 p9 d9)) v9 l ∧ (wz.setCells C 0 (coL c9 p9 d9)).heap[C]? = some (.cells (coL (b13 (n + 1)).c p d).toArray 33 (0, 0)) ∧ CoOwn w.heap.size (wz.setCells C 0 (coL c9 p9 d9)) ⟨(b13 (n + 1)).c, p, d⟩ ∧ Below w.heap.size w (wz.setCells C 0 (coL c9 p9 d9))) := by
        rw [hc9]
        exact ⟨p9, d9, l9, hl9, (hM9.mono HB.out.size).grown hCz (by decide) (by decide) (block_setCells (coL c9 p9 d9) 0 hCz).2, setCells_full (n := 45) (vs := (coL c9 p9 d9).toArray) hCz rfl rfl, store_own _ (own_baseC hO9 HB.out.size) hCz, store_below _ (HB.out.trans (hb9.mono HB.out.size)) hCz HCW.out⟩
      rw [hc9]
      clear hl9 hO9 hM9 hb9 hCz hc9 HTK
      go_wp2_with (with_reducible refine wpList_store_at (op := ⟨none, .store 33 _ _, _, _, _, _⟩) rfl _ _ _ rfl C 0 45 (coL c9 p9 d9).toArray (by kernel_rfl) rfl rfl HTZ.out (by kernel_rfl) (one_all rfl) ?_)
      go_roundw
      case rel => exact ⟨n + 1, by omega, by go_num, HO⟩
      case measure => simp [intOf]; omega
    · obtain rfl : n = 16 := by omega
      have hd : decide (((16 : Nat) : Int) < 16) = false := by decide
      have hlen := b13_len hl
      obtain ⟨pv, cv, rfl⟩ := own_formH hM.own
      obtain ⟨cc, hcc⟩ : ∃ cc, (b13 16).c = cc := ⟨_, rfl⟩
      have hro : cc.role = 1 := by rw [← hcc]; rfl
      have hst : (stepB cc mV3).c.role = 2 ∧ (stepB cc mV3).out.length = 2 := by rw [← hcc]; exact step3
      have hfc : CoFit 5 cc := by rw [← hcc]; exact b13_fit 16 5
      rw [hcc] at hC hO HRG
      obtain ⟨A, hA⟩ : ∃ A, stepB cc mV3 = A := ⟨_, rfl⟩
      have HST := Lib.hid (show Calls Tryz.prog 12 #[.agg (coL cc p d).toArray, .agg (msC mV3 none 0).toArray] wk (CoEnd wk A) from by
        have h1 := step_any 5 cc p d mV3 none 0 wk hfc (by decide) (HT.out.keep hB) (EnSl.of_own hO) (EnSl.of_own (B := 0) (e := 47) ⟨rfl, .inl ⟨rfl, rfl⟩⟩) (by decide) (fun e h => by cases h) jnF0
        rw [hA] at h1; exact h1)
      rw [hA] at hst
      have HC := Lib.hid hC; have HB := Lib.hid hB; have HRO := Lib.hid hro; have HS2 := Lib.hid hst
      rw [hlen]
      clear hl hM hC hO hB HTH HR hcc hro hst hfc hA hlen
      go_wp2_with fail
      refine HP.out.mono ?_; rintro e w4 ⟨rfl, rfl⟩
      go_wp2_with (with_reducible refine wpList_load_mid (op := ⟨some 19, _, _, _, _, _⟩) rfl _ _ rfl C 0 rfl (coL cc p d) _ HRG.out Tryz.underlying33 rfl (by kernel_rfl) ?_)
      refine HST.out.mono ?_; rintro e wz ⟨p9, d9, v9, l9, rfl, hl9, hO9, hM9, -, hb9⟩
      obtain ⟨c9, hc9⟩ : ∃ c9, A.c = c9 := ⟨_, rfl⟩
      have hlen9 : l9.length = 2 := by have := congrArg List.length hl9; rw [List.length_map] at this; rw [this]; exact HS2.out.2
      have hro9 : c9.role = 2 := by rw [← hc9]; exact HS2.out.1
      obtain ⟨pw, cw, rfl⟩ := own_formH hM9.own
      rw [hc9, hlen9]
      have hCz := below_block hb9 (block_lt HC.out) HC.out
      have HCZ := Lib.hid hCz; have HBZ := Lib.hid (HB.out.trans (hb9.mono HB.out.size)); have HR9 := Lib.hid hro9
      clear hlen9 hl9 hO9 hM9 hb9 hc9 hCz hro9
      go_upto_region 8 with (with_reducible refine wpList_store_new (op := ⟨none, .store 33 _ _, _, _, _, _⟩) rfl _ _ _ rfl _ (coL c9 p9 d9).toArray rfl rfl (by kernel_rfl) rfl (one_all rfl) ?_)
      obtain ⟨w5, hw⟩ : ∃ z : World, wz.alloc (.cells (coL c9 p9 d9).toArray 33) = z := ⟨_, rfl⟩
      have b5 : Below wz.heap.size wz w5 := by rw [← hw]; exact (Below.refl _ _).alloc (Nat.le_refl _) _
      have hD : w5.heap[wz.heap.size]? = some (.cells (coL c9 p9 d9).toArray 33 (0, 0)) := by rw [← hw]; exact heap_last wz _
      (try rw [hw])
      have hc5 := below_block b5 (block_lt HCZ.out) HCZ.out
      have kC1 : w5.cell? ⟨C, 1, none⟩ = some (.int .i64 1) := by rw [← HRO.out]; exact block_cells hc5 1
      have kD1 : w5.cell? ⟨wz.heap.size, 1, none⟩ = some (.int .i64 2) := by rw [← HR9.out]; exact block_cells hD 1
      have HB5 := Lib.hid (HBZ.out.trans (b5.mono HBZ.out.size))
      clear hw b5 hD hc5
      go_wp2_with fail
      go_ret
      exact ⟨rfl, HB5.out⟩
end Go.Proofs.YtbnndbdnejfehaaGreatDoor
/- Hard: is a core not too great? -/
namespace Go.Proofs.YtbnndbdnejfehaaGreatDoor
open Go.ChangeShapes Go.WideShapes Go.ChangeAt Go.RowKit

def lightC (c : Co) : Bool := lightB c.l [] && decide (c.sn.size ≤ 300)
set_option maxRecDepth 100000 in
set_option maxHeartbeats 4000000 in
theorem light13_any (c : Co) (p : Option Addr) (k : Nat) (w : World) (hE : EnSl w (.slice p c.l.es.length k) c.l.es) :
    Calls Tryz.prog 8 #[.agg #[.int .i64 c.id, .int .i64 c.role, .int .i64 c.tm, .int .i64 c.vt, .int .i64 c.ld, .int .i64 c.wt, .int .i64 c.cm, .int .i64 c.sf, .int .i64 c.l.b, .int .i64 c.l.bt, .int .u16 c.l.j.ov, .int .u16 c.l.j.ox, .int .u16 c.l.j.ol, .int .i64 c.l.j.oe, .int .i64 c.l.j.ok, .int .u16 c.l.j.nv, .int .u16 c.l.j.nx, .int .u16 c.l.j.nl, .int .i64 c.l.j.ne, .int .i64 c.l.j.nk, .bool c.l.j.two, .slice p c.l.es.length k, .string c.sn, .int .u16 c.vs, .int .u16 c.hd, .int .i64 (c.nx 0), .int .i64 (c.nx 1), .int .i64 (c.nx 2), .int .i64 (c.nx 3), .int .i64 (c.nx 4), .int .i64 (c.nx 5), .int .i64 (c.nx 6), .int .i64 (c.nx 7), .int .i64 (c.nx 8), .int .i64 (c.nx 9), .int .i64 (c.mt 0), .int .i64 (c.mt 1), .int .i64 (c.mt 2), .int .i64 (c.mt 3), .int .i64 (c.mt 4), .int .i64 (c.mt 5), .int .i64 (c.mt 6), .int .i64 (c.mt 7), .int .i64 (c.mt 8), .int .i64 (c.mt 9)]] w fun e w' => e = .returned (.bool (lightC c)) ∧ Below w.heap.size w w' := by
  obtain ⟨W, hW⟩ : ∃ x : World, w.alloc (.cells #[.int .i64 c.id, .int .i64 c.role, .int .i64 c.tm, .int .i64 c.vt, .int .i64 c.ld, .int .i64 c.wt, .int .i64 c.cm, .int .i64 c.sf, .int .i64 c.l.b, .int .i64 c.l.bt, .int .u16 c.l.j.ov, .int .u16 c.l.j.ox, .int .u16 c.l.j.ol, .int .i64 c.l.j.oe, .int .i64 c.l.j.ok, .int .u16 c.l.j.nv, .int .u16 c.l.j.nx, .int .u16 c.l.j.nl, .int .i64 c.l.j.ne, .int .i64 c.l.j.nk, .bool c.l.j.two, .slice p c.l.es.length k, .string c.sn, .int .u16 c.vs, .int .u16 c.hd, .int .i64 (c.nx 0), .int .i64 (c.nx 1), .int .i64 (c.nx 2), .int .i64 (c.nx 3), .int .i64 (c.nx 4), .int .i64 (c.nx 5), .int .i64 (c.nx 6), .int .i64 (c.nx 7), .int .i64 (c.nx 8), .int .i64 (c.nx 9), .int .i64 (c.mt 0), .int .i64 (c.mt 1), .int .i64 (c.mt 2), .int .i64 (c.mt 3), .int .i64 (c.mt 4), .int .i64 (c.mt 5), .int .i64 (c.mt 6), .int .i64 (c.mt 7), .int .i64 (c.mt 8), .int .i64 (c.mt 9)] 33) = x := ⟨_, rfl⟩
  have hb : Below w.heap.size w W := by rw [← hW]; exact (Below.refl _ _).alloc (Nat.le_refl _) _
  have hA : W.heap[w.heap.size]? = some (.cells #[.int .i64 c.id, .int .i64 c.role, .int .i64 c.tm, .int .i64 c.vt, .int .i64 c.ld, .int .i64 c.wt, .int .i64 c.cm, .int .i64 c.sf, .int .i64 c.l.b, .int .i64 c.l.bt, .int .u16 c.l.j.ov, .int .u16 c.l.j.ox, .int .u16 c.l.j.ol, .int .i64 c.l.j.oe, .int .i64 c.l.j.ok, .int .u16 c.l.j.nv, .int .u16 c.l.j.nx, .int .u16 c.l.j.nl, .int .i64 c.l.j.ne, .int .i64 c.l.j.nk, .bool c.l.j.two, .slice p c.l.es.length k, .string c.sn, .int .u16 c.vs, .int .u16 c.hd, .int .i64 (c.nx 0), .int .i64 (c.nx 1), .int .i64 (c.nx 2), .int .i64 (c.nx 3), .int .i64 (c.nx 4), .int .i64 (c.nx 5), .int .i64 (c.nx 6), .int .i64 (c.nx 7), .int .i64 (c.nx 8), .int .i64 (c.nx 9), .int .i64 (c.mt 0), .int .i64 (c.mt 1), .int .i64 (c.mt 2), .int .i64 (c.mt 3), .int .i64 (c.mt 4), .int .i64 (c.mt 5), .int .i64 (c.mt 6), .int .i64 (c.mt 7), .int .i64 (c.mt 8), .int .i64 (c.mt 9)] 33 (0, 0)) := by rw [← hW]; exact heap_last w _
  have HC := Lib.hid (light_any c.l p k [] none 0 W (hE.keep hb (Nat.le_refl _)) ⟨rfl, .inl ⟨rfl, rfl⟩⟩)
  have HB := Lib.hid hb; have HA := Lib.hid hA
  have HW := Lib.hid hW
  have kA := block_cells hA
  clear hE hb hA hW
  go_enter Tryz.func8, Tryz.ntmps8
  go_upto_region 1 with fail
  rw [HW.out]
  clear HW
  go_wp2_with fail
  refine HC.out.mono ?_; rintro e w1 ⟨rfl, b1⟩
  have HB1 := Lib.hid (HB.out.trans (b1.mono HB.out.size))
  have kB := block_cells (below_block b1 (block_lt HA.out) HA.out)
  have HL : Hid (lightC c = (lightB c.l [] && decide (c.sn.size ≤ 300))) := rfl
  clear kA b1
  have hu : undef = Value.tuple #[] := rfl
  cases hl : lightB c.l [] with
  | false =>
    rw [hl] at HL
    have HL2 := Lib.hid HL.out
    clear hl HL
    go_wp2_with fail
    go_ret
    exact ⟨by rw [HL2.out]; rfl, HB1.out⟩
  | true =>
    rw [hl] at HL
    have HL2 := Lib.hid HL.out
    clear hl HL
    by_cases hs : c.sn.size ≤ 300
    · have hd : decide ((c.sn.size : Int) ≤ 300) = true := by simp; omega
      have HD : Hid (decide (c.sn.size ≤ 300) = true) := by show _ = _; simpa using hs
      go_wp2_with fail
      go_ret
      exact ⟨by rw [HL2.out, HD.out]; rfl, HB1.out⟩
    · have hd : decide ((c.sn.size : Int) ≤ 300) = false := by simp; omega
      have HD : Hid (decide (c.sn.size ≤ 300) = false) := by show _ = _; simpa using hs
      go_wp2_with fail
      go_ret
      exact ⟨by rw [HL2.out, HD.out]; rfl, HB1.out⟩
end Go.Proofs.YtbnndbdnejfehaaGreatDoor
/- Core: is a message not too great (the law's lightMsg). -/
namespace Go.Proofs.YtbnndbdnejfehaaGreatDoor
open Go.ChangeShapes Go.WideShapes Go.ChangeAt Go.RowKit

def lightM (m : Ms) : Bool := lightB lg0 m.es && decide (m.sn.size ≤ 300)
set_option maxRecDepth 100000 in
set_option maxHeartbeats 4000000 in
theorem lightM_any (m : Ms) (q : Option Addr) (d : Nat) (w : World) (hM : EnSl w (.slice q m.es.length d) m.es) :
    Calls Tryz.prog 10 #[.agg #[.int .i64 m.k, .int .i64 m.fr, .int .i64 m.dst, .int .i64 m.tm, .int .i64 m.ix, .int .i64 m.lt, .int .i64 m.cm, .int .i64 m.sf, .bool m.yes, .slice q m.es.length d, .string m.sn, .int .u16 m.cf.ov, .int .u16 m.cf.ox, .int .u16 m.cf.ol, .int .i64 m.cf.oe, .int .i64 m.cf.ok, .int .u16 m.cf.nv, .int .u16 m.cf.nx, .int .u16 m.cf.nl, .int .i64 m.cf.ne, .int .i64 m.cf.nk, .bool m.cf.two]] w fun e w' => e = .returned (.bool (lightM m)) ∧ Below w.heap.size w w' := by
  obtain ⟨W, hW⟩ : ∃ x : World, w.alloc (.cells #[.int .i64 m.k, .int .i64 m.fr, .int .i64 m.dst, .int .i64 m.tm, .int .i64 m.ix, .int .i64 m.lt, .int .i64 m.cm, .int .i64 m.sf, .bool m.yes, .slice q m.es.length d, .string m.sn, .int .u16 m.cf.ov, .int .u16 m.cf.ox, .int .u16 m.cf.ol, .int .i64 m.cf.oe, .int .i64 m.cf.ok, .int .u16 m.cf.nv, .int .u16 m.cf.nx, .int .u16 m.cf.nl, .int .i64 m.cf.ne, .int .i64 m.cf.nk, .bool m.cf.two] 39) = x := ⟨_, rfl⟩
  have hb : Below w.heap.size w W := by rw [← hW]; exact (Below.refl _ _).alloc (Nat.le_refl _) _
  have hA : W.heap[w.heap.size]? = some (.cells #[.int .i64 m.k, .int .i64 m.fr, .int .i64 m.dst, .int .i64 m.tm, .int .i64 m.ix, .int .i64 m.lt, .int .i64 m.cm, .int .i64 m.sf, .bool m.yes, .slice q m.es.length d, .string m.sn, .int .u16 m.cf.ov, .int .u16 m.cf.ox, .int .u16 m.cf.ol, .int .i64 m.cf.oe, .int .i64 m.cf.ok, .int .u16 m.cf.nv, .int .u16 m.cf.nx, .int .u16 m.cf.nl, .int .i64 m.cf.ne, .int .i64 m.cf.nk, .bool m.cf.two] 39 (0, 0)) := by rw [← hW]; exact heap_last w _
  have HC := Lib.hid (light_any lg0 none 0 m.es q d W ⟨rfl, .inl ⟨rfl, rfl⟩⟩ (hM.keep hb (Nat.le_refl _)))
  have HB := Lib.hid hb; have HA := Lib.hid hA
  have HW := Lib.hid hW
  have kA := block_cells hA
  clear hM hb hA hW
  go_enter Tryz.func10, Tryz.ntmps10
  go_upto_region 1 with fail
  rw [HW.out]
  clear HW
  go_wp2_with fail
  refine HC.out.mono ?_; rintro e w1 ⟨rfl, b1⟩
  have HB1 := Lib.hid (HB.out.trans (b1.mono HB.out.size))
  have kB := block_cells (below_block b1 (block_lt HA.out) HA.out)
  have HL : Hid (lightM m = (lightB lg0 m.es && decide (m.sn.size ≤ 300))) := rfl
  clear kA b1
  have hu : undef = Value.tuple #[] := rfl
  cases hl : lightB lg0 m.es with
  | false =>
    rw [hl] at HL
    have HL2 := Lib.hid HL.out
    clear hl HL
    go_wp2_with fail
    go_ret
    exact ⟨by rw [HL2.out]; rfl, HB1.out⟩
  | true =>
    rw [hl] at HL
    have HL2 := Lib.hid HL.out
    clear hl HL
    by_cases hs : m.sn.size ≤ 300
    · have hd : decide ((m.sn.size : Int) ≤ 300) = true := by simp; omega
      have HD : Hid (decide (m.sn.size ≤ 300) = true) := by show _ = _; simpa using hs
      go_wp2_with fail
      go_ret
      exact ⟨by rw [HL2.out, HD.out]; rfl, HB1.out⟩
    · have hd : decide ((m.sn.size : Int) ≤ 300) = false := by simp; omega
      have HD : Hid (decide (m.sn.size ≤ 300) = false) := by show _ = _; simpa using hs
      go_wp2_with fail
      go_ret
      exact ⟨by rw [HL2.out, HD.out]; rfl, HB1.out⟩
end Go.Proofs.YtbnndbdnejfehaaGreatDoor
/- The frame of a law's row, whatever the law: from a walk that ends in 'true' and turns nothing of the old memory to the row. -/
namespace Go.Proofs.YtbnndbdnejfehaaGreatDoor
open Go.ChangeShapes Go.WideShapes Go.ChangeAt Go.RowKit

section
variable {H : Type} {enc : TypeId × Value → H} {P : Program}
/-- All arguments read behind the call as they did before. -/
theorem trodAll_below (hl : laidOutB P = true) {W W' : World} (hb : Below W.heap.size W W') : ∀ (ts : List TypeId) (vs : List Value) (ds : List (DataW H)) (ps : List MemPlace), (ts.all fun t => P.readableRec t && decide (t < P.types.size)) = true →
    DataW.TrodAll enc P W 0 (fun _ => true) true ts vs ds ps → (∀ x ∈ ps, x.block < W.heap.size) → DataW.TrodAll enc P W' 0 (fun b => decide (b < W.heap.size)) true ts vs ds ps
  | [], vs, ds, ps, _, h, _ => by
    obtain ⟨rfl, rfl, rfl⟩ := trodAll_nil h
    exact trodAll_mk0
  | t :: ts, vs, ds, ps, hr, h, hlt => by
    obtain ⟨v, vs', d, ds', p, q, rfl, rfl, rfl, h0, h1⟩ := trodAll_cons h
    simp only [List.all_cons, Bool.and_eq_true, decide_eq_true_eq] at hr
    exact ⟨p, q, Below.trod hl hr.1.1 hr.1.2 h0 hb (fun x hx => hlt x (List.mem_append_left _ hx)), trodAll_below hl hb ts vs' ds' q hr.2 h1 (fun x hx => hlt x (List.mem_append_right _ hx)), rfl⟩
theorem trodAll_length {W : World} {b : Nat} {sp : Nat → Bool} {hd : Bool} : ∀ (ts : List TypeId) (vs : List Value) (ds : List (DataW H)) (ps : List MemPlace), DataW.TrodAll enc P W b sp hd ts vs ds ps → ds.length = ts.length
  | [], vs, ds, ps, h => by obtain ⟨rfl, rfl, rfl⟩ := trodAll_nil h; rfl
  | t :: ts, vs, ds, ps, h => by
    obtain ⟨v, vs', d, ds', p, q, rfl, rfl, rfl, h0, h1⟩ := trodAll_cons h
    simp [trodAll_length ts vs' ds' q h1]

end
end Go.Proofs.YtbnndbdnejfehaaGreatDoor
/- An argument that is a log, an entry, a list of entries: what it is. -/
namespace Go.Proofs.YtbnndbdnejfehaaGreatDoor
open Go.ChangeShapes Go.WideShapes Go.ChangeAt Go.RowKit Go.Deep

section
variable {H : Type} {enc : TypeId × Value → H} {P : Program} {w : World} {base : Nat} {spare : Nat → Bool} {held : Bool} {fuel : Nat} {t : TypeId} {cs : List Value} {o : Nat}
theorem leaf_atL {x : Value} (h : (cs.drop o).take 1 = [x]) : cs[o]? = some x := by
  have := congrArg (·[0]?) h
  simpa using this
theorem leaf_intL {k : IntKind} {x : DataW H × List MemPlace} (ht : P.underlying t = some (.int k)) (h : DataW.trod enc P w base spare held fuel t ((cs.drop o).take 1) = some x) : ∃ n, cs[o]? = some (.int k n) ∧ (Lit.int k n).wf = true := by
  obtain ⟨n, h1, _, h3⟩ := DataW.trod_int ht h
  exact ⟨n, leaf_atL h1, h3⟩
theorem leaf_boolL {x : DataW H × List MemPlace} (ht : P.underlying t = some .bool) (h : DataW.trod enc P w base spare held fuel t ((cs.drop o).take 1) = some x) : ∃ b, cs[o]? = some (.bool b) := by
  obtain ⟨n, h1, _⟩ := DataW.trod_bool ht h
  exact ⟨n, leaf_atL h1⟩
theorem some_of_lengthL {α : Type} {xs : List α} {n i : Nat} (h : xs.length = n) (hi : i < n) : ∃ x, xs[i]? = some x := ⟨xs[i]'(by omega), List.getElem?_eq_getElem (by omega)⟩
end
section
variable {H : Type} {enc : TypeId × Value → H} {w : World} {base : Nat} {spare : Nat → Bool} {held : Bool}
end
section
variable {H : Type} {enc : TypeId × Value → H} {w : World}
end
end Go.Proofs.YtbnndbdnejfehaaGreatDoor
