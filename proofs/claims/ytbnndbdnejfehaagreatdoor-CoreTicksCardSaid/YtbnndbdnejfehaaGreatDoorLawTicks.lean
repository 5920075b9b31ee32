import Derived.Test.YtbnndbdnejfehaaGreatDoorPlainB13
import Derived.Test.YtbnndbdnejfehaaGreatDoorActAe
import Derived.Test.YtbnndbdnejfehaaGreatDoorPlainHard
import Derived.Test.YtbnndbdnejfehaaGreatDoorLogP
import Derived.Test.YtbnndbdnejfehaaGreatDoorHrA
import Derived.Deep.CutBlock
import Derived.Test.YtbnndbdnejfehaaGreatDoorTakeT
import Derived.Test.YtbnndbdnejfehaaGreatDoorHardA
import Derived.Test.YtbnndbdnejfehaaGreatDoorLogJ
import Derived.Test.YtbnndbdnejfehaaGreatDoorAgg2
import Derived.Test.YtbnndbdnejfehaaGreatDoorLogU
import Derived.Deep.RegionHeld3
import Derived.Laws.ResultCell
import Derived.Test.YtbnndbdnejfehaaGreatDoorHardH
import Derived.ChangeKeysEq
import Derived.Test.YtbnndbdnejfehaaGreatDoorLogR
import Derived.Test.YtbnndbdnejfehaaGreatDoorCoreMay
import Derived.Test.YtbnndbdnejfehaaGreatDoorRestart
import Derived.Test.YtbnndbdnejfehaaGreatDoorActT
/- Core: does core do anything yet (the law's own). -/
namespace Go.Proofs.YtbnndbdnejfehaaGreatDoor
open Go.ChangeShapes Go.WideShapes Go.ChangeAt Go.RowKit

/-- A new core after so many ticks, and what it sent last. -/
def b13 (n : Nat) : Ac := if n = 16 then ⟨candC (c3 16), askL (candC (c3 16))⟩ else ⟨c3 n, []⟩
theorem b13_fit (n : Nat) (N : Nat) : CoFit N (b13 n).c := by
  unfold b13; split
  · exact cand3_fit N
  · exact c3_fit _ N
theorem b13_tm {n : Nat} (h : n < 16) : (b13 n).c.tm = 0 ∧ (b13 n).c.wt = n := by
  unfold b13; rw [if_neg (by omega)]; exact ⟨rfl, rfl⟩
theorem b13_tick {n : Nat} (h : n < 16) : tickA (b13 n).c = b13 (n + 1) := by
  unfold b13
  rw [if_neg (by omega)]
  by_cases h2 : n = 15
  · subst h2; exact tick3e
  · rw [if_neg (by omega)]; exact tick3 n (by omega)
theorem store_own {B C : Nat} {w : World} {cs : Array Value} {x : CoX} (vs : List Value) (ho : CoOwn B w x) (hC : w.heap[C]? = some (.cells cs 33 (0, 0))) : CoOwn B (w.setCells C 0 vs) x :=
  ho.kept (block_setCells vs 0 hC).2 (own_other ho hC (by decide))
theorem store_below {w0 w : World} {C : Nat} {cs : Array Value} {t : TypeId} (vs : List Value) (hb : Below w0.heap.size w0 w) (hC : w.heap[C]? = some (.cells cs t (0, 0))) (h : w0.heap.size ≤ C) : Below w0.heap.size w0 (w.setCells C 0 vs) := by
  have hg := (block_setCells vs 0 hC).2
  exact hb.grown hg hb.size (fun b e => by simp only [Option.some.injEq] at e; omega)
set_option maxRecDepth 100000 in
theorem three_any (w : World) : Calls Tryz.prog 30 #[] w fun e w' => e = .returned (.agg (jnL j3).toArray) ∧ Below w.heap.size w w' := by
  go_enter Tryz.func30, Tryz.ntmps30
  go_wp2_with fail
  refine bodyPost_ret (v := .agg (jnL j3).toArray) ?_ rfl ⟨rfl, (Below.refl _ _).alloc (Nat.le_refl _) _⟩
  exact results_cell_row rfl _ _ w.heap.size _ _ _ _ (by rfl) (heap_last w _) Tryz.underlying27 rfl (by kernel_rfl)
theorem core_range {X : Nat} {w : World} {c : Co} {q : Option Addr} {d : Nat} (h : w.heap[X]? = some (.cells (coL c q d).toArray 33 (0, 0))) : w.rangeAt X 0 (coL c q d) :=
  range_of (n := 45) rfl (fun j _ => by rw [Nat.zero_add, block_cells h, List.getElem?_toArray])
theorem b13_len {l : List MsX} (h : l.map MsX.m = (b13 16).out) : l.length = 2 := by
  have h2 := congrArg List.length h
  rw [List.length_map] at h2
  rw [h2]; exact cand3_out
set_option maxRecDepth 100000 in
set_option maxHeartbeats 16000000 in
theorem begun13_any (w : World) (hT : Tab w) : Calls Tryz.prog 7 #[] w fun e w' => e = .returned (.bool true) ∧ Below w.heap.size w w' := by
  have HT := Lib.hid hT
  clear hT
  go_enter Tryz.func7, Tryz.ntmps7
  go_wp2_with fail
  refine (three_any w).mono ?_; rintro e w1 ⟨rfl, b1⟩
  have HB1 := Lib.hid b1
  clear b1
  go_wp2_with fail
  refine (show Calls Tryz.prog 29 #[.int .i64 1, .agg (jnL j3).toArray] w1 _ from hcnew_any 1 j3 w1).mono ?_; rintro e w2 ⟨rfl, b2⟩
  have HB2 := Lib.hid (HB1.out.trans (b2.mono HB1.out.size))
  clear b2 HB1
  go_upto_region 2 with (with_reducible refine wpList_store_new (op := ⟨none, .store 33 _ _, _, _, _, _⟩) rfl _ _ _ rfl _ (coL (newCo 1 j3) none 0).toArray rfl rfl (by kernel_rfl) rfl (one_all rfl) ?_)
  obtain ⟨w3, hw⟩ : ∃ z : World, w2.alloc (.cells (coL (newCo 1 j3) none 0).toArray 33) = z := ⟨_, rfl⟩
  have b3 : Below w2.heap.size w2 w3 := by rw [← hw]; exact (Below.refl _ _).alloc (Nat.le_refl _) _
  have hC : w3.heap[w2.heap.size]? = some (.cells (coL (newCo 1 j3) none 0).toArray 33 (0, 0)) := by rw [← hw]; exact heap_last w2 _
  (try rw [hw])
  obtain ⟨C, eC⟩ : ∃ z, w2.heap.size = z := ⟨_, rfl⟩
  (try rw [eC])
  rw [eC] at hC
  have HB3 := Lib.hid (HB2.out.trans (b3.mono HB2.out.size))
  have HC3 := Lib.hid hC
  have HCW := Lib.hid (show w.heap.size ≤ C from by rw [← eC]; exact HB2.out.size)
  clear hw b3 hC eC HB2
  go_wp2_with fail
  go_loopw [2, 3] (fun v i wr => ∃ n : Nat, n ≤ 16 ∧ i = .int .i64 n ∧ Hid (∃ p d l, l.map MsX.m = (b13 n).out ∧ MsAt w.heap.size wr v l ∧ wr.heap[C]? = some (.cells (coL (b13 n).c p d).toArray 33 (0, 0)) ∧ CoOwn w.heap.size wr ⟨(b13 n).c, p, d⟩ ∧ Below w.heap.size w wr)) (fun _ i _ => 16 - (intOf i).toNat)
  case atStart => exact ⟨0, by omega, rfl, Lib.hid ⟨none, 0, [], rfl, MsAt.nil _ _, HC3.out, CoOwn.new _ _ _ _, HB3.out⟩⟩
  case round =>
    obtain ⟨n, hn, rfl, HR⟩ := hrel
    obtain ⟨wk, rfl⟩ : ∃ wk : World, wk = wr := ⟨_, rfl⟩
    obtain ⟨p, d, l, hl, hM, hC, hO, hB⟩ := HR.out
    have HP := Lib.hid (show Calls Tryz.prog 23 #[.int .i64 1] wk fun e w' => e = .returned (.int .i64 16) ∧ wk = w' from patience_any 1 wk (by decide) (by decide))
    have HRG := Lib.hid (core_range hC)
    have HTH := fun (wz : World) (hb : Below wk.heap.size wk wz) => there_of_block (o := 0) (n := 45) (below_block hb (block_lt hC) hC) (Nat.le_of_ble_eq_true rfl)
    by_cases h16 : n < 16
    · have hd : decide ((n : Int) < 16) = true := by simp; omega
      have HTK := Lib.hid (show Calls Tryz.prog 19 #[.agg (coL (b13 n).c p d).toArray] wk (CoEnd wk (b13 (n + 1))) from by
        have h1 := tick_any 5 (b13 n).c p d wk (b13_fit _ _) (by rw [(b13_tm h16).1]; omega) (by rw [(b13_tm h16).2]; omega) (by decide) (HT.out.keep hB) (EnSl.of_own hO)
        rw [b13_tick h16] at h1; exact h1)
      have HC := Lib.hid hC; have HB := Lib.hid hB; have HTG := Lib.hid HTH
      clear hl hM hC hO hB HTH HR
      go_wp2_with fail
      refine HP.out.mono ?_; rintro e w4 ⟨rfl, rfl⟩
      go_wp2_with (with_reducible refine wpList_load_mid (op := ⟨some 14, _, _, _, _, _⟩) rfl _ _ rfl C 0 rfl (coL (b13 n).c p d) _ HRG.out Tryz.underlying33 rfl (by kernel_rfl) ?_)
      refine HTK.out.mono ?_; rintro e wz ⟨p9, d9, v9, l9, rfl, hl9, hO9, hM9, -, hb9⟩
      obtain ⟨c9, hc9⟩ : ∃ c9, (b13 (n + 1)).c = c9 := ⟨_, rfl⟩
      rw [hc9] at hO9
      have hCz := below_block hb9 (block_lt HC.out) HC.out
      have HTZ := Lib.hid (HTG.out wz hb9)
      have HO : Hid (∃ p d l, l.map MsX.m = (b13 (n + 1)).out ∧ MsAt w.heap.size (wz.setCells C 0 (coL c9 p9 d9)) v9 l ∧ (wz.setCells C 0 (coL c9 p9 d9)).heap[C]? = some (.cells (coL (b13 (n + 1)).c p d).toArray 33 (0, 0)) ∧ CoOwn w.heap.size (wz.setCells C 0 (coL c9 p9 d9)) ⟨(b13 (n + 1)).c, p, d⟩ ∧ Below w.heap.size w (wz.setCells C 0 (coL c9 p9 d9))) := by
        rw [hc9]
        exact ⟨p9, d9, l9, hl9, (hM9.mono HB.out.size).grown hCz (by decide) (by decide) (block_setCells (coL c9 p9 d9) 0 hCz).2, setCells_full (n := 45) (vs := (coL c9 p9 d9).toArray) hCz rfl rfl, store_own _ (own_baseC hO9 HB.out.size) hCz, store_below _ (HB.out.trans (hb9.mono HB.out.size)) hCz HCW.out⟩
      rw [hc9]
      clear hl9 hO9 hM9 hb9 hCz hc9 HTK
      go_wp2_with (with_reducible refine wpList_store_at (op := ⟨none, .store 33 _ _, _, _, _, _⟩) rfl _ _ _ rfl C 0 45 (coL c9 p9 d9).toArray (by kernel_rfl) rfl rfl HTZ.out (by kernel_rfl) (one_all rfl) ?_)
      go_roundw
      case rel => exact ⟨n + 1, by omega, by go_num, HO⟩
      case measure => simp [intOf]; omega
    · obtain rfl : n = 16 := by omega
      have hd : decide (((16 : Nat) : Int) < 16) = false := by decide
      have hlen := b13_len hl
      obtain ⟨pv, cv, rfl⟩ := own_formH hM.own
      obtain ⟨cc, hcc⟩ : ∃ cc, (b13 16).c = cc := ⟨_, rfl⟩
      have hro : cc.role = 1 := by rw [← hcc]; rfl
      have hst : (stepB cc mV3).c.role = 2 ∧ (stepB cc mV3).out.length = 2 := by rw [← hcc]; exact step3
      have hfc : CoFit 5 cc := by rw [← hcc]; exact b13_fit 16 5
      rw [hcc] at hC hO HRG
      obtain ⟨A, hA⟩ : ∃ A, stepB cc mV3 = A := ⟨_, rfl⟩
      have HST := Lib.hid (show Calls Tryz.prog 12 #[.agg (coL cc p d).toArray, .agg (msC mV3 none 0).toArray] wk (CoEnd wk A) from by
        have h1 := step2_any 5 cc p d mV3 none 0 wk rfl hfc (by decide) (HT.out.keep hB) (EnSl.of_own hO) (EnSl.of_own (B := 0) (e := 47) ⟨rfl, .inl ⟨rfl, rfl⟩⟩) (by decide) (fun e h => by cases h) jnF0
        rw [hA] at h1; exact h1)
      rw [hA] at hst
      have HC := Lib.hid hC; have HB := Lib.hid hB; have HRO := Lib.hid hro; have HS2 := Lib.hid hst
      rw [hlen]
      clear hl hM hC hO hB HTH HR hcc hro hst hfc hA hlen
      go_wp2_with fail
      refine HP.out.mono ?_; rintro e w4 ⟨rfl, rfl⟩
      go_wp2_with (with_reducible refine wpList_load_mid (op := ⟨some 19, _, _, _, _, _⟩) rfl _ _ rfl C 0 rfl (coL cc p d) _ HRG.out Tryz.underlying33 rfl (by kernel_rfl) ?_)
      refine HST.out.mono ?_; rintro e wz ⟨p9, d9, v9, l9, rfl, hl9, hO9, hM9, -, hb9⟩
      obtain ⟨c9, hc9⟩ : ∃ c9, A.c = c9 := ⟨_, rfl⟩
      have hlen9 : l9.length = 2 := by have := congrArg List.length hl9; rw [List.length_map] at this; rw [this]; exact HS2.out.2
      have hro9 : c9.role = 2 := by rw [← hc9]; exact HS2.out.1
      obtain ⟨pw, cw, rfl⟩ := own_formH hM9.own
      rw [hc9, hlen9]
      have hCz := below_block hb9 (block_lt HC.out) HC.out
      have HCZ := Lib.hid hCz; have HBZ := Lib.hid (HB.out.trans (hb9.mono HB.out.size)); have HR9 := Lib.hid hro9
      clear hlen9 hl9 hO9 hM9 hb9 hc9 hCz hro9
      go_upto_region 8 with (with_reducible refine wpList_store_new (op := ⟨none, .store 33 _ _, _, _, _, _⟩) rfl _ _ _ rfl _ (coL c9 p9 d9).toArray rfl rfl (by kernel_rfl) rfl (one_all rfl) ?_)
      obtain ⟨w5, hw⟩ : ∃ z : World, wz.alloc (.cells (coL c9 p9 d9).toArray 33) = z := ⟨_, rfl⟩
      have b5 : Below wz.heap.size wz w5 := by rw [← hw]; exact (Below.refl _ _).alloc (Nat.le_refl _) _
      have hD : w5.heap[wz.heap.size]? = some (.cells (coL c9 p9 d9).toArray 33 (0, 0)) := by rw [← hw]; exact heap_last wz _
      (try rw [hw])
      have hc5 := below_block b5 (block_lt HCZ.out) HCZ.out
      have kC1 : w5.cell? ⟨C, 1, none⟩ = some (.int .i64 1) := by rw [← HRO.out]; exact block_cells hc5 1
      have kD1 : w5.cell? ⟨wz.heap.size, 1, none⟩ = some (.int .i64 2) := by rw [← HR9.out]; exact block_cells hD 1
      have HB5 := Lib.hid (HBZ.out.trans (b5.mono HBZ.out.size))
      clear hw b5 hD hc5
      go_wp2_with fail
      go_ret
      exact ⟨rfl, HB5.out⟩
end Go.Proofs.YtbnndbdnejfehaaGreatDoor
/- Hard: is a core not too great? -/
namespace Go.Proofs.YtbnndbdnejfehaaGreatDoor
open Go.ChangeShapes Go.WideShapes Go.ChangeAt Go.RowKit

def lightC (c : Co) : Bool := lightB c.l [] && decide (c.sn.size ≤ 300)
set_option maxRecDepth 100000 in
set_option maxHeartbeats 4000000 in
theorem light13_any (c : Co) (p : Option Addr) (k : Nat) (w : World) (hE : EnSl w (.slice p c.l.es.length k) c.l.es) :
    Calls Tryz.prog 8 #[.agg #[.int .i64 c.id, .int .i64 c.role, .int .i64 c.tm, .int .i64 c.vt, .int .i64 c.ld, .int .i64 c.wt, .int .i64 c.cm, .int .i64 c.sf, .int .i64 c.l.b, .int .i64 c.l.bt, .int .u16 c.l.j.ov, .int .u16 c.l.j.ox, .int .u16 c.l.j.ol, .int .i64 c.l.j.oe, .int .i64 c.l.j.ok, .int .u16 c.l.j.nv, .int .u16 c.l.j.nx, .int .u16 c.l.j.nl, .int .i64 c.l.j.ne, .int .i64 c.l.j.nk, .bool c.l.j.two, .slice p c.l.es.length k, .string c.sn, .int .u16 c.vs, .int .u16 c.hd, .int .i64 (c.nx 0), .int .i64 (c.nx 1), .int .i64 (c.nx 2), .int .i64 (c.nx 3), .int .i64 (c.nx 4), .int .i64 (c.nx 5), .int .i64 (c.nx 6), .int .i64 (c.nx 7), .int .i64 (c.nx 8), .int .i64 (c.nx 9), .int .i64 (c.mt 0), .int .i64 (c.mt 1), .int .i64 (c.mt 2), .int .i64 (c.mt 3), .int .i64 (c.mt 4), .int .i64 (c.mt 5), .int .i64 (c.mt 6), .int .i64 (c.mt 7), .int .i64 (c.mt 8), .int .i64 (c.mt 9)]] w fun e w' => e = .returned (.bool (lightC c)) ∧ Below w.heap.size w w' := by
  obtain ⟨W, hW⟩ : ∃ x : World, w.alloc (.cells #[.int .i64 c.id, .int .i64 c.role, .int .i64 c.tm, .int .i64 c.vt, .int .i64 c.ld, .int .i64 c.wt, .int .i64 c.cm, .int .i64 c.sf, .int .i64 c.l.b, .int .i64 c.l.bt, .int .u16 c.l.j.ov, .int .u16 c.l.j.ox, .int .u16 c.l.j.ol, .int .i64 c.l.j.oe, .int .i64 c.l.j.ok, .int .u16 c.l.j.nv, .int .u16 c.l.j.nx, .int .u16 c.l.j.nl, .int .i64 c.l.j.ne, .int .i64 c.l.j.nk, .bool c.l.j.two, .slice p c.l.es.length k, .string c.sn, .int .u16 c.vs, .int .u16 c.hd, .int .i64 (c.nx 0), .int .i64 (c.nx 1), .int .i64 (c.nx 2), .int .i64 (c.nx 3), .int .i64 (c.nx 4), .int .i64 (c.nx 5), .int .i64 (c.nx 6), .int .i64 (c.nx 7), .int .i64 (c.nx 8), .int .i64 (c.nx 9), .int .i64 (c.mt 0), .int .i64 (c.mt 1), .int .i64 (c.mt 2), .int .i64 (c.mt 3), .int .i64 (c.mt 4), .int .i64 (c.mt 5), .int .i64 (c.mt 6), .int .i64 (c.mt 7), .int .i64 (c.mt 8), .int .i64 (c.mt 9)] 33) = x := ⟨_, rfl⟩
  have hb : Below w.heap.size w W := by rw [← hW]; exact (Below.refl _ _).alloc (Nat.le_refl _) _
  have hA : W.heap[w.heap.size]? = some (.cells #[.int .i64 c.id, .int .i64 c.role, .int .i64 c.tm, .int .i64 c.vt, .int .i64 c.ld, .int .i64 c.wt, .int .i64 c.cm, .int .i64 c.sf, .int .i64 c.l.b, .int .i64 c.l.bt, .int .u16 c.l.j.ov, .int .u16 c.l.j.ox, .int .u16 c.l.j.ol, .int .i64 c.l.j.oe, .int .i64 c.l.j.ok, .int .u16 c.l.j.nv, .int .u16 c.l.j.nx, .int .u16 c.l.j.nl, .int .i64 c.l.j.ne, .int .i64 c.l.j.nk, .bool c.l.j.two, .slice p c.l.es.length k, .string c.sn, .int .u16 c.vs, .int .u16 c.hd, .int .i64 (c.nx 0), .int .i64 (c.nx 1), .int .i64 (c.nx 2), .int .i64 (c.nx 3), .int .i64 (c.nx 4), .int .i64 (c.nx 5), .int .i64 (c.nx 6), .int .i64 (c.nx 7), .int .i64 (c.nx 8), .int .i64 (c.nx 9), .int .i64 (c.mt 0), .int .i64 (c.mt 1), .int .i64 (c.mt 2), .int .i64 (c.mt 3), .int .i64 (c.mt 4), .int .i64 (c.mt 5), .int .i64 (c.mt 6), .int .i64 (c.mt 7), .int .i64 (c.mt 8), .int .i64 (c.mt 9)] 33 (0, 0)) := by rw [← hW]; exact heap_last w _
  have HC := Lib.hid (light_any c.l p k [] none 0 W (hE.keep hb (Nat.le_refl _)) ⟨rfl, .inl ⟨rfl, rfl⟩⟩)
  have HB := Lib.hid hb; have HA := Lib.hid hA
  have HW := Lib.hid hW
  have kA := block_cells hA
  clear hE hb hA hW
  go_enter Tryz.func8, Tryz.ntmps8
  go_upto_region 1 with fail
  rw [HW.out]
  clear HW
  go_wp2_with fail
  refine HC.out.mono ?_; rintro e w1 ⟨rfl, b1⟩
  have HB1 := Lib.hid (HB.out.trans (b1.mono HB.out.size))
  have kB := block_cells (below_block b1 (block_lt HA.out) HA.out)
  have HL : Hid (lightC c = (lightB c.l [] && decide (c.sn.size ≤ 300))) := rfl
  clear kA b1
  have hu : undef = Value.tuple #[] := rfl
  cases hl : lightB c.l [] with
  | false =>
    rw [hl] at HL
    have HL2 := Lib.hid HL.out
    clear hl HL
    go_wp2_with fail
    go_ret
    exact ⟨by rw [HL2.out]; rfl, HB1.out⟩
  | true =>
    rw [hl] at HL
    have HL2 := Lib.hid HL.out
    clear hl HL
    by_cases hs : c.sn.size ≤ 300
    · have hd : decide ((c.sn.size : Int) ≤ 300) = true := by simp; omega
      have HD : Hid (decide (c.sn.size ≤ 300) = true) := by show _ = _; simpa using hs
      go_wp2_with fail
      go_ret
      exact ⟨by rw [HL2.out, HD.out]; rfl, HB1.out⟩
    · have hd : decide ((c.sn.size : Int) ≤ 300) = false := by simp; omega
      have HD : Hid (decide (c.sn.size ≤ 300) = false) := by show _ = _; simpa using hs
      go_wp2_with fail
      go_ret
      exact ⟨by rw [HL2.out, HD.out]; rfl, HB1.out⟩
end Go.Proofs.YtbnndbdnejfehaaGreatDoor
/- Wire: the reference's reader: its block. -/
namespace Go.Proofs.YtbnndbdnejfehaaGreatDoor
open Go.ChangeShapes Go.WideShapes Go.ChangeAt Go.RowKit

end Go.Proofs.YtbnndbdnejfehaaGreatDoor
/- Wire: the reference's reader: numbers, counts. -/
namespace Go.Proofs.YtbnndbdnejfehaaGreatDoor
open Go.ChangeShapes Go.WideShapes Go.ChangeAt Go.RowKit

end Go.Proofs.YtbnndbdnejfehaaGreatDoor
/- Wire: the reference's reader: texts. -/
namespace Go.Proofs.YtbnndbdnejfehaaGreatDoor
open Go.ChangeShapes Go.WideShapes Go.ChangeAt Go.RowKit

end Go.Proofs.YtbnndbdnejfehaaGreatDoor
/- Wire: the reference's reader: bytes. -/
namespace Go.Proofs.YtbnndbdnejfehaaGreatDoor
open Go.ChangeShapes Go.WideShapes Go.ChangeAt Go.RowKit

end Go.Proofs.YtbnndbdnejfehaaGreatDoor
/- Wire: the reference's reader: truths. -/
namespace Go.Proofs.YtbnndbdnejfehaaGreatDoor
open Go.ChangeShapes Go.WideShapes Go.ChangeAt Go.RowKit

end Go.Proofs.YtbnndbdnejfehaaGreatDoor
/- Wire: the reference's reader: stamps. -/
namespace Go.Proofs.YtbnndbdnejfehaaGreatDoor
open Go.ChangeShapes Go.WideShapes Go.ChangeAt Go.RowKit

end Go.Proofs.YtbnndbdnejfehaaGreatDoor
/- Wire: the reference's reader: attempts. -/
namespace Go.Proofs.YtbnndbdnejfehaaGreatDoor
open Go.ChangeShapes Go.WideShapes Go.ChangeAt Go.RowKit

end Go.Proofs.YtbnndbdnejfehaaGreatDoor
/- Wire: the reference's reader: outcomes. -/
namespace Go.Proofs.YtbnndbdnejfehaaGreatDoor
open Go.ChangeShapes Go.WideShapes Go.ChangeAt Go.RowKit

end Go.Proofs.YtbnndbdnejfehaaGreatDoor
/- Wire: the reference's reader: cells. -/
namespace Go.Proofs.YtbnndbdnejfehaaGreatDoor
open Go.ChangeShapes Go.WideShapes Go.ChangeAt Go.RowKit

/-- A list as it is read: in the cell of a block, in a row of the call's own. -/
structure LsF {α : Type} (R g base : Nat) (w0 wS : World) (cs : Value → Array Value) (tc te : TypeId) (size : Nat) (row : List α → List Value) (acc : List α) (w : World) : Prop where
  ex : ∃ v, w.heap[g]? = some (.cells (cs v) tc (0, 0)) ∧ w.ownsRow base te size v acc.length (row acc)
  b : w0.grownBy w (some R)
  z : base ≤ w.heap.size
  k : KpB base R g wS w
end Go.Proofs.YtbnndbdnejfehaaGreatDoor
/- Wire: what the reference's reading of a command, a state tells; what was read can be written. -/
namespace Go.Proofs.YtbnndbdnejfehaaGreatDoor

end Go.Proofs.YtbnndbdnejfehaaGreatDoor
/- Wire: the reference's TakeCmd. -/
namespace Go.Proofs.YtbnndbdnejfehaaGreatDoor
open Go.ChangeShapes Go.WideShapes Go.ChangeAt Go.RowKit

end Go.Proofs.YtbnndbdnejfehaaGreatDoor
/- Wire: the reference's TakeJoint. -/
namespace Go.Proofs.YtbnndbdnejfehaaGreatDoor
open Go.ChangeShapes Go.WideShapes Go.ChangeAt Go.RowKit

end Go.Proofs.YtbnndbdnejfehaaGreatDoor
/- Hard: the reference's steps of reading; entries up to a number. -/
namespace Go.Proofs.YtbnndbdnejfehaaGreatDoor
open Go.ChangeShapes Go.WideShapes Go.ChangeAt Go.RowKit

end Go.Proofs.YtbnndbdnejfehaaGreatDoor
/- Hard: the reference's entries up to a number. -/
namespace Go.Proofs.YtbnndbdnejfehaaGreatDoor
open Go.ChangeShapes Go.WideShapes Go.ChangeAt Go.RowKit

end Go.Proofs.YtbnndbdnejfehaaGreatDoor
/- Hard: what a record says to a core, the document's: letters H, X, and none. -/
namespace Go.Proofs.YtbnndbdnejfehaaGreatDoor
open Go.ChangeShapes Go.WideShapes Go.ChangeAt Go.RowKit

end Go.Proofs.YtbnndbdnejfehaaGreatDoor
/- Hard: what a record says to a core, the document's: letter S. -/
namespace Go.Proofs.YtbnndbdnejfehaaGreatDoor
open Go.ChangeShapes Go.WideShapes Go.ChangeAt Go.RowKit

end Go.Proofs.YtbnndbdnejfehaaGreatDoor
/- Hard: what a record says to a core, the document's: letter E. -/
namespace Go.Proofs.YtbnndbdnejfehaaGreatDoor
open Go.ChangeShapes Go.WideShapes Go.ChangeAt Go.RowKit

structure TuO (B R X : Nat) (y : CoX) (w : World) (v : Value) (L : List Ent) : Prop where
  own : w.ownsRow B 47 14 v L.length (entRow L)
  gt : ∀ b, v.ownBlock = some b → X < b
  gr : ∀ b, v.ownBlock = some b → R < b
  ap : (Value.slice y.p y.c.l.es.length y.k).ownBlock = none ∨ (Value.slice y.p y.c.l.es.length y.k).ownBlock ≠ v.ownBlock
theorem TuO.keep {B R X : Nat} {y : CoX} {w w' : World} {v : Value} {L : List Ent} (h : TuO B R X y w v L) (hb : Below w.heap.size w w') : TuO B R X y w' v L := ⟨own_keptC h.own hb, h.gt, h.gr, h.ap⟩
end Go.Proofs.YtbnndbdnejfehaaGreatDoor
/- Hard: what a record says to a core, the document's: letter E, with a joint. -/
namespace Go.Proofs.YtbnndbdnejfehaaGreatDoor
open Go.ChangeShapes Go.WideShapes Go.ChangeAt Go.RowKit

end Go.Proofs.YtbnndbdnejfehaaGreatDoor
/- Hard: what a record says to a core, the document's, whatever the letter; a new core. -/
namespace Go.Proofs.YtbnndbdnejfehaaGreatDoor
open Go.ChangeShapes Go.WideShapes Go.ChangeAt Go.RowKit

end Go.Proofs.YtbnndbdnejfehaaGreatDoor
/- Hard: a string's first byte; a row of strings; a row of cores apart. -/
namespace Go.Proofs.YtbnndbdnejfehaaGreatDoor
open Go.ChangeShapes Go.WideShapes Go.ChangeAt Go.RowKit

/-- A list of strings. -/
def SrAt (B : Nat) (w : World) (q : Option Addr) (L : List ByteArray) : Prop := ∀ k, (hk : k < L.length) → ∃ g o, q = some ⟨g, o, none⟩ ∧ g < B ∧ w.cell? ⟨g, o + k, none⟩ = some (.string L[k])
theorem SrAt.keep {B : Nat} {w w' : World} {q : Option Addr} {L : List ByteArray} (h : SrAt B w q L) (hb : Below B w w') : SrAt B w' q L := fun k hk => by
  obtain ⟨g, o, e, hg, hc⟩ := h k hk
  exact ⟨g, o, e, hg, (hb.cell (p := ⟨g, o + k, none⟩) hg).trans hc⟩
theorem CsAt.range {base : Nat} {w : World} {g cap : Nat} {l : List CoX} (h : CsAt base w (.slice (some ⟨g, 0, none⟩) l.length cap) l) {n : Nat} (hn : n < l.length) : w.rangeAt g (n * 45) l[n].v := range_of (n := 45) rfl (fun j hj => h.cell hn j hj)
end Go.Proofs.YtbnndbdnejfehaaGreatDoor
/- Hard: an array of ten numbers is equal to itself. -/
namespace Go.Proofs.YtbnndbdnejfehaaGreatDoor
open Go.ChangeShapes Go.WideShapes Go.ChangeAt Go.RowKit

set_option maxRecDepth 100000 in
theorem eq_ten (a b c d e f g h i j : Int) (w : World) : (Op.equalIn 10000 31 (.agg #[.int .i64 a, .int .i64 b, .int .i64 c, .int .i64 d, .int .i64 e, .int .i64 f, .int .i64 g, .int .i64 h, .int .i64 i, .int .i64 j]) (.agg #[.int .i64 a, .int .i64 b, .int .i64 c, .int .i64 d, .int .i64 e, .int .i64 f, .int .i64 g, .int .i64 h, .int .i64 i, .int .i64 j])).run Tryz.prog w = .ok true w := by
  have hi0 : (Tryz.prog.info? 3).isSome = true := by kernel_rfl
  obtain ⟨x, hx⟩ := Option.isSome_iff_exists.1 hi0
  rw [run_equalIn_array (P := Tryz.prog) w 9999 _ _ Tryz.underlying31 hx]
  have hc : Tryz.prog.cellsOf 3 = 1 := by kernel_rfl
  rw [hc, show List.range 10 = [0, 1, 2, 3, 4, 5, 6, 7, 8, 9] from rfl]
  simp only [Op.eqItems]
  go_simp
end Go.Proofs.YtbnndbdnejfehaaGreatDoor
/- Hard: two equal cores are the same (the reference's Same). -/
namespace Go.Proofs.YtbnndbdnejfehaaGreatDoor
open Go.ChangeShapes Go.WideShapes Go.ChangeAt Go.RowKit

set_option maxRecDepth 100000 in
set_option maxHeartbeats 16000000 in
theorem rsame13_any (c : Co) (p q : Option Addr) (k d : Nat) (w : World) (hl : c.l.es.length ≤ 1000000) (h1 : EnSl w (.slice p c.l.es.length k) c.l.es) (h2 : EnSl w (.slice q c.l.es.length d) c.l.es) :
    Calls Tryz.prog 14 #[.agg #[.int .i64 c.id, .int .i64 c.role, .int .i64 c.tm, .int .i64 c.vt, .int .i64 c.ld, .int .i64 c.wt, .int .i64 c.cm, .int .i64 c.sf, .int .i64 c.l.b, .int .i64 c.l.bt, .int .u16 c.l.j.ov, .int .u16 c.l.j.ox, .int .u16 c.l.j.ol, .int .i64 c.l.j.oe, .int .i64 c.l.j.ok, .int .u16 c.l.j.nv, .int .u16 c.l.j.nx, .int .u16 c.l.j.nl, .int .i64 c.l.j.ne, .int .i64 c.l.j.nk, .bool c.l.j.two, .slice p c.l.es.length k, .string c.sn, .int .u16 c.vs, .int .u16 c.hd, .int .i64 (c.nx 0), .int .i64 (c.nx 1), .int .i64 (c.nx 2), .int .i64 (c.nx 3), .int .i64 (c.nx 4), .int .i64 (c.nx 5), .int .i64 (c.nx 6), .int .i64 (c.nx 7), .int .i64 (c.nx 8), .int .i64 (c.nx 9), .int .i64 (c.mt 0), .int .i64 (c.mt 1), .int .i64 (c.mt 2), .int .i64 (c.mt 3), .int .i64 (c.mt 4), .int .i64 (c.mt 5), .int .i64 (c.mt 6), .int .i64 (c.mt 7), .int .i64 (c.mt 8), .int .i64 (c.mt 9)], .agg #[.int .i64 c.id, .int .i64 c.role, .int .i64 c.tm, .int .i64 c.vt, .int .i64 c.ld, .int .i64 c.wt, .int .i64 c.cm, .int .i64 c.sf, .int .i64 c.l.b, .int .i64 c.l.bt, .int .u16 c.l.j.ov, .int .u16 c.l.j.ox, .int .u16 c.l.j.ol, .int .i64 c.l.j.oe, .int .i64 c.l.j.ok, .int .u16 c.l.j.nv, .int .u16 c.l.j.nx, .int .u16 c.l.j.nl, .int .i64 c.l.j.ne, .int .i64 c.l.j.nk, .bool c.l.j.two, .slice q c.l.es.length d, .string c.sn, .int .u16 c.vs, .int .u16 c.hd, .int .i64 (c.nx 0), .int .i64 (c.nx 1), .int .i64 (c.nx 2), .int .i64 (c.nx 3), .int .i64 (c.nx 4), .int .i64 (c.nx 5), .int .i64 (c.nx 6), .int .i64 (c.nx 7), .int .i64 (c.nx 8), .int .i64 (c.nx 9), .int .i64 (c.mt 0), .int .i64 (c.mt 1), .int .i64 (c.mt 2), .int .i64 (c.mt 3), .int .i64 (c.mt 4), .int .i64 (c.mt 5), .int .i64 (c.mt 6), .int .i64 (c.mt 7), .int .i64 (c.mt 8), .int .i64 (c.mt 9)]] w fun r w' => r = .returned (.bool true) ∧ Below w.heap.size w w' := by
  obtain ⟨W0, hW0⟩ : ∃ z : World, w.alloc (.cells #[.int .i64 c.id, .int .i64 c.role, .int .i64 c.tm, .int .i64 c.vt, .int .i64 c.ld, .int .i64 c.wt, .int .i64 c.cm, .int .i64 c.sf, .int .i64 c.l.b, .int .i64 c.l.bt, .int .u16 c.l.j.ov, .int .u16 c.l.j.ox, .int .u16 c.l.j.ol, .int .i64 c.l.j.oe, .int .i64 c.l.j.ok, .int .u16 c.l.j.nv, .int .u16 c.l.j.nx, .int .u16 c.l.j.nl, .int .i64 c.l.j.ne, .int .i64 c.l.j.nk, .bool c.l.j.two, .slice p c.l.es.length k, .string c.sn, .int .u16 c.vs, .int .u16 c.hd, .int .i64 (c.nx 0), .int .i64 (c.nx 1), .int .i64 (c.nx 2), .int .i64 (c.nx 3), .int .i64 (c.nx 4), .int .i64 (c.nx 5), .int .i64 (c.nx 6), .int .i64 (c.nx 7), .int .i64 (c.nx 8), .int .i64 (c.nx 9), .int .i64 (c.mt 0), .int .i64 (c.mt 1), .int .i64 (c.mt 2), .int .i64 (c.mt 3), .int .i64 (c.mt 4), .int .i64 (c.mt 5), .int .i64 (c.mt 6), .int .i64 (c.mt 7), .int .i64 (c.mt 8), .int .i64 (c.mt 9)] 33) = z := ⟨_, rfl⟩
  obtain ⟨W, hW⟩ : ∃ z : World, W0.alloc (.cells #[.int .i64 c.id, .int .i64 c.role, .int .i64 c.tm, .int .i64 c.vt, .int .i64 c.ld, .int .i64 c.wt, .int .i64 c.cm, .int .i64 c.sf, .int .i64 c.l.b, .int .i64 c.l.bt, .int .u16 c.l.j.ov, .int .u16 c.l.j.ox, .int .u16 c.l.j.ol, .int .i64 c.l.j.oe, .int .i64 c.l.j.ok, .int .u16 c.l.j.nv, .int .u16 c.l.j.nx, .int .u16 c.l.j.nl, .int .i64 c.l.j.ne, .int .i64 c.l.j.nk, .bool c.l.j.two, .slice q c.l.es.length d, .string c.sn, .int .u16 c.vs, .int .u16 c.hd, .int .i64 (c.nx 0), .int .i64 (c.nx 1), .int .i64 (c.nx 2), .int .i64 (c.nx 3), .int .i64 (c.nx 4), .int .i64 (c.nx 5), .int .i64 (c.nx 6), .int .i64 (c.nx 7), .int .i64 (c.nx 8), .int .i64 (c.nx 9), .int .i64 (c.mt 0), .int .i64 (c.mt 1), .int .i64 (c.mt 2), .int .i64 (c.mt 3), .int .i64 (c.mt 4), .int .i64 (c.mt 5), .int .i64 (c.mt 6), .int .i64 (c.mt 7), .int .i64 (c.mt 8), .int .i64 (c.mt 9)] 33) = z := ⟨_, rfl⟩
  have hs0 : W0.heap.size = w.heap.size + 1 := by rw [← hW0]; simp
  have b0 : Below w.heap.size w W0 := by rw [← hW0]; exact (Below.refl _ _).alloc (Nat.le_refl _) _
  have b1 : Below W0.heap.size W0 W := by rw [← hW]; exact (Below.refl _ _).alloc (Nat.le_refl _) _
  have bW := b0.trans (b1.mono b0.size)
  have HS := Lib.hid (same_any c.l c.l p q k d W hl hl (h1.keep bW (Nat.le_refl _)) (h2.keep bW (Nat.le_refl _)))
  rw [decide_eq_true (rfl : c.l = c.l)] at HS
  have HB := Lib.hid bW
  clear hs0 b0 b1 bW h1 h2
  subst hW; subst hW0
  have E1 := fun w => eq_ten (c.nx 0) (c.nx 1) (c.nx 2) (c.nx 3) (c.nx 4) (c.nx 5) (c.nx 6) (c.nx 7) (c.nx 8) (c.nx 9) w
  have E2 := fun w => eq_ten (c.mt 0) (c.mt 1) (c.mt 2) (c.mt 3) (c.mt 4) (c.mt 5) (c.mt 6) (c.mt 7) (c.mt 8) (c.mt 9) w
  go_enter Tryz.func14, Tryz.ntmps14
  go_wp2_with fail
  refine HS.out.mono ?_; rintro r w' ⟨rfl, hb⟩
  have HB2 := Lib.hid (HB.out.trans (hb.mono HB.out.size))
  clear hb HS HB
  go_wp2_with fail
  go_ret
  exact ⟨rfl, HB2.out⟩
end Go.Proofs.YtbnndbdnejfehaaGreatDoor
/- Core: any number of ticks: the law's walk. -/
namespace Go.Proofs.YtbnndbdnejfehaaGreatDoor
open Go.ChangeShapes Go.WideShapes Go.ChangeAt Go.RowKit

theorem light_parts {c : Co} (h : lightC c = true) : c.l.es.length ≤ 60 := by
  unfold lightC lightB smallB at h
  simp only [Bool.and_eq_true, decide_eq_true_eq, List.all_eq_true] at h
  exact h.1.1
/-- Both questions whether a core may be, with one answer. -/
theorem mays (c : Co) (hj : JoF (joX c.l.j)) (hjs : ∀ e ∈ c.l.es, JoF (joX e.j)) (hn : c.l.es.length ≤ 1000000) : ∃ b : Bool, (b = true ↔ CoMay c) ∧ (∀ (p : Option Addr) (k : Nat) (w : World), EnSl w (.slice p c.l.es.length k) c.l.es → Calls Tryz.prog 17 #[.agg (coL c p k).toArray] w fun r w' => r = .returned (.bool b) ∧ Below w.heap.size w w') ∧ (∀ (p : Option Addr) (k : Nat) (w : World), EnSl w (.slice p c.l.es.length k) c.l.es → Calls Tryz.prog 9 #[.agg (coL c p k).toArray] w fun r w' => r = .returned (.bool b) ∧ Below w.heap.size w w') := by
  obtain ⟨b, hb⟩ : ∃ b : Bool, b = true ↔ CoMay c := by
    by_cases h : CoMay c
    · exact ⟨true, fun _ => h, fun _ => rfl⟩
    · exact ⟨false, fun e => absurd e (by decide), fun e => absurd e h⟩
  have he : ∀ b2 : Bool, (b2 = true ↔ CoMay c) → b2 = b := fun b2 h => by
    cases b2 <;> cases b <;> simp_all
  refine ⟨b, hb, fun p k w hE => ?_, fun p k w hE => ?_⟩
  · refine (show Calls Tryz.prog 17 #[.agg (coL c p k).toArray] w _ from mayC_any c p k w hn hE).mono ?_
    rintro r w' ⟨⟨b2, rfl, h2⟩, h3⟩
    rw [he b2 h2]; exact ⟨rfl, h3⟩
  · refine (show Calls Tryz.prog 9 #[.agg (coL c p k).toArray] w _ from rmay13_j c p k w hj hjs hn hE).mono ?_
    rintro r w' ⟨⟨b2, rfl, h2⟩, h3⟩
    rw [he b2 h2]; exact ⟨rfl, h3⟩
theorem act_logC {X : Nat} {c : Co} {p : Option Addr} {k : Nat} {t : TypeId} {w : World} (h : w.heap[X]? = some (.cells (coL c p k).toArray t (0, 0))) : w.rangeAt X 8 [.int .i64 c.l.b, .int .i64 c.l.bt, .int .u16 c.l.j.ov, .int .u16 c.l.j.ox, .int .u16 c.l.j.ol, .int .i64 c.l.j.oe, .int .i64 c.l.j.ok, .int .u16 c.l.j.nv, .int .u16 c.l.j.nx, .int .u16 c.l.j.nl, .int .i64 c.l.j.ne, .int .i64 c.l.j.nk, .bool c.l.j.two, .slice p c.l.es.length k] := co_log ⟨block_cells h⟩
theorem log_range {X : Nat} {l : Lg} {p : Option Addr} {k : Nat} {t : TypeId} {w : World} (h : w.heap[X]? = some (.cells #[.int .i64 l.b, .int .i64 l.bt, .int .u16 l.j.ov, .int .u16 l.j.ox, .int .u16 l.j.ol, .int .i64 l.j.oe, .int .i64 l.j.ok, .int .u16 l.j.nv, .int .u16 l.j.nx, .int .u16 l.j.nl, .int .i64 l.j.ne, .int .i64 l.j.nk, .bool l.j.two, .slice p l.es.length k] t (0, 0))) : w.rangeAt X 0 [.int .i64 l.b, .int .i64 l.bt, .int .u16 l.j.ov, .int .u16 l.j.ox, .int .u16 l.j.ol, .int .i64 l.j.oe, .int .i64 l.j.ok, .int .u16 l.j.nv, .int .u16 l.j.nx, .int .u16 l.j.nl, .int .i64 l.j.ne, .int .i64 l.j.nk, .bool l.j.two, .slice p l.es.length k] :=
  range_of (n := 14) rfl (fun j _ => by rw [Nat.zero_add, block_cells h, List.getElem?_toArray])
set_option maxRecDepth 100000 in
set_option maxHeartbeats 16000000 in
theorem ticks_walk (c : Co) (p : Option Addr) (k : Nat) (n : Int) (w : World) (hT : Tab w) (vc : CoV c) (hn : In64 n) (hE : EnSl w (.slice p c.l.es.length k) c.l.es) :
    Calls Tryz.prog 5 #[.agg (coL c p k).toArray, .int .i64 n] w fun e w' => e = .returned (.bool true) ∧ Below w.heap.size w w' := by
  obtain ⟨R, hR, hPL⟩ := place13 n 40 hn (by decide) (by decide)
  have HPL := Lib.hid hPL
  have HT := Lib.hid hT; have HVC := Lib.hid vc; have HE := Lib.hid hE
  clear hT vc hE hPL hn
  go_enter Tryz.func5, Tryz.ntmps5
  obtain ⟨Q', hQ⟩ : ∃ Q', bodyPost Tryz.prog Tryz.f5 (fun e w' => e = .returned (.bool true) ∧ Below w.heap.size w w') = Q' := ⟨_, rfl⟩
  have HQ : Hid (∀ (a : Act) (w' : World), a.tmps.getD 4 undef = .bool true → a.defers = [] → Below w.heap.size w w' → Q' .ret a w') := fun a w' h6 hd hb => by
    rw [← hQ]; exact bodyPost_ret (v := .bool true) (by rw [results_tmp rfl, h6]) hd ⟨rfl, hb⟩
  rw [hQ]
  clear hQ
  go_upto_region 1 with fail
  obtain ⟨W, hW⟩ : ∃ z : World, w.alloc (.cells (coL c p k).toArray 33) = z := ⟨_, rfl⟩
  have b0 : Below w.heap.size w W := by rw [← hW]; exact (Below.refl _ _).alloc (Nat.le_refl _) _
  have hA : W.heap[w.heap.size]? = some (.cells (coL c p k).toArray 33 (0, 0)) := by rw [← hW]; exact heap_last w _
  rw [hW]
  obtain ⟨A, eA⟩ : ∃ z, w.heap.size = z := ⟨_, rfl⟩
  (try rw [eA])
  rw [eA] at hA
  have HEA0 := Lib.hid eA
  have HBW := Lib.hid b0
  have HBA := Lib.hid (show ∀ w', Below W.heap.size W w' → w'.heap[A]? = some (.cells (coL c p k).toArray 33 (0, 0)) from fun w' h => below_block h (block_lt hA) hA)
  have HRA := Lib.hid (show ∀ w', Below W.heap.size W w' → w'.rangeAt A 0 (coL c p k) from fun w' h => core_range (below_block h (block_lt hA) hA))
  have HEA := Lib.hid (show ∀ w', Below W.heap.size W w' → EnSl w' (.slice p c.l.es.length k) c.l.es from fun w' h => HE.out.keep (HBW.out.trans (h.mono HBW.out.size)) (Nat.le_refl _))
  have HTW := Lib.hid (show ∀ w', Below W.heap.size W w' → Tab w' from fun w' h => HT.out.keep (HBW.out.trans (h.mono HBW.out.size)))
  clear hW b0 hA eA HE
  go_wp2_with fail
  refine (begun13_any W (HTW.out W (Below.refl _ _))).mono ?_; rintro e w1 ⟨rfl, hb1⟩
  have hk1 : Below W.heap.size W w1 := hb1
  clear hb1
  cases hlo : lightC c with
  | false =>
    have HC := Lib.hid (show Calls Tryz.prog 8 #[.agg (coL c p k).toArray] w1 fun e w2 => e = .returned (.bool false) ∧ Below w1.heap.size w1 w2 from by have := light13_any c p k w1 (HEA.out w1 hk1); rw [hlo] at this; exact this)
    clear hlo
    go_wp2_with (with_reducible refine wpList_load_mid (op := ⟨some 13, _, _, _, _, _⟩) rfl _ _ rfl A 0 rfl (coL c p k) _ (HRA.out _ (by assumption)) Tryz.underlying33 rfl (by kernel_rfl) ?_)
    refine HC.out.mono ?_; rintro e w2 ⟨rfl, hb2⟩
    have HB2 := Lib.hid (HBW.out.trans ((hk1.trans (hb2.mono hk1.size)).mono HBW.out.size))
    clear hb2 HC
    go_wp2_with fail
    exact HQ.out _ _ rfl rfl HB2.out
  | true =>
  have HC := Lib.hid (show Calls Tryz.prog 8 #[.agg (coL c p k).toArray] w1 fun e w2 => e = .returned (.bool true) ∧ Below w1.heap.size w1 w2 from by have := light13_any c p k w1 (HEA.out w1 hk1); rw [hlo] at this; exact this)
  have HCN := Lib.hid (light_parts hlo)
  clear hlo
  go_wp2_with (with_reducible refine wpList_load_mid (op := ⟨some 13, _, _, _, _, _⟩) rfl _ _ rfl A 0 rfl (coL c p k) _ (HRA.out _ (by assumption)) Tryz.underlying33 rfl (by kernel_rfl) ?_)
  refine HC.out.mono ?_; rintro e w2 ⟨rfl, hb2⟩
  have hk2 : Below W.heap.size W w2 := hk1.trans (hb2.mono hk1.size)
  clear hb2 HC hk1
  obtain ⟨b, hb, hmc, hmr⟩ := mays c HVC.out.l.j (fun e he => (HVC.out.l.es e he).j) (by have := HCN.out; omega)
  have HMC := Lib.hid hmc; have HMR := Lib.hid hmr; have HBB := Lib.hid hb
  clear hmc hmr hb
  go_upto_region 5 with fail
  go_cut [20] from 16 to 20 (fun v wx => v = .bool false ∧ Below W.heap.size W wx)
  case first =>
    have h0 : Below W.heap.size W w2.drew := hk2.drew
    refine wp_region_noPanic ?_
    refine wp_region_held_drew (S := fun w' => Below W.heap.size W w') (by kernel_rfl) h0 (fun hHeld => ?_)
    obtain ⟨wd, ewd⟩ : ∃ x, w2.drew = x := ⟨_, rfl⟩
    rw [ewd] at h0 hHeld ⊢
    clear ewd
    refine tkH (i := 0) (v := .agg (coL c p k).toArray) rfl (yieldsIf_load_mid (by rfl) _ _ rfl A 0 rfl (coL c p k) _ HRA.out Tryz.underlying33 rfl (by kernel_rfl)) hHeld ?_
    try simp only [zA, zC, Act.put, zD, zE, zF]
    refine tkH (i := 2) (v := .agg (coL c p k).toArray) rfl (yieldsIf_load_mid (by rfl) _ _ rfl A 0 rfl (coL c p k) _ HRA.out Tryz.underlying33 rfl (by kernel_rfl)) hHeld ?_
    try simp only [zA, zB, zC, Act.put, zD, zE, zF]
    refine wpAnyH_ready (rs := [1]) (by kernel_rfl) (by simp) ?_; refine AllReadyH.cons rfl (fun K hK => ?_) AllReadyH.nil
    · try simp only [zA, zB, zC]
      go_simp
      refine (HMC.out p k wd (HEA.out wd h0)).mono ?_; rintro r w3 ⟨rfl, b3⟩
      have s3 := h0.trans (b3.mono h0.size)
      refine hK.out _ _ s3 (fun _ => ?_)
      clear hK K hHeld b3
      try simp only [zA, zB, zC, Act.put, zD, zE, zF]
      have hHeld := s3
      refine wpAnyH_ready (rs := [3]) (by kernel_rfl) (by simp) ?_; refine AllReadyH.cons rfl (fun K hK => ?_) AllReadyH.nil
      try simp only [zA, zB, zC]
      go_simp
      refine (HMR.out p k w3 (HEA.out w3 s3)).mono ?_; rintro r w4 ⟨rfl, b4⟩
      have s4 := s3.trans (b4.mono s3.size)
      refine hK.out _ _ s4 (fun _ => ?_)
      clear hK K hHeld b4
      try simp only [zA, zB, zC, Act.put, zD, zE, zF]
      have hHeld := s4
      refine tkL 4 rfl hHeld ?_
      try simp only [zA, zB, zC, Act.put, zD, zE, zF]
      refine wpAnyH_done (by kernel_rfl) ?_ _
      refine NoPanic.normal ?_
      go_wp2_with fail
      go_meet
      case rel => exact ⟨by simp, s4⟩
  case rest =>
    obtain ⟨rfl, hk5⟩ := hcut
    obtain ⟨w5, rfl⟩ : ∃ z : World, z = wc := ⟨_, rfl⟩
    have HB5 := Lib.hid (HBW.out.trans (hk5.mono HBW.out.size))
    have HM := Lib.hid (HMR.out p k w5 (HEA.out w5 hk5))
    clear HMC HMR hk2
    go_wp2_with (with_reducible refine wpList_load_mid (op := ⟨some 21, _, _, _, _, _⟩) rfl _ _ rfl A 0 rfl (coL c p k) _ (HRA.out _ (by assumption)) Tryz.underlying33 rfl (by kernel_rfl) ?_)
    refine HM.out.mono ?_; rintro e w6 ⟨rfl, hb6⟩
    have hk6 : Below W.heap.size W w6 := hk5.trans (hb6.mono hk5.size)
    have HB6 := Lib.hid (HBW.out.trans (hk6.mono HBW.out.size))
    clear hb6 HM hk5 HB5
    cases b with
    | false =>
      go_wp2_with fail
      exact HQ.out _ _ rfl rfl HB6.out
    | true =>
    have hmay := HBB.out.1 rfl
    have HS0 : Hid (∃ c p d, w6.heap[A]? = some (.cells (coL c p d).toArray 33 (0, 0)) ∧ EnSl w6 (.slice p c.l.es.length d) c.l.es ∧ CoFit (60 + 2 * 0) c ∧ CoMay c ∧ (0 ≤ c.hd ∧ c.hd ≤ 65535) ∧ Below w.heap.size w w6) :=
      ⟨c, p, k, HBA.out w6 hk6, HEA.out w6 hk6, fit_may hmay HCN.out (by decide) HVC.out.l.j (fun e he => (HVC.out.l.es e he).j), hmay, HVC.out.hd, HB6.out⟩
    have HTB := Lib.hid (show ∀ w', Below w.heap.size w w' → Tab w' from fun w' h => HT.out.keep h)
    clear hmay hk6 HB6 HBB HEA HRA HBA HTW HVC HCN HT
    have hu : undef = Value.tuple #[] := rfl
    go_wp2_with fail
    (try rw [← hu])
    clear hu
    go_loopw [5] (fun i wr => ∃ k : Nat, i = .int .i64 k ∧ k ≤ R + 1 ∧ Hid (∃ c p d, wr.heap[A]? = some (.cells (coL c p d).toArray 33 (0, 0)) ∧ EnSl wr (.slice p c.l.es.length d) c.l.es ∧ CoFit (60 + 2 * k) c ∧ CoMay c ∧ (0 ≤ c.hd ∧ c.hd ≤ 65535) ∧ Below w.heap.size w wr)) (fun i _ => R + 2 - (intOf i).toNat)
    case atStart => exact ⟨0, rfl, by omega, HS0⟩
    case round =>
      obtain ⟨k, rfl, hk, HR⟩ := hrel
      obtain ⟨wk, rfl⟩ : ∃ wk : World, wk = wr := ⟨_, rfl⟩
      obtain ⟨c, p, d, hC, hE, hF, hM, hd, hB⟩ := HR.out
      have HBA := Lib.hid (show ∀ w', Below wk.heap.size wk w' → w'.heap[A]? = some (.cells (coL c p d).toArray 33 (0, 0)) from fun w' h => below_block h (block_lt hC) hC)
      have HRA := Lib.hid (show ∀ w', Below wk.heap.size wk w' → w'.rangeAt A 0 (coL c p d) from fun w' h => core_range (below_block h (block_lt hC) hC))
      have HRL := Lib.hid (show ∀ w', Below wk.heap.size wk w' → w'.rangeAt A 8 [.int .i64 c.l.b, .int .i64 c.l.bt, .int .u16 c.l.j.ov, .int .u16 c.l.j.ox, .int .u16 c.l.j.ol, .int .i64 c.l.j.oe, .int .i64 c.l.j.ok, .int .u16 c.l.j.nv, .int .u16 c.l.j.nx, .int .u16 c.l.j.nl, .int .i64 c.l.j.ne, .int .i64 c.l.j.nk, .bool c.l.j.two, .slice p c.l.es.length d] from fun w' h => act_logC (below_block h (block_lt hC) hC))
      have HEA := Lib.hid (show ∀ w', Below wk.heap.size wk w' → EnSl w' (.slice p c.l.es.length d) c.l.es from fun w' h => hE.keep h (Nat.le_refl _))
      have HF := Lib.hid hF; have HM := Lib.hid hM; have HD := Lib.hid hd; have HB := Lib.hid hB
      have HKA := Lib.hid (show A < wk.heap.size from block_lt hC)
      clear hC hE hF hM hd hB HR HS0
      by_cases hle : (k : Int) ≤ (R : Int)
      · have hdl : decide ((k : Int) ≤ (R : Int)) = true := by simpa using hle
        have hk40 : k < 40 := by omega
        obtain ⟨A9, hA9⟩ : ∃ z, tickA c = z := ⟨_, rfl⟩
        have HF9 := fit_tick HF.out (by omega)
        have HD9 := tick_hd HD.out
        have HS9 := tick_es c
        rw [hA9] at HF9 HD9 HS9
        have HF9 := Lib.hid HF9; have HD9 := Lib.hid HD9; have HS9 := Lib.hid HS9
        have HTK := Lib.hid (show ∀ w', Below wk.heap.size wk w' → Calls Tryz.prog 19 #[.agg (coL c p d).toArray] w' (CoEnd w' A9) from fun w' h => by
          have h1 := tick_any (60 + 2 * k) c p d w' HF.out (by have := HM.out.tm0; have := HM.out.tm1; omega) (by have := HM.out.wt0; have := HM.out.wt1; omega) (by omega) (HTB.out w' (HB.out.trans (h.mono HB.out.size))) (HEA.out w' h)
          rw [hA9] at h1; exact h1)
        have HTR := Lib.hid (show ∀ w', Below wk.heap.size wk w' → Calls Tryz.prog 20 #[.agg (coL c p d).toArray] w' (CoEnd w' A9) from fun w' h => by
          have h1 := rtick_any (60 + 2 * k) c p d w' HF.out (by have := HM.out.tm0; have := HM.out.tm1; omega) (by have := HM.out.wt0; have := HM.out.wt1; omega) (by omega) HD.out (HEA.out w' h)
          rw [hA9] at h1; exact h1)
        have HCP := Lib.hid (copy_any c.l p d wk HF.out.lo.f.n (HEA.out wk (Below.refl _ _)))
        clear hA9
        go_wp2_with fail
        refine (HPL.out wk).mono ?_; rintro r w' ⟨rfl, rfl⟩
        go_wp2_with (with_reducible refine wpList_load_mid (op := ⟨some 31, _, _, _, _, _⟩) rfl _ _ rfl A 8 rfl [.int .i64 c.l.b, .int .i64 c.l.bt, .int .u16 c.l.j.ov, .int .u16 c.l.j.ox, .int .u16 c.l.j.ol, .int .i64 c.l.j.oe, .int .i64 c.l.j.ok, .int .u16 c.l.j.nv, .int .u16 c.l.j.nx, .int .u16 c.l.j.nl, .int .i64 c.l.j.ne, .int .i64 c.l.j.nk, .bool c.l.j.two, .slice p c.l.es.length d] _ (HRL.out _ (Below.refl _ _)) Tryz.underlying30 rfl (by kernel_rfl) ?_)
        refine HCP.out.mono ?_; rintro r w2 ⟨q2, d2, rfl, hu2, b2⟩
        have HE2 := Lib.hid (show EnSl w2 (.slice q2 c.l.es.length d2) c.l.es from EnSl.of_own hu2)
        have hk2 : Below wk.heap.size wk w2 := b2
        clear hu2 b2 HCP
        go_upto_region 13 with (with_reducible refine wpList_store_new (op := ⟨none, .store 30 _ _, _, _, _, _⟩) rfl _ _ _ rfl _ #[.int .i64 c.l.b, .int .i64 c.l.bt, .int .u16 c.l.j.ov, .int .u16 c.l.j.ox, .int .u16 c.l.j.ol, .int .i64 c.l.j.oe, .int .i64 c.l.j.ok, .int .u16 c.l.j.nv, .int .u16 c.l.j.nx, .int .u16 c.l.j.nl, .int .i64 c.l.j.ne, .int .i64 c.l.j.nk, .bool c.l.j.two, .slice q2 c.l.es.length d2] rfl rfl (by kernel_rfl) rfl (one_all rfl) ?_)
        obtain ⟨w3, hw⟩ : ∃ z : World, w2.alloc (.cells #[.int .i64 c.l.b, .int .i64 c.l.bt, .int .u16 c.l.j.ov, .int .u16 c.l.j.ox, .int .u16 c.l.j.ol, .int .i64 c.l.j.oe, .int .i64 c.l.j.ok, .int .u16 c.l.j.nv, .int .u16 c.l.j.nx, .int .u16 c.l.j.nl, .int .i64 c.l.j.ne, .int .i64 c.l.j.nk, .bool c.l.j.two, .slice q2 c.l.es.length d2] 30) = z := ⟨_, rfl⟩
        have b3 : Below w2.heap.size w2 w3 := by rw [← hw]; exact (Below.refl _ _).alloc (Nat.le_refl _) _
        have hL : w3.heap[w2.heap.size]? = some (.cells #[.int .i64 c.l.b, .int .i64 c.l.bt, .int .u16 c.l.j.ov, .int .u16 c.l.j.ox, .int .u16 c.l.j.ol, .int .i64 c.l.j.oe, .int .i64 c.l.j.ok, .int .u16 c.l.j.nv, .int .u16 c.l.j.nx, .int .u16 c.l.j.nl, .int .i64 c.l.j.ne, .int .i64 c.l.j.nk, .bool c.l.j.two, .slice q2 c.l.es.length d2] 30 (0, 0)) := by rw [← hw]; exact heap_last w2 _
        (try rw [hw])
        obtain ⟨L, eL⟩ : ∃ z, w2.heap.size = z := ⟨_, rfl⟩
        (try rw [eL])
        rw [eL] at hL
        have hk3 : Below wk.heap.size wk w3 := hk2.trans (b3.mono hk2.size)
        have HRLL := Lib.hid (show ∀ w', Below w3.heap.size w3 w' → w'.rangeAt L 0 [.int .i64 c.l.b, .int .i64 c.l.bt, .int .u16 c.l.j.ov, .int .u16 c.l.j.ox, .int .u16 c.l.j.ol, .int .i64 c.l.j.oe, .int .i64 c.l.j.ok, .int .u16 c.l.j.nv, .int .u16 c.l.j.nx, .int .u16 c.l.j.nl, .int .i64 c.l.j.ne, .int .i64 c.l.j.nk, .bool c.l.j.two, .slice q2 c.l.es.length d2] from fun w' h => log_range (below_block h (block_lt hL) hL))
        have HE3 := Lib.hid (show ∀ w', Below w3.heap.size w3 w' → EnSl w' (.slice q2 c.l.es.length d2) c.l.es from fun w' h => HE2.out.keep (b3.trans (h.mono b3.size)) (Nat.le_refl _))
        clear hw b3 hL eL hk2 HE2
        go_wp2_with (with_reducible refine wpList_load_mid (op := ⟨some 34, _, _, _, _, _⟩) rfl _ _ rfl A 0 rfl (coL c p d) _ (HRA.out _ (by assumption)) Tryz.underlying33 rfl (by kernel_rfl) ?_)
        refine (HTK.out w3 hk3).mono ?_; rintro e w4 ⟨p4, d4, v4, l4, rfl, hl4, hO4, hM4, -, b4⟩
        obtain ⟨c4, hc4⟩ : ∃ z, A9.c = z := ⟨_, rfl⟩
        rw [hc4] at hO4
        rw [hc4]
        have HO4 := Lib.hid hO4; have HM4 := Lib.hid hM4; have HL4 := Lib.hid hl4; have HC4 := Lib.hid hc4
        have b34 : Below w3.heap.size w3 w4 := b4
        have hk4 : Below wk.heap.size wk w4 := hk3.trans (b4.mono hk3.size)
        have HK3 := Lib.hid hk3
        clear hO4 hM4 hl4 b4 hc4 hk3
        go_upto_region 14 with (with_reducible refine wpList_store_new (op := ⟨none, .store 33 _ _, _, _, _, _⟩) rfl _ _ _ rfl _ (coL c4 p4 d4).toArray rfl rfl (by kernel_rfl) rfl (one_all rfl) ?_)
        obtain ⟨w5, hw⟩ : ∃ z : World, w4.alloc (.cells (coL c4 p4 d4).toArray 33) = z := ⟨_, rfl⟩
        have b5 : Below w4.heap.size w4 w5 := by rw [← hw]; exact (Below.refl _ _).alloc (Nat.le_refl _) _
        have hDD : w5.heap[w4.heap.size]? = some (.cells (coL c4 p4 d4).toArray 33 (0, 0)) := by rw [← hw]; exact heap_last w4 _
        (try rw [hw])
        obtain ⟨D, eD⟩ : ∃ z, w4.heap.size = z := ⟨_, rfl⟩
        (try rw [eD])
        rw [eD] at hDD
        have hk5 : Below wk.heap.size wk w5 := hk4.trans (b5.mono hk4.size)
        have b35 : Below w3.heap.size w3 w5 := b34.trans (b5.mono b34.size)
        have HRD := Lib.hid (show ∀ w', Below w5.heap.size w5 w' → w'.rangeAt D 0 (coL c4 p4 d4) from fun w' h => core_range (below_block h (block_lt hDD) hDD))
        have HO5 := Lib.hid (show ∀ w', Below w5.heap.size w5 w' → CoOwn wk.heap.size w' ⟨c4, p4, d4⟩ from fun w' h => own_keptC (own_baseC HO4.out HK3.out.size) (b5.trans (h.mono b5.size)))
        have HM5 := Lib.hid (show ∀ w', Below w5.heap.size w5 w' → MsAt w3.heap.size w' v4 l4 from fun w' h => HM4.out.keep (b5.trans (h.mono b5.size)))
        clear hw b5 hDD eD hk4 b34 HO4 HM4
        go_wp2_with (with_reducible refine wpList_load_mid (op := ⟨some 39, _, _, _, _, _⟩) rfl _ _ rfl A 0 rfl (coL c p d) _ (HRA.out _ (by assumption)) Tryz.underlying33 rfl (by kernel_rfl) ?_)
        refine (HTR.out w5 hk5).mono ?_; rintro e w6 ⟨p6, d6, v6, l6, rfl, hl6, hO6, hM6, -, b6⟩
        rw [HC4.out] at hO6
        rw [HC4.out]
        have HO6 := Lib.hid hO6; have HM6 := Lib.hid hM6; have HL6 := Lib.hid hl6
        have b56 : Below w5.heap.size w5 w6 := b6
        have hk6 : Below wk.heap.size wk w6 := hk5.trans (b6.mono hk5.size)
        clear hO6 hM6 hl6 b6
        go_upto_region 15 with (with_reducible refine wpList_store_new (op := ⟨none, .store 33 _ _, _, _, _, _⟩) rfl _ _ _ rfl _ (coL c4 p6 d6).toArray rfl rfl (by kernel_rfl) rfl (one_all rfl) ?_)
        obtain ⟨w7, hw⟩ : ∃ z : World, w6.alloc (.cells (coL c4 p6 d6).toArray 33) = z := ⟨_, rfl⟩
        have b7 : Below w6.heap.size w6 w7 := by rw [← hw]; exact (Below.refl _ _).alloc (Nat.le_refl _) _
        have hEE : w7.heap[w6.heap.size]? = some (.cells (coL c4 p6 d6).toArray 33 (0, 0)) := by rw [← hw]; exact heap_last w6 _
        (try rw [hw])
        obtain ⟨E, eE⟩ : ∃ z, w6.heap.size = z := ⟨_, rfl⟩
        (try rw [eE])
        rw [eE] at hEE
        have b57 : Below w5.heap.size w5 w7 := b56.trans (b7.mono b56.size)
        have hk7 : Below wk.heap.size wk w7 := hk6.trans (b7.mono hk6.size)
        have b37 : Below w3.heap.size w3 w7 := b35.trans (b57.mono b35.size)
        have HRE := Lib.hid (core_range hEE)
        have HM7 := Lib.hid (show ∀ w', Below w7.heap.size w7 w' → MsAt w5.heap.size w' v6 l6 from fun w' h => HM6.out.keep (b7.trans (h.mono b7.size)))
        have HSM := Lib.hid (show Calls Tryz.prog 14 #[.agg (coL c4 p4 d4).toArray, .agg (coL c4 p6 d6).toArray] w7 fun r w' => r = .returned (.bool true) ∧ Below w7.heap.size w7 w' from
          rsame13_any c4 p4 p6 d4 d6 w7 (by rw [← HC4.out]; have := HF9.out.n; omega) (EnSl.of_own (HO5.out w7 b57)) (EnSl.of_own (own_keptC HO6.out b7)))
        have HRD7 := Lib.hid (HRD.out w7 b57)
        clear hw b7 hEE eE hk6 b56 HM6 HO6 b35 hk5
        go_wp2_with (first | (with_reducible refine wpList_load_mid (op := ⟨some 43, _, _, _, _, _⟩) rfl _ _ rfl D 0 rfl (coL c4 p4 d4) _ HRD7.out Tryz.underlying33 rfl (by kernel_rfl) ?_) | (with_reducible refine wpList_load_mid (op := ⟨some 44, _, _, _, _, _⟩) rfl _ _ rfl E 0 rfl (coL c4 p6 d6) _ HRE.out Tryz.underlying33 rfl (by kernel_rfl) ?_))
        refine HSM.out.mono ?_; rintro r w8 ⟨rfl, b8⟩
        have b58 : Below w5.heap.size w5 w8 := b57.trans (b8.mono b57.size)
        have HSS := Lib.hid (smsgs_any w3.heap.size w5.heap.size v4 v6 l4 l6 w8 (HM5.out w8 b58) (HM7.out w8 b8) (by rw [HL4.out, HL6.out]) (fun x hx => by
          have h1 : x.m ∈ A9.out := by rw [← HL4.out]; exact List.mem_map.2 ⟨x, hx, rfl⟩
          have h2 := HS9.out _ h1
          have h3 := HF9.out.n; omega))
        have hk8 : Below wk.heap.size wk w8 := hk7.trans (b8.mono hk7.size)
        have b38 : Below w3.heap.size w3 w8 := b37.trans (b8.mono b37.size)
        clear b8 HSM b57 b37 hk7 HRD7 HRE
        go_wp2_with fail
        refine HSS.out.mono ?_; rintro r w9 ⟨rfl, b9⟩
        have b59 : Below w5.heap.size w5 w9 := b58.trans (b9.mono b58.size)
        have hk9 : Below wk.heap.size wk w9 := hk8.trans (b9.mono hk8.size)
        have b39 : Below w3.heap.size w3 w9 := b38.trans (b9.mono b38.size)
        have HSL := Lib.hid (show Calls Tryz.prog 16 #[.agg #[.int .i64 c.l.b, .int .i64 c.l.bt, .int .u16 c.l.j.ov, .int .u16 c.l.j.ox, .int .u16 c.l.j.ol, .int .i64 c.l.j.oe, .int .i64 c.l.j.ok, .int .u16 c.l.j.nv, .int .u16 c.l.j.nx, .int .u16 c.l.j.nl, .int .i64 c.l.j.ne, .int .i64 c.l.j.nk, .bool c.l.j.two, .slice p c.l.es.length d], .agg #[.int .i64 c.l.b, .int .i64 c.l.bt, .int .u16 c.l.j.ov, .int .u16 c.l.j.ox, .int .u16 c.l.j.ol, .int .i64 c.l.j.oe, .int .i64 c.l.j.ok, .int .u16 c.l.j.nv, .int .u16 c.l.j.nx, .int .u16 c.l.j.nl, .int .i64 c.l.j.ne, .int .i64 c.l.j.nk, .bool c.l.j.two, .slice q2 c.l.es.length d2]] w9 fun r w' => r = .returned (.bool true) ∧ Below w9.heap.size w9 w' from by
          have h1 := same_any c.l c.l p q2 d d2 w9 HF.out.lo.f.n HF.out.lo.f.n (HEA.out w9 hk9) (HE3.out w9 b39)
          rw [decide_eq_true rfl] at h1; exact h1)
        have HRA9 := Lib.hid (HRL.out w9 hk9); have HRL9 := Lib.hid (HRLL.out w9 b39)
        clear b9 HSS b58 hk8 b38
        go_wp2_with (first | (with_reducible refine wpList_load_g (op := ⟨some 55, _, _, _, _, _⟩) (by kernel_rfl) _ _ rfl A 8 rfl [.int .i64 c.l.b, .int .i64 c.l.bt, .int .u16 c.l.j.ov, .int .u16 c.l.j.ox, .int .u16 c.l.j.ol, .int .i64 c.l.j.oe, .int .i64 c.l.j.ok, .int .u16 c.l.j.nv, .int .u16 c.l.j.nx, .int .u16 c.l.j.nl, .int .i64 c.l.j.ne, .int .i64 c.l.j.nk, .bool c.l.j.two, .slice p c.l.es.length d] _ HRA9.out Tryz.underlying30 rfl (by kernel_rfl) ?_) | (with_reducible refine wpList_load_g (op := ⟨some 56, _, _, _, _, _⟩) (by kernel_rfl) _ _ rfl L 0 rfl [.int .i64 c.l.b, .int .i64 c.l.bt, .int .u16 c.l.j.ov, .int .u16 c.l.j.ox, .int .u16 c.l.j.ol, .int .i64 c.l.j.oe, .int .i64 c.l.j.ok, .int .u16 c.l.j.nv, .int .u16 c.l.j.nx, .int .u16 c.l.j.nl, .int .i64 c.l.j.ne, .int .i64 c.l.j.nk, .bool c.l.j.two, .slice q2 c.l.es.length d2] _ HRL9.out Tryz.underlying30 rfl (by kernel_rfl) ?_))
        refine HSL.out.mono ?_; rintro r w10 ⟨rfl, b10⟩
        have b5a : Below w5.heap.size w5 w10 := b59.trans (b10.mono b59.size)
        have hka : Below wk.heap.size wk w10 := hk9.trans (b10.mono hk9.size)
        have hCa := HBA.out w10 hka
        have HTHA := Lib.hid (there_of_block (o := 0) (n := 45) hCa (Nat.le_of_ble_eq_true rfl))
        have HRDa := Lib.hid (HRD.out w10 b5a)
        have hOa := HO5.out w10 b5a
        obtain ⟨wb, hwb⟩ : ∃ z : World, w10.setCells A 0 (coL c4 p4 d4) = z := ⟨_, rfl⟩
        have hCb : wb.heap[A]? = some (.cells (coL c4 p4 d4).toArray 33 (0, 0)) := by rw [← hwb]; exact setCells_full (n := 45) (vs := (coL c4 p4 d4).toArray) hCa rfl rfl
        have hEb : EnSl wb (.slice p4 c4.l.es.length d4) c4.l.es := by rw [← hwb]; exact EnSl.of_own (store_own (coL c4 p4 d4) hOa hCa)
        have hBb : Below w.heap.size w wb := by rw [← hwb]; exact store_below _ (HB.out.trans (hka.mono HB.out.size)) hCa (by rw [HEA0.out]; exact Nat.le_refl _)
        have HWB := Lib.hid hwb; have HCb := Lib.hid hCb; have HEb := Lib.hid hEb; have HBb := Lib.hid hBb
        clear b10 HSL b59 hk9 b39 hwb hCb hEb hBb hCa hOa HRA9 HRL9 b5a hka
        go_upto_region 18 with (first | (with_reducible refine wpList_load_mid (op := ⟨some 60, _, _, _, _, _⟩) rfl _ _ rfl D 0 rfl (coL c4 p4 d4) _ HRDa.out Tryz.underlying33 rfl (by kernel_rfl) ?_) | (with_reducible refine wpList_store_at (op := ⟨none, .store 33 _ _, _, _, _, _⟩) rfl _ _ _ rfl A 0 45 (coL c4 p4 d4).toArray (by kernel_rfl) rfl rfl HTHA.out (by kernel_rfl) (one_all rfl) ?_))
        (try rw [HWB.out])
        obtain ⟨b, hb, -, hmr⟩ := mays c4 (by rw [← HC4.out]; exact HF9.out.lo.j.f) (by rw [← HC4.out]; exact fun e he => (HF9.out.lo.es e he).1) (by rw [← HC4.out]; have := HF9.out.n; omega)
        have HMR := Lib.hid (hmr p4 d4 wb HEb.out)
        have HRb := Lib.hid (core_range HCb.out)
        have HBB := Lib.hid hb
        clear hmr hb
        go_wp2_with (with_reducible refine wpList_load_mid (op := ⟨some 61, _, _, _, _, _⟩) rfl _ _ rfl A 0 rfl (coL c4 p4 d4) _ HRb.out Tryz.underlying33 rfl (by kernel_rfl) ?_)
        refine HMR.out.mono ?_; rintro r w12 ⟨rfl, b12⟩
        have HBc := Lib.hid (HBb.out.trans (b12.mono HBb.out.size))
        cases b with
        | false =>
          clear b12
          go_wp2_with fail
          exact HQ.out _ _ rfl rfl HBc.out
        | true =>
        have HNX : Hid (∃ c p d, w12.heap[A]? = some (.cells (coL c p d).toArray 33 (0, 0)) ∧ EnSl w12 (.slice p c.l.es.length d) c.l.es ∧ CoFit (60 + 2 * (k + 1)) c ∧ CoMay c ∧ (0 ≤ c.hd ∧ c.hd ≤ 65535) ∧ Below w.heap.size w w12) :=
          ⟨c4, p4, d4, below_block b12 (block_lt HCb.out) HCb.out, HEb.out.keep b12 (Nat.le_refl _), by rw [← HC4.out]; exact HF9.out.mono (by omega), HBB.out.1 rfl, by rw [← HC4.out]; exact HD9.out, HBc.out⟩
        clear b12
        go_wp2_with fail
        go_roundw
        case rel => exact ⟨k + 1, by go_num, by omega, HNX⟩
        case measure => simp [intOf]; omega
      · have hdl : decide ((k : Int) ≤ (R : Int)) = false := by simpa using hle
        have HFL := Lib.hid HF.out.lo.f
        have HRS := Lib.hid (show ∀ w', Below wk.heap.size wk w' → Calls Tryz.prog 21 #[.agg (coL c p d).toArray] w' (CoRet w' (restartC c)) from fun w' h => restart_any c p d w' HFL.out (HEA.out w' h))
        have HRR := Lib.hid (show ∀ w', Below wk.heap.size wk w' → Calls Tryz.prog 22 #[.agg (coL c p d).toArray] w' (CoRet w' (restartC c)) from fun w' h => rrestart_any c p d w' HFL.out (HEA.out w' h))
        have HID := Lib.hid (And.intro HF.out.id0 HF.out.id1)
        have HPA := Lib.hid (show ∀ w', Calls Tryz.prog 23 #[.int .i64 c.id] w' fun e w2 => e = .returned (.int .i64 (patience c.id)) ∧ w' = w2 from fun w' => patience_any c.id w' (by have := HID.out.1; omega) (by have := HID.out.2; omega))
        have HPB := Lib.hid (show ∀ w', Calls Tryz.prog 24 #[.int .i64 c.id] w' fun e w2 => e = .returned (.int .i64 (patience c.id)) ∧ w' = w2 from fun w' => rpatience_any c.id w' (by have := HID.out.1; omega) (by have := HID.out.2; omega))
        have k0 : ∀ w', Below wk.heap.size wk w' → w'.cell? ⟨A, 0, none⟩ = some (.int .i64 c.id) := fun w' h => block_cells (HBA.out w' h) 0
        obtain ⟨P, hP⟩ : ∃ z, patience c.id = z := ⟨_, rfl⟩
        rw [hP] at HPA HPB
        obtain ⟨I, hI⟩ : ∃ z, c.id = z := ⟨_, rfl⟩
        rw [hI] at HPA HPB k0
        clear hP hI
        have hdn : decide (k ≤ R) = false := by simp; omega
        go_wp2_with fail
        refine (HPL.out wk).mono ?_; rintro r w' ⟨rfl, rfl⟩
        go_upto_region 20 with fail
        have h0 : Below wk.heap.size wk wk.drew := (Below.refl _ _).drew
        refine wp_region_noPanic ?_
        refine wp_region_held_drew (S := fun w' => Below wk.heap.size wk w') (by kernel_rfl) h0 (fun hHeld => ?_)
        obtain ⟨wd, ewd⟩ : ∃ x, wk.drew = x := ⟨_, rfl⟩
        rw [ewd] at h0 hHeld ⊢
        clear ewd
        refine tkH (i := 0) (v := .agg (coL c p d).toArray) rfl (yieldsIf_load_mid (by rfl) _ _ rfl A 0 rfl (coL c p d) _ HRA.out Tryz.underlying33 rfl (by kernel_rfl)) hHeld ?_
        try simp only [zA, zC, Act.put, zD, zE, zF]
        refine tkH (i := 2) (v := .agg (coL c p d).toArray) rfl (yieldsIf_load_mid (by rfl) _ _ rfl A 0 rfl (coL c p d) _ HRA.out Tryz.underlying33 rfl (by kernel_rfl)) hHeld ?_
        try simp only [zA, zB, zC, Act.put, zD, zE, zF]
        refine wpAnyH_ready (rs := [1]) (by kernel_rfl) (by simp) ?_; refine AllReadyH.cons rfl (fun K hK => ?_) AllReadyH.nil
        try simp only [zA, zB, zC]
        go_simp
        refine (HRS.out wd h0).mono ?_; rintro r w3 ⟨q1, d1, rfl, o1, b3⟩
        have s3 := h0.trans (b3.mono h0.size)
        refine hK.out _ _ s3 (fun _ => ?_)
        clear hK K hHeld
        try simp only [zA, zB, zC, Act.put, zD, zE, zF]
        have hHeld := s3
        refine wpAnyH_ready (rs := [3]) (by kernel_rfl) (by simp) ?_; refine AllReadyH.cons rfl (fun K hK => ?_) AllReadyH.nil
        try simp only [zA, zB, zC]
        go_simp
        refine (HRR.out w3 s3).mono ?_; rintro r w4 ⟨q2, d2, rfl, o2, b4⟩
        have s4 := s3.trans (b4.mono s3.size)
        have e1 : EnSl w4 (.slice q1 (restartC c).l.es.length d1) (restartC c).l.es := EnSl.of_own (own_keptC o1 b4)
        have e2 : EnSl w4 (.slice q2 (restartC c).l.es.length d2) (restartC c).l.es := EnSl.of_own o2
        refine hK.out _ _ s4 (fun _ => ?_)
        clear hK K hHeld
        try simp only [zA, zB, zC, Act.put, zD, zE, zF]
        have hHeld := s4
        refine wpAnyH_ready (rs := [4]) (by kernel_rfl) (by simp) ?_; refine AllReadyH.cons rfl (fun K hK => ?_) AllReadyH.nil
        try simp only [zA, zB, zC]
        go_simp
        refine (show Calls Tryz.prog 14 #[.agg (coL (restartC c) q1 d1).toArray, .agg (coL (restartC c) q2 d2).toArray] w4 _ from rsame13_any (restartC c) q1 q2 d1 d2 w4 HFL.out.n e1 e2).mono ?_; rintro r w5 ⟨rfl, b5⟩
        have s5 := s4.trans (b5.mono s4.size)
        refine hK.out _ _ s5 (fun _ => ?_)
        clear hK K hHeld b5
        try simp only [zA, zB, zC, Act.put, zD, zE, zF]
        have hHeld := s5
        refine tkL 5 rfl hHeld ?_
        try simp only [zA, zB, zC, Act.put, zD, zE, zF]
        refine tkL 6 rfl hHeld ?_
        try simp only [zA, zB, zC, Act.put, zD, zE, zF]
        refine tkL 7 rfl hHeld ?_
        try simp only [zA, zB, zC, Act.put, zD, zE, zF]
        refine tkL 9 rfl hHeld ?_
        try simp only [zA, zB, zC, Act.put, zD, zE, zF]
        refine tkL 10 rfl hHeld ?_
        try simp only [zA, zB, zC, Act.put, zD, zE, zF]
        refine wpAnyH_ready (rs := [8]) (by kernel_rfl) (by simp) ?_; refine AllReadyH.cons rfl (fun K hK => ?_) AllReadyH.nil
        try simp only [zA, zB, zC]
        go_simp
        refine (HPA.out w5).mono ?_; rintro r w6 ⟨rfl, rfl⟩
        refine hK.out _ _ s5 (fun _ => ?_)
        clear hK K hHeld
        try simp only [zA, zB, zC, Act.put, zD, zE, zF]
        have hHeld := s5
        refine wpAnyH_ready (rs := [11]) (by kernel_rfl) (by simp) ?_; refine AllReadyH.cons rfl (fun K hK => ?_) AllReadyH.nil
        try simp only [zA, zB, zC]
        go_simp
        refine (HPB.out w5).mono ?_; rintro r w6 ⟨rfl, rfl⟩
        refine hK.out _ _ s5 (fun _ => ?_)
        clear hK K hHeld
        try simp only [zA, zB, zC, Act.put, zD, zE, zF]
        have hHeld := s5
        refine tkL 12 rfl hHeld ?_
        try simp only [zA, zB, zC, Act.put, zD, zE, zF]
        refine tkL 13 rfl hHeld ?_
        try simp only [zA, zB, zC, Act.put, zD, zE, zF]
        refine tkL 14 rfl hHeld ?_
        try simp only [zA, zB, zC, Act.put, zD, zE, zF]
        refine wpAnyH_done (by kernel_rfl) ?_ _
        refine NoPanic.normal ?_
        have HZ := Lib.hid (HB.out.trans (s5.mono HB.out.size))
        clear hHeld
        go_wp2_with fail
        exact HQ.out _ _ rfl rfl HZ.out
end Go.Proofs.YtbnndbdnejfehaaGreatDoor
