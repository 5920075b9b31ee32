/- Core: a core behind a vote (the program's Step). -/
import Derived.Test.YtbnndbdnejfehaaGreatDoorActAd
namespace Go.Proofs.YtbnndbdnejfehaaGreatDoor
open Go.ChangeShapes Go.WideShapes Go.ChangeAt Go.RowKit

set_option maxRecDepth 100000 in
set_option maxHeartbeats 32000000 in
theorem step2_any (N : Nat) (c : Co) (p : Option Addr) (k : Nat) (m : Ms) (q : Option Addr) (d : Nat) (w : World) (hk2 : m.k = 2) (hF : CoFit N c) (hN : N < 400000) (hT : Tab w) (hE : EnSl w (.slice p c.l.es.length k) c.l.es) (hM : EnSl w (.slice q m.es.length d) m.es) (hmn : m.es.length ≤ 100000) (hjs : ∀ e ∈ m.es, JoF (joX e.j)) (hcf : JoF (joX m.cf)) :
    Calls Tryz.prog 12 #[.agg #[.int .i64 c.id, .int .i64 c.role, .int .i64 c.tm, .int .i64 c.vt, .int .i64 c.ld, .int .i64 c.wt, .int .i64 c.cm, .int .i64 c.sf, .int .i64 c.l.b, .int .i64 c.l.bt, .int .u16 c.l.j.ov, .int .u16 c.l.j.ox, .int .u16 c.l.j.ol, .int .i64 c.l.j.oe, .int .i64 c.l.j.ok, .int .u16 c.l.j.nv, .int .u16 c.l.j.nx, .int .u16 c.l.j.nl, .int .i64 c.l.j.ne, .int .i64 c.l.j.nk, .bool c.l.j.two, .slice p c.l.es.length k, .string c.sn, .int .u16 c.vs, .int .u16 c.hd, .int .i64 (c.nx 0), .int .i64 (c.nx 1), .int .i64 (c.nx 2), .int .i64 (c.nx 3), .int .i64 (c.nx 4), .int .i64 (c.nx 5), .int .i64 (c.nx 6), .int .i64 (c.nx 7), .int .i64 (c.nx 8), .int .i64 (c.nx 9), .int .i64 (c.mt 0), .int .i64 (c.mt 1), .int .i64 (c.mt 2), .int .i64 (c.mt 3), .int .i64 (c.mt 4), .int .i64 (c.mt 5), .int .i64 (c.mt 6), .int .i64 (c.mt 7), .int .i64 (c.mt 8), .int .i64 (c.mt 9)], .agg #[.int .i64 m.k, .int .i64 m.fr, .int .i64 m.dst, .int .i64 m.tm, .int .i64 m.ix, .int .i64 m.lt, .int .i64 m.cm, .int .i64 m.sf, .bool m.yes, .slice q m.es.length d, .string m.sn, .int .u16 m.cf.ov, .int .u16 m.cf.ox, .int .u16 m.cf.ol, .int .i64 m.cf.oe, .int .i64 m.cf.ok, .int .u16 m.cf.nv, .int .u16 m.cf.nx, .int .u16 m.cf.nl, .int .i64 m.cf.ne, .int .i64 m.cf.nk, .bool m.cf.two]] w (CoEnd w (stepB c m)) := by
  obtain ⟨W0, hW0⟩ : ∃ z : World, w.alloc (.cells #[.int .i64 c.id, .int .i64 c.role, .int .i64 c.tm, .int .i64 c.vt, .int .i64 c.ld, .int .i64 c.wt, .int .i64 c.cm, .int .i64 c.sf, .int .i64 c.l.b, .int .i64 c.l.bt, .int .u16 c.l.j.ov, .int .u16 c.l.j.ox, .int .u16 c.l.j.ol, .int .i64 c.l.j.oe, .int .i64 c.l.j.ok, .int .u16 c.l.j.nv, .int .u16 c.l.j.nx, .int .u16 c.l.j.nl, .int .i64 c.l.j.ne, .int .i64 c.l.j.nk, .bool c.l.j.two, .slice p c.l.es.length k, .string c.sn, .int .u16 c.vs, .int .u16 c.hd, .int .i64 (c.nx 0), .int .i64 (c.nx 1), .int .i64 (c.nx 2), .int .i64 (c.nx 3), .int .i64 (c.nx 4), .int .i64 (c.nx 5), .int .i64 (c.nx 6), .int .i64 (c.nx 7), .int .i64 (c.nx 8), .int .i64 (c.nx 9), .int .i64 (c.mt 0), .int .i64 (c.mt 1), .int .i64 (c.mt 2), .int .i64 (c.mt 3), .int .i64 (c.mt 4), .int .i64 (c.mt 5), .int .i64 (c.mt 6), .int .i64 (c.mt 7), .int .i64 (c.mt 8), .int .i64 (c.mt 9)] 33) = z := ⟨_, rfl⟩
  obtain ⟨W1, hW1⟩ : ∃ z : World, W0.alloc (.cells #[.int .i64 m.k, .int .i64 m.fr, .int .i64 m.dst, .int .i64 m.tm, .int .i64 m.ix, .int .i64 m.lt, .int .i64 m.cm, .int .i64 m.sf, .bool m.yes, .slice q m.es.length d, .string m.sn, .int .u16 m.cf.ov, .int .u16 m.cf.ox, .int .u16 m.cf.ol, .int .i64 m.cf.oe, .int .i64 m.cf.ok, .int .u16 m.cf.nv, .int .u16 m.cf.nx, .int .u16 m.cf.nl, .int .i64 m.cf.ne, .int .i64 m.cf.nk, .bool m.cf.two] 39) = z := ⟨_, rfl⟩
  obtain ⟨W, hW⟩ : ∃ z : World, W1.alloc (.cells #[.int .i64 0, .int .i64 0, .int .i64 0, .int .i64 0, .int .i64 0, .int .i64 0, .int .i64 0, .int .i64 0, .int .i64 0, .int .i64 0, .int .u16 0, .int .u16 0, .int .u16 0, .int .i64 0, .int .i64 0, .int .u16 0, .int .u16 0, .int .u16 0, .int .i64 0, .int .i64 0, .bool false, .slice none 0 0, .string ⟨#[]⟩, .int .u16 0, .int .u16 0, .int .i64 0, .int .i64 0, .int .i64 0, .int .i64 0, .int .i64 0, .int .i64 0, .int .i64 0, .int .i64 0, .int .i64 0, .int .i64 0, .int .i64 0, .int .i64 0, .int .i64 0, .int .i64 0, .int .i64 0, .int .i64 0, .int .i64 0, .int .i64 0, .int .i64 0, .int .i64 0] 33) = z := ⟨_, rfl⟩
  have hs0 : W0.heap.size = w.heap.size + 1 := by rw [← hW0]; simp
  have hs1 : W1.heap.size = w.heap.size + 1 + 1 := by rw [← hW1]; simp; omega
  have b0 : Below w.heap.size w W0 := by rw [← hW0]; exact (Below.refl _ _).alloc (Nat.le_refl _) _
  have b1 : Below W0.heap.size W0 W1 := by rw [← hW1]; exact (Below.refl _ _).alloc (Nat.le_refl _) _
  have b2 : Below W1.heap.size W1 W := by rw [← hW]; exact (Below.refl _ _).alloc (Nat.le_refl _) _
  have b12 := b1.trans (b2.mono b1.size)
  have bW := b0.trans (b12.mono b0.size)
  have hX : W.heap[w.heap.size]? = some (.cells #[.int .i64 c.id, .int .i64 c.role, .int .i64 c.tm, .int .i64 c.vt, .int .i64 c.ld, .int .i64 c.wt, .int .i64 c.cm, .int .i64 c.sf, .int .i64 c.l.b, .int .i64 c.l.bt, .int .u16 c.l.j.ov, .int .u16 c.l.j.ox, .int .u16 c.l.j.ol, .int .i64 c.l.j.oe, .int .i64 c.l.j.ok, .int .u16 c.l.j.nv, .int .u16 c.l.j.nx, .int .u16 c.l.j.nl, .int .i64 c.l.j.ne, .int .i64 c.l.j.nk, .bool c.l.j.two, .slice p c.l.es.length k, .string c.sn, .int .u16 c.vs, .int .u16 c.hd, .int .i64 (c.nx 0), .int .i64 (c.nx 1), .int .i64 (c.nx 2), .int .i64 (c.nx 3), .int .i64 (c.nx 4), .int .i64 (c.nx 5), .int .i64 (c.nx 6), .int .i64 (c.nx 7), .int .i64 (c.nx 8), .int .i64 (c.nx 9), .int .i64 (c.mt 0), .int .i64 (c.mt 1), .int .i64 (c.mt 2), .int .i64 (c.mt 3), .int .i64 (c.mt 4), .int .i64 (c.mt 5), .int .i64 (c.mt 6), .int .i64 (c.mt 7), .int .i64 (c.mt 8), .int .i64 (c.mt 9)] 33 (0, 0)) := below_block b12 (by omega) (by rw [← hW0]; exact heap_last w _)
  have hY : W.heap[w.heap.size + 1]? = some (.cells #[.int .i64 m.k, .int .i64 m.fr, .int .i64 m.dst, .int .i64 m.tm, .int .i64 m.ix, .int .i64 m.lt, .int .i64 m.cm, .int .i64 m.sf, .bool m.yes, .slice q m.es.length d, .string m.sn, .int .u16 m.cf.ov, .int .u16 m.cf.ox, .int .u16 m.cf.ol, .int .i64 m.cf.oe, .int .i64 m.cf.ok, .int .u16 m.cf.nv, .int .u16 m.cf.nx, .int .u16 m.cf.nl, .int .i64 m.cf.ne, .int .i64 m.cf.nk, .bool m.cf.two] 39 (0, 0)) := below_block b2 (by omega) (by rw [← hW1, ← hs0]; exact heap_last W0 _)
  have hZ : W.heap[w.heap.size + 1 + 1]? = some (.cells (coL co0 none 0).toArray 33 (0, 0)) := by rw [← hW, ← hs1]; exact heap_last W1 _
  obtain ⟨X, eX⟩ : ∃ z, w.heap.size = z := ⟨_, rfl⟩
  obtain ⟨Y, eY⟩ : ∃ z, X + 1 = z := ⟨_, rfl⟩
  obtain ⟨Z, eZ⟩ : ∃ z, Y + 1 = z := ⟨_, rfl⟩
  rw [eX] at hX hY hZ
  rw [eY] at hY hZ
  rw [eZ] at hZ
  have hWs : W.heap.size = Z + 1 := by rw [← hW]; simp only [World.size_alloc]; omega
  have HWG := Lib.hid (show ((w.alloc (.cells #[.int .i64 c.id, .int .i64 c.role, .int .i64 c.tm, .int .i64 c.vt, .int .i64 c.ld, .int .i64 c.wt, .int .i64 c.cm, .int .i64 c.sf, .int .i64 c.l.b, .int .i64 c.l.bt, .int .u16 c.l.j.ov, .int .u16 c.l.j.ox, .int .u16 c.l.j.ol, .int .i64 c.l.j.oe, .int .i64 c.l.j.ok, .int .u16 c.l.j.nv, .int .u16 c.l.j.nx, .int .u16 c.l.j.nl, .int .i64 c.l.j.ne, .int .i64 c.l.j.nk, .bool c.l.j.two, .slice p c.l.es.length k, .string c.sn, .int .u16 c.vs, .int .u16 c.hd, .int .i64 (c.nx 0), .int .i64 (c.nx 1), .int .i64 (c.nx 2), .int .i64 (c.nx 3), .int .i64 (c.nx 4), .int .i64 (c.nx 5), .int .i64 (c.nx 6), .int .i64 (c.nx 7), .int .i64 (c.nx 8), .int .i64 (c.nx 9), .int .i64 (c.mt 0), .int .i64 (c.mt 1), .int .i64 (c.mt 2), .int .i64 (c.mt 3), .int .i64 (c.mt 4), .int .i64 (c.mt 5), .int .i64 (c.mt 6), .int .i64 (c.mt 7), .int .i64 (c.mt 8), .int .i64 (c.mt 9)] 33)).alloc (.cells #[.int .i64 m.k, .int .i64 m.fr, .int .i64 m.dst, .int .i64 m.tm, .int .i64 m.ix, .int .i64 m.lt, .int .i64 m.cm, .int .i64 m.sf, .bool m.yes, .slice q m.es.length d, .string m.sn, .int .u16 m.cf.ov, .int .u16 m.cf.ox, .int .u16 m.cf.ol, .int .i64 m.cf.oe, .int .i64 m.cf.ok, .int .u16 m.cf.nv, .int .u16 m.cf.nx, .int .u16 m.cf.nl, .int .i64 m.cf.ne, .int .i64 m.cf.nk, .bool m.cf.two] 39)).alloc (.cells #[.int .i64 0, .int .i64 0, .int .i64 0, .int .i64 0, .int .i64 0, .int .i64 0, .int .i64 0, .int .i64 0, .int .i64 0, .int .i64 0, .int .u16 0, .int .u16 0, .int .u16 0, .int .i64 0, .int .i64 0, .int .u16 0, .int .u16 0, .int .u16 0, .int .i64 0, .int .i64 0, .bool false, .slice none 0 0, .string ⟨#[]⟩, .int .u16 0, .int .u16 0, .int .i64 0, .int .i64 0, .int .i64 0, .int .i64 0, .int .i64 0, .int .i64 0, .int .i64 0, .int .i64 0, .int .i64 0, .int .i64 0, .int .i64 0, .int .i64 0, .int .i64 0, .int .i64 0, .int .i64 0, .int .i64 0, .int .i64 0, .int .i64 0, .int .i64 0, .int .i64 0] 33) = W by rw [hW0, hW1]; exact hW)
  have HX := Lib.hid hX; have HY := Lib.hid hY; have HZ := Lib.hid hZ; have HBW := Lib.hid bW; have HEX := Lib.hid eX; have HEY := Lib.hid eY; have HEZ := Lib.hid eZ; have HF : Hid (CoFit N c) := hF; have HNN := Lib.hid hN; have HWS := Lib.hid hWs
  have HT0 := Lib.hid hT; have HM0 := Lib.hid hM
  have HT := Lib.hid (hT.keep bW)
  have HME := Lib.hid (hM.keep bW (Nat.le_refl _))
  have HRX := Lib.hid (show W.rangeAt X 0 (coL c p k) from range_of (n := 45) rfl (fun j _ => by have hX' : W.heap[X]? = some (.cells (coL c p k).toArray 33 (0, 0)) := hX; rw [Nat.zero_add, block_cells hX', List.getElem?_toArray]))
  have HBG := Lib.hid (show Calls Tryz.prog 35 #[.agg (coL c p k).toArray] W fun e w' => ∃ R q d, e = .returned (.pointer (some ⟨R, 0, none⟩)) ∧ AcW 69 W.heap.size w' R ⟨c, q, d⟩ (.slice none 0 0) [] ∧ Below W.heap.size W w' from begin_act c p k W hF.lo.f (hE.keep bW (Nat.le_refl _)))
  obtain ⟨A, hA⟩ : ∃ A, stepB c m = A := ⟨_, rfl⟩
  have HAA := Lib.hid hA
  rw [hA]
  obtain ⟨D, hD⟩ : ∃ D, deafB c m = D := ⟨_, rfl⟩
  have HD := Lib.hid hD
  have HMN := Lib.hid hmn; have HJS := Lib.hid hjs; have HCF := Lib.hid hcf; have HKM := Lib.hid hk2
  clear hk2 hF hT hE hM hmn hjs hcf hW0 hW1 hW hs0 hs1 b0 b1 b2 b12 bW hX hY hZ eX eY eZ hN hWs hA hD
  go_enter Tryz.func12, Tryz.ntmps12
  go_upto_region 1 with fail
  rw [HWG.out, HEX.out]
  (try rw [HEY.out])
  (try rw [HEZ.out])
  clear HWG
  go_wp2_with (with_reducible refine wpList_load_mid (op := ⟨some 8, _, _, _, _, _⟩) rfl _ _ rfl X 0 rfl (coL c p k) _ HRX.out Tryz.underlying33 rfl (by kernel_rfl) ?_)
  refine HBG.out.mono ?_; rintro r w1 ⟨R, q0, d0, rfl, hA1, b1⟩
  have hRW := hA1.le
  have hRX : R ≠ X := by have := HWS.out; have := HEZ.out; have := HEY.out; omega
  have hRY : R ≠ Y := by have := HWS.out; have := HEZ.out; have := HEY.out; omega
  have hRZ : R ≠ Z := by have := HWS.out; omega
  have HA1 := Lib.hid hA1; have HB1 := Lib.hid b1
  have HRX1 := Lib.hid (show w1.rangeAt X 0 (coL c p k) from range_of (n := 45) rfl (fun j _ => by have hX' : w1.heap[X]? = some (.cells (coL c p k).toArray 33 (0, 0)) := below_block b1 (block_lt HX.out) HX.out; rw [Nat.zero_add, block_cells hX', List.getElem?_toArray]))
  have HRY1 := Lib.hid (msg_range (below_block b1 (block_lt HY.out) HY.out))
  have HDE := Lib.hid (show Calls Tryz.prog 36 #[.agg (coL c p k).toArray, .agg (msC m q d).toArray] w1 fun e w' => e = .returned (.bool D) ∧ Below w1.heap.size w1 w' from by have := deaf_any c p k m q d w1; rw [HD.out] at this; exact this)
  clear hA1 b1 HBG HRX
  go_wp2_with (first | (with_reducible refine wpList_load_mid (op := ⟨some 10, _, _, _, _, _⟩) rfl _ _ rfl X 0 rfl (coL c p k) _ HRX1.out Tryz.underlying33 rfl (by kernel_rfl) ?_) | (with_reducible refine wpList_load_mid (op := ⟨some 11, _, _, _, _, _⟩) rfl _ _ rfl Y 0 rfl (msC m q d) _ HRY1.out Tryz.underlying39 rfl (by kernel_rfl) ?_))
  refine HDE.out.mono ?_; rintro r w2 ⟨rfl, b2⟩
  have HB2 := Lib.hid (HB1.out.trans (b2.mono HB1.out.size))
  have HA2 := Lib.hid (HA1.out.keep b2)
  have HX2 := Lib.hid (below_block HB2.out (block_lt HX.out) HX.out); have HY2 := Lib.hid (below_block HB2.out (block_lt HY.out) HY.out); have HZ2 := Lib.hid (below_block HB2.out (block_lt HZ.out) HZ.out)
  clear b2 HDE HRX1 HRY1 HA1 HB1
  have HWX := Lib.hid (show w.heap.size ≤ W.heap.size ∧ w.heap.size ≤ Z from by have := HWS.out; have := HEZ.out; have := HEY.out; have := HEX.out; omega)
  cases D with
  | true =>
    have HZ0 : Hid (A = ⟨c, []⟩) := by show _ = _; rw [← HAA.out]; exact step_deaf HD.out
    have HRR := Lib.hid (act_range (R := R) (c := c) (q := q0) (d := d0) (v := .slice none 0 0) (RAll.of HA2.out.blk))
    have HTH := Lib.hid (there_of_block (o := 0) (n := 45) HZ2.out (Nat.le_of_ble_eq_true rfl))
    go_wp2_with (first | (with_reducible refine wpList_load_mid (op := ⟨some 16, _, _, _, _, _⟩) rfl _ _ rfl R 0 rfl (coL c q0 d0) _ HRR.out Tryz.underlying33 rfl (by kernel_rfl) ?_) | (with_reducible refine wpList_store_at (op := ⟨none, .store 33 _ _, _, _, _, _⟩) rfl _ _ _ rfl Z 0 45 (coL c q0 d0).toArray (by kernel_rfl) rfl rfl HTH.out (by kernel_rfl) (one_all rfl) ?_))
    have hZf : (w2.setCells Z 0 (coL c q0 d0)).heap[Z]? = some (.cells (coL c q0 d0).toArray 33 (0, 0)) := setCells_full (n := 45) (vs := (coL c q0 d0).toArray) HZ2.out rfl rfl
    refine bodyPost_ret (v := .tuple #[.agg (coL c q0 d0).toArray, .slice none 0 0]) ?_ rfl ?_
    · rw [results_cell_tmp rfl]
      simp [asAddr, run_loadVar_row _ Z _ _ _ _ _ hZf Tryz.underlying33 rfl (by kernel_rfl), Result.andThen]
    · exact co_end HA2.out HZ2.out hRZ (fun e => by cases e) HWX.out.1 (HBW.out.trans (HB2.out.mono HBW.out.size)) HWX.out.2 (by rw [HZ0.out]) (by rw [HZ0.out]; rfl)
  | false =>
    obtain ⟨mc, hmc⟩ : ∃ mc, clampM m = mc := ⟨_, rfl⟩
    have hce : mc.es = m.es := by rw [← hmc]; rfl
    have HMF : Hid (MgFit mc) := by
      have hn := deaf_not HD.out
      show MgFit mc
      rw [← hmc]; exact ⟨hn.1, hn.2, (clampI_fit _).1, (clampI_fit _).2, HMN.out, HJS.out, HCF.out⟩
    have HMC := Lib.hid hmc; have HCE := Lib.hid hce
    go_upto_region 4 with fail
    have hAd := HA2.out.keep (Below.refl _ _).drew
    have hYd : w2.drew.heap[Y]? = some (.cells #[.int .i64 m.k, .int .i64 m.fr, .int .i64 m.dst, .int .i64 m.tm, .int .i64 m.ix, .int .i64 m.lt, .int .i64 m.cm, .int .i64 m.sf, .bool m.yes, .slice q m.es.length d, .string m.sn, .int .u16 m.cf.ov, .int .u16 m.cf.ox, .int .u16 m.cf.ol, .int .i64 m.cf.oe, .int .i64 m.cf.ok, .int .u16 m.cf.nv, .int .u16 m.cf.nx, .int .u16 m.cf.nl, .int .i64 m.cf.ne, .int .i64 m.cf.nk, .bool m.cf.two] 39 (0, 0)) := HY2.out
    have HBd := Lib.hid HB2.out.drew
    refine wp_region_held_drew (S := fun _ => True) (by kernel_rfl) trivial (fun hHeld => ?_)
    obtain ⟨wd, ewd⟩ : ∃ x, w2.drew = x := ⟨_, rfl⟩
    rewrite [ewd] at hAd hYd HBd ⊢
    have kY4 : wd.cell? ⟨Y, 4, none⟩ = some (.int .i64 m.ix) := block_cells hYd 4
    have kY6 : wd.cell? ⟨Y, 6, none⟩ = some (.int .i64 m.cm) := block_cells hYd 6
    have kY7 : wd.cell? ⟨Y, 7, none⟩ = some (.int .i64 m.sf) := block_cells hYd 7
    have HXd := Lib.hid (below_block HBd.out (block_lt HX.out) HX.out); have HZd := Lib.hid (below_block HBd.out (block_lt HZ.out) HZ.out)
    clear ewd HA2 HX2 HY2 HZ2 HB2
    have HAd := Lib.hid hAd; have HYd := Lib.hid hYd
    clear hAd hYd
    obtain ⟨ma, hma⟩ : ∃ ma : Ms, { m with ix := clampI m.ix } = ma := ⟨_, rfl⟩
    obtain ⟨mb, hmb⟩ : ∃ mb : Ms, { ma with cm := clampI m.cm } = mb := ⟨_, rfl⟩
    have hmc2 : mc = { mb with sf := clampI m.sf } := by rw [← HMC.out, ← hmb, ← hma]; rfl
    refine tkL 0 rfl hHeld ?_
    try simp only [zA, zC, Act.put, zD, zE, zF]
    refine tkL 3 rfl hHeld ?_
    try simp only [zA, zB, zC, Act.put, zD, zE, zF]
    refine tkL 6 rfl hHeld ?_
    try simp only [zA, zB, zC, Act.put, zD, zE, zF]
    apply cut2W
    · intro h147c3
      apply cut2W
      · intro h147c2
        apply cut2W
        · intro h147c1
          apply cut2W
          · intro h14c2
            apply cut2W
            · intro h17c1
              apply cut2W
              · intro h147c0
                apply cut2W
                · intro h14c1
                  apply cut2W
                  · intro h47c0
                    apply cut2W
                    · intro h17c0
                      apply cut2W
                      · intro h14c0
                        apply cut2W
                        · intro h1c1
                          apply cut2W
                          · intro h7c0
                            apply cut2W
                            · intro h4c0
                              apply cut2W
                              · intro h1c0
                                refine wpAnyH_ready (rs := [1, 4, 7]) (by kernel_rfl) (by simp) ?_
                                refine AllReadyH.cons rfl (fun K hK => ?_) (AllReadyH.cons rfl (fun K hK => ?_) (AllReadyH.cons rfl (fun K hK => ?_)  AllReadyH.nil))
                                · (try simp only [zA, zB, zC]); go_simp
                                  refine hK.out _ _ trivial (fun _ => ?_)
                                  clear hK K
                                  try simp only [zA, zB, zC, Act.put, zD, zE, zF]
                                  exact h1c0
                                · (try simp only [zA, zB, zC]); go_simp
                                  refine hK.out _ _ trivial (fun _ => ?_)
                                  clear hK K
                                  try simp only [zA, zB, zC, Act.put, zD, zE, zF]
                                  exact h4c0
                                · (try simp only [zA, zB, zC]); go_simp
                                  refine hK.out _ _ trivial (fun _ => ?_)
                                  clear hK K
                                  try simp only [zA, zB, zC, Act.put, zD, zE, zF]
                                  exact h7c0
                              refine wpAnyH_ready (rs := [2, 4, 7]) (by kernel_rfl) (by simp) ?_
                              refine AllReadyH.cons rfl (fun K hK => ?_) (AllReadyH.cons rfl (fun K hK => ?_) (AllReadyH.cons rfl (fun K hK => ?_)  AllReadyH.nil))
                              · (try simp only [zA, zB, zC]); go_simp
                                refine (clamp_any _ _).mono ?_; rintro r0 wz ⟨rfl, rfl⟩
                                refine hK.out _ _ trivial (fun _ => ?_)
                                clear hK K
                                try simp only [zA, zB, zC, Act.put, zD, zE, zF]
                                exact h1c1
                              · (try simp only [zA, zB, zC]); go_simp
                                refine hK.out _ _ trivial (fun _ => ?_)
                                clear hK K
                                try simp only [zA, zB, zC, Act.put, zD, zE, zF]
                                exact h14c0
                              · (try simp only [zA, zB, zC]); go_simp
                                refine hK.out _ _ trivial (fun _ => ?_)
                                clear hK K
                                try simp only [zA, zB, zC, Act.put, zD, zE, zF]
                                exact h17c0
                            refine wpAnyH_ready (rs := [1, 7]) (by kernel_rfl) (by simp) ?_
                            refine AllReadyH.cons rfl (fun K hK => ?_) (AllReadyH.cons rfl (fun K hK => ?_)  AllReadyH.nil)
                            · (try simp only [zA, zB, zC]); go_simp
                              refine hK.out _ _ trivial (fun _ => ?_)
                              clear hK K
                              try simp only [zA, zB, zC, Act.put, zD, zE, zF]
                              exact h14c0
                            · (try simp only [zA, zB, zC]); go_simp
                              refine hK.out _ _ trivial (fun _ => ?_)
                              clear hK K
                              try simp only [zA, zB, zC, Act.put, zD, zE, zF]
                              exact h47c0
                          refine wpAnyH_ready (rs := [1, 4]) (by kernel_rfl) (by simp) ?_
                          refine AllReadyH.cons rfl (fun K hK => ?_) (AllReadyH.cons rfl (fun K hK => ?_)  AllReadyH.nil)
                          · (try simp only [zA, zB, zC]); go_simp
                            refine hK.out _ _ trivial (fun _ => ?_)
                            clear hK K
                            try simp only [zA, zB, zC, Act.put, zD, zE, zF]
                            exact h17c0
                          · (try simp only [zA, zB, zC]); go_simp
                            refine hK.out _ _ trivial (fun _ => ?_)
                            clear hK K
                            try simp only [zA, zB, zC, Act.put, zD, zE, zF]
                            exact h47c0
                        refine wpAnyH_ready (rs := [4, 7]) (by kernel_rfl) (by simp) ?_
                        refine AllReadyH.cons rfl (fun K hK => ?_) (AllReadyH.cons rfl (fun K hK => ?_)  AllReadyH.nil)
                        · (try simp only [zA, zB, zC]); go_simp
                          refine hK.out _ _ trivial (fun _ => ?_)
                          clear hK K
                          try simp only [zA, zB, zC, Act.put, zD, zE, zF]
                          exact h14c1
                        · (try simp only [zA, zB, zC]); go_simp
                          refine hK.out _ _ trivial (fun _ => ?_)
                          clear hK K
                          try simp only [zA, zB, zC, Act.put, zD, zE, zF]
                          exact h17c1
                      refine wpAnyH_ready (rs := [2, 7]) (by kernel_rfl) (by simp) ?_
                      refine AllReadyH.cons rfl (fun K hK => ?_) (AllReadyH.cons rfl (fun K hK => ?_)  AllReadyH.nil)
                      · (try simp only [zA, zB, zC]); go_simp
                        refine (clamp_any _ _).mono ?_; rintro r0 wz ⟨rfl, rfl⟩
                        refine hK.out _ _ trivial (fun _ => ?_)
                        clear hK K
                        try simp only [zA, zB, zC, Act.put, zD, zE, zF]
                        exact h14c1
                      · (try simp only [zA, zB, zC]); go_simp
                        refine hK.out _ _ trivial (fun _ => ?_)
                        clear hK K
                        try simp only [zA, zB, zC, Act.put, zD, zE, zF]
                        exact h147c0
                    refine wpAnyH_ready (rs := [2, 4]) (by kernel_rfl) (by simp) ?_
                    refine AllReadyH.cons rfl (fun K hK => ?_) (AllReadyH.cons rfl (fun K hK => ?_)  AllReadyH.nil)
                    · (try simp only [zA, zB, zC]); go_simp
                      refine (clamp_any _ _).mono ?_; rintro r0 wz ⟨rfl, rfl⟩
                      refine hK.out _ _ trivial (fun _ => ?_)
                      clear hK K
                      try simp only [zA, zB, zC, Act.put, zD, zE, zF]
                      exact h17c1
                    · (try simp only [zA, zB, zC]); go_simp
                      refine hK.out _ _ trivial (fun _ => ?_)
                      clear hK K
                      try simp only [zA, zB, zC, Act.put, zD, zE, zF]
                      exact h147c0
                  refine wpAnyH_ready (rs := [1]) (by kernel_rfl) (by simp) ?_
                  refine AllReadyH.cons rfl (fun K hK => ?_)  AllReadyH.nil
                  · (try simp only [zA, zB, zC]); go_simp
                    refine hK.out _ _ trivial (fun _ => ?_)
                    clear hK K
                    try simp only [zA, zB, zC, Act.put, zD, zE, zF]
                    exact h147c0
                refine wpAnyH_ready (rs := [5, 7]) (by kernel_rfl) (by simp) ?_
                refine AllReadyH.cons rfl (fun K hK => ?_) (AllReadyH.cons rfl (fun K hK => ?_)  AllReadyH.nil)
                · (try simp only [zA, zB, zC]); go_simp
                  refine (clamp_any _ _).mono ?_; rintro r0 wz ⟨rfl, rfl⟩
                  refine hK.out _ _ trivial (fun _ => ?_)
                  clear hK K
                  try simp only [zA, zB, zC, Act.put, zD, zE, zF]
                  exact h14c2
                · (try simp only [zA, zB, zC]); go_simp
                  refine hK.out _ _ trivial (fun _ => ?_)
                  clear hK K
                  try simp only [zA, zB, zC, Act.put, zD, zE, zF]
                  refine tkL 9 rfl hHeld ?_
                  try simp only [zA, zB, zC, Act.put, zD, zE, zF]
                  exact h147c1
              refine wpAnyH_ready (rs := [2]) (by kernel_rfl) (by simp) ?_
              refine AllReadyH.cons rfl (fun K hK => ?_)  AllReadyH.nil
              · (try simp only [zA, zB, zC]); go_simp
                refine (clamp_any _ _).mono ?_; rintro r0 wz ⟨rfl, rfl⟩
                refine hK.out _ _ trivial (fun _ => ?_)
                clear hK K
                try simp only [zA, zB, zC, Act.put, zD, zE, zF]
                refine tkL 9 rfl hHeld ?_
                try simp only [zA, zB, zC, Act.put, zD, zE, zF]
                exact h147c1
            refine wpAnyH_ready (rs := [4]) (by kernel_rfl) (by simp) ?_
            refine AllReadyH.cons rfl (fun K hK => ?_)  AllReadyH.nil
            · (try simp only [zA, zB, zC]); go_simp
              refine hK.out _ _ trivial (fun _ => ?_)
              clear hK K
              try simp only [zA, zB, zC, Act.put, zD, zE, zF]
              refine tkL 9 rfl hHeld ?_
              try simp only [zA, zB, zC, Act.put, zD, zE, zF]
              exact h147c1
          refine wpAnyH_ready (rs := [7]) (by kernel_rfl) (by simp) ?_
          refine AllReadyH.cons rfl (fun K hK => ?_)  AllReadyH.nil
          · (try simp only [zA, zB, zC]); go_simp
            refine hK.out _ _ trivial (fun _ => ?_)
            clear hK K
            try simp only [zA, zB, zC, Act.put, zD, zE, zF]
            refine tkL 9 rfl hHeld ?_
            try simp only [zA, zB, zC, Act.put, zD, zE, zF]
            exact h147c2
        refine wpAnyH_ready (rs := [5]) (by kernel_rfl) (by simp) ?_
        refine AllReadyH.cons rfl (fun K hK => ?_)  AllReadyH.nil
        · (try simp only [zA, zB, zC]); go_simp
          refine (clamp_any _ _).mono ?_; rintro r0 wz ⟨rfl, rfl⟩
          refine hK.out _ _ trivial (fun _ => ?_)
          clear hK K
          try simp only [zA, zB, zC, Act.put, zD, zE, zF]
          exact h147c2
      refine wpAnyH_ready (rs := [8]) (by kernel_rfl) (by simp) ?_
      refine AllReadyH.cons rfl (fun K hK => ?_)  AllReadyH.nil
      · (try simp only [zA, zB, zC]); go_simp
        refine (clamp_any _ _).mono ?_; rintro r0 wz ⟨rfl, rfl⟩
        refine hK.out _ _ trivial (fun _ => ?_)
        clear hK K
        try simp only [zA, zB, zC, Act.put, zD, zE, zF]
        exact h147c3
    have hYa : (wd.setCell ⟨Y, 4, none⟩ (.int .i64 (clampI m.ix))).heap[Y]? = some (.cells #[.int .i64 ma.k, .int .i64 ma.fr, .int .i64 ma.dst, .int .i64 ma.tm, .int .i64 ma.ix, .int .i64 ma.lt, .int .i64 ma.cm, .int .i64 ma.sf, .bool ma.yes, .slice q ma.es.length d, .string ma.sn, .int .u16 ma.cf.ov, .int .u16 ma.cf.ox, .int .u16 ma.cf.ol, .int .i64 ma.cf.oe, .int .i64 ma.cf.ok, .int .u16 ma.cf.nv, .int .u16 ma.cf.nx, .int .u16 ma.cf.nl, .int .i64 ma.cf.ne, .int .i64 ma.cf.nk, .bool ma.cf.two] 39 (0, 0)) := by rw [← hma]; exact cells_setW HYd.out 4 _
    have hYb : ((wd.setCell ⟨Y, 4, none⟩ (.int .i64 (clampI m.ix))).setCell ⟨Y, 6, none⟩ (.int .i64 (clampI m.cm))).heap[Y]? = some (.cells #[.int .i64 mb.k, .int .i64 mb.fr, .int .i64 mb.dst, .int .i64 mb.tm, .int .i64 mb.ix, .int .i64 mb.lt, .int .i64 mb.cm, .int .i64 mb.sf, .bool mb.yes, .slice q mb.es.length d, .string mb.sn, .int .u16 mb.cf.ov, .int .u16 mb.cf.ox, .int .u16 mb.cf.ol, .int .i64 mb.cf.oe, .int .i64 mb.cf.ok, .int .u16 mb.cf.nv, .int .u16 mb.cf.nx, .int .u16 mb.cf.nl, .int .i64 mb.cf.ne, .int .i64 mb.cf.nk, .bool mb.cf.two] 39 (0, 0)) := by rw [← hmb]; exact cells_setW hYa 6 _
    have hYc : (((wd.setCell ⟨Y, 4, none⟩ (.int .i64 (clampI m.ix))).setCell ⟨Y, 6, none⟩ (.int .i64 (clampI m.cm))).setCell ⟨Y, 7, none⟩ (.int .i64 (clampI m.sf))).heap[Y]? = some (.cells #[.int .i64 mc.k, .int .i64 mc.fr, .int .i64 mc.dst, .int .i64 mc.tm, .int .i64 mc.ix, .int .i64 mc.lt, .int .i64 mc.cm, .int .i64 mc.sf, .bool mc.yes, .slice q mc.es.length d, .string mc.sn, .int .u16 mc.cf.ov, .int .u16 mc.cf.ox, .int .u16 mc.cf.ol, .int .i64 mc.cf.oe, .int .i64 mc.cf.ok, .int .u16 mc.cf.nv, .int .u16 mc.cf.nx, .int .u16 mc.cf.nl, .int .i64 mc.cf.ne, .int .i64 mc.cf.nk, .bool mc.cf.two] 39 (0, 0)) := by rw [hmc2]; exact cells_setW hYb 7 _
    have ga := grown_setW wd Y 4 (.int .i64 (clampI m.ix))
    have gb := grown_setW (wd.setCell ⟨Y, 4, none⟩ (.int .i64 (clampI m.ix))) Y 6 (.int .i64 (clampI m.cm))
    have gc := grown_setW ((wd.setCell ⟨Y, 4, none⟩ (.int .i64 (clampI m.ix))).setCell ⟨Y, 6, none⟩ (.int .i64 (clampI m.cm))) Y 7 (.int .i64 (clampI m.sf))
    have hA4 := ((HAd.out.other HYd.out (by decide) hRY.symm (fun e => by cases e) ga).other hYa (by decide) hRY.symm (fun e => by cases e) gb).other hYb (by decide) hRY.symm (fun e => by cases e) gc
    have hbw := HBW.out.trans (HBd.out.mono HBW.out.size)
    have hwY : ∀ b, some Y = some b → w.heap.size ≤ b := fun b e => by simp only [Option.some.injEq] at e; have := HEY.out; have := HEX.out; omega
    have hb4 := ((hbw.grown ga hbw.size hwY).grown gb (hbw.grown ga hbw.size hwY).size hwY).grown gc ((hbw.grown ga hbw.size hwY).grown gb (hbw.grown ga hbw.size hwY).size hwY).size hwY
    have hYZ : Z ≠ Y := by have := HEZ.out; omega
    have hZ4 := (gc.block Z (Nat.lt_of_lt_of_le (block_lt HZd.out) (Nat.le_trans ga.size gb.size)) (fun e => hYZ (by simpa using e))).trans ((gb.block Z (Nat.lt_of_lt_of_le (block_lt HZd.out) ga.size) (fun e => hYZ (by simpa using e))).trans ((ga.block Z (block_lt HZd.out) (fun e => hYZ (by simpa using e))).trans HZd.out))
    have HA4 := Lib.hid hA4; have HB4 := Lib.hid hb4; have HY4 := Lib.hid hYc; have HZ4 := Lib.hid hZ4
    have fY4 : wd.frozen? ⟨Y, 4, none⟩ = false := block_free HYd.out 4
    have kY6a : (wd.setCell ⟨Y, 4, none⟩ (.int .i64 (clampI m.ix))).cell? ⟨Y, 6, none⟩ = some (.int .i64 ma.cm) := block_cells hYa 6
    have fY6 : (wd.setCell ⟨Y, 4, none⟩ (.int .i64 (clampI m.ix))).frozen? ⟨Y, 6, none⟩ = false := block_free hYa 6
    have kY7b : ((wd.setCell ⟨Y, 4, none⟩ (.int .i64 (clampI m.ix))).setCell ⟨Y, 6, none⟩ (.int .i64 (clampI m.cm))).cell? ⟨Y, 7, none⟩ = some (.int .i64 mb.sf) := block_cells hYb 7
    have fY7 : ((wd.setCell ⟨Y, 4, none⟩ (.int .i64 (clampI m.ix))).setCell ⟨Y, 6, none⟩ (.int .i64 (clampI m.cm))).frozen? ⟨Y, 7, none⟩ = false := block_free hYb 7
    clear hYa hYb hYc ga gb gc hA4 hbw hwY hb4 hZ4 hma hmb hmc2 kY6 kY7
    refine wpAnyH_ready (rs := [10]) (by kernel_rfl) (by simp) ?_; refine AllReadyH.cons rfl (fun K hK => ?_) AllReadyH.nil
    try simp only [zA, zB, zC]
    go_simp
    refine hK.out _ _ trivial (fun _ => ?_)
    clear hK K hHeld kY4 fY4
    try simp only [zA, zB, zC, Act.put, zD, zE, zF]
    have hHeld := trivial
    refine tkL 11 rfl hHeld ?_
    try simp only [zA, zB, zC, Act.put, zD, zE, zF]
    refine wpAnyH_ready (rs := [12]) (by kernel_rfl) (by simp) ?_; refine AllReadyH.cons rfl (fun K hK => ?_) AllReadyH.nil
    try simp only [zA, zB, zC]
    go_simp
    refine hK.out _ _ trivial (fun _ => ?_)
    clear hK K hHeld kY6a fY6
    try simp only [zA, zB, zC, Act.put, zD, zE, zF]
    have hHeld := trivial
    refine tkL 13 rfl hHeld ?_
    try simp only [zA, zB, zC, Act.put, zD, zE, zF]
    refine wpAnyH_ready (rs := [14]) (by kernel_rfl) (by simp) ?_; refine AllReadyH.cons rfl (fun K hK => ?_) AllReadyH.nil
    try simp only [zA, zB, zC]
    go_simp
    refine hK.out _ _ trivial (fun _ => ?_)
    clear hK K hHeld kY7b fY7
    try simp only [zA, zB, zC, Act.put, zD, zE, zF]
    refine wpAnyH_done (by kernel_rfl) ?_ _
    obtain ⟨W4, hW4⟩ : ∃ z : World, ((wd.setCell ⟨Y, 4, none⟩ (.int .i64 (clampI m.ix))).setCell ⟨Y, 6, none⟩ (.int .i64 (clampI m.cm))).setCell ⟨Y, 7, none⟩ (.int .i64 (clampI m.sf)) = z := ⟨_, rfl⟩
    rw [hW4] at HA4 HB4 HY4 HZ4 ⊢
    clear hW4 HXd HZd HYd HAd HBd
    have HT4 := Lib.hid (HT0.out.keep HB4.out); have HM4 := Lib.hid (HM0.out.keep HB4.out (Nat.le_refl _))
    have hmt : mc.tm = m.tm := by rw [← HMC.out]; rfl
    have hmk : mc.k = m.k := by rw [← HMC.out]; rfl
    have HMT := Lib.hid hmt; have HMK := Lib.hid hmk
    obtain ⟨c1, hc1⟩ : ∃ c1, riseC c mc = c1 := ⟨_, rfl⟩
    have HC1 := Lib.hid hc1
    have HF1 : Hid (CoFit N c1) := by show CoFit N c1; rw [← hc1]; exact HF.out.rise mc
    clear hmt hmk hc1
    go_upto_region 5 with fail
    have h0 : Below W4.heap.size W4 W4.drew := (Below.refl _ _).drew
    refine wp_region_held_drew (S := fun w' => Below W4.heap.size W4 w') (by kernel_rfl) h0 (fun hHeld => ?_)
    obtain ⟨wf, ewd⟩ : ∃ x, W4.drew = x := ⟨_, rfl⟩
    rewrite [ewd] at h0 hHeld ⊢
    have kt : ∀ w', Below W4.heap.size W4 w' → w'.cell? ⟨Y, 3, none⟩ = some (.int .i64 m.tm) := fun w' h => by rw [← HMT.out]; exact block_cells (below_block h (block_lt HY4.out) HY4.out) 3
    have kc : ∀ w', Below W4.heap.size W4 w' → w'.cell? ⟨R, 2, none⟩ = some (.int .i64 c.tm) := fun w' h => block_cells (below_block h HA4.out.lt HA4.out.blk) 2
    clear ewd
    refine tkL 0 rfl hHeld ?_
    try simp only [zA, zC, Act.put, zD, zE, zF]
    refine tkL 1 rfl hHeld ?_
    try simp only [zA, zB, zC, Act.put, zD, zE, zF]
    refine tkL 2 rfl hHeld ?_
    try simp only [zA, zB, zC, Act.put, zD, zE, zF]
    refine tkL 3 rfl hHeld ?_
    try simp only [zA, zB, zC, Act.put, zD, zE, zF]
    refine tkL 4 rfl hHeld ?_
    try simp only [zA, zB, zC, Act.put, zD, zE, zF]
    refine tkL 5 rfl hHeld ?_
    try simp only [zA, zB, zC, Act.put, zD, zE, zF]
    refine tkL 6 rfl hHeld ?_
    try simp only [zA, zB, zC, Act.put, zD, zE, zF]
    refine tkL 7 rfl hHeld ?_
    try simp only [zA, zB, zC, Act.put, zD, zE, zF]
    refine wpAnyH_done (by kernel_rfl) ?_ _
    have HA5 := Lib.hid (HA4.out.keep h0); have HR5 := Lib.hid (AcR.below (R := R) (v := .slice none 0 0) h0)
    clear hHeld h0 kt kc
    go_upto_if 36 with fail
    go_cut [] from 36 to 64 (fun wx => Hid (AcW 69 W.heap.size wx R ⟨c1, q0, d0⟩ (.slice none 0 0) [] ∧ AcR W4 wx R (.slice none 0 0) (.slice none 0 0)))
    case first =>
      have kt : wf.cell? ⟨Y, 3, none⟩ = some (.int .i64 m.tm) := by rw [← HMT.out]; exact block_cells (HR5.out.blk HY4.out hRY.symm (fun e => by cases e)).1 3
      by_cases hup : c.tm < m.tm
      · have hub : decide (c.tm < m.tm) = true := by simp [hup]
        have k1' : wf.cell? ⟨R, 1, none⟩ = some (.int .i64 c.role) := block_cells HA5.out.blk 1
        by_cases hro : c.role = 2
        · have hrb : (c.role == 2) = true := by simp [hro]
          have hce : c1 = { c with wt := 0, tm := m.tm, vt := 0, ld := 0, role := 0 } := by rw [← HC1.out]; unfold riseC; rw [if_pos (by rw [HMT.out]; exact hup), if_pos hro, HMT.out]
          have hq0 := HA5.out.put 5 (.int .i64 0) (by decide) ⟨{ c with wt := 0 }, q0, d0⟩ rfl rfl rfl rfl
          have k5 : wf.cell? ⟨R, 5, none⟩ = some (.int .i64 c.wt) := block_cells HA5.out.blk 5
          have f5 : wf.frozen? ⟨R, 5, none⟩ = false := block_free HA5.out.blk 5
          have hq1 := hq0.1.put 2 (.int .i64 m.tm) (by decide) ⟨{ c with wt := 0, tm := m.tm }, q0, d0⟩ rfl rfl rfl rfl
          have k2 : (wf.setCell ⟨R, 5, none⟩ (.int .i64 0)).cell? ⟨R, 2, none⟩ = some (.int .i64 c.tm) := block_cells hq0.1.blk 2
          have f2 : (wf.setCell ⟨R, 5, none⟩ (.int .i64 0)).frozen? ⟨R, 2, none⟩ = false := block_free hq0.1.blk 2
          have hq2 := hq1.1.put 3 (.int .i64 0) (by decide) ⟨{ c with wt := 0, tm := m.tm, vt := 0 }, q0, d0⟩ rfl rfl rfl rfl
          have k3 : ((wf.setCell ⟨R, 5, none⟩ (.int .i64 0)).setCell ⟨R, 2, none⟩ (.int .i64 m.tm)).cell? ⟨R, 3, none⟩ = some (.int .i64 c.vt) := block_cells hq1.1.blk 3
          have f3 : ((wf.setCell ⟨R, 5, none⟩ (.int .i64 0)).setCell ⟨R, 2, none⟩ (.int .i64 m.tm)).frozen? ⟨R, 3, none⟩ = false := block_free hq1.1.blk 3
          have hq3 := hq2.1.put 4 (.int .i64 0) (by decide) ⟨{ c with wt := 0, tm := m.tm, vt := 0, ld := 0 }, q0, d0⟩ rfl rfl rfl rfl
          have k4 : (((wf.setCell ⟨R, 5, none⟩ (.int .i64 0)).setCell ⟨R, 2, none⟩ (.int .i64 m.tm)).setCell ⟨R, 3, none⟩ (.int .i64 0)).cell? ⟨R, 4, none⟩ = some (.int .i64 c.ld) := block_cells hq2.1.blk 4
          have f4 : (((wf.setCell ⟨R, 5, none⟩ (.int .i64 0)).setCell ⟨R, 2, none⟩ (.int .i64 m.tm)).setCell ⟨R, 3, none⟩ (.int .i64 0)).frozen? ⟨R, 4, none⟩ = false := block_free hq2.1.blk 4
          have hq4 := hq3.1.put 1 (.int .i64 0) (by decide) ⟨{ c with wt := 0, tm := m.tm, vt := 0, ld := 0, role := 0 }, q0, d0⟩ rfl rfl rfl rfl
          have k1 : ((((wf.setCell ⟨R, 5, none⟩ (.int .i64 0)).setCell ⟨R, 2, none⟩ (.int .i64 m.tm)).setCell ⟨R, 3, none⟩ (.int .i64 0)).setCell ⟨R, 4, none⟩ (.int .i64 0)).cell? ⟨R, 1, none⟩ = some (.int .i64 c.role) := block_cells hq3.1.blk 1
          have f1 : ((((wf.setCell ⟨R, 5, none⟩ (.int .i64 0)).setCell ⟨R, 2, none⟩ (.int .i64 m.tm)).setCell ⟨R, 3, none⟩ (.int .i64 0)).setCell ⟨R, 4, none⟩ (.int .i64 0)).frozen? ⟨R, 1, none⟩ = false := block_free hq3.1.blk 1
          rw [← hce] at hq4
          have HO := Lib.hid (And.intro hq4.1 (((((HR5.out.trans hq0.2).trans hq1.2).trans hq2.2).trans hq3.2).trans hq4.2))
          have yt : (wf.setCell ⟨R, 5, none⟩ (.int .i64 0)).cell? ⟨Y, 3, none⟩ = some (.int .i64 m.tm) := by rw [← HMT.out]; exact block_cells ((HR5.out.trans hq0.2).blk HY4.out hRY.symm (fun e => by cases e)).1 3
          clear hce hq0 hq1 hq2 hq3 hq4 hro
          go_wp2_with fail
          go_meet
          case rel => exact HO
        · have hrb : (c.role == 2) = false := by simp [hro]
          have hce : c1 = { c with tm := m.tm, vt := 0, ld := 0, role := 0 } := by rw [← HC1.out]; unfold riseC; rw [if_pos (by rw [HMT.out]; exact hup), if_neg hro, HMT.out]
          have hq0 := HA5.out.put 2 (.int .i64 m.tm) (by decide) ⟨{ c with tm := m.tm }, q0, d0⟩ rfl rfl rfl rfl
          have k2 : wf.cell? ⟨R, 2, none⟩ = some (.int .i64 c.tm) := block_cells HA5.out.blk 2
          have f2 : wf.frozen? ⟨R, 2, none⟩ = false := block_free HA5.out.blk 2
          have hq1 := hq0.1.put 3 (.int .i64 0) (by decide) ⟨{ c with tm := m.tm, vt := 0 }, q0, d0⟩ rfl rfl rfl rfl
          have k3 : (wf.setCell ⟨R, 2, none⟩ (.int .i64 m.tm)).cell? ⟨R, 3, none⟩ = some (.int .i64 c.vt) := block_cells hq0.1.blk 3
          have f3 : (wf.setCell ⟨R, 2, none⟩ (.int .i64 m.tm)).frozen? ⟨R, 3, none⟩ = false := block_free hq0.1.blk 3
          have hq2 := hq1.1.put 4 (.int .i64 0) (by decide) ⟨{ c with tm := m.tm, vt := 0, ld := 0 }, q0, d0⟩ rfl rfl rfl rfl
          have k4 : ((wf.setCell ⟨R, 2, none⟩ (.int .i64 m.tm)).setCell ⟨R, 3, none⟩ (.int .i64 0)).cell? ⟨R, 4, none⟩ = some (.int .i64 c.ld) := block_cells hq1.1.blk 4
          have f4 : ((wf.setCell ⟨R, 2, none⟩ (.int .i64 m.tm)).setCell ⟨R, 3, none⟩ (.int .i64 0)).frozen? ⟨R, 4, none⟩ = false := block_free hq1.1.blk 4
          have hq3 := hq2.1.put 1 (.int .i64 0) (by decide) ⟨{ c with tm := m.tm, vt := 0, ld := 0, role := 0 }, q0, d0⟩ rfl rfl rfl rfl
          have k1 : (((wf.setCell ⟨R, 2, none⟩ (.int .i64 m.tm)).setCell ⟨R, 3, none⟩ (.int .i64 0)).setCell ⟨R, 4, none⟩ (.int .i64 0)).cell? ⟨R, 1, none⟩ = some (.int .i64 c.role) := block_cells hq2.1.blk 1
          have f1 : (((wf.setCell ⟨R, 2, none⟩ (.int .i64 m.tm)).setCell ⟨R, 3, none⟩ (.int .i64 0)).setCell ⟨R, 4, none⟩ (.int .i64 0)).frozen? ⟨R, 1, none⟩ = false := block_free hq2.1.blk 1
          rw [← hce] at hq3
          have HO := Lib.hid (And.intro hq3.1 ((((HR5.out.trans hq0.2).trans hq1.2).trans hq2.2).trans hq3.2))
          clear hce hq0 hq1 hq2 hq3 hro
          go_wp2_with fail
          go_meet
          case rel => exact HO
      · have hub : decide (c.tm < m.tm) = false := by simp; omega
        have hce : c1 = c := by rw [← HC1.out]; unfold riseC; rw [if_neg (by rw [HMT.out]; exact hup)]
        have HO : Hid (AcW 69 W.heap.size wf R ⟨c1, q0, d0⟩ (.slice none 0 0) [] ∧ AcR W4 wf R (.slice none 0 0) (.slice none 0 0)) := ⟨by rw [hce]; exact HA5.out, HR5.out⟩
        have hup2 : m.tm ≤ c.tm := by omega
        clear hce hup
        go_wp2_with fail
        go_meet
        case rel => exact HO
    obtain ⟨W6, hW6⟩ : ∃ z : World, z = wc := ⟨_, rfl⟩
    rw [← hW6] at hcut ⊢
    have HA6 := Lib.hid hcut.out.1; have HR6 := Lib.hid hcut.out.2
    clear hW6 hcut HA5 HR5 HA4
    have HY6 := Lib.hid (HR6.out.blk HY4.out hRY.symm (fun e => by cases e)).1
    have HFIN := Lib.hid (show ∀ (wx : World) (vx : Value), AcR W4 wx R (.slice none 0 0) vx → Below w.heap.size w wx ∧ vx.ownBlock ≠ some Z ∧ wx.heap[Z]? = some (.cells (coL co0 none 0).toArray 33 (0, 0)) from fun wx vx hr => by
      have hz := hr.blk HZ4.out hRZ.symm (fun e => by cases e)
      have h1 := hr.base hRW (fun b e => by cases e) (by have := HR6.out; have := HA6.out.le; exact (by have := HWS.out; have := block_lt HZ4.out; omega))
      exact ⟨HB4.out.trans (h1.mono HWX.out.1), hz.2, hz.1⟩)
    go_upto_region 9 with fail
    have h0 : Below W6.heap.size W6 W6.drew := (Below.refl _ _).drew
    refine wp_region_held_drew (S := fun w' => Below W6.heap.size W6 w') (by kernel_rfl) h0 (fun hHeld => ?_)
    obtain ⟨wg, ewd⟩ : ∃ x, W6.drew = x := ⟨_, rfl⟩
    rewrite [ewd] at h0 hHeld ⊢
    have kt : ∀ w', Below W6.heap.size W6 w' → w'.cell? ⟨Y, 3, none⟩ = some (.int .i64 m.tm) := fun w' h => by rw [← HMT.out]; exact block_cells (below_block h (block_lt HY6.out) HY6.out) 3
    have kc : ∀ w', Below W6.heap.size W6 w' → w'.cell? ⟨R, 2, none⟩ = some (.int .i64 c1.tm) := fun w' h => block_cells (below_block h HA6.out.lt HA6.out.blk) 2
    clear ewd
    refine tkL 0 rfl hHeld ?_
    try simp only [zA, zC, Act.put, zD, zE, zF]
    refine tkL 1 rfl hHeld ?_
    try simp only [zA, zB, zC, Act.put, zD, zE, zF]
    refine tkL 2 rfl hHeld ?_
    try simp only [zA, zB, zC, Act.put, zD, zE, zF]
    refine tkL 3 rfl hHeld ?_
    try simp only [zA, zB, zC, Act.put, zD, zE, zF]
    refine tkL 4 rfl hHeld ?_
    try simp only [zA, zB, zC, Act.put, zD, zE, zF]
    refine tkL 5 rfl hHeld ?_
    try simp only [zA, zB, zC, Act.put, zD, zE, zF]
    refine tkL 6 rfl hHeld ?_
    try simp only [zA, zB, zC, Act.put, zD, zE, zF]
    refine tkL 7 rfl hHeld ?_
    try simp only [zA, zB, zC, Act.put, zD, zE, zF]
    refine wpAnyH_done (by kernel_rfl) ?_ _
    have HA7 := Lib.hid (HA6.out.keep h0); have HR7 := Lib.hid (HR6.out.trans (AcR.below h0)); have HY7 := Lib.hid (below_block h0 (block_lt HY6.out) HY6.out)
    clear hHeld h0 kt kc HA6 HR6 HY6
    have HRG := Lib.hid (msg_range HY7.out)
    obtain ⟨kk, hkk⟩ : ∃ kk, m.k = kk := ⟨_, rfl⟩
    have HKK := Lib.hid hkk
    have HST : Hid (A = if m.tm < c1.tm then lateA ⟨c1, []⟩ mc else if kk = 1 then askedA ⟨c1, []⟩ mc else if kk = 2 then voteA ⟨c1, []⟩ mc else if kk = 4 then (if c1.role = 2 then ackedA ⟨c1, []⟩ mc else ⟨c1, []⟩) else if kk = 3 then (if c1.role = 2 then ⟨c1, []⟩ else appendsA ⟨c1, []⟩ mc) else if kk = 5 then (if c1.role = 2 then ⟨c1, []⟩ else snapA ⟨c1, []⟩ mc) else (if c1.role = 2 then ⟨c1, []⟩ else lentA ⟨c1, []⟩ mc)) := by
      show _ = _
      rw [← HAA.out, ← HC1.out, ← HMT.out, ← HMC.out]
      unfold stepB
      rw [hkk, if_neg (by rw [HD.out]; exact Bool.false_ne_true)]
    clear hkk
    have HMW := Lib.hid (show EnSl wg (.slice q mc.es.length d) mc.es from by rw [HCE.out]; exact HM0.out.keep (HFIN.out wg _ HR7.out).1 (Nat.le_refl _))
    by_cases hlt : m.tm < c1.tm
    · have hlb : decide (m.tm < c1.tm) = true := by simp [hlt]
      have HZ1 : Hid (A = lateA ⟨c1, []⟩ mc) := by show _ = _; rw [HST.out]; exact if_pos hlt
      have HLA := Lib.hid (show Calls Tryz.prog 38 #[.pointer (some ⟨R, 0, none⟩), .agg (msC mc q d).toArray] wg _ from late_act W.heap.size R c1 q0 d0 (.slice none 0 0) [] mc q d wg HA7.out (by decide))
      go_wp2_with (with_reducible refine wpList_load_mid (op := ⟨some 74, _, _, _, _, _⟩) rfl _ _ rfl Y 0 rfl (msC mc q d) _ HRG.out Tryz.underlying39 rfl (by kernel_rfl) ?_)
      refine HLA.out.mono ?_; rintro r wz ⟨rfl, v9, l9, hl9', hA9', hr9'⟩
      have hac : (lateA ⟨c1, []⟩ mc).c = c1 := by unfold lateA; split; rfl; split; rfl; rfl
      obtain ⟨q9, d9, hq9, hd9⟩ : ∃ q9 d9, q9 = q0 ∧ d9 = d0 := ⟨_, _, rfl, rfl⟩
      have hl9 : l9.map MsX.m = A.out := by rw [HZ1.out]; exact hl9'
      have hA9 : AcW 69 W.heap.size wz R ⟨A.c, q9, d9⟩ v9 l9 := by rw [HZ1.out, hac, hq9, hd9]; exact hA9'
      have hr9 := HR7.out.trans hr9'
      clear hl9' hA9' hr9' HLA hac hq9 hd9
      have hfin := HFIN.out wz v9 hr9
      obtain ⟨c9, hc9⟩ : ∃ c9, A.c = c9 := ⟨_, rfl⟩
      rw [hc9] at hA9
      have HL9 := Lib.hid hl9; have HA9 := Lib.hid hA9; have HC9 := Lib.hid hc9
      have HB9 := Lib.hid hfin.1; have HV9 := Lib.hid hfin.2.1; have HZ9 := Lib.hid hfin.2.2
      clear hl9 hA9 hr9 hc9 hfin
      go_upto_region 11 with fail
      have hAe := HA9.out.keep (Below.refl _ _).drew
      have hZe : wz.drew.heap[Z]? = some (.cells (coL co0 none 0).toArray 33 (0, 0)) := HZ9.out
      have hte := there_of_block (o := 0) (n := 45) hZe (Nat.le_of_ble_eq_true rfl)
      have hSe : RAll R ((coL c9 q9 d9) ++ [v9]).toArray wz.drew := RAll.of (w := wz.drew) hAe.blk
      refine wp_region_held_drew (S := RAll R ((coL c9 q9 d9) ++ [v9]).toArray) (by kernel_rfl) hSe (fun hHeld => ?_)
      have HBe := Lib.hid (HB9.out.drew)
      obtain ⟨we, ewe⟩ : ∃ x, wz.drew = x := ⟨_, rfl⟩
      rewrite [ewe] at hHeld hAe hZe hte hSe HBe ⊢
      have HAe := Lib.hid hAe; have HZe := Lib.hid hZe; have HTe := Lib.hid hte
      have k45 : ∀ w', RAll R ((coL c9 q9 d9) ++ [v9]).toArray w' → w'.cell? ⟨R, 45, none⟩ = some v9 := fun w' h => h.r 45
      have s2e : RAll R ((coL c9 q9 d9) ++ [v9]).toArray (we.setCells Z 0 (coL c9 q9 d9)) := ⟨fun j => by
        have hg := (block_setCells (coL c9 q9 d9) 0 HZe.out).2
        exact block_cells ((hg.block R HAe.out.lt (fun e => hRZ (by simpa using e))).trans HAe.out.blk) j⟩
      clear ewe hAe hZe hte hSe
      refine tkL 0 rfl hHeld ?_
      try simp only [zA, zC, Act.put, zD, zE, zF]
      refine tkL 1 rfl hHeld ?_
      try simp only [zA, zB, zC, Act.put, zD, zE, zF]
      refine tkL 2 rfl hHeld ?_
      try simp only [zA, zB, zC, Act.put, zD, zE, zF]
      refine tkH (i := 3) (v := .agg (coL c9 q9 d9).toArray) rfl (yieldsIf_load_mid (by rfl) _ _ rfl R 0 rfl (coL c9 q9 d9) _ (fun w' h => act_range h) Tryz.underlying33 rfl (by kernel_rfl)) hHeld ?_
      try simp only [zA, zB, zC, Act.put, zD, zE, zF]
      refine tkL 4 rfl hHeld ?_
      try simp only [zA, zB, zC, Act.put, zD, zE, zF]
      refine tkL 5 rfl hHeld ?_
      try simp only [zA, zB, zC, Act.put, zD, zE, zF]
      refine tkL 6 rfl hHeld ?_
      try simp only [zA, zB, zC, Act.put, zD, zE, zF]
      refine tkL 7 rfl hHeld ?_
      try simp only [zA, zB, zC, Act.put, zD, zE, zF]
      refine wpAnyH_ready (rs := [8]) (by kernel_rfl) (by simp) ?_; refine AllReadyH.cons rfl (fun K hK => ?_) AllReadyH.nil
      rw [if_pos (by rfl)]
      refine wp_store_mid _ _ _ (by rfl) Z 0 (coL c9 q9 d9).toArray (by rfl) (by rfl) HTe.out (by kernel_rfl) (one_all rfl) ?_
      refine hK.out _ _ s2e (fun _ => ?_)
      clear hK K hHeld k45
      try simp only [zA, zB, zC, Act.put]
      have hHeld := s2e
      refine tkL 9 rfl hHeld ?_
      try simp only [zA, zB, zC, Act.put, zD, zE, zF]
      refine wpAnyH_done (by kernel_rfl) ?_ _
      clear hHeld s2e
      go_wp2_with fail
      have hZf : (we.setCells Z 0 (coL c9 q9 d9)).heap[Z]? = some (.cells (coL c9 q9 d9).toArray 33 (0, 0)) := setCells_full (n := 45) (vs := (coL c9 q9 d9).toArray) HZe.out rfl rfl
      refine bodyPost_ret (v := .tuple #[.agg (coL c9 q9 d9).toArray, v9]) ?_ rfl ?_
      · rw [results_cell_tmp rfl]
        simp [asAddr, run_loadVar_row _ Z _ _ _ _ _ hZf Tryz.underlying33 rfl (by kernel_rfl), Result.andThen]
      · exact co_end HAe.out HZe.out hRZ HV9.out HWX.out.1 HBe.out HWX.out.2 HC9.out.symm HL9.out
    · have hlb : decide (m.tm < c1.tm) = false := by simp; omega
      have hlp : c1.tm ≤ m.tm := by omega
      have HNL := Lib.hid hlt
      clear hlt
      have HSAME : Hid (A = ⟨c1, []⟩ → ∃ q d v l, l.map MsX.m = A.out ∧ AcW 69 W.heap.size wg R ⟨A.c, q, d⟩ v l ∧ AcR W4 wg R (.slice none 0 0) v) := fun e => ⟨q0, d0, .slice none 0 0, [], by rw [e]; rfl, by rw [e]; exact HA7.out, HR7.out⟩
      have k1' : wg.cell? ⟨R, 1, none⟩ = some (.int .i64 c1.role) := block_cells HA7.out.blk 1
      have k0' : wg.cell? ⟨Y, 0, none⟩ = some (.int .i64 kk) := by rw [← HKK.out, ← HMK.out]; exact block_cells HY7.out 0
      go_upto_block 0 with fail
      go_cut [7] from 72 to 155 (fun _ wx => Hid (∃ q d v l, l.map MsX.m = A.out ∧ AcW 69 W.heap.size wx R ⟨A.c, q, d⟩ v l ∧ AcR W4 wx R (.slice none 0 0) v))
      case first =>
        have hmEs : (mc.es.length ≤ 100000) := by rw [HCE.out]; exact HMN.out
        have k1 : ¬ kk = 1 := by have h1 := HKK.out; have h2 := HKM.out; omega
        have k1b : (kk == 1) = false := by simp [k1]
        have HK1 := Lib.hid k1
        clear k1
        by_cases k2 : kk = 2
        · have k2b : (kk == 2) = true := by simp [k2]
          have HZ1 : Hid (A = voteA ⟨c1, []⟩ mc) := by show _ = _; rw [HST.out, if_neg HNL.out, if_neg HK1.out]; exact if_pos k2
          clear k2
          have ky8 : wg.cell? ⟨Y, 8, none⟩ = some (.bool mc.yes) := block_cells HY7.out 8
          by_cases hv1 : c1.role = 1
          · have hrb : (c1.role == 1) = true := by simp [hv1]
            have HV1 := Lib.hid hv1
            clear hv1
            cases hy : mc.yes with
            | false =>
              rw [hy] at ky8
              have HYY := Lib.hid hy
              clear hy
              have HZ2 : Hid (A = ⟨c1, []⟩) := by show _ = _; exact HZ1.out.trans (vote_off (fun h => absurd (HYY.out.symm.trans h.2) Bool.false_ne_true))
              have HO := Lib.hid (HSAME.out HZ2.out)
              go_wp2_with fail
              go_meet
              case rel => exact HO
            | true =>
              rw [hy] at ky8
              have HYY := Lib.hid hy
              clear hy
              obtain ⟨fr, hfr⟩ : ∃ fr, mc.fr = fr := ⟨_, rfl⟩
              obtain ⟨g, hg⟩ : ∃ g, withS c1.vs fr = g := ⟨_, rfl⟩
              obtain ⟨cv, hcv⟩ : ∃ cv : Co, { c1 with vs := g } = cv := ⟨_, rfl⟩
              have hcvl : cv.l = c1.l := by rw [← hcv]
              have hcvs : cv.vs = g := by rw [← hcv]
              obtain ⟨J, hJ⟩ : ∃ J, confL c1.l = J := ⟨_, rfl⟩
              have HFR := Lib.hid hfr; have HG := Lib.hid hg; have HCV := Lib.hid hcv; have HCVL := Lib.hid hcvl; have HCVS := Lib.hid hcvs; have HJ := Lib.hid hJ
              have HFV : Hid (CoFit N cv) := by show CoFit N cv; rw [← hcv]; exact ⟨HF1.out.lo, HF1.out.n, HF1.out.id0, HF1.out.id1, HF1.out.nx, HF1.out.mt, HF1.out.cm0, HF1.out.cm1⟩
              clear hfr hg hcv hcvl hcvs hJ
              go_upto_region 20 with fail
              have hAd := HA7.out.keep (Below.refl _ _).drew
              have hYd : wg.drew.heap[Y]? = some (.cells (msC mc q d).toArray 39 (0, 0)) := HY7.out
              have h0 : One Y 1 (.int .i64 fr) wg.drew := ⟨by rw [← HFR.out]; exact block_cells hYd 1⟩
              have HRd := Lib.hid HR7.out.drew
              refine wp_region_held_drew (S := One Y 1 (.int .i64 fr)) (by kernel_rfl) h0 (fun hHeld => ?_)
              obtain ⟨wd, ewd⟩ : ∃ x, wg.drew = x := ⟨_, rfl⟩
              rewrite [ewd] at hAd h0 hHeld hYd HRd ⊢
              clear ewd
              have kx : ∀ w', One Y 1 (.int .i64 fr) w' → w'.cell? ⟨Y, 1, none⟩ = some (.int .i64 fr) := fun w' h => h.r
              have hq := hAd.put 23 (.int .u16 g) (by decide) ⟨{ c1 with vs := g }, q0, d0⟩ rfl rfl rfl rfl
              rw [HCV.out] at hq
              have yX := (hq.2.blk hYd hRY.symm (fun e => by cases e)).1
              have s1 : One Y 1 (.int .i64 fr) (wd.setCell ⟨R, 23, none⟩ (.int .u16 g)) := ⟨by rewrite [← HFR.out]; exact block_cells yX 1⟩
              have kc : wd.cell? ⟨R, 23, none⟩ = some (.int .u16 c1.vs) := block_cells hAd.blk 23
              have fc : wd.frozen? ⟨R, 23, none⟩ = false := block_free hAd.blk 23
              have HA8 := Lib.hid hq.1; have HR8 := Lib.hid (HRd.out.trans hq.2)
              clear hAd hYd hq yX HRd
              refine tkL 0 rfl hHeld ?_
              try simp only [zA, zC, Act.put, zD, zE, zF]
              refine tkL 1 rfl hHeld ?_
              try simp only [zA, zB, zC, Act.put, zD, zE, zF]
              refine tkL 2 rfl hHeld ?_
              try simp only [zA, zB, zC, Act.put, zD, zE, zF]
              refine tkL 3 rfl hHeld ?_
              try simp only [zA, zB, zC, Act.put, zD, zE, zF]
              refine tkL 4 rfl hHeld ?_
              try simp only [zA, zB, zC, Act.put, zD, zE, zF]
              refine tkL 6 rfl hHeld ?_
              try simp only [zA, zB, zC, Act.put, zD, zE, zF]
              refine tkL 7 rfl hHeld ?_
              try simp only [zA, zB, zC, Act.put, zD, zE, zF]
              clear kx
              refine wpAnyH_ready (rs := [5]) (by kernel_rfl) (by simp) ?_; refine AllReadyH.cons rfl (fun K hK => ?_) AllReadyH.nil
              try simp only [zA, zB, zC]
              go_simp
              refine hK.out _ _ hHeld (fun _ => ?_)
              clear hK K
              try simp only [zA, zB, zC, Act.put, zD, zE, zF]
              refine wpAnyH_ready (rs := [8]) (by kernel_rfl) (by simp) ?_; refine AllReadyH.cons rfl (fun K hK => ?_) AllReadyH.nil; (try simp only [zA, zB, zC]); go_simp
              refine (show Calls Tryz.prog 40 #[.int .u16 c1.vs, .int .i64 fr] wd fun e w' => e = .returned (.int .u16 g) ∧ wd = w' from by have := with_any c1.vs fr wd; rw [show bits .or .u16 c1.vs (oneB fr) = g from HG.out] at this; exact this).mono ?_; rintro r0 w4 ⟨rfl, rfl⟩
              refine hK.out _ _ h0 (fun _ => ?_)
              clear hK K hHeld
              try simp only [zA, zB, zC, Act.put, zD, zE, zF]
              have hHeld := h0
              refine tkL 9 rfl hHeld ?_
              try simp only [zA, zB, zC, Act.put, zD, zE, zF]
              refine tkL 10 rfl hHeld ?_
              try simp only [zA, zB, zC, Act.put, zD, zE, zF]
              refine tkL 11 rfl hHeld ?_
              try simp only [zA, zB, zC, Act.put, zD, zE, zF]
              refine wpAnyH_ready (rs := [12]) (by kernel_rfl) (by simp) ?_; refine AllReadyH.cons rfl (fun K hK => ?_) AllReadyH.nil
              try simp only [zA, zB, zC]
              go_simp
              refine hK.out _ _ s1 (fun _ => ?_)
              clear hK K hHeld kc fc
              try simp only [zA, zB, zC, Act.put, zD, zE, zF]
              refine wpAnyH_done (by kernel_rfl) ?_ _
              obtain ⟨W8, hW8⟩ : ∃ z : World, wd.setCell ⟨R, 23, none⟩ (.int .u16 g) = z := ⟨_, rfl⟩
              rw [hW8] at HA8 HR8 ⊢
              clear hW8 h0 s1
              obtain ⟨G, hG⟩ : ∃ G, electsN J g = G := ⟨_, rfl⟩
              have HGG := Lib.hid hG
              clear hG
              go_upto_region 21 with fail
              have h0 : Below W8.heap.size W8 W8.drew := (Below.refl _ _).drew
              refine wp_region_held_drew (S := fun w' => Below W8.heap.size W8 w') (by kernel_rfl) h0 (fun hHeld => ?_)
              obtain ⟨we, ewd⟩ : ∃ x, W8.drew = x := ⟨_, rfl⟩
              rewrite [ewd] at h0 hHeld ⊢
              have k23 : ∀ w', Below W8.heap.size W8 w' → w'.cell? ⟨R, 23, none⟩ = some (.int .u16 g) := fun w' h => by rw [← HCVS.out]; exact block_cells (below_block h HA8.out.lt HA8.out.blk) 23
              clear ewd
              refine tkL 0 rfl hHeld ?_
              try simp only [zA, zC, Act.put, zD, zE, zF]
              refine tkL 2 rfl hHeld ?_
              try simp only [zA, zB, zC, Act.put, zD, zE, zF]
              refine tkL 3 rfl hHeld ?_
              try simp only [zA, zB, zC, Act.put, zD, zE, zF]
              refine tkL 4 rfl hHeld ?_
              try simp only [zA, zB, zC, Act.put, zD, zE, zF]
              refine tkL 5 rfl hHeld ?_
              try simp only [zA, zB, zC, Act.put, zD, zE, zF]
              refine tkL 6 rfl hHeld ?_
              try simp only [zA, zB, zC, Act.put, zD, zE, zF]
              refine wpAnyH_ready (rs := [1]) (by kernel_rfl) (by simp) ?_; refine AllReadyH.cons rfl (fun K hK => ?_) AllReadyH.nil; (try simp only [zA, zB, zC]); go_simp
              refine (show Calls Tryz.prog 42 #[.pointer (some ⟨R, 0, none⟩)] we fun e w' => e = .returned (.agg #[.int .u16 J.ov, .int .u16 J.ox, .int .u16 J.ol, .int .i64 J.oe, .int .i64 J.ok, .int .u16 J.nv, .int .u16 J.nx, .int .u16 J.nl, .int .i64 J.ne, .int .i64 J.nk, .bool J.two]) ∧ Below we.heap.size we w' from by have := joint_act R cv q0 d0 (.slice none 0 0) we (below_block h0 HA8.out.lt HA8.out.blk) HFV.out.lo.f ((EnSl.of_own HA8.out.en).keep h0 (Nat.le_refl _)); rw [HCVL.out, HJ.out] at this; exact this).mono ?_; rintro r0 wh ⟨rfl, bs3⟩
              have s3 := h0.trans (bs3.mono h0.size)
              refine hK.out _ _ s3 (fun _ => ?_)
              clear hK K hHeld bs3 
              try simp only [zA, zB, zC, Act.put, zD, zE, zF]
              have hHeld := s3
              refine wpAnyH_ready (rs := [7]) (by kernel_rfl) (by simp) ?_; refine AllReadyH.cons rfl (fun K hK => ?_) AllReadyH.nil; (try simp only [zA, zB, zC]); go_simp
              refine (show Calls Tryz.prog 41 #[.agg #[.int .u16 J.ov, .int .u16 J.ox, .int .u16 J.ol, .int .i64 J.oe, .int .i64 J.ok, .int .u16 J.nv, .int .u16 J.nx, .int .u16 J.nl, .int .i64 J.ne, .int .i64 J.nk, .bool J.two], .int .u16 g] wh fun e w' => e = .returned (.bool G) ∧ Below wh.heap.size wh w' from by have := jElects J g wh; rw [HGG.out] at this; exact this).mono ?_; rintro r0 wi ⟨rfl, bs4⟩
              have s4 := s3.trans (bs4.mono s3.size)
              refine hK.out _ _ s4 (fun _ => ?_)
              clear hK K hHeld bs4 
              try simp only [zA, zB, zC, Act.put, zD, zE, zF]
              have hHeld := s4
              refine wpAnyH_done (by kernel_rfl) ?_ _
              have HA9 := Lib.hid (HA8.out.keep s4); have HR9 := Lib.hid (HR8.out.trans (AcR.below s4))
              clear hHeld s4 s3 h0 k23 HA8 HR8
              have HT9 := Lib.hid (HT0.out.keep (HFIN.out wi _ HR9.out).1)
              cases G with
              | true =>
                have HZ2 : Hid (A = ⟨winC cv, allM (winC cv)⟩) := by
                  show _ = _
                  rw [HZ1.out, ← HCV.out, ← HG.out, ← HFR.out]
                  exact vote_win HV1.out HYY.out (by rw [HJ.out, HFR.out, HG.out]; exact HGG.out)
                have HWI := Lib.hid (wins_act W.heap.size R N cv q0 d0 (.slice none 0 0) [] wi HA9.out (by have := HWS.out; omega) HT9.out HFV.out (by have := HNN.out; omega) (by decide))
                go_wp2_with fail
                refine HWI.out.mono ?_; rintro r wz ⟨rfl, v9, q9, d9, l9, hl9, hA9, hr9⟩
                have HO : Hid (∃ q d v l, l.map MsX.m = A.out ∧ AcW 69 W.heap.size wz R ⟨A.c, q, d⟩ v l ∧ AcR W4 wz R (.slice none 0 0) v) := ⟨q9, d9, v9, l9, by rw [HZ2.out]; exact hl9, by rw [HZ2.out]; exact hA9, HR9.out.trans hr9⟩
                clear hl9 hA9 hr9 HWI
                go_wp2_with fail
                go_meet
                case rel => exact HO
              | false =>
                have HZ2 : Hid (A = ⟨cv, []⟩) := by
                  show _ = _
                  rw [HZ1.out, ← HCV.out, ← HG.out, ← HFR.out]
                  exact vote_wait HV1.out HYY.out (by rw [HJ.out, HFR.out, HG.out]; exact HGG.out)
                have HO : Hid (∃ q d v l, l.map MsX.m = A.out ∧ AcW 69 W.heap.size wi R ⟨A.c, q, d⟩ v l ∧ AcR W4 wi R (.slice none 0 0) v) := ⟨q0, d0, .slice none 0 0, [], by rw [HZ2.out]; rfl, by rw [HZ2.out]; exact HA9.out, HR9.out⟩
                go_wp2_with fail
                go_meet
                case rel => exact HO
          · have hrb : (c1.role == 1) = false := by simp [hv1]
            have HZ2 : Hid (A = ⟨c1, []⟩) := by show _ = _; exact HZ1.out.trans (vote_off (fun h => hv1 h.1))
            clear hv1
            have HO := Lib.hid (HSAME.out HZ2.out)
            go_wp2_with fail
            go_meet
            case rel => exact HO
        have k2b : (kk == 2) = false := by simp [k2]
        have HK2 := Lib.hid k2
        clear k2
        exact absurd (HKK.out.symm.trans HKM.out) HK2.out
      case rest =>
        obtain ⟨W9, hW9⟩ : ∃ z : World, z = wc := ⟨_, rfl⟩
        rw [← hW9] at hcut ⊢
        obtain ⟨q9, d9, v9, l9, hl9, hA9, hr9⟩ := hcut.out
        clear hW9 hcut
        have hfin := HFIN.out W9 v9 hr9
        obtain ⟨c9, hc9⟩ : ∃ c9, A.c = c9 := ⟨_, rfl⟩
        rw [hc9] at hA9
        have HL9 := Lib.hid hl9; have HA9 := Lib.hid hA9; have HC9 := Lib.hid hc9
        have HB9 := Lib.hid hfin.1; have HV9 := Lib.hid hfin.2.1; have HZ9 := Lib.hid hfin.2.2
        clear hl9 hA9 hr9 hc9 hfin
        go_upto_region 32 with fail
        have hAe := HA9.out.keep (Below.refl _ _).drew
        have hZe : W9.drew.heap[Z]? = some (.cells (coL co0 none 0).toArray 33 (0, 0)) := HZ9.out
        have hte := there_of_block (o := 0) (n := 45) hZe (Nat.le_of_ble_eq_true rfl)
        have hSe : RAll R ((coL c9 q9 d9) ++ [v9]).toArray W9.drew := RAll.of (w := W9.drew) hAe.blk
        refine wp_region_held_drew (S := RAll R ((coL c9 q9 d9) ++ [v9]).toArray) (by kernel_rfl) hSe (fun hHeld => ?_)
        have HBe := Lib.hid (HB9.out.drew)
        obtain ⟨we, ewe⟩ : ∃ x, W9.drew = x := ⟨_, rfl⟩
        rewrite [ewe] at hHeld hAe hZe hte hSe HBe ⊢
        have HAe := Lib.hid hAe; have HZe := Lib.hid hZe; have HTe := Lib.hid hte
        have k45 : ∀ w', RAll R ((coL c9 q9 d9) ++ [v9]).toArray w' → w'.cell? ⟨R, 45, none⟩ = some v9 := fun w' h => h.r 45
        have s2e : RAll R ((coL c9 q9 d9) ++ [v9]).toArray (we.setCells Z 0 (coL c9 q9 d9)) := ⟨fun j => by
          have hg := (block_setCells (coL c9 q9 d9) 0 HZe.out).2
          exact block_cells ((hg.block R HAe.out.lt (fun e => hRZ (by simpa using e))).trans HAe.out.blk) j⟩
        clear ewe hAe hZe hte hSe
        refine tkL 0 rfl hHeld ?_
        try simp only [zA, zC, Act.put, zD, zE, zF]
        refine tkL 1 rfl hHeld ?_
        try simp only [zA, zB, zC, Act.put, zD, zE, zF]
        refine tkL 2 rfl hHeld ?_
        try simp only [zA, zB, zC, Act.put, zD, zE, zF]
        refine tkH (i := 3) (v := .agg (coL c9 q9 d9).toArray) rfl (yieldsIf_load_mid (by rfl) _ _ rfl R 0 rfl (coL c9 q9 d9) _ (fun w' h => act_range h) Tryz.underlying33 rfl (by kernel_rfl)) hHeld ?_
        try simp only [zA, zB, zC, Act.put, zD, zE, zF]
        refine tkL 4 rfl hHeld ?_
        try simp only [zA, zB, zC, Act.put, zD, zE, zF]
        refine tkL 5 rfl hHeld ?_
        try simp only [zA, zB, zC, Act.put, zD, zE, zF]
        refine tkL 6 rfl hHeld ?_
        try simp only [zA, zB, zC, Act.put, zD, zE, zF]
        refine tkL 7 rfl hHeld ?_
        try simp only [zA, zB, zC, Act.put, zD, zE, zF]
        refine wpAnyH_ready (rs := [8]) (by kernel_rfl) (by simp) ?_; refine AllReadyH.cons rfl (fun K hK => ?_) AllReadyH.nil
        rw [if_pos (by rfl)]
        refine wp_store_mid _ _ _ (by rfl) Z 0 (coL c9 q9 d9).toArray (by rfl) (by rfl) HTe.out (by kernel_rfl) (one_all rfl) ?_
        refine hK.out _ _ s2e (fun _ => ?_)
        clear hK K hHeld k45
        try simp only [zA, zB, zC, Act.put]
        have hHeld := s2e
        refine tkL 9 rfl hHeld ?_
        try simp only [zA, zB, zC, Act.put, zD, zE, zF]
        refine wpAnyH_done (by kernel_rfl) ?_ _
        clear hHeld s2e
        go_wp2_with fail
        have hZf : (we.setCells Z 0 (coL c9 q9 d9)).heap[Z]? = some (.cells (coL c9 q9 d9).toArray 33 (0, 0)) := setCells_full (n := 45) (vs := (coL c9 q9 d9).toArray) HZe.out rfl rfl
        refine bodyPost_ret (v := .tuple #[.agg (coL c9 q9 d9).toArray, v9]) ?_ rfl ?_
        · rw [results_cell_tmp rfl]
          simp [asAddr, run_loadVar_row _ Z _ _ _ _ _ hZf Tryz.underlying33 rfl (by kernel_rfl), Result.andThen]
        · exact co_end HAe.out HZe.out hRZ HV9.out HWX.out.1 HBe.out HWX.out.2 HC9.out.symm HL9.out
end Go.Proofs.YtbnndbdnejfehaaGreatDoor
