import Derived.Test.YtbnndbdnejfehaaGreatDoorActAb
/- Core: whether a message is passed over; numbers that are clamped (the program's deaf, clamp, node). -/
namespace Go.Proofs.YtbnndbdnejfehaaGreatDoor
open Go.ChangeShapes Go.WideShapes Go.ChangeAt Go.RowKit

/-- Is a message passed over? -/
def deafB (c : Co) (m : Ms) : Bool :=
  decide (m.dst ≠ c.id) || (!(decide (1 ≤ m.fr) && decide (m.fr ≤ 9)) || (decide (m.fr = c.id) || (decide (m.tm < 1) || (decide (1099511627776 < m.tm) || (decide (m.k < 1) || (decide (6 < m.k) || (decide (m.k = 1) && (decide (c.role = 2) || (decide (c.ld ≠ 0) && decide (c.wt < 10))))))))))
def stepB (c : Co) (m0 : Ms) : Ac :=
  if deafB c m0 = true then ⟨c, []⟩
  else if (clampM m0).tm < (riseC c (clampM m0)).tm then lateA ⟨riseC c (clampM m0), []⟩ (clampM m0)
  else if m0.k = 1 then askedA ⟨riseC c (clampM m0), []⟩ (clampM m0)
  else if m0.k = 2 then voteA ⟨riseC c (clampM m0), []⟩ (clampM m0)
  else if m0.k = 4 then (if (riseC c (clampM m0)).role = 2 then ackedA ⟨riseC c (clampM m0), []⟩ (clampM m0) else ⟨riseC c (clampM m0), []⟩)
  else if m0.k = 3 then (if (riseC c (clampM m0)).role = 2 then ⟨riseC c (clampM m0), []⟩ else appendsA ⟨riseC c (clampM m0), []⟩ (clampM m0))
  else if m0.k = 5 then (if (riseC c (clampM m0)).role = 2 then ⟨riseC c (clampM m0), []⟩ else snapA ⟨riseC c (clampM m0), []⟩ (clampM m0))
  else (if (riseC c (clampM m0)).role = 2 then ⟨riseC c (clampM m0), []⟩ else lentA ⟨riseC c (clampM m0), []⟩ (clampM m0))
set_option maxRecDepth 100000 in
set_option maxHeartbeats 1000000 in
theorem clamp_any (n : Int) (w : World) : Calls Tryz.prog 37 #[.int .i64 n] w fun e w' => e = .returned (.int .i64 (clampI n)) ∧ w = w' := by
  have HC : Hid (min (max n 0) 1099511627776 = clampI n) := rfl
  go_enter Tryz.func37, Tryz.ntmps37
  go_wp2_with fail
  go_ret
  rw [← HC.out]
  exact ⟨rfl, rfl⟩
set_option maxRecDepth 100000 in
set_option maxHeartbeats 1000000 in
theorem node_any (n : Int) (w : World) : Calls Tryz.prog 59 #[.int .i64 n] w fun e w' => e = .returned (.bool (decide (1 ≤ n) && decide (n ≤ 9))) ∧ w = w' := by
  by_cases h1 : 1 ≤ n
  · have d1 : decide (1 ≤ n) = true := by simp [h1]
    by_cases h2 : n ≤ 9
    · have d2 : decide (n ≤ 9) = true := by simp [h2]
      rw [d1, d2]
      go_enter Tryz.func59, Tryz.ntmps59
      go_wp2_with fail
      go_ret
      exact ⟨rfl, rfl⟩
    · have d2 : decide (n ≤ 9) = false := by simp; omega
      rw [d1, d2]
      go_enter Tryz.func59, Tryz.ntmps59
      go_wp2_with fail
      go_ret
      exact ⟨rfl, rfl⟩
  · have d1 : decide (1 ≤ n) = false := by simp; omega
    rw [d1]
    go_enter Tryz.func59, Tryz.ntmps59
    go_wp2_with fail
    go_ret
    exact ⟨rfl, rfl⟩
set_option maxRecDepth 100000 in
set_option maxHeartbeats 16000000 in
theorem deaf_any (c : Co) (p : Option Addr) (k : Nat) (m : Ms) (q : Option Addr) (d : Nat) (w : World) :
    Calls Tryz.prog 36 #[.agg #[.int .i64 c.id, .int .i64 c.role, .int .i64 c.tm, .int .i64 c.vt, .int .i64 c.ld, .int .i64 c.wt, .int .i64 c.cm, .int .i64 c.sf, .int .i64 c.l.b, .int .i64 c.l.bt, .int .u16 c.l.j.ov, .int .u16 c.l.j.ox, .int .u16 c.l.j.ol, .int .i64 c.l.j.oe, .int .i64 c.l.j.ok, .int .u16 c.l.j.nv, .int .u16 c.l.j.nx, .int .u16 c.l.j.nl, .int .i64 c.l.j.ne, .int .i64 c.l.j.nk, .bool c.l.j.two, .slice p c.l.es.length k, .string c.sn, .int .u16 c.vs, .int .u16 c.hd, .int .i64 (c.nx 0), .int .i64 (c.nx 1), .int .i64 (c.nx 2), .int .i64 (c.nx 3), .int .i64 (c.nx 4), .int .i64 (c.nx 5), .int .i64 (c.nx 6), .int .i64 (c.nx 7), .int .i64 (c.nx 8), .int .i64 (c.nx 9), .int .i64 (c.mt 0), .int .i64 (c.mt 1), .int .i64 (c.mt 2), .int .i64 (c.mt 3), .int .i64 (c.mt 4), .int .i64 (c.mt 5), .int .i64 (c.mt 6), .int .i64 (c.mt 7), .int .i64 (c.mt 8), .int .i64 (c.mt 9)], .agg #[.int .i64 m.k, .int .i64 m.fr, .int .i64 m.dst, .int .i64 m.tm, .int .i64 m.ix, .int .i64 m.lt, .int .i64 m.cm, .int .i64 m.sf, .bool m.yes, .slice q m.es.length d, .string m.sn, .int .u16 m.cf.ov, .int .u16 m.cf.ox, .int .u16 m.cf.ol, .int .i64 m.cf.oe, .int .i64 m.cf.ok, .int .u16 m.cf.nv, .int .u16 m.cf.nx, .int .u16 m.cf.nl, .int .i64 m.cf.ne, .int .i64 m.cf.nk, .bool m.cf.two]] w fun e w' => e = .returned (.bool (deafB c m)) ∧ Below w.heap.size w w' := by
  obtain ⟨D, hD⟩ : ∃ D, deafB c m = D := ⟨_, rfl⟩
  have HD := Lib.hid hD
  rw [hD]
  obtain ⟨W0, hW0⟩ : ∃ z : World, w.alloc (.cells #[.int .i64 c.id, .int .i64 c.role, .int .i64 c.tm, .int .i64 c.vt, .int .i64 c.ld, .int .i64 c.wt, .int .i64 c.cm, .int .i64 c.sf, .int .i64 c.l.b, .int .i64 c.l.bt, .int .u16 c.l.j.ov, .int .u16 c.l.j.ox, .int .u16 c.l.j.ol, .int .i64 c.l.j.oe, .int .i64 c.l.j.ok, .int .u16 c.l.j.nv, .int .u16 c.l.j.nx, .int .u16 c.l.j.nl, .int .i64 c.l.j.ne, .int .i64 c.l.j.nk, .bool c.l.j.two, .slice p c.l.es.length k, .string c.sn, .int .u16 c.vs, .int .u16 c.hd, .int .i64 (c.nx 0), .int .i64 (c.nx 1), .int .i64 (c.nx 2), .int .i64 (c.nx 3), .int .i64 (c.nx 4), .int .i64 (c.nx 5), .int .i64 (c.nx 6), .int .i64 (c.nx 7), .int .i64 (c.nx 8), .int .i64 (c.nx 9), .int .i64 (c.mt 0), .int .i64 (c.mt 1), .int .i64 (c.mt 2), .int .i64 (c.mt 3), .int .i64 (c.mt 4), .int .i64 (c.mt 5), .int .i64 (c.mt 6), .int .i64 (c.mt 7), .int .i64 (c.mt 8), .int .i64 (c.mt 9)] 33) = z := ⟨_, rfl⟩
  obtain ⟨W, hW⟩ : ∃ z : World, W0.alloc (.cells #[.int .i64 m.k, .int .i64 m.fr, .int .i64 m.dst, .int .i64 m.tm, .int .i64 m.ix, .int .i64 m.lt, .int .i64 m.cm, .int .i64 m.sf, .bool m.yes, .slice q m.es.length d, .string m.sn, .int .u16 m.cf.ov, .int .u16 m.cf.ox, .int .u16 m.cf.ol, .int .i64 m.cf.oe, .int .i64 m.cf.ok, .int .u16 m.cf.nv, .int .u16 m.cf.nx, .int .u16 m.cf.nl, .int .i64 m.cf.ne, .int .i64 m.cf.nk, .bool m.cf.two] 39) = z := ⟨_, rfl⟩
  have hs0 : W0.heap.size = w.heap.size + 1 := by rw [← hW0]; simp
  have b0 : Below w.heap.size w W0 := by rw [← hW0]; exact (Below.refl _ _).alloc (Nat.le_refl _) _
  have b1 : Below W0.heap.size W0 W := by rw [← hW]; exact (Below.refl _ _).alloc (Nat.le_refl _) _
  have bW := b0.trans (b1.mono b0.size)
  have hX : W.heap[w.heap.size]? = some (.cells #[.int .i64 c.id, .int .i64 c.role, .int .i64 c.tm, .int .i64 c.vt, .int .i64 c.ld, .int .i64 c.wt, .int .i64 c.cm, .int .i64 c.sf, .int .i64 c.l.b, .int .i64 c.l.bt, .int .u16 c.l.j.ov, .int .u16 c.l.j.ox, .int .u16 c.l.j.ol, .int .i64 c.l.j.oe, .int .i64 c.l.j.ok, .int .u16 c.l.j.nv, .int .u16 c.l.j.nx, .int .u16 c.l.j.nl, .int .i64 c.l.j.ne, .int .i64 c.l.j.nk, .bool c.l.j.two, .slice p c.l.es.length k, .string c.sn, .int .u16 c.vs, .int .u16 c.hd, .int .i64 (c.nx 0), .int .i64 (c.nx 1), .int .i64 (c.nx 2), .int .i64 (c.nx 3), .int .i64 (c.nx 4), .int .i64 (c.nx 5), .int .i64 (c.nx 6), .int .i64 (c.nx 7), .int .i64 (c.nx 8), .int .i64 (c.nx 9), .int .i64 (c.mt 0), .int .i64 (c.mt 1), .int .i64 (c.mt 2), .int .i64 (c.mt 3), .int .i64 (c.mt 4), .int .i64 (c.mt 5), .int .i64 (c.mt 6), .int .i64 (c.mt 7), .int .i64 (c.mt 8), .int .i64 (c.mt 9)] 33 (0, 0)) := below_block b1 (by omega) (by rw [← hW0]; exact heap_last w _)
  have hY : W.heap[w.heap.size + 1]? = some (.cells #[.int .i64 m.k, .int .i64 m.fr, .int .i64 m.dst, .int .i64 m.tm, .int .i64 m.ix, .int .i64 m.lt, .int .i64 m.cm, .int .i64 m.sf, .bool m.yes, .slice q m.es.length d, .string m.sn, .int .u16 m.cf.ov, .int .u16 m.cf.ox, .int .u16 m.cf.ol, .int .i64 m.cf.oe, .int .i64 m.cf.ok, .int .u16 m.cf.nv, .int .u16 m.cf.nx, .int .u16 m.cf.nl, .int .i64 m.cf.ne, .int .i64 m.cf.nk, .bool m.cf.two] 39 (0, 0)) := by rw [← hW, ← hs0]; exact heap_last W0 _
  obtain ⟨X, eX⟩ : ∃ z, w.heap.size = z := ⟨_, rfl⟩
  obtain ⟨Y, eY⟩ : ∃ z, X + 1 = z := ⟨_, rfl⟩
  rw [eX] at hX hY
  rw [eY] at hY
  have HWG := Lib.hid (show (w.alloc (.cells #[.int .i64 c.id, .int .i64 c.role, .int .i64 c.tm, .int .i64 c.vt, .int .i64 c.ld, .int .i64 c.wt, .int .i64 c.cm, .int .i64 c.sf, .int .i64 c.l.b, .int .i64 c.l.bt, .int .u16 c.l.j.ov, .int .u16 c.l.j.ox, .int .u16 c.l.j.ol, .int .i64 c.l.j.oe, .int .i64 c.l.j.ok, .int .u16 c.l.j.nv, .int .u16 c.l.j.nx, .int .u16 c.l.j.nl, .int .i64 c.l.j.ne, .int .i64 c.l.j.nk, .bool c.l.j.two, .slice p c.l.es.length k, .string c.sn, .int .u16 c.vs, .int .u16 c.hd, .int .i64 (c.nx 0), .int .i64 (c.nx 1), .int .i64 (c.nx 2), .int .i64 (c.nx 3), .int .i64 (c.nx 4), .int .i64 (c.nx 5), .int .i64 (c.nx 6), .int .i64 (c.nx 7), .int .i64 (c.nx 8), .int .i64 (c.nx 9), .int .i64 (c.mt 0), .int .i64 (c.mt 1), .int .i64 (c.mt 2), .int .i64 (c.mt 3), .int .i64 (c.mt 4), .int .i64 (c.mt 5), .int .i64 (c.mt 6), .int .i64 (c.mt 7), .int .i64 (c.mt 8), .int .i64 (c.mt 9)] 33)).alloc (.cells #[.int .i64 m.k, .int .i64 m.fr, .int .i64 m.dst, .int .i64 m.tm, .int .i64 m.ix, .int .i64 m.lt, .int .i64 m.cm, .int .i64 m.sf, .bool m.yes, .slice q m.es.length d, .string m.sn, .int .u16 m.cf.ov, .int .u16 m.cf.ox, .int .u16 m.cf.ol, .int .i64 m.cf.oe, .int .i64 m.cf.ok, .int .u16 m.cf.nv, .int .u16 m.cf.nx, .int .u16 m.cf.nl, .int .i64 m.cf.ne, .int .i64 m.cf.nk, .bool m.cf.two] 39) = W by rw [hW0]; exact hW)
  have HBW := Lib.hid bW; have HEX := Lib.hid eX; have HEY := Lib.hid eY
  have c0 : W.cell? ⟨X, 0, none⟩ = some (.int .i64 c.id) := block_cells hX 0
  have c1 : W.cell? ⟨X, 1, none⟩ = some (.int .i64 c.role) := block_cells hX 1
  have c4 : W.cell? ⟨X, 4, none⟩ = some (.int .i64 c.ld) := block_cells hX 4
  have c5 : W.cell? ⟨X, 5, none⟩ = some (.int .i64 c.wt) := block_cells hX 5
  have m0 : W.cell? ⟨Y, 0, none⟩ = some (.int .i64 m.k) := block_cells hY 0
  have m1 : W.cell? ⟨Y, 1, none⟩ = some (.int .i64 m.fr) := block_cells hY 1
  have m2 : W.cell? ⟨Y, 2, none⟩ = some (.int .i64 m.dst) := block_cells hY 2
  have m3 : W.cell? ⟨Y, 3, none⟩ = some (.int .i64 m.tm) := block_cells hY 3
  obtain ⟨nd, hnd⟩ : ∃ nd, (decide (1 ≤ m.fr) && decide (m.fr ≤ 9)) = nd := ⟨_, rfl⟩
  have HND := Lib.hid (show Calls Tryz.prog 59 #[.int .i64 m.fr] W fun e w' => e = .returned (.bool nd) ∧ W = w' from by have := node_any m.fr W; rw [hnd] at this; exact this)
  have HDD : Hid (D = (decide (m.dst ≠ c.id) || (!nd || (decide (m.fr = c.id) || (decide (m.tm < 1) || (decide (1099511627776 < m.tm) || (decide (m.k < 1) || (decide (6 < m.k) || (decide (m.k = 1) && (decide (c.role = 2) || (decide (c.ld ≠ 0) && decide (c.wt < 10))))))))))))  := by show _ = _; rw [← HD.out]; unfold deafB; rw [hnd]
  clear hW0 hW hs0 b0 b1 bW hX hY eX eY hnd hD
  go_enter Tryz.func36, Tryz.ntmps36
  go_upto_region 1 with fail
  rw [HWG.out, HEX.out]
  (try rw [HEY.out])
  clear HWG
  by_cases ha : m.dst ≠ c.id
  · have qa : (m.dst != c.id) = true := by simp [ha]
    have HZ : Hid (D = true) := by show _ = _; rw [HDD.out, decide_eq_true ha]; simp
    clear ha
    go_wp2_with fail
    go_ret
    rw [HZ.out]
    exact ⟨rfl, HBW.out⟩
  have qa : (m.dst != c.id) = false := by simpa using ha
  have na := Lib.hid (decide_eq_false ha)
  clear ha
  cases nd with
  | false =>
    have HZ : Hid (D = true) := by show _ = _; rw [HDD.out]; simp
    go_wp2_with fail
    refine HND.out.mono ?_; rintro r w2 ⟨rfl, rfl⟩
    go_wp2_with fail
    go_ret
    rw [HZ.out]
    exact ⟨rfl, HBW.out⟩
  | true =>
  by_cases hb : m.fr = c.id
  · have qb : (m.fr == c.id) = true := by simp [hb]
    have HZ : Hid (D = true) := by show _ = _; rw [HDD.out, decide_eq_true hb]; simp
    clear hb
    go_wp2_with fail
    refine HND.out.mono ?_; rintro r w2 ⟨rfl, rfl⟩
    go_wp2_with fail
    go_ret
    rw [HZ.out]
    exact ⟨rfl, HBW.out⟩
  have qb : (m.fr == c.id) = false := by simp [hb]
  have nb := Lib.hid (decide_eq_false hb)
  clear hb
  by_cases ht : m.tm < 1
  · have qt : decide (m.tm < 1) = true := by simp [ht]
    have HZ : Hid (D = true) := by show _ = _; rw [HDD.out, decide_eq_true ht]; simp
    clear ht
    go_wp2_with fail
    refine HND.out.mono ?_; rintro r w2 ⟨rfl, rfl⟩
    go_wp2_with fail
    go_ret
    rw [HZ.out]
    exact ⟨rfl, HBW.out⟩
  have qt : decide (m.tm < 1) = false := by simp; omega
  have nt := Lib.hid (decide_eq_false ht)
  clear ht
  by_cases hu : 1099511627776 < m.tm
  · have qu : decide (1099511627776 < m.tm) = true := by simp [hu]
    have HZ : Hid (D = true) := by show _ = _; rw [HDD.out, decide_eq_true hu]; simp
    clear hu
    go_wp2_with fail
    refine HND.out.mono ?_; rintro r w2 ⟨rfl, rfl⟩
    go_wp2_with fail
    go_ret
    rw [HZ.out]
    exact ⟨rfl, HBW.out⟩
  have qu : decide (1099511627776 < m.tm) = false := by simp; omega
  have nu := Lib.hid (decide_eq_false hu)
  clear hu
  by_cases hk : m.k < 1
  · have qk : decide (m.k < 1) = true := by simp [hk]
    have HZ : Hid (D = true) := by show _ = _; rw [HDD.out, decide_eq_true hk]; simp
    clear hk
    go_wp2_with fail
    refine HND.out.mono ?_; rintro r w2 ⟨rfl, rfl⟩
    go_wp2_with fail
    go_ret
    rw [HZ.out]
    exact ⟨rfl, HBW.out⟩
  have qk : decide (m.k < 1) = false := by simp; omega
  have nk := Lib.hid (decide_eq_false hk)
  clear hk
  by_cases hl : 6 < m.k
  · have ql : decide (6 < m.k) = true := by simp [hl]
    have HZ : Hid (D = true) := by show _ = _; rw [HDD.out, decide_eq_true hl]; simp
    clear hl
    go_wp2_with fail
    refine HND.out.mono ?_; rintro r w2 ⟨rfl, rfl⟩
    go_wp2_with fail
    go_ret
    rw [HZ.out]
    exact ⟨rfl, HBW.out⟩
  have ql : decide (6 < m.k) = false := by simp; omega
  have nl := Lib.hid (decide_eq_false hl)
  clear hl
  by_cases hz : m.k = 1
  · have qz : (m.k == 1) = true := by simp [hz]
    have nz := Lib.hid (decide_eq_true hz)
    clear hz
    by_cases hr : c.role = 2
    · have qr : (c.role == 2) = true := by simp [hr]
      have HZ : Hid (D = true) := by show _ = _; rw [HDD.out, nz.out, decide_eq_true hr]; simp
      clear hr
      go_wp2_with fail
      refine HND.out.mono ?_; rintro r w2 ⟨rfl, rfl⟩
      go_wp2_with fail
      go_ret
      rw [HZ.out]
      exact ⟨rfl, HBW.out⟩
    have qr : (c.role == 2) = false := by simp [hr]
    have nr := Lib.hid (decide_eq_false hr)
    clear hr
    by_cases hl2 : c.ld = 0
    · have ql2 : (c.ld != 0) = false := by simp [hl2]
      have HZ : Hid (D = false) := by show _ = _; rw [HDD.out, na.out, nb.out, nt.out, nu.out, nk.out, nl.out, nz.out, nr.out, decide_eq_false (fun h : c.ld ≠ 0 => h hl2)]; simp
      clear hl2
      go_wp2_with fail
      refine HND.out.mono ?_; rintro r w2 ⟨rfl, rfl⟩
      go_wp2_with fail
      go_ret
      rw [HZ.out]
      exact ⟨rfl, HBW.out⟩
    have ql2 : (c.ld != 0) = true := by simp [hl2]
    have nl2 := Lib.hid (decide_eq_true hl2)
    clear hl2
    by_cases hw : c.wt < 10
    · have qw : decide (c.wt < 10) = true := by simp [hw]
      have HZ : Hid (D = true) := by show _ = _; rw [HDD.out, nz.out, nl2.out, decide_eq_true hw]; simp
      clear hw
      go_wp2_with fail
      refine HND.out.mono ?_; rintro r w2 ⟨rfl, rfl⟩
      go_wp2_with fail
      go_ret
      rw [HZ.out]
      exact ⟨rfl, HBW.out⟩
    have qw : decide (c.wt < 10) = false := by simp; omega
    have HZ : Hid (D = false) := by show _ = _; rw [HDD.out, na.out, nb.out, nt.out, nu.out, nk.out, nl.out, nz.out, nr.out, decide_eq_false hw]; simp
    clear hw
    go_wp2_with fail
    refine HND.out.mono ?_; rintro r w2 ⟨rfl, rfl⟩
    go_wp2_with fail
    go_ret
    rw [HZ.out]
    exact ⟨rfl, HBW.out⟩
  have qz : (m.k == 1) = false := by simp [hz]
  have HZ : Hid (D = false) := by show _ = _; rw [HDD.out, na.out, nb.out, nt.out, nu.out, nk.out, nl.out, decide_eq_false hz]; simp
  clear hz
  go_wp2_with fail
  refine HND.out.mono ?_; rintro r w2 ⟨rfl, rfl⟩
  go_wp2_with fail
  go_ret
  rw [HZ.out]
  exact ⟨rfl, HBW.out⟩
end Go.Proofs.YtbnndbdnejfehaaGreatDoor
/- Core: a message of a term gone by: the plain law. -/
namespace Go.Proofs.YtbnndbdnejfehaaGreatDoor

/-- Does a core hold to its leader? -/
def stk (c : Co) : Bool := decide (c.role = 2) || (decide (c.ld ≠ 0) && decide (c.wt < 10))
theorem stale_out {c : Co} {m : Ms} (h1 : m.tm < c.tm) (h2 : c.tm ≤ 1099511627776) (h3 : 1 ≤ m.tm) (h4 : m.dst = c.id) (h5 : 1 ≤ m.fr) (h6 : m.fr ≤ 9) (h7 : m.fr ≠ c.id) :
    stepB c m = if m.k = 1 then (if stk c = true then ⟨c, []⟩ else ⟨c, [putM c m.fr { ms0 with k := 2 }]⟩) else if m.k = 3 ∨ m.k = 5 then ⟨c, [putM c m.fr { ms0 with k := 4 }]⟩ else ⟨c, []⟩ := by
  have hr : riseC c (clampM m) = c := by unfold riseC; rw [if_neg (by show ¬(c.tm < m.tm); omega)]
  have hd : deafB c m = (decide (m.k < 1) || (decide (6 < m.k) || (decide (m.k = 1) && stk c))) := by
    unfold deafB stk
    rw [decide_eq_false (show ¬(m.dst ≠ c.id) from fun h => h h4), decide_eq_true h5, decide_eq_true h6, decide_eq_false h7, decide_eq_false (show ¬(m.tm < 1) by omega), decide_eq_false (show ¬(1099511627776 < m.tm) by omega)]
    rfl
  have hl : stepB c m = if deafB c m = true then ⟨c, []⟩ else lateA ⟨c, []⟩ (clampM m) := by
    unfold stepB
    rw [hr]
    split
    · rfl
    · exact if_pos (show m.tm < c.tm from h1)
  have ha : lateA ⟨c, []⟩ (clampM m) = if m.k = 1 then ⟨c, [putM c m.fr { ms0 with k := 2 }]⟩ else if m.k = 3 ∨ m.k = 5 then ⟨c, [putM c m.fr { ms0 with k := 4 }]⟩ else ⟨c, []⟩ := rfl
  rw [hl, hd, ha]
  by_cases k1 : m.k = 1
  · rw [if_pos k1, if_pos k1, decide_eq_false (show ¬(m.k < 1) by omega), decide_eq_false (show ¬(6 < m.k) by omega), decide_eq_true k1]
    simp only [Bool.false_or, Bool.true_and]
  · rw [if_neg k1, if_neg k1, decide_eq_false k1]
    simp only [Bool.false_and, Bool.or_false]
    split
    · rename_i h
      simp only [Bool.or_eq_true, decide_eq_true_eq] at h
      rw [if_neg (by omega)]
    · rfl
end Go.Proofs.YtbnndbdnejfehaaGreatDoor
