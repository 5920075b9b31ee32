/- The reference of core: which cores may be, two. -/
import Derived.Test.YtbnndbdnejfehaaGreatDoorRef13A
import Derived.Test.YtbnndbdnejfehaaGreatDoorOpenMsg
namespace Go.Proofs.YtbnndbdnejfehaaGreatDoor
open Go.ChangeShapes Go.WideShapes Go.ChangeAt Go.RowKit

/-- The cells of Next and Match, by a variable. -/
theorem co_nx {w : World} {A : Nat} {c : Co} {p : Option Addr} {k : Nat} {t : TypeId} (h : w.heap[A]? = some (.cells #[.int .i64 c.id, .int .i64 c.role, .int .i64 c.tm, .int .i64 c.vt, .int .i64 c.ld, .int .i64 c.wt, .int .i64 c.cm, .int .i64 c.sf, .int .i64 c.l.b, .int .i64 c.l.bt, .int .u16 c.l.j.ov, .int .u16 c.l.j.ox, .int .u16 c.l.j.ol, .int .i64 c.l.j.oe, .int .i64 c.l.j.ok, .int .u16 c.l.j.nv, .int .u16 c.l.j.nx, .int .u16 c.l.j.nl, .int .i64 c.l.j.ne, .int .i64 c.l.j.nk, .bool c.l.j.two, .slice p c.l.es.length k, .string c.sn, .int .u16 c.vs, .int .u16 c.hd, .int .i64 (c.nx 0), .int .i64 (c.nx 1), .int .i64 (c.nx 2), .int .i64 (c.nx 3), .int .i64 (c.nx 4), .int .i64 (c.nx 5), .int .i64 (c.nx 6), .int .i64 (c.nx 7), .int .i64 (c.nx 8), .int .i64 (c.nx 9), .int .i64 (c.mt 0), .int .i64 (c.mt 1), .int .i64 (c.mt 2), .int .i64 (c.mt 3), .int .i64 (c.mt 4), .int .i64 (c.mt 5), .int .i64 (c.mt 6), .int .i64 (c.mt 7), .int .i64 (c.mt 8), .int .i64 (c.mt 9)] t (0, 0))) {n : Nat} (hn : n < 10) : w.cell? ⟨A, 25 + n, none⟩ = some (.int .i64 (c.nx n)) := by
  rw [block_cells h]
  rcases (show n = 0 ∨ n = 1 ∨ n = 2 ∨ n = 3 ∨ n = 4 ∨ n = 5 ∨ n = 6 ∨ n = 7 ∨ n = 8 ∨ n = 9 by omega) with rfl | rfl | rfl | rfl | rfl | rfl | rfl | rfl | rfl | rfl <;> rfl
theorem co_mt {w : World} {A : Nat} {c : Co} {p : Option Addr} {k : Nat} {t : TypeId} (h : w.heap[A]? = some (.cells #[.int .i64 c.id, .int .i64 c.role, .int .i64 c.tm, .int .i64 c.vt, .int .i64 c.ld, .int .i64 c.wt, .int .i64 c.cm, .int .i64 c.sf, .int .i64 c.l.b, .int .i64 c.l.bt, .int .u16 c.l.j.ov, .int .u16 c.l.j.ox, .int .u16 c.l.j.ol, .int .i64 c.l.j.oe, .int .i64 c.l.j.ok, .int .u16 c.l.j.nv, .int .u16 c.l.j.nx, .int .u16 c.l.j.nl, .int .i64 c.l.j.ne, .int .i64 c.l.j.nk, .bool c.l.j.two, .slice p c.l.es.length k, .string c.sn, .int .u16 c.vs, .int .u16 c.hd, .int .i64 (c.nx 0), .int .i64 (c.nx 1), .int .i64 (c.nx 2), .int .i64 (c.nx 3), .int .i64 (c.nx 4), .int .i64 (c.nx 5), .int .i64 (c.nx 6), .int .i64 (c.nx 7), .int .i64 (c.nx 8), .int .i64 (c.nx 9), .int .i64 (c.mt 0), .int .i64 (c.mt 1), .int .i64 (c.mt 2), .int .i64 (c.mt 3), .int .i64 (c.mt 4), .int .i64 (c.mt 5), .int .i64 (c.mt 6), .int .i64 (c.mt 7), .int .i64 (c.mt 8), .int .i64 (c.mt 9)] t (0, 0))) {n : Nat} (hn : n < 10) : w.cell? ⟨A, 35 + n, none⟩ = some (.int .i64 (c.mt n)) := by
  rw [block_cells h]
  rcases (show n = 0 ∨ n = 1 ∨ n = 2 ∨ n = 3 ∨ n = 4 ∨ n = 5 ∨ n = 6 ∨ n = 7 ∨ n = 8 ∨ n = 9 by omega) with rfl | rfl | rfl | rfl | rfl | rfl | rfl | rfl | rfl | rfl <;> rfl
theorem mayL_fitM {l : Lg} (h : mayL l = true) (hn : l.es.length ≤ 1000000) : LgFit l := by
  unfold mayL at h
  simp only [Bool.and_eq_true, decide_eq_true_eq] at h
  exact ⟨h.1, by omega, by omega⟩
set_option maxRecDepth 100000 in
set_option maxHeartbeats 16000000 in
theorem rmay13_j (c : Co) (p : Option Addr) (k : Nat) (w : World) (hj : JoF (joX c.l.j)) (hjs : ∀ e ∈ c.l.es, JoF (joX e.j)) (hn : c.l.es.length ≤ 1000000) (hE : EnSl w (.slice p c.l.es.length k) c.l.es) :
    Calls Tryz.prog 9 #[.agg #[.int .i64 c.id, .int .i64 c.role, .int .i64 c.tm, .int .i64 c.vt, .int .i64 c.ld, .int .i64 c.wt, .int .i64 c.cm, .int .i64 c.sf, .int .i64 c.l.b, .int .i64 c.l.bt, .int .u16 c.l.j.ov, .int .u16 c.l.j.ox, .int .u16 c.l.j.ol, .int .i64 c.l.j.oe, .int .i64 c.l.j.ok, .int .u16 c.l.j.nv, .int .u16 c.l.j.nx, .int .u16 c.l.j.nl, .int .i64 c.l.j.ne, .int .i64 c.l.j.nk, .bool c.l.j.two, .slice p c.l.es.length k, .string c.sn, .int .u16 c.vs, .int .u16 c.hd, .int .i64 (c.nx 0), .int .i64 (c.nx 1), .int .i64 (c.nx 2), .int .i64 (c.nx 3), .int .i64 (c.nx 4), .int .i64 (c.nx 5), .int .i64 (c.nx 6), .int .i64 (c.nx 7), .int .i64 (c.nx 8), .int .i64 (c.nx 9), .int .i64 (c.mt 0), .int .i64 (c.mt 1), .int .i64 (c.mt 2), .int .i64 (c.mt 3), .int .i64 (c.mt 4), .int .i64 (c.mt 5), .int .i64 (c.mt 6), .int .i64 (c.mt 7), .int .i64 (c.mt 8), .int .i64 (c.mt 9)]] w fun r w' => (∃ b, r = .returned (.bool b) ∧ (b = true ↔ CoMay c)) ∧ Below w.heap.size w w' := by
  have HE := Lib.hid hE; have HV := Lib.hid (And.intro hj hjs)
  clear hE hj hjs
  have hlast : c.l.last = c.l.b + (c.l.es.length : Int) := rfl
  go_enter Tryz.func9, Tryz.ntmps9
  obtain ⟨Q', hQ⟩ : ∃ Q', bodyPost Tryz.prog Tryz.f9 (fun r w' => (∃ b, r = .returned (.bool b) ∧ (b = true ↔ CoMay c)) ∧ Below w.heap.size w w') = Q' := ⟨_, rfl⟩
  have HQF : Hid (∀ (a : Act) (w' : World), a.tmps.getD 2 undef = .bool false → a.defers = [] → ¬ CoMay c → Below w.heap.size w w' → Q' .ret a w') := fun a w' h6 hd hn hb => by
    rw [← hQ]; exact bodyPost_ret (v := .bool false) (by rw [results_tmp rfl, h6]) hd ⟨⟨false, rfl, fun h => absurd h (by decide), fun h => absurd h hn⟩, hb⟩
  have HQT : Hid (∀ (a : Act) (w' : World), a.tmps.getD 2 undef = .bool true → a.defers = [] → CoMay c → Below w.heap.size w w' → Q' .ret a w') := fun a w' h6 hd hn hb => by
    rw [← hQ]; exact bodyPost_ret (v := .bool true) (by rw [results_tmp rfl, h6]) hd ⟨⟨true, rfl, fun _ => hn, fun _ => rfl⟩, hb⟩
  rw [hQ]
  clear hQ
  go_upto_region 1 with fail
  have HA0 := Lib.hid (heap_last w (.cells #[.int .i64 c.id, .int .i64 c.role, .int .i64 c.tm, .int .i64 c.vt, .int .i64 c.ld, .int .i64 c.wt, .int .i64 c.cm, .int .i64 c.sf, .int .i64 c.l.b, .int .i64 c.l.bt, .int .u16 c.l.j.ov, .int .u16 c.l.j.ox, .int .u16 c.l.j.ol, .int .i64 c.l.j.oe, .int .i64 c.l.j.ok, .int .u16 c.l.j.nv, .int .u16 c.l.j.nx, .int .u16 c.l.j.nl, .int .i64 c.l.j.ne, .int .i64 c.l.j.nk, .bool c.l.j.two, .slice p c.l.es.length k, .string c.sn, .int .u16 c.vs, .int .u16 c.hd, .int .i64 (c.nx 0), .int .i64 (c.nx 1), .int .i64 (c.nx 2), .int .i64 (c.nx 3), .int .i64 (c.nx 4), .int .i64 (c.nx 5), .int .i64 (c.nx 6), .int .i64 (c.nx 7), .int .i64 (c.nx 8), .int .i64 (c.nx 9), .int .i64 (c.mt 0), .int .i64 (c.mt 1), .int .i64 (c.mt 2), .int .i64 (c.mt 3), .int .i64 (c.mt 4), .int .i64 (c.mt 5), .int .i64 (c.mt 6), .int .i64 (c.mt 7), .int .i64 (c.mt 8), .int .i64 (c.mt 9)] 33))
  have HB0 := Lib.hid ((Below.refl _ w).alloc (Nat.le_refl _) (.cells #[.int .i64 c.id, .int .i64 c.role, .int .i64 c.tm, .int .i64 c.vt, .int .i64 c.ld, .int .i64 c.wt, .int .i64 c.cm, .int .i64 c.sf, .int .i64 c.l.b, .int .i64 c.l.bt, .int .u16 c.l.j.ov, .int .u16 c.l.j.ox, .int .u16 c.l.j.ol, .int .i64 c.l.j.oe, .int .i64 c.l.j.ok, .int .u16 c.l.j.nv, .int .u16 c.l.j.nx, .int .u16 c.l.j.nl, .int .i64 c.l.j.ne, .int .i64 c.l.j.nk, .bool c.l.j.two, .slice p c.l.es.length k, .string c.sn, .int .u16 c.vs, .int .u16 c.hd, .int .i64 (c.nx 0), .int .i64 (c.nx 1), .int .i64 (c.nx 2), .int .i64 (c.nx 3), .int .i64 (c.nx 4), .int .i64 (c.nx 5), .int .i64 (c.nx 6), .int .i64 (c.nx 7), .int .i64 (c.nx 8), .int .i64 (c.nx 9), .int .i64 (c.mt 0), .int .i64 (c.mt 1), .int .i64 (c.mt 2), .int .i64 (c.mt 3), .int .i64 (c.mt 4), .int .i64 (c.mt 5), .int .i64 (c.mt 6), .int .i64 (c.mt 7), .int .i64 (c.mt 8), .int .i64 (c.mt 9)] 33))
  obtain ⟨W, hW⟩ : ∃ W, w.alloc (.cells #[.int .i64 c.id, .int .i64 c.role, .int .i64 c.tm, .int .i64 c.vt, .int .i64 c.ld, .int .i64 c.wt, .int .i64 c.cm, .int .i64 c.sf, .int .i64 c.l.b, .int .i64 c.l.bt, .int .u16 c.l.j.ov, .int .u16 c.l.j.ox, .int .u16 c.l.j.ol, .int .i64 c.l.j.oe, .int .i64 c.l.j.ok, .int .u16 c.l.j.nv, .int .u16 c.l.j.nx, .int .u16 c.l.j.nl, .int .i64 c.l.j.ne, .int .i64 c.l.j.nk, .bool c.l.j.two, .slice p c.l.es.length k, .string c.sn, .int .u16 c.vs, .int .u16 c.hd, .int .i64 (c.nx 0), .int .i64 (c.nx 1), .int .i64 (c.nx 2), .int .i64 (c.nx 3), .int .i64 (c.nx 4), .int .i64 (c.nx 5), .int .i64 (c.nx 6), .int .i64 (c.nx 7), .int .i64 (c.nx 8), .int .i64 (c.nx 9), .int .i64 (c.mt 0), .int .i64 (c.mt 1), .int .i64 (c.mt 2), .int .i64 (c.mt 3), .int .i64 (c.mt 4), .int .i64 (c.mt 5), .int .i64 (c.mt 6), .int .i64 (c.mt 7), .int .i64 (c.mt 8), .int .i64 (c.mt 9)] 33) = W := ⟨_, rfl⟩
  rw [hW] at HA0 HB0 ⊢
  clear hW
  obtain ⟨A, eA⟩ : ∃ A, w.heap.size = A := ⟨_, rfl⟩
  rw [eA] at HA0 HB0 HQF HQT ⊢
  have HEA := Lib.hid eA
  clear eA
  have kA := block_cells HA0.out
  by_cases h0 : c.id < 1
  · have HN : Hid (¬ CoMay c) := fun h => by have := h.id0; omega
    go_wp2_with fail
    exact HQF.out _ _ rfl rfl HN.out HB0.out
  by_cases h1 : 9 < c.id
  · have HN : Hid (¬ CoMay c) := fun h => by have := h.id1; omega
    go_wp2_with fail
    exact HQF.out _ _ rfl rfl HN.out HB0.out
  by_cases h2 : c.role < 0
  · have HN : Hid (¬ CoMay c) := fun h => by have := h.ro0; omega
    go_wp2_with fail
    exact HQF.out _ _ rfl rfl HN.out HB0.out
  by_cases h3 : 2 < c.role
  · have HN : Hid (¬ CoMay c) := fun h => by have := h.ro1; omega
    go_wp2_with fail
    exact HQF.out _ _ rfl rfl HN.out HB0.out
  by_cases h4 : c.tm < 0
  · have HN : Hid (¬ CoMay c) := fun h => by have := h.tm0; omega
    go_wp2_with fail
    exact HQF.out _ _ rfl rfl HN.out HB0.out
  by_cases h5 : 1099511627776 < c.tm
  · have HN : Hid (¬ CoMay c) := fun h => by have := h.tm1; omega
    go_wp2_with fail
    exact HQF.out _ _ rfl rfl HN.out HB0.out
  by_cases h6 : c.vt < 0
  · have HN : Hid (¬ CoMay c) := fun h => by have := h.vt0; omega
    go_wp2_with fail
    exact HQF.out _ _ rfl rfl HN.out HB0.out
  by_cases h7 : 9 < c.vt
  · have HN : Hid (¬ CoMay c) := fun h => by have := h.vt1; omega
    go_wp2_with fail
    exact HQF.out _ _ rfl rfl HN.out HB0.out
  by_cases h8 : c.ld < 0
  · have HN : Hid (¬ CoMay c) := fun h => by have := h.ld0; omega
    go_wp2_with fail
    exact HQF.out _ _ rfl rfl HN.out HB0.out
  by_cases h9 : 9 < c.ld
  · have HN : Hid (¬ CoMay c) := fun h => by have := h.ld1; omega
    go_wp2_with fail
    exact HQF.out _ _ rfl rfl HN.out HB0.out
  have HC := Lib.hid (rmayLog_any c.l p k W hn (HE.out.keep HB0.out (by rw [HEA.out]; exact Nat.le_refl _)) HV.out.1 (fun e he => HV.out.2 e he))
  cases hm : logM c.l with
  | false =>
    have HN : Hid (¬ CoMay c) := fun h => by have := h.l; rw [hm] at this; cases this
    rw [hm] at HC
    clear hm
    go_wp2_with fail
    refine HC.out.mono ?_; rintro r w1 ⟨rfl, hb⟩
    have HB := Lib.hid (HB0.out.trans (hb.mono (HEA.out ▸ HB0.out.size)))
    clear hb HC kA
    go_wp2_with fail
    exact HQF.out _ _ rfl rfl HN.out HB.out
  | true =>
  rw [hm] at HC
  have HM := Lib.hid hm
  have HF := Lib.hid (mayL_fitM (logM_may hm) hn)
  clear hm
  go_wp2_with fail
  refine HC.out.mono ?_; rintro r w1 ⟨rfl, hb⟩
  have HB1 := Lib.hid (HB0.out.trans (hb.mono (HEA.out ▸ HB0.out.size)))
  have HA1 := Lib.hid (below_block hb (block_lt HA0.out) HA0.out)
  clear hb HC kA HA0 HB0
  have kA := block_cells HA1.out
  have HC := Lib.hid (rlast_any c.l p k w1 HF.out.b0 HF.out.b1 HF.out.n)
  go_wp2_with fail
  refine HC.out.mono ?_; rintro r w2 ⟨rfl, hb⟩
  have HB2 := Lib.hid (HB1.out.trans (hb.mono (HEA.out ▸ HB1.out.size)))
  have HA2 := Lib.hid (below_block hb (block_lt HA1.out) HA1.out)
  clear hb HC kA HA1 HB1
  go_upto_region 4 with fail
  obtain ⟨T, hT⟩ : ∃ T, lastTerm c.l = T := ⟨_, rfl⟩
  obtain ⟨X, hX⟩ : ∃ X, c.l.last = X := ⟨_, rfl⟩
  (try rw [hX])
  rw [hX] at hlast
  have HTT := Lib.hid hT; have HXX := Lib.hid hX
  have HLT := Lib.hid (show ∀ w', Below w2.heap.size w2 w' → Calls Tryz.prog 34 #[.agg #[.int .i64 c.l.b, .int .i64 c.l.bt, .int .u16 c.l.j.ov, .int .u16 c.l.j.ox, .int .u16 c.l.j.ol, .int .i64 c.l.j.oe, .int .i64 c.l.j.ok, .int .u16 c.l.j.nv, .int .u16 c.l.j.nx, .int .u16 c.l.j.nl, .int .i64 c.l.j.ne, .int .i64 c.l.j.nk, .bool c.l.j.two, .slice p c.l.es.length k]] w' fun r w3 => r = .returned (.int .i64 T) ∧ Below w'.heap.size w' w3 from fun w' h => by
    have := rlastTerm_any c.l p k w' HF.out (HE.out.keep (HB2.out.trans (h.mono (HEA.out ▸ HB2.out.size))) (by rw [HEA.out]; exact Nat.le_refl _)); rw [hT] at this; exact this)
  clear hT hX
  obtain ⟨U, f, hU, hf, hg⟩ := calm_class (w2); obtain ⟨u0, hu0⟩ := hg _ (Below.refl _ _); rw [hu0]; clear hu0
  have kA := fun u => block_cells (calm_heap hf HA2.out u)
  have HBu : Hid (∀ u, Below A w (f u)) := fun u => HB2.out.trans ((hf u).mono (HEA.out ▸ HB2.out.size))
  by_cases g0 : c.tm < T
  · have HN : Hid (¬ CoMay c) := fun h => by have := h.lt; have hT := HTT.out; have hX := HXX.out; omega
    refine wp_region_calm f (by kernel_rfl) (by kernel_rfl) (calm_drew hf hg _) ?_
    repeat (go_big_quiet_step ((go_at_call 34; with_reducible exact calm_of hf hg (HLT.out _ (hf _)))))
    refine wpQuiet_nil ?_; rintro _ ⟨u, rfl⟩
    go_wp2_with fail
    exact HQF.out _ _ rfl rfl HN.out (HBu.out _)
  by_cases g1 : c.cm < c.l.b
  · have HN : Hid (¬ CoMay c) := fun h => by have := h.cm0; have hT := HTT.out; have hX := HXX.out; omega
    refine wp_region_calm f (by kernel_rfl) (by kernel_rfl) (calm_drew hf hg _) ?_
    repeat (go_big_quiet_step ((go_at_call 34; with_reducible exact calm_of hf hg (HLT.out _ (hf _)))))
    refine wpQuiet_nil ?_; rintro _ ⟨u, rfl⟩
    go_wp2_with fail
    exact HQF.out _ _ rfl rfl HN.out (HBu.out _)
  by_cases g2 : c.l.b + (c.l.es.length : Int) < c.cm
  · have HN : Hid (¬ CoMay c) := fun h => by have := h.cm1; have hT := HTT.out; have hX := HXX.out; omega
    refine wp_region_calm f (by kernel_rfl) (by kernel_rfl) (calm_drew hf hg _) ?_
    repeat (go_big_quiet_step ((go_at_call 34; with_reducible exact calm_of hf hg (HLT.out _ (hf _)))))
    refine wpQuiet_nil ?_; rintro _ ⟨u, rfl⟩
    go_wp2_with fail
    exact HQF.out _ _ rfl rfl HN.out (HBu.out _)
  by_cases g3 : c.wt < 0
  · have HN : Hid (¬ CoMay c) := fun h => by have := h.wt0; have hT := HTT.out; have hX := HXX.out; omega
    refine wp_region_calm f (by kernel_rfl) (by kernel_rfl) (calm_drew hf hg _) ?_
    repeat (go_big_quiet_step ((go_at_call 34; with_reducible exact calm_of hf hg (HLT.out _ (hf _)))))
    refine wpQuiet_nil ?_; rintro _ ⟨u, rfl⟩
    go_wp2_with fail
    exact HQF.out _ _ rfl rfl HN.out (HBu.out _)
  by_cases g4 : 1099511627776 < c.wt
  · have HN : Hid (¬ CoMay c) := fun h => by have := h.wt1; have hT := HTT.out; have hX := HXX.out; omega
    refine wp_region_calm f (by kernel_rfl) (by kernel_rfl) (calm_drew hf hg _) ?_
    repeat (go_big_quiet_step ((go_at_call 34; with_reducible exact calm_of hf hg (HLT.out _ (hf _)))))
    refine wpQuiet_nil ?_; rintro _ ⟨u, rfl⟩
    go_wp2_with fail
    exact HQF.out _ _ rfl rfl HN.out (HBu.out _)
  by_cases g5 : c.sf < 0
  · have HN : Hid (¬ CoMay c) := fun h => by have := h.sf0; have hT := HTT.out; have hX := HXX.out; omega
    refine wp_region_calm f (by kernel_rfl) (by kernel_rfl) (calm_drew hf hg _) ?_
    repeat (go_big_quiet_step ((go_at_call 34; with_reducible exact calm_of hf hg (HLT.out _ (hf _)))))
    refine wpQuiet_nil ?_; rintro _ ⟨u, rfl⟩
    go_wp2_with fail
    exact HQF.out _ _ rfl rfl HN.out (HBu.out _)
  by_cases g6 : 1099511627776 < c.sf
  · have HN : Hid (¬ CoMay c) := fun h => by have := h.sf1; have hT := HTT.out; have hX := HXX.out; omega
    refine wp_region_calm f (by kernel_rfl) (by kernel_rfl) (calm_drew hf hg _) ?_
    repeat (go_big_quiet_step ((go_at_call 34; with_reducible exact calm_of hf hg (HLT.out _ (hf _)))))
    refine wpQuiet_nil ?_; rintro _ ⟨u, rfl⟩
    go_wp2_with fail
    exact HQF.out _ _ rfl rfl HN.out (HBu.out _)
  refine wp_region_calm f (by kernel_rfl) (by kernel_rfl) (calm_drew hf hg _) ?_
  repeat (go_big_quiet_step ((go_at_call 34; with_reducible exact calm_of hf hg (HLT.out _ (hf _)))))
  refine wpQuiet_nil ?_; rintro _ ⟨u, rfl⟩
  have HBa := Lib.hid (HBu.out u)
  have HA3 := Lib.hid (calm_heap hf HA2.out u)
  obtain ⟨w3, hw3⟩ : ∃ z, f u = z := ⟨_, rfl⟩
  rw [hw3] at HBa HA3 ⊢
  clear hw3 kA HBu hf hg HLT
  have hX := HXX.out
  have hT := HTT.out
  have HP := Lib.hid (show (∀ n, n < 10 → (0 ≤ c.nx n ∧ c.nx n ≤ 2199023255552) ∧ 0 ≤ c.mt n ∧ c.mt n ≤ c.l.last) → CoMay c from fun h => ⟨by omega, by omega, by omega, by omega, by omega, by omega, by omega, by omega, by omega, by omega, HM.out, by omega, by omega, by omega, by omega, by omega, by omega, by omega, fun n hn => (h n hn).1, fun n hn => (h n hn).2⟩)
  have HLA := Lib.hid (show c.l.last = c.l.b + (c.l.es.length : Int) from rfl)
  clear hX hT
  go_wp2_with fail
  go_loop [4] (fun i => ∃ n : Nat, n ≤ 10 ∧ i = .int .i64 n ∧ Hid (∀ m, m < n → (0 ≤ c.nx m ∧ c.nx m ≤ 2199023255552) ∧ 0 ≤ c.mt m ∧ c.mt m ≤ c.l.last)) (fun i => 10 - (intOf i).toNat)
  case atStart => exact ⟨0, by omega, rfl, fun m hm => absurd hm (Nat.not_lt_zero m)⟩
  case round =>
    obtain ⟨n, hn, rfl, HK⟩ := hrel
    by_cases hlt : n < 10
    · have hd : decide ((n : Int) < 10) = true := by simp; omega
      have kn := co_nx HA3.out hlt
      have km := co_mt HA3.out hlt
      have hn0 : 0 ≤ (n : Int) := by omega
      have hn1 : (n : Int) < 10 := by omega
      obtain ⟨x, hx⟩ : ∃ x, c.nx n = x := ⟨_, rfl⟩
      obtain ⟨y, hy⟩ : ∃ y, c.mt n = y := ⟨_, rfl⟩
      rw [hx] at kn
      rw [hy] at km
      have HX := Lib.hid hx; have HY := Lib.hid hy
      clear hx hy
      by_cases i0 : x < 0
      · have HN : Hid (¬ CoMay c) := fun h => by have := (h.nx n hlt).1; rw [HX.out] at this; omega
        go_wp2_with fail
        exact HQF.out _ _ rfl rfl HN.out HBa.out
      by_cases i1 : 2199023255552 < x
      · have HN : Hid (¬ CoMay c) := fun h => by have := (h.nx n hlt).2; rw [HX.out] at this; omega
        go_wp2_with fail
        exact HQF.out _ _ rfl rfl HN.out HBa.out
      by_cases i2 : y < 0
      · have HN : Hid (¬ CoMay c) := fun h => by have := (h.mt n hlt).1; rw [HY.out] at this; omega
        go_wp2_with fail
        exact HQF.out _ _ rfl rfl HN.out HBa.out
      by_cases i3 : c.l.b + (c.l.es.length : Int) < y
      · have HN : Hid (¬ CoMay c) := fun h => by have := (h.mt n hlt).2; have hX := HLA.out; rw [HY.out] at this; omega
        go_wp2_with fail
        exact HQF.out _ _ rfl rfl HN.out HBa.out
      have HK2 : Hid (∀ m, m < n + 1 → (0 ≤ c.nx m ∧ c.nx m ≤ 2199023255552) ∧ 0 ≤ c.mt m ∧ c.mt m ≤ c.l.last) := fun m hm => by
        by_cases e : m = n
        · subst e; rw [HX.out, HY.out, HLA.out]; exact ⟨⟨by omega, by omega⟩, by omega, by omega⟩
        · exact HK.out m (by omega)
      go_wp2_with fail
      go_round
      case rel => exact ⟨n + 1, by omega, by go_num, HK2⟩
      case measure => simp [intOf]; omega
    · obtain rfl : n = 10 := by omega
      have HY := Lib.hid (HP.out HK.out)
      clear HK
      go_wp2_with fail
      exact HQT.out _ _ rfl rfl HY.out HBa.out
theorem rmay13_any (c : Co) (p : Option Addr) (k : Nat) (w : World) (V : CoV c) (hn : c.l.es.length ≤ 1000000) (hE : EnSl w (.slice p c.l.es.length k) c.l.es) :
    Calls Tryz.prog 9 #[.agg #[.int .i64 c.id, .int .i64 c.role, .int .i64 c.tm, .int .i64 c.vt, .int .i64 c.ld, .int .i64 c.wt, .int .i64 c.cm, .int .i64 c.sf, .int .i64 c.l.b, .int .i64 c.l.bt, .int .u16 c.l.j.ov, .int .u16 c.l.j.ox, .int .u16 c.l.j.ol, .int .i64 c.l.j.oe, .int .i64 c.l.j.ok, .int .u16 c.l.j.nv, .int .u16 c.l.j.nx, .int .u16 c.l.j.nl, .int .i64 c.l.j.ne, .int .i64 c.l.j.nk, .bool c.l.j.two, .slice p c.l.es.length k, .string c.sn, .int .u16 c.vs, .int .u16 c.hd, .int .i64 (c.nx 0), .int .i64 (c.nx 1), .int .i64 (c.nx 2), .int .i64 (c.nx 3), .int .i64 (c.nx 4), .int .i64 (c.nx 5), .int .i64 (c.nx 6), .int .i64 (c.nx 7), .int .i64 (c.nx 8), .int .i64 (c.nx 9), .int .i64 (c.mt 0), .int .i64 (c.mt 1), .int .i64 (c.mt 2), .int .i64 (c.mt 3), .int .i64 (c.mt 4), .int .i64 (c.mt 5), .int .i64 (c.mt 6), .int .i64 (c.mt 7), .int .i64 (c.mt 8), .int .i64 (c.mt 9)]] w fun r w' => (∃ b, r = .returned (.bool b) ∧ (b = true ↔ CoMay c)) ∧ Below w.heap.size w w' :=
  rmay13_j c p k w V.l.j (fun e he => (V.l.es e he).j) hn hE
end Go.Proofs.YtbnndbdnejfehaaGreatDoor
