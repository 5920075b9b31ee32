import Derived.Test.YtbnndbdnejfehaaGreatDoorRef13A
import Derived.Test.YtbnndbdnejfehaaGreatDoorOpenMsg
import Derived.Test.YtbnndbdnejfehaaGreatDoorActAd
import Derived.Test.YtbnndbdnejfehaaGreatDoorHrA
import Derived.Deep.CutBlock
import Derived.Test.YtbnndbdnejfehaaGreatDoorTakeT
import Derived.Test.YtbnndbdnejfehaaGreatDoorHardA
import Derived.Test.YtbnndbdnejfehaaGreatDoorLogJ
import Derived.Test.YtbnndbdnejfehaaGreatDoorLogP
import Derived.Test.YtbnndbdnejfehaaGreatDoorLightMsg
import Derived.Test.YtbnndbdnejfehaaGreatDoorAgg2
import Derived.Test.YtbnndbdnejfehaaGreatDoorLogU
import Derived.Deep.RegionHeld3
import Derived.Laws.ResultCell
import Derived.Test.YtbnndbdnejfehaaGreatDoorActA
import Derived.ChangeKeysEq
import Derived.Test.YtbnndbdnejfehaaGreatDoorLogR
import Derived.Test.YtbnndbdnejfehaaGreatDoorPlainStale
/- The reference of core: which cores may be, two. -/
namespace Go.Proofs.YtbnndbdnejfehaaGreatDoor
open Go.ChangeShapes Go.WideShapes Go.ChangeAt Go.RowKit

/-- The cells of Next and Match, by a variable. -/
theorem co_nx {w : World} {A : Nat} {c : Co} {p : Option Addr} {k : Nat} {t : TypeId} (h : w.heap[A]? = some (.cells #[.int .i64 c.id, .int .i64 c.role, .int .i64 c.tm, .int .i64 c.vt, .int .i64 c.ld, .int .i64 c.wt, .int .i64 c.cm, .int .i64 c.sf, .int .i64 c.l.b, .int .i64 c.l.bt, .int .u16 c.l.j.ov, .int .u16 c.l.j.ox, .int .u16 c.l.j.ol, .int .i64 c.l.j.oe, .int .i64 c.l.j.ok, .int .u16 c.l.j.nv, .int .u16 c.l.j.nx, .int .u16 c.l.j.nl, .int .i64 c.l.j.ne, .int .i64 c.l.j.nk, .bool c.l.j.two, .slice p c.l.es.length k, .string c.sn, .int .u16 c.vs, .int .u16 c.hd, .int .i64 (c.nx 0), .int .i64 (c.nx 1), .int .i64 (c.nx 2), .int .i64 (c.nx 3), .int .i64 (c.nx 4), .int .i64 (c.nx 5), .int .i64 (c.nx 6), .int .i64 (c.nx 7), .int .i64 (c.nx 8), .int .i64 (c.nx 9), .int .i64 (c.mt 0), .int .i64 (c.mt 1), .int .i64 (c.mt 2), .int .i64 (c.mt 3), .int .i64 (c.mt 4), .int .i64 (c.mt 5), .int .i64 (c.mt 6), .int .i64 (c.mt 7), .int .i64 (c.mt 8), .int .i64 (c.mt 9)] t (0, 0))) {n : Nat} (hn : n < 10) : w.cell? ⟨A, 25 + n, none⟩ = some (.int .i64 (c.nx n)) := by
  rw [block_cells h]
  rcases (show n = 0 ∨ n = 1 ∨ n = 2 ∨ n = 3 ∨ n = 4 ∨ n = 5 ∨ n = 6 ∨ n = 7 ∨ n = 8 ∨ n = 9 by omega) with rfl | rfl | rfl | rfl | rfl | rfl | rfl | rfl | rfl | rfl <;> rfl
theorem co_mt {w : World} {A : Nat} {c : Co} {p : Option Addr} {k : Nat} {t : TypeId} (h : w.heap[A]? = some (.cells #[.int .i64 c.id, .int .i64 c.role, .int .i64 c.tm, .int .i64 c.vt, .int .i64 c.ld, .int .i64 c.wt, .int .i64 c.cm, .int .i64 c.sf, .int .i64 c.l.b, .int .i64 c.l.bt, .int .u16 c.l.j.ov, .int .u16 c.l.j.ox, .int .u16 c.l.j.ol, .int .i64 c.l.j.oe, .int .i64 c.l.j.ok, .int .u16 c.l.j.nv, .int .u16 c.l.j.nx, .int .u16 c.l.j.nl, .int .i64 c.l.j.ne, .int .i64 c.l.j.nk, .bool c.l.j.two, .slice p c.l.es.length k, .string c.sn, .int .u16 c.vs, .int .u16 c.hd, .int .i64 (c.nx 0), .int .i64 (c.nx 1), .int .i64 (c.nx 2), .int .i64 (c.nx 3), .int .i64 (c.nx 4), .int .i64 (c.nx 5), .int .i64 (c.nx 6), .int .i64 (c.nx 7), .int .i64 (c.nx 8), .int .i64 (c.nx 9), .int .i64 (c.mt 0), .int .i64 (c.mt 1), .int .i64 (c.mt 2), .int .i64 (c.mt 3), .int .i64 (c.mt 4), .int .i64 (c.mt 5), .int .i64 (c.mt 6), .int .i64 (c.mt 7), .int .i64 (c.mt 8), .int .i64 (c.mt 9)] t (0, 0))) {n : Nat} (hn : n < 10) : w.cell? ⟨A, 35 + n, none⟩ = some (.int .i64 (c.mt n)) := by
  rw [block_cells h]
  rcases (show n = 0 ∨ n = 1 ∨ n = 2 ∨ n = 3 ∨ n = 4 ∨ n = 5 ∨ n = 6 ∨ n = 7 ∨ n = 8 ∨ n = 9 by omega) with rfl | rfl | rfl | rfl | rfl | rfl | rfl | rfl | rfl | rfl <;> rfl
theorem mayL_fitM {l : Lg} (h : mayL l = true) (hn : l.es.length ≤ 1000000) : LgFit l := by
  unfold mayL at h
  simp only [Bool.and_eq_true, decide_eq_true_eq] at h
  exact ⟨h.1, by omega, by omega⟩
set_option maxRecDepth 100000 in
set_option maxHeartbeats 16000000 in
theorem rmay13_j (c : Co) (p : Option Addr) (k : Nat) (w : World) (hj : JoF (joX c.l.j)) (hjs : ∀ e ∈ c.l.es, JoF (joX e.j)) (hn : c.l.es.length ≤ 1000000) (hE : EnSl w (.slice p c.l.es.length k) c.l.es) :
    Calls Tryz.prog 9 #[.agg #[.int .i64 c.id, .int .i64 c.role, .int .i64 c.tm, .int .i64 c.vt, .int .i64 c.ld, .int .i64 c.wt, .int .i64 c.cm, .int .i64 c.sf, .int .i64 c.l.b, .int .i64 c.l.bt, .int .u16 c.l.j.ov, .int .u16 c.l.j.ox, .int .u16 c.l.j.ol, .int .i64 c.l.j.oe, .int .i64 c.l.j.ok, .int .u16 c.l.j.nv, .int .u16 c.l.j.nx, .int .u16 c.l.j.nl, .int .i64 c.l.j.ne, .int .i64 c.l.j.nk, .bool c.l.j.two, .slice p c.l.es.length k, .string c.sn, .int .u16 c.vs, .int .u16 c.hd, .int .i64 (c.nx 0), .int .i64 (c.nx 1), .int .i64 (c.nx 2), .int .i64 (c.nx 3), .int .i64 (c.nx 4), .int .i64 (c.nx 5), .int .i64 (c.nx 6), .int .i64 (c.nx 7), .int .i64 (c.nx 8), .int .i64 (c.nx 9), .int .i64 (c.mt 0), .int .i64 (c.mt 1), .int .i64 (c.mt 2), .int .i64 (c.mt 3), .int .i64 (c.mt 4), .int .i64 (c.mt 5), .int .i64 (c.mt 6), .int .i64 (c.mt 7), .int .i64 (c.mt 8), .int .i64 (c.mt 9)]] w fun r w' => (∃ b, r = .returned (.bool b) ∧ (b = true ↔ CoMay c)) ∧ Below w.heap.size w w' := by
  have HE := Lib.hid hE; have HV := Lib.hid (And.intro hj hjs)
  clear hE hj hjs
  have hlast : c.l.last = c.l.b + (c.l.es.length : Int) := rfl
  go_enter Tryz.func9, Tryz.ntmps9
  obtain ⟨Q', hQ⟩ : ∃ Q', bodyPost Tryz.prog Tryz.f9 (fun r w' => (∃ b, r = .returned (.bool b) ∧ (b = true ↔ CoMay c)) ∧ Below w.heap.size w w') = Q' := ⟨_, rfl⟩
  have HQF : Hid (∀ (a : Act) (w' : World), a.tmps.getD 2 undef = .bool false → a.defers = [] → ¬ CoMay c → Below w.heap.size w w' → Q' .ret a w') := fun a w' h6 hd hn hb => by
    rw [← hQ]; exact bodyPost_ret (v := .bool false) (by rw [results_tmp rfl, h6]) hd ⟨⟨false, rfl, fun h => absurd h (by decide), fun h => absurd h hn⟩, hb⟩
  have HQT : Hid (∀ (a : Act) (w' : World), a.tmps.getD 2 undef = .bool true → a.defers = [] → CoMay c → Below w.heap.size w w' → Q' .ret a w') := fun a w' h6 hd hn hb => by
    rw [← hQ]; exact bodyPost_ret (v := .bool true) (by rw [results_tmp rfl, h6]) hd ⟨⟨true, rfl, fun _ => hn, fun _ => rfl⟩, hb⟩
  rw [hQ]
  clear hQ
  go_upto_region 1 with fail
  have HA0 := Lib.hid (heap_last w (.cells #[.int .i64 c.id, .int .i64 c.role, .int .i64 c.tm, .int .i64 c.vt, .int .i64 c.ld, .int .i64 c.wt, .int .i64 c.cm, .int .i64 c.sf, .int .i64 c.l.b, .int .i64 c.l.bt, .int .u16 c.l.j.ov, .int .u16 c.l.j.ox, .int .u16 c.l.j.ol, .int .i64 c.l.j.oe, .int .i64 c.l.j.ok, .int .u16 c.l.j.nv, .int .u16 c.l.j.nx, .int .u16 c.l.j.nl, .int .i64 c.l.j.ne, .int .i64 c.l.j.nk, .bool c.l.j.two, .slice p c.l.es.length k, .string c.sn, .int .u16 c.vs, .int .u16 c.hd, .int .i64 (c.nx 0), .int .i64 (c.nx 1), .int .i64 (c.nx 2), .int .i64 (c.nx 3), .int .i64 (c.nx 4), .int .i64 (c.nx 5), .int .i64 (c.nx 6), .int .i64 (c.nx 7), .int .i64 (c.nx 8), .int .i64 (c.nx 9), .int .i64 (c.mt 0), .int .i64 (c.mt 1), .int .i64 (c.mt 2), .int .i64 (c.mt 3), .int .i64 (c.mt 4), .int .i64 (c.mt 5), .int .i64 (c.mt 6), .int .i64 (c.mt 7), .int .i64 (c.mt 8), .int .i64 (c.mt 9)] 33))
  have HB0 := Lib.hid ((Below.refl _ w).alloc (Nat.le_refl _) (.cells #[.int .i64 c.id, .int .i64 c.role, .int .i64 c.tm, .int .i64 c.vt, .int .i64 c.ld, .int .i64 c.wt, .int .i64 c.cm, .int .i64 c.sf, .int .i64 c.l.b, .int .i64 c.l.bt, .int .u16 c.l.j.ov, .int .u16 c.l.j.ox, .int .u16 c.l.j.ol, .int .i64 c.l.j.oe, .int .i64 c.l.j.ok, .int .u16 c.l.j.nv, .int .u16 c.l.j.nx, .int .u16 c.l.j.nl, .int .i64 c.l.j.ne, .int .i64 c.l.j.nk, .bool c.l.j.two, .slice p c.l.es.length k, .string c.sn, .int .u16 c.vs, .int .u16 c.hd, .int .i64 (c.nx 0), .int .i64 (c.nx 1), .int .i64 (c.nx 2), .int .i64 (c.nx 3), .int .i64 (c.nx 4), .int .i64 (c.nx 5), .int .i64 (c.nx 6), .int .i64 (c.nx 7), .int .i64 (c.nx 8), .int .i64 (c.nx 9), .int .i64 (c.mt 0), .int .i64 (c.mt 1), .int .i64 (c.mt 2), .int .i64 (c.mt 3), .int .i64 (c.mt 4), .int .i64 (c.mt 5), .int .i64 (c.mt 6), .int .i64 (c.mt 7), .int .i64 (c.mt 8), .int .i64 (c.mt 9)] 33))
  obtain ⟨W, hW⟩ : ∃ W, w.alloc (.cells #[.int .i64 c.id, .int .i64 c.role, .int .i64 c.tm, .int .i64 c.vt, .int .i64 c.ld, .int .i64 c.wt, .int .i64 c.cm, .int .i64 c.sf, .int .i64 c.l.b, .int .i64 c.l.bt, .int .u16 c.l.j.ov, .int .u16 c.l.j.ox, .int .u16 c.l.j.ol, .int .i64 c.l.j.oe, .int .i64 c.l.j.ok, .int .u16 c.l.j.nv, .int .u16 c.l.j.nx, .int .u16 c.l.j.nl, .int .i64 c.l.j.ne, .int .i64 c.l.j.nk, .bool c.l.j.two, .slice p c.l.es.length k, .string c.sn, .int .u16 c.vs, .int .u16 c.hd, .int .i64 (c.nx 0), .int .i64 (c.nx 1), .int .i64 (c.nx 2), .int .i64 (c.nx 3), .int .i64 (c.nx 4), .int .i64 (c.nx 5), .int .i64 (c.nx 6), .int .i64 (c.nx 7), .int .i64 (c.nx 8), .int .i64 (c.nx 9), .int .i64 (c.mt 0), .int .i64 (c.mt 1), .int .i64 (c.mt 2), .int .i64 (c.mt 3), .int .i64 (c.mt 4), .int .i64 (c.mt 5), .int .i64 (c.mt 6), .int .i64 (c.mt 7), .int .i64 (c.mt 8), .int .i64 (c.mt 9)] 33) = W := ⟨_, rfl⟩
  rw [hW] at HA0 HB0 ⊢
  clear hW
  obtain ⟨A, eA⟩ : ∃ A, w.heap.size = A := ⟨_, rfl⟩
  rw [eA] at HA0 HB0 HQF HQT ⊢
  have HEA := Lib.hid eA
  clear eA
  have kA := block_cells HA0.out
  by_cases h0 : c.id < 1
  · have HN : Hid (¬ CoMay c) := fun h => by have := h.id0; omega
    go_wp2_with fail
    exact HQF.out _ _ rfl rfl HN.out HB0.out
  by_cases h1 : 9 < c.id
  · have HN : Hid (¬ CoMay c) := fun h => by have := h.id1; omega
    go_wp2_with fail
    exact HQF.out _ _ rfl rfl HN.out HB0.out
  by_cases h2 : c.role < 0
  · have HN : Hid (¬ CoMay c) := fun h => by have := h.ro0; omega
    go_wp2_with fail
    exact HQF.out _ _ rfl rfl HN.out HB0.out
  by_cases h3 : 2 < c.role
  · have HN : Hid (¬ CoMay c) := fun h => by have := h.ro1; omega
    go_wp2_with fail
    exact HQF.out _ _ rfl rfl HN.out HB0.out
  by_cases h4 : c.tm < 0
  · have HN : Hid (¬ CoMay c) := fun h => by have := h.tm0; omega
    go_wp2_with fail
    exact HQF.out _ _ rfl rfl HN.out HB0.out
  by_cases h5 : 1099511627776 < c.tm
  · have HN : Hid (¬ CoMay c) := fun h => by have := h.tm1; omega
    go_wp2_with fail
    exact HQF.out _ _ rfl rfl HN.out HB0.out
  by_cases h6 : c.vt < 0
  · have HN : Hid (¬ CoMay c) := fun h => by have := h.vt0; omega
    go_wp2_with fail
    exact HQF.out _ _ rfl rfl HN.out HB0.out
  by_cases h7 : 9 < c.vt
  · have HN : Hid (¬ CoMay c) := fun h => by have := h.vt1; omega
    go_wp2_with fail
    exact HQF.out _ _ rfl rfl HN.out HB0.out
  by_cases h8 : c.ld < 0
  · have HN : Hid (¬ CoMay c) := fun h => by have := h.ld0; omega
    go_wp2_with fail
    exact HQF.out _ _ rfl rfl HN.out HB0.out
  by_cases h9 : 9 < c.ld
  · have HN : Hid (¬ CoMay c) := fun h => by have := h.ld1; omega
    go_wp2_with fail
    exact HQF.out _ _ rfl rfl HN.out HB0.out
  have HC := Lib.hid (rmayLog_any c.l p k W hn (HE.out.keep HB0.out (by rw [HEA.out]; exact Nat.le_refl _)) HV.out.1 (fun e he => HV.out.2 e he))
  cases hm : logM c.l with
  | false =>
    have HN : Hid (¬ CoMay c) := fun h => by have := h.l; rw [hm] at this; cases this
    rw [hm] at HC
    clear hm
    go_wp2_with fail
    refine HC.out.mono ?_; rintro r w1 ⟨rfl, hb⟩
    have HB := Lib.hid (HB0.out.trans (hb.mono (HEA.out ▸ HB0.out.size)))
    clear hb HC kA
    go_wp2_with fail
    exact HQF.out _ _ rfl rfl HN.out HB.out
  | true =>
  rw [hm] at HC
  have HM := Lib.hid hm
  have HF := Lib.hid (mayL_fitM (logM_may hm) hn)
  clear hm
  go_wp2_with fail
  refine HC.out.mono ?_; rintro r w1 ⟨rfl, hb⟩
  have HB1 := Lib.hid (HB0.out.trans (hb.mono (HEA.out ▸ HB0.out.size)))
  have HA1 := Lib.hid (below_block hb (block_lt HA0.out) HA0.out)
  clear hb HC kA HA0 HB0
  have kA := block_cells HA1.out
  have HC := Lib.hid (rlast_any c.l p k w1 HF.out.b0 HF.out.b1 HF.out.n)
  go_wp2_with fail
  refine HC.out.mono ?_; rintro r w2 ⟨rfl, hb⟩
  have HB2 := Lib.hid (HB1.out.trans (hb.mono (HEA.out ▸ HB1.out.size)))
  have HA2 := Lib.hid (below_block hb (block_lt HA1.out) HA1.out)
  clear hb HC kA HA1 HB1
  go_upto_region 4 with fail
  obtain ⟨T, hT⟩ : ∃ T, lastTerm c.l = T := ⟨_, rfl⟩
  obtain ⟨X, hX⟩ : ∃ X, c.l.last = X := ⟨_, rfl⟩
  (try rw [hX])
  rw [hX] at hlast
  have HTT := Lib.hid hT; have HXX := Lib.hid hX
  have HLT := Lib.hid (show ∀ w', Below w2.heap.size w2 w' → Calls Tryz.prog 34 #[.agg #[.int .i64 c.l.b, .int .i64 c.l.bt, .int .u16 c.l.j.ov, .int .u16 c.l.j.ox, .int .u16 c.l.j.ol, .int .i64 c.l.j.oe, .int .i64 c.l.j.ok, .int .u16 c.l.j.nv, .int .u16 c.l.j.nx, .int .u16 c.l.j.nl, .int .i64 c.l.j.ne, .int .i64 c.l.j.nk, .bool c.l.j.two, .slice p c.l.es.length k]] w' fun r w3 => r = .returned (.int .i64 T) ∧ Below w'.heap.size w' w3 from fun w' h => by
    have := rlastTerm_any c.l p k w' HF.out (HE.out.keep (HB2.out.trans (h.mono (HEA.out ▸ HB2.out.size))) (by rw [HEA.out]; exact Nat.le_refl _)); rw [hT] at this; exact this)
  clear hT hX
  obtain ⟨U, f, hU, hf, hg⟩ := calm_class (w2); obtain ⟨u0, hu0⟩ := hg _ (Below.refl _ _); rw [hu0]; clear hu0
  have kA := fun u => block_cells (calm_heap hf HA2.out u)
  have HBu : Hid (∀ u, Below A w (f u)) := fun u => HB2.out.trans ((hf u).mono (HEA.out ▸ HB2.out.size))
  by_cases g0 : c.tm < T
  · have HN : Hid (¬ CoMay c) := fun h => by have := h.lt; have hT := HTT.out; have hX := HXX.out; omega
    refine wp_region_calm f (by kernel_rfl) (by kernel_rfl) (calm_drew hf hg _) ?_
    repeat (go_big_quiet_step ((go_at_call 34; with_reducible exact calm_of hf hg (HLT.out _ (hf _)))))
    refine wpQuiet_nil ?_; rintro _ ⟨u, rfl⟩
    go_wp2_with fail
    exact HQF.out _ _ rfl rfl HN.out (HBu.out _)
  by_cases g1 : c.cm < c.l.b
  · have HN : Hid (¬ CoMay c) := fun h => by have := h.cm0; have hT := HTT.out; have hX := HXX.out; omega
    refine wp_region_calm f (by kernel_rfl) (by kernel_rfl) (calm_drew hf hg _) ?_
    repeat (go_big_quiet_step ((go_at_call 34; with_reducible exact calm_of hf hg (HLT.out _ (hf _)))))
    refine wpQuiet_nil ?_; rintro _ ⟨u, rfl⟩
    go_wp2_with fail
    exact HQF.out _ _ rfl rfl HN.out (HBu.out _)
  by_cases g2 : c.l.b + (c.l.es.length : Int) < c.cm
  · have HN : Hid (¬ CoMay c) := fun h => by have := h.cm1; have hT := HTT.out; have hX := HXX.out; omega
    refine wp_region_calm f (by kernel_rfl) (by kernel_rfl) (calm_drew hf hg _) ?_
    repeat (go_big_quiet_step ((go_at_call 34; with_reducible exact calm_of hf hg (HLT.out _ (hf _)))))
    refine wpQuiet_nil ?_; rintro _ ⟨u, rfl⟩
    go_wp2_with fail
    exact HQF.out _ _ rfl rfl HN.out (HBu.out _)
  by_cases g3 : c.wt < 0
  · have HN : Hid (¬ CoMay c) := fun h => by have := h.wt0; have hT := HTT.out; have hX := HXX.out; omega
    refine wp_region_calm f (by kernel_rfl) (by kernel_rfl) (calm_drew hf hg _) ?_
    repeat (go_big_quiet_step ((go_at_call 34; with_reducible exact calm_of hf hg (HLT.out _ (hf _)))))
    refine wpQuiet_nil ?_; rintro _ ⟨u, rfl⟩
    go_wp2_with fail
    exact HQF.out _ _ rfl rfl HN.out (HBu.out _)
  by_cases g4 : 1099511627776 < c.wt
  · have HN : Hid (¬ CoMay c) := fun h => by have := h.wt1; have hT := HTT.out; have hX := HXX.out; omega
    refine wp_region_calm f (by kernel_rfl) (by kernel_rfl) (calm_drew hf hg _) ?_
    repeat (go_big_quiet_step ((go_at_call 34; with_reducible exact calm_of hf hg (HLT.out _ (hf _)))))
    refine wpQuiet_nil ?_; rintro _ ⟨u, rfl⟩
    go_wp2_with fail
    exact HQF.out _ _ rfl rfl HN.out (HBu.out _)
  by_cases g5 : c.sf < 0
  · have HN : Hid (¬ CoMay c) := fun h => by have := h.sf0; have hT := HTT.out; have hX := HXX.out; omega
    refine wp_region_calm f (by kernel_rfl) (by kernel_rfl) (calm_drew hf hg _) ?_
    repeat (go_big_quiet_step ((go_at_call 34; with_reducible exact calm_of hf hg (HLT.out _ (hf _)))))
    refine wpQuiet_nil ?_; rintro _ ⟨u, rfl⟩
    go_wp2_with fail
    exact HQF.out _ _ rfl rfl HN.out (HBu.out _)
  by_cases g6 : 1099511627776 < c.sf
  · have HN : Hid (¬ CoMay c) := fun h => by have := h.sf1; have hT := HTT.out; have hX := HXX.out; omega
    refine wp_region_calm f (by kernel_rfl) (by kernel_rfl) (calm_drew hf hg _) ?_
    repeat (go_big_quiet_step ((go_at_call 34; with_reducible exact calm_of hf hg (HLT.out _ (hf _)))))
    refine wpQuiet_nil ?_; rintro _ ⟨u, rfl⟩
    go_wp2_with fail
    exact HQF.out _ _ rfl rfl HN.out (HBu.out _)
  refine wp_region_calm f (by kernel_rfl) (by kernel_rfl) (calm_drew hf hg _) ?_
  repeat (go_big_quiet_step ((go_at_call 34; with_reducible exact calm_of hf hg (HLT.out _ (hf _)))))
  refine wpQuiet_nil ?_; rintro _ ⟨u, rfl⟩
  have HBa := Lib.hid (HBu.out u)
  have HA3 := Lib.hid (calm_heap hf HA2.out u)
  obtain ⟨w3, hw3⟩ : ∃ z, f u = z := ⟨_, rfl⟩
  rw [hw3] at HBa HA3 ⊢
  clear hw3 kA HBu hf hg HLT
  have hX := HXX.out
  have hT := HTT.out
  have HP := Lib.hid (show (∀ n, n < 10 → (0 ≤ c.nx n ∧ c.nx n ≤ 2199023255552) ∧ 0 ≤ c.mt n ∧ c.mt n ≤ c.l.last) → CoMay c from fun h => ⟨by omega, by omega, by omega, by omega, by omega, by omega, by omega, by omega, by omega, by omega, HM.out, by omega, by omega, by omega, by omega, by omega, by omega, by omega, fun n hn => (h n hn).1, fun n hn => (h n hn).2⟩)
  have HLA := Lib.hid (show c.l.last = c.l.b + (c.l.es.length : Int) from rfl)
  clear hX hT
  go_wp2_with fail
  go_loop [4] (fun i => ∃ n : Nat, n ≤ 10 ∧ i = .int .i64 n ∧ Hid (∀ m, m < n → (0 ≤ c.nx m ∧ c.nx m ≤ 2199023255552) ∧ 0 ≤ c.mt m ∧ c.mt m ≤ c.l.last)) (fun i => 10 - (intOf i).toNat)
  case atStart => exact ⟨0, by omega, rfl, fun m hm => absurd hm (Nat.not_lt_zero m)⟩
  case round =>
    obtain ⟨n, hn, rfl, HK⟩ := hrel
    by_cases hlt : n < 10
    · have hd : decide ((n : Int) < 10) = true := by simp; omega
      have kn := co_nx HA3.out hlt
      have km := co_mt HA3.out hlt
      have hn0 : 0 ≤ (n : Int) := by omega
      have hn1 : (n : Int) < 10 := by omega
      obtain ⟨x, hx⟩ : ∃ x, c.nx n = x := ⟨_, rfl⟩
      obtain ⟨y, hy⟩ : ∃ y, c.mt n = y := ⟨_, rfl⟩
      rw [hx] at kn
      rw [hy] at km
      have HX := Lib.hid hx; have HY := Lib.hid hy
      clear hx hy
      by_cases i0 : x < 0
      · have HN : Hid (¬ CoMay c) := fun h => by have := (h.nx n hlt).1; rw [HX.out] at this; omega
        go_wp2_with fail
        exact HQF.out _ _ rfl rfl HN.out HBa.out
      by_cases i1 : 2199023255552 < x
      · have HN : Hid (¬ CoMay c) := fun h => by have := (h.nx n hlt).2; rw [HX.out] at this; omega
        go_wp2_with fail
        exact HQF.out _ _ rfl rfl HN.out HBa.out
      by_cases i2 : y < 0
      · have HN : Hid (¬ CoMay c) := fun h => by have := (h.mt n hlt).1; rw [HY.out] at this; omega
        go_wp2_with fail
        exact HQF.out _ _ rfl rfl HN.out HBa.out
      by_cases i3 : c.l.b + (c.l.es.length : Int) < y
      · have HN : Hid (¬ CoMay c) := fun h => by have := (h.mt n hlt).2; have hX := HLA.out; rw [HY.out] at this; omega
        go_wp2_with fail
        exact HQF.out _ _ rfl rfl HN.out HBa.out
      have HK2 : Hid (∀ m, m < n + 1 → (0 ≤ c.nx m ∧ c.nx m ≤ 2199023255552) ∧ 0 ≤ c.mt m ∧ c.mt m ≤ c.l.last) := fun m hm => by
        by_cases e : m = n
        · subst e; rw [HX.out, HY.out, HLA.out]; exact ⟨⟨by omega, by omega⟩, by omega, by omega⟩
        · exact HK.out m (by omega)
      go_wp2_with fail
      go_round
      case rel => exact ⟨n + 1, by omega, by go_num, HK2⟩
      case measure => simp [intOf]; omega
    · obtain rfl : n = 10 := by omega
      have HY := Lib.hid (HP.out HK.out)
      clear HK
      go_wp2_with fail
      exact HQT.out _ _ rfl rfl HY.out HBa.out
theorem rmay13_any (c : Co) (p : Option Addr) (k : Nat) (w : World) (V : CoV c) (hn : c.l.es.length ≤ 1000000) (hE : EnSl w (.slice p c.l.es.length k) c.l.es) :
    Calls Tryz.prog 9 #[.agg #[.int .i64 c.id, .int .i64 c.role, .int .i64 c.tm, .int .i64 c.vt, .int .i64 c.ld, .int .i64 c.wt, .int .i64 c.cm, .int .i64 c.sf, .int .i64 c.l.b, .int .i64 c.l.bt, .int .u16 c.l.j.ov, .int .u16 c.l.j.ox, .int .u16 c.l.j.ol, .int .i64 c.l.j.oe, .int .i64 c.l.j.ok, .int .u16 c.l.j.nv, .int .u16 c.l.j.nx, .int .u16 c.l.j.nl, .int .i64 c.l.j.ne, .int .i64 c.l.j.nk, .bool c.l.j.two, .slice p c.l.es.length k, .string c.sn, .int .u16 c.vs, .int .u16 c.hd, .int .i64 (c.nx 0), .int .i64 (c.nx 1), .int .i64 (c.nx 2), .int .i64 (c.nx 3), .int .i64 (c.nx 4), .int .i64 (c.nx 5), .int .i64 (c.nx 6), .int .i64 (c.nx 7), .int .i64 (c.nx 8), .int .i64 (c.nx 9), .int .i64 (c.mt 0), .int .i64 (c.mt 1), .int .i64 (c.mt 2), .int .i64 (c.mt 3), .int .i64 (c.mt 4), .int .i64 (c.mt 5), .int .i64 (c.mt 6), .int .i64 (c.mt 7), .int .i64 (c.mt 8), .int .i64 (c.mt 9)]] w fun r w' => (∃ b, r = .returned (.bool b) ∧ (b = true ↔ CoMay c)) ∧ Below w.heap.size w w' :=
  rmay13_j c p k w V.l.j (fun e he => (V.l.es e he).j) hn hE
end Go.Proofs.YtbnndbdnejfehaaGreatDoor
/- Core: any number of ticks: the plain law. -/
namespace Go.Proofs.YtbnndbdnejfehaaGreatDoor

/-- A typed core that may be, and is not too great, is fit. -/
theorem fit_may {N : Nat} {c : Co} (h : CoMay c) (hn : c.l.es.length ≤ N) (hN : N ≤ 1000000) (hj : JoF (joX c.l.j)) (hes : ∀ e ∈ c.l.es, JoF (joX e.j)) : CoFit N c := by
  have hl := h.l
  unfold logM at hl
  simp only [Bool.and_eq_true, List.all_eq_true] at hl
  exact ⟨⟨mayL_fitM hl.1.1 (by omega), ⟨hl.1.2, hj⟩, fun e he => ⟨hes e he, hl.2 e he⟩⟩, hn, h.id0, h.id1, fun n hn => by have := h.nx n hn; omega, h.mt, h.cm0, h.cm1⟩
end Go.Proofs.YtbnndbdnejfehaaGreatDoor
/- Wire: the reference's reader: its block. -/
namespace Go.Proofs.YtbnndbdnejfehaaGreatDoor
open Go.ChangeShapes Go.WideShapes Go.ChangeAt Go.RowKit

end Go.Proofs.YtbnndbdnejfehaaGreatDoor
/- Wire: the reference's reader: numbers, counts. -/
namespace Go.Proofs.YtbnndbdnejfehaaGreatDoor
open Go.ChangeShapes Go.WideShapes Go.ChangeAt Go.RowKit

end Go.Proofs.YtbnndbdnejfehaaGreatDoor
/- Wire: the reference's reader: texts. -/
namespace Go.Proofs.YtbnndbdnejfehaaGreatDoor
open Go.ChangeShapes Go.WideShapes Go.ChangeAt Go.RowKit

end Go.Proofs.YtbnndbdnejfehaaGreatDoor
/- Wire: the reference's reader: bytes. -/
namespace Go.Proofs.YtbnndbdnejfehaaGreatDoor
open Go.ChangeShapes Go.WideShapes Go.ChangeAt Go.RowKit

end Go.Proofs.YtbnndbdnejfehaaGreatDoor
/- Wire: the reference's reader: truths. -/
namespace Go.Proofs.YtbnndbdnejfehaaGreatDoor
open Go.ChangeShapes Go.WideShapes Go.ChangeAt Go.RowKit

end Go.Proofs.YtbnndbdnejfehaaGreatDoor
/- Wire: the reference's reader: stamps. -/
namespace Go.Proofs.YtbnndbdnejfehaaGreatDoor
open Go.ChangeShapes Go.WideShapes Go.ChangeAt Go.RowKit

end Go.Proofs.YtbnndbdnejfehaaGreatDoor
/- Wire: the reference's reader: attempts. -/
namespace Go.Proofs.YtbnndbdnejfehaaGreatDoor
open Go.ChangeShapes Go.WideShapes Go.ChangeAt Go.RowKit

end Go.Proofs.YtbnndbdnejfehaaGreatDoor
/- Wire: the reference's reader: outcomes. -/
namespace Go.Proofs.YtbnndbdnejfehaaGreatDoor
open Go.ChangeShapes Go.WideShapes Go.ChangeAt Go.RowKit

end Go.Proofs.YtbnndbdnejfehaaGreatDoor
/- Wire: the reference's reader: cells. -/
namespace Go.Proofs.YtbnndbdnejfehaaGreatDoor
open Go.ChangeShapes Go.WideShapes Go.ChangeAt Go.RowKit

/-- A list as it is read: in the cell of a block, in a row of the call's own. -/
structure LsF {α : Type} (R g base : Nat) (w0 wS : World) (cs : Value → Array Value) (tc te : TypeId) (size : Nat) (row : List α → List Value) (acc : List α) (w : World) : Prop where
  ex : ∃ v, w.heap[g]? = some (.cells (cs v) tc (0, 0)) ∧ w.ownsRow base te size v acc.length (row acc)
  b : w0.grownBy w (some R)
  z : base ≤ w.heap.size
  k : KpB base R g wS w
end Go.Proofs.YtbnndbdnejfehaaGreatDoor
/- Wire: what the reference's reading of a command, a state tells; what was read can be written. -/
namespace Go.Proofs.YtbnndbdnejfehaaGreatDoor

end Go.Proofs.YtbnndbdnejfehaaGreatDoor
/- Wire: the reference's TakeCmd. -/
namespace Go.Proofs.YtbnndbdnejfehaaGreatDoor
open Go.ChangeShapes Go.WideShapes Go.ChangeAt Go.RowKit

end Go.Proofs.YtbnndbdnejfehaaGreatDoor
/- Wire: the reference's TakeJoint. -/
namespace Go.Proofs.YtbnndbdnejfehaaGreatDoor
open Go.ChangeShapes Go.WideShapes Go.ChangeAt Go.RowKit

end Go.Proofs.YtbnndbdnejfehaaGreatDoor
/- Hard: the reference's steps of reading; entries up to a number. -/
namespace Go.Proofs.YtbnndbdnejfehaaGreatDoor
open Go.ChangeShapes Go.WideShapes Go.ChangeAt Go.RowKit

end Go.Proofs.YtbnndbdnejfehaaGreatDoor
/- Hard: the reference's entries up to a number. -/
namespace Go.Proofs.YtbnndbdnejfehaaGreatDoor
open Go.ChangeShapes Go.WideShapes Go.ChangeAt Go.RowKit

end Go.Proofs.YtbnndbdnejfehaaGreatDoor
/- Hard: what a record says to a core, the document's: letters H, X, and none. -/
namespace Go.Proofs.YtbnndbdnejfehaaGreatDoor
open Go.ChangeShapes Go.WideShapes Go.ChangeAt Go.RowKit

end Go.Proofs.YtbnndbdnejfehaaGreatDoor
/- Hard: what a record says to a core, the document's: letter S. -/
namespace Go.Proofs.YtbnndbdnejfehaaGreatDoor
open Go.ChangeShapes Go.WideShapes Go.ChangeAt Go.RowKit

end Go.Proofs.YtbnndbdnejfehaaGreatDoor
/- Hard: what a record says to a core, the document's: letter E. -/
namespace Go.Proofs.YtbnndbdnejfehaaGreatDoor
open Go.ChangeShapes Go.WideShapes Go.ChangeAt Go.RowKit

structure TuO (B R X : Nat) (y : CoX) (w : World) (v : Value) (L : List Ent) : Prop where
  own : w.ownsRow B 47 14 v L.length (entRow L)
  gt : ∀ b, v.ownBlock = some b → X < b
  gr : ∀ b, v.ownBlock = some b → R < b
  ap : (Value.slice y.p y.c.l.es.length y.k).ownBlock = none ∨ (Value.slice y.p y.c.l.es.length y.k).ownBlock ≠ v.ownBlock
theorem TuO.keep {B R X : Nat} {y : CoX} {w w' : World} {v : Value} {L : List Ent} (h : TuO B R X y w v L) (hb : Below w.heap.size w w') : TuO B R X y w' v L := ⟨own_keptC h.own hb, h.gt, h.gr, h.ap⟩
end Go.Proofs.YtbnndbdnejfehaaGreatDoor
/- Hard: what a record says to a core, the document's: letter E, with a joint. -/
namespace Go.Proofs.YtbnndbdnejfehaaGreatDoor
open Go.ChangeShapes Go.WideShapes Go.ChangeAt Go.RowKit

end Go.Proofs.YtbnndbdnejfehaaGreatDoor
/- Hard: what a record says to a core, the document's, whatever the letter; a new core. -/
namespace Go.Proofs.YtbnndbdnejfehaaGreatDoor
open Go.ChangeShapes Go.WideShapes Go.ChangeAt Go.RowKit

end Go.Proofs.YtbnndbdnejfehaaGreatDoor
/- Hard: a string's first byte; a row of strings; a row of cores apart. -/
namespace Go.Proofs.YtbnndbdnejfehaaGreatDoor
open Go.ChangeShapes Go.WideShapes Go.ChangeAt Go.RowKit

/-- A list of strings. -/
def SrAt (B : Nat) (w : World) (q : Option Addr) (L : List ByteArray) : Prop := ∀ k, (hk : k < L.length) → ∃ g o, q = some ⟨g, o, none⟩ ∧ g < B ∧ w.cell? ⟨g, o + k, none⟩ = some (.string L[k])
theorem SrAt.keep {B : Nat} {w w' : World} {q : Option Addr} {L : List ByteArray} (h : SrAt B w q L) (hb : Below B w w') : SrAt B w' q L := fun k hk => by
  obtain ⟨g, o, e, hg, hc⟩ := h k hk
  exact ⟨g, o, e, hg, (hb.cell (p := ⟨g, o + k, none⟩) hg).trans hc⟩
theorem CsAt.range {base : Nat} {w : World} {g cap : Nat} {l : List CoX} (h : CsAt base w (.slice (some ⟨g, 0, none⟩) l.length cap) l) {n : Nat} (hn : n < l.length) : w.rangeAt g (n * 45) l[n].v := range_of (n := 45) rfl (fun j hj => h.cell hn j hj)
end Go.Proofs.YtbnndbdnejfehaaGreatDoor
/- Hard: an array of ten numbers is equal to itself. -/
namespace Go.Proofs.YtbnndbdnejfehaaGreatDoor
open Go.ChangeShapes Go.WideShapes Go.ChangeAt Go.RowKit

set_option maxRecDepth 100000 in
theorem eq_ten (a b c d e f g h i j : Int) (w : World) : (Op.equalIn 10000 31 (.agg #[.int .i64 a, .int .i64 b, .int .i64 c, .int .i64 d, .int .i64 e, .int .i64 f, .int .i64 g, .int .i64 h, .int .i64 i, .int .i64 j]) (.agg #[.int .i64 a, .int .i64 b, .int .i64 c, .int .i64 d, .int .i64 e, .int .i64 f, .int .i64 g, .int .i64 h, .int .i64 i, .int .i64 j])).run Tryz.prog w = .ok true w := by
  have hi0 : (Tryz.prog.info? 3).isSome = true := by kernel_rfl
  obtain ⟨x, hx⟩ := Option.isSome_iff_exists.1 hi0
  rw [run_equalIn_array (P := Tryz.prog) w 9999 _ _ Tryz.underlying31 hx]
  have hc : Tryz.prog.cellsOf 3 = 1 := by kernel_rfl
  rw [hc, show List.range 10 = [0, 1, 2, 3, 4, 5, 6, 7, 8, 9] from rfl]
  simp only [Op.eqItems]
  go_simp
end Go.Proofs.YtbnndbdnejfehaaGreatDoor
/- Hard: two equal cores are the same (the reference's Same). -/
namespace Go.Proofs.YtbnndbdnejfehaaGreatDoor
open Go.ChangeShapes Go.WideShapes Go.ChangeAt Go.RowKit

set_option maxRecDepth 100000 in
set_option maxHeartbeats 16000000 in
theorem rsame13_any (c : Co) (p q : Option Addr) (k d : Nat) (w : World) (hl : c.l.es.length ≤ 1000000) (h1 : EnSl w (.slice p c.l.es.length k) c.l.es) (h2 : EnSl w (.slice q c.l.es.length d) c.l.es) :
    Calls Tryz.prog 14 #[.agg #[.int .i64 c.id, .int .i64 c.role, .int .i64 c.tm, .int .i64 c.vt, .int .i64 c.ld, .int .i64 c.wt, .int .i64 c.cm, .int .i64 c.sf, .int .i64 c.l.b, .int .i64 c.l.bt, .int .u16 c.l.j.ov, .int .u16 c.l.j.ox, .int .u16 c.l.j.ol, .int .i64 c.l.j.oe, .int .i64 c.l.j.ok, .int .u16 c.l.j.nv, .int .u16 c.l.j.nx, .int .u16 c.l.j.nl, .int .i64 c.l.j.ne, .int .i64 c.l.j.nk, .bool c.l.j.two, .slice p c.l.es.length k, .string c.sn, .int .u16 c.vs, .int .u16 c.hd, .int .i64 (c.nx 0), .int .i64 (c.nx 1), .int .i64 (c.nx 2), .int .i64 (c.nx 3), .int .i64 (c.nx 4), .int .i64 (c.nx 5), .int .i64 (c.nx 6), .int .i64 (c.nx 7), .int .i64 (c.nx 8), .int .i64 (c.nx 9), .int .i64 (c.mt 0), .int .i64 (c.mt 1), .int .i64 (c.mt 2), .int .i64 (c.mt 3), .int .i64 (c.mt 4), .int .i64 (c.mt 5), .int .i64 (c.mt 6), .int .i64 (c.mt 7), .int .i64 (c.mt 8), .int .i64 (c.mt 9)], .agg #[.int .i64 c.id, .int .i64 c.role, .int .i64 c.tm, .int .i64 c.vt, .int .i64 c.ld, .int .i64 c.wt, .int .i64 c.cm, .int .i64 c.sf, .int .i64 c.l.b, .int .i64 c.l.bt, .int .u16 c.l.j.ov, .int .u16 c.l.j.ox, .int .u16 c.l.j.ol, .int .i64 c.l.j.oe, .int .i64 c.l.j.ok, .int .u16 c.l.j.nv, .int .u16 c.l.j.nx, .int .u16 c.l.j.nl, .int .i64 c.l.j.ne, .int .i64 c.l.j.nk, .bool c.l.j.two, .slice q c.l.es.length d, .string c.sn, .int .u16 c.vs, .int .u16 c.hd, .int .i64 (c.nx 0), .int .i64 (c.nx 1), .int .i64 (c.nx 2), .int .i64 (c.nx 3), .int .i64 (c.nx 4), .int .i64 (c.nx 5), .int .i64 (c.nx 6), .int .i64 (c.nx 7), .int .i64 (c.nx 8), .int .i64 (c.nx 9), .int .i64 (c.mt 0), .int .i64 (c.mt 1), .int .i64 (c.mt 2), .int .i64 (c.mt 3), .int .i64 (c.mt 4), .int .i64 (c.mt 5), .int .i64 (c.mt 6), .int .i64 (c.mt 7), .int .i64 (c.mt 8), .int .i64 (c.mt 9)]] w fun r w' => r = .returned (.bool true) ∧ Below w.heap.size w w' := by
  obtain ⟨W0, hW0⟩ : ∃ z : World, w.alloc (.cells #[.int .i64 c.id, .int .i64 c.role, .int .i64 c.tm, .int .i64 c.vt, .int .i64 c.ld, .int .i64 c.wt, .int .i64 c.cm, .int .i64 c.sf, .int .i64 c.l.b, .int .i64 c.l.bt, .int .u16 c.l.j.ov, .int .u16 c.l.j.ox, .int .u16 c.l.j.ol, .int .i64 c.l.j.oe, .int .i64 c.l.j.ok, .int .u16 c.l.j.nv, .int .u16 c.l.j.nx, .int .u16 c.l.j.nl, .int .i64 c.l.j.ne, .int .i64 c.l.j.nk, .bool c.l.j.two, .slice p c.l.es.length k, .string c.sn, .int .u16 c.vs, .int .u16 c.hd, .int .i64 (c.nx 0), .int .i64 (c.nx 1), .int .i64 (c.nx 2), .int .i64 (c.nx 3), .int .i64 (c.nx 4), .int .i64 (c.nx 5), .int .i64 (c.nx 6), .int .i64 (c.nx 7), .int .i64 (c.nx 8), .int .i64 (c.nx 9), .int .i64 (c.mt 0), .int .i64 (c.mt 1), .int .i64 (c.mt 2), .int .i64 (c.mt 3), .int .i64 (c.mt 4), .int .i64 (c.mt 5), .int .i64 (c.mt 6), .int .i64 (c.mt 7), .int .i64 (c.mt 8), .int .i64 (c.mt 9)] 33) = z := ⟨_, rfl⟩
  obtain ⟨W, hW⟩ : ∃ z : World, W0.alloc (.cells #[.int .i64 c.id, .int .i64 c.role, .int .i64 c.tm, .int .i64 c.vt, .int .i64 c.ld, .int .i64 c.wt, .int .i64 c.cm, .int .i64 c.sf, .int .i64 c.l.b, .int .i64 c.l.bt, .int .u16 c.l.j.ov, .int .u16 c.l.j.ox, .int .u16 c.l.j.ol, .int .i64 c.l.j.oe, .int .i64 c.l.j.ok, .int .u16 c.l.j.nv, .int .u16 c.l.j.nx, .int .u16 c.l.j.nl, .int .i64 c.l.j.ne, .int .i64 c.l.j.nk, .bool c.l.j.two, .slice q c.l.es.length d, .string c.sn, .int .u16 c.vs, .int .u16 c.hd, .int .i64 (c.nx 0), .int .i64 (c.nx 1), .int .i64 (c.nx 2), .int .i64 (c.nx 3), .int .i64 (c.nx 4), .int .i64 (c.nx 5), .int .i64 (c.nx 6), .int .i64 (c.nx 7), .int .i64 (c.nx 8), .int .i64 (c.nx 9), .int .i64 (c.mt 0), .int .i64 (c.mt 1), .int .i64 (c.mt 2), .int .i64 (c.mt 3), .int .i64 (c.mt 4), .int .i64 (c.mt 5), .int .i64 (c.mt 6), .int .i64 (c.mt 7), .int .i64 (c.mt 8), .int .i64 (c.mt 9)] 33) = z := ⟨_, rfl⟩
  have hs0 : W0.heap.size = w.heap.size + 1 := by rw [← hW0]; simp
  have b0 : Below w.heap.size w W0 := by rw [← hW0]; exact (Below.refl _ _).alloc (Nat.le_refl _) _
  have b1 : Below W0.heap.size W0 W := by rw [← hW]; exact (Below.refl _ _).alloc (Nat.le_refl _) _
  have bW := b0.trans (b1.mono b0.size)
  have HS := Lib.hid (same_any c.l c.l p q k d W hl hl (h1.keep bW (Nat.le_refl _)) (h2.keep bW (Nat.le_refl _)))
  rw [decide_eq_true (rfl : c.l = c.l)] at HS
  have HB := Lib.hid bW
  clear hs0 b0 b1 bW h1 h2
  subst hW; subst hW0
  have E1 := fun w => eq_ten (c.nx 0) (c.nx 1) (c.nx 2) (c.nx 3) (c.nx 4) (c.nx 5) (c.nx 6) (c.nx 7) (c.nx 8) (c.nx 9) w
  have E2 := fun w => eq_ten (c.mt 0) (c.mt 1) (c.mt 2) (c.mt 3) (c.mt 4) (c.mt 5) (c.mt 6) (c.mt 7) (c.mt 8) (c.mt 9) w
  go_enter Tryz.func14, Tryz.ntmps14
  go_wp2_with fail
  refine HS.out.mono ?_; rintro r w' ⟨rfl, hb⟩
  have HB2 := Lib.hid (HB.out.trans (hb.mono HB.out.size))
  clear hb HS HB
  go_wp2_with fail
  go_ret
  exact ⟨rfl, HB2.out⟩
end Go.Proofs.YtbnndbdnejfehaaGreatDoor
/- Core: a message of a term gone by: the law's walk. -/
namespace Go.Proofs.YtbnndbdnejfehaaGreatDoor
open Go.ChangeShapes Go.WideShapes Go.ChangeAt Go.RowKit

theorem ms_nil {B : Nat} {w : World} {v : Value} {l : List MsX} (h : MsAt B w v l) (hl : l.map MsX.m = []) : ∃ p cap, v = .slice p 0 cap := by
  have h0 : l.length = 0 := by have := congrArg List.length hl; rwa [List.length_map] at this
  obtain ⟨p, c, e⟩ := own_formH h.own
  rw [h0] at e
  exact ⟨p, c, e⟩
theorem ms_row {B : Nat} {w : World} {v : Value} {l : List MsX} (h : MsAt B w v l) {i : Nat} (hi : i < l.length) : ∃ g c, v = .slice (some ⟨g, 0, none⟩) l.length c ∧ ∀ w' : World, Below w.heap.size w w' → ∀ j, j < 22 → w'.cell? ⟨g, i * 22 + j, none⟩ = (l[i]).v[j]? := by
  rcases h.own.2 with ⟨-, h0⟩ | ⟨g, cap, cur, hv, hb, hg, -, -, hc, ht⟩
  · have : l.length = 0 := by simpa using h0
    omega
  · refine ⟨g, cap, hv, fun w' hb j hj => ?_⟩
    have hg' := below_block hb (block_lt hg) hg
    rw [block_cells hg', ← msRow_get hi hj, ← ht, List.getElem?_take, if_pos (by
      have : i * 22 + 22 ≤ l.length * 22 := by have := Nat.mul_le_mul_right 22 (show i + 1 ≤ l.length from hi); omega
      omega)]
    simp
theorem ms_one {B : Nat} {w : World} {v : Value} {l : List MsX} {x : Ms} (h : MsAt B w v l) (hl : l.map MsX.m = [x]) : ∃ g cap p k, v = .slice (some ⟨g, 0, none⟩) 1 cap ∧ ∀ w' : World, Below w.heap.size w w' → ∀ j, j < 22 → w'.cell? ⟨g, j, none⟩ = (msC x p k)[j]? := by
  cases l with
  | nil => exact absurd hl (by simp)
  | cons y t =>
    cases t with
    | cons z t => exact absurd hl (by simp)
    | nil =>
      have hx : y.m = x := by simpa using hl
      subst hx
      obtain ⟨g, cap, hv, hr⟩ := ms_row h (i := 0) (Nat.zero_lt_one)
      exact ⟨g, cap, y.p, y.k, hv, fun w' hb j hj => by have h1 := hr w' hb j hj; rw [Nat.zero_mul, Nat.zero_add] at h1; exact h1⟩
theorem lightC_parts {c : Co} (h : lightC c = true) : c.l.es.length ≤ 60 := by
  unfold lightC lightB smallB at h
  simp only [Bool.and_eq_true, decide_eq_true_eq, List.all_eq_true] at h
  exact h.1.1
theorem lightM_parts {m : Ms} (h : lightM m = true) : m.es.length ≤ 60 := by
  unfold lightM lightB smallB at h
  simp only [Bool.and_eq_true, decide_eq_true_eq, List.all_eq_true] at h
  omega
set_option maxRecDepth 100000 in
set_option maxHeartbeats 16000000 in
theorem stale_walk (c : Co) (p : Option Addr) (k : Nat) (m : Ms) (q : Option Addr) (d : Nat) (w : World) (hT : Tab w) (vc : CoV c) (vm : MsV m) (hE : EnSl w (.slice p c.l.es.length k) c.l.es) (hM : EnSl w (.slice q m.es.length d) m.es) :
    Calls Tryz.prog 4 #[.agg (coL c p k).toArray, .agg (msC m q d).toArray] w fun e w' => e = .returned (.bool true) ∧ Below w.heap.size w w' := by
  have HT := Lib.hid hT; have HVC := Lib.hid vc; have HVM := Lib.hid vm; have HE := Lib.hid hE; have HM := Lib.hid hM
  clear hT vc vm hE hM
  go_enter Tryz.func4, Tryz.ntmps4
  obtain ⟨Q', hQ⟩ : ∃ Q', bodyPost Tryz.prog Tryz.f4 (fun e w' => e = .returned (.bool true) ∧ Below w.heap.size w w') = Q' := ⟨_, rfl⟩
  have HQ : Hid (∀ (a : Act) (w' : World), a.tmps.getD 4 undef = .bool true → a.defers = [] → Below w.heap.size w w' → Q' .ret a w') := fun a w' h6 hd hb => by
    rw [← hQ]; exact bodyPost_ret (v := .bool true) (by rw [results_tmp rfl, h6]) hd ⟨rfl, hb⟩
  rw [hQ]
  clear hQ
  go_upto_region 1 with fail
  obtain ⟨W0, hW0⟩ : ∃ z : World, w.alloc (.cells (coL c p k).toArray 33) = z := ⟨_, rfl⟩
  obtain ⟨W, hW⟩ : ∃ z : World, W0.alloc (.cells (msC m q d).toArray 39) = z := ⟨_, rfl⟩
  have hs0 : W0.heap.size = w.heap.size + 1 := by rw [← hW0]; simp
  have b0 : Below w.heap.size w W0 := by rw [← hW0]; exact (Below.refl _ _).alloc (Nat.le_refl _) _
  have b1 : Below W0.heap.size W0 W := by rw [← hW]; exact (Below.refl _ _).alloc (Nat.le_refl _) _
  have hA : W.heap[w.heap.size]? = some (.cells (coL c p k).toArray 33 (0, 0)) := below_block b1 (by omega) (by rw [← hW0]; exact heap_last w _)
  have hB : W.heap[w.heap.size + 1]? = some (.cells (msC m q d).toArray 39 (0, 0)) := by rw [← hW, ← hs0]; exact heap_last W0 _
  rw [hW0, hW]
  obtain ⟨A, eA⟩ : ∃ z, w.heap.size = z := ⟨_, rfl⟩
  obtain ⟨B, eB⟩ : ∃ z, A + 1 = z := ⟨_, rfl⟩
  (try rw [eA]); (try rw [eB])
  rw [eA] at hA hB
  rw [eB] at hB
  have HBW := Lib.hid (b0.trans (b1.mono b0.size))
  have hAl := block_lt hA; have hBl := block_lt hB
  have HBA := Lib.hid (show ∀ w', Below W.heap.size W w' → w'.heap[A]? = some (.cells (coL c p k).toArray 33 (0, 0)) from fun w' h => below_block h hAl hA)
  have HBB := Lib.hid (show ∀ w', Below W.heap.size W w' → w'.heap[B]? = some (.cells (msC m q d).toArray 39 (0, 0)) from fun w' h => below_block h hBl hB)
  have HRA := Lib.hid (show ∀ w', Below W.heap.size W w' → w'.rangeAt A 0 (coL c p k) from fun w' h => range_of (n := 45) rfl (fun j _ => by rw [Nat.zero_add, block_cells (below_block h hAl hA), List.getElem?_toArray]))
  have HRB := Lib.hid (show ∀ w', Below W.heap.size W w' → w'.rangeAt B 0 (msC m q d) from fun w' h => range_of (n := 22) rfl (fun j _ => by rw [Nat.zero_add, block_cells (below_block h hBl hB), List.getElem?_toArray]))
  have HEA := Lib.hid (show ∀ w', Below W.heap.size W w' → EnSl w' (.slice p c.l.es.length k) c.l.es from fun w' h => HE.out.keep (HBW.out.trans (h.mono HBW.out.size)) (Nat.le_refl _))
  have HEB := Lib.hid (show ∀ w', Below W.heap.size W w' → EnSl w' (.slice q m.es.length d) m.es from fun w' h => HM.out.keep (HBW.out.trans (h.mono HBW.out.size)) (Nat.le_refl _))
  have HTW := Lib.hid (show ∀ w', Below W.heap.size W w' → Tab w' from fun w' h => HT.out.keep (HBW.out.trans (h.mono HBW.out.size)))
  clear hW0 hW hs0 b0 b1 hA hB eA eB HE HM hAl hBl
  go_wp2_with fail
  refine (begun13_any W (HTW.out W (Below.refl _ _))).mono ?_; rintro e w1 ⟨rfl, hb1⟩
  have hk1 : Below W.heap.size W w1 := hb1
  clear hb1
  cases hlo : lightC c with
  | false =>
    have HC := Lib.hid (show Calls Tryz.prog 8 #[.agg (coL c p k).toArray] w1 fun e w2 => e = .returned (.bool false) ∧ Below w1.heap.size w1 w2 from by have := light13_any c p k w1 (HEA.out w1 hk1); rw [hlo] at this; exact this)
    clear hlo
    go_wp2_with (with_reducible refine wpList_load_mid (op := ⟨some 10, _, _, _, _, _⟩) rfl _ _ rfl A 0 rfl (coL c p k) _ (HRA.out _ (by assumption)) Tryz.underlying33 rfl (by kernel_rfl) ?_)
    refine HC.out.mono ?_; rintro e w2 ⟨rfl, hb2⟩
    have HB2 := Lib.hid (HBW.out.trans ((hk1.trans (hb2.mono hk1.size)).mono HBW.out.size))
    clear hb2 HC
    go_wp2_with fail
    exact HQ.out _ _ rfl rfl HB2.out
  | true =>
  have HC := Lib.hid (show Calls Tryz.prog 8 #[.agg (coL c p k).toArray] w1 fun e w2 => e = .returned (.bool true) ∧ Below w1.heap.size w1 w2 from by have := light13_any c p k w1 (HEA.out w1 hk1); rw [hlo] at this; exact this)
  have HCN := Lib.hid (lightC_parts hlo)
  clear hlo
  go_wp2_with (with_reducible refine wpList_load_mid (op := ⟨some 10, _, _, _, _, _⟩) rfl _ _ rfl A 0 rfl (coL c p k) _ (HRA.out _ (by assumption)) Tryz.underlying33 rfl (by kernel_rfl) ?_)
  refine HC.out.mono ?_; rintro e w2 ⟨rfl, hb2⟩
  have hk2 : Below W.heap.size W w2 := hk1.trans (hb2.mono hk1.size)
  clear hb2 HC hk1
  cases hlo : lightM m with
  | false =>
    have HC := Lib.hid (show Calls Tryz.prog 10 #[.agg (msC m q d).toArray] w2 fun e w3 => e = .returned (.bool false) ∧ Below w2.heap.size w2 w3 from by have := lightM_any m q d w2 (HEB.out w2 hk2); rw [hlo] at this; exact this)
    clear hlo
    go_wp2_with (with_reducible refine wpList_load_g (op := ⟨some 14, _, _, _, _, _⟩) (by kernel_rfl) _ _ rfl B 0 rfl (msC m q d) _ (HRB.out _ (by assumption)) Tryz.underlying39 rfl (by kernel_rfl) ?_)
    refine HC.out.mono ?_; rintro e w3 ⟨rfl, hb3⟩
    have HB3 := Lib.hid (HBW.out.trans ((hk2.trans (hb3.mono hk2.size)).mono HBW.out.size))
    clear hb3 HC
    go_wp2_with fail
    exact HQ.out _ _ rfl rfl HB3.out
  | true =>
  have HC := Lib.hid (show Calls Tryz.prog 10 #[.agg (msC m q d).toArray] w2 fun e w3 => e = .returned (.bool true) ∧ Below w2.heap.size w2 w3 from by have := lightM_any m q d w2 (HEB.out w2 hk2); rw [hlo] at this; exact this)
  have HMN := Lib.hid (lightM_parts hlo)
  clear hlo
  go_wp2_with (with_reducible refine wpList_load_g (op := ⟨some 14, _, _, _, _, _⟩) (by kernel_rfl) _ _ rfl B 0 rfl (msC m q d) _ (HRB.out _ (by assumption)) Tryz.underlying39 rfl (by kernel_rfl) ?_)
  refine HC.out.mono ?_; rintro e w3 ⟨rfl, hb3⟩
  have hk3 : Below W.heap.size W w3 := hk2.trans (hb3.mono hk2.size)
  clear hb3 HC hk2
  have HC := Lib.hid (show Calls Tryz.prog 9 #[.agg (coL c p k).toArray] w3 fun r w' => (∃ b, r = .returned (.bool b) ∧ (b = true ↔ CoMay c)) ∧ Below w3.heap.size w3 w' from rmay13_any c p k w3 HVC.out (by have := HCN.out; omega) (HEA.out w3 hk3))
  go_wp2_with (with_reducible refine wpList_load_g (op := ⟨some 19, _, _, _, _, _⟩) (by kernel_rfl) _ _ rfl A 0 rfl (coL c p k) _ (HRA.out _ (by assumption)) Tryz.underlying33 rfl (by kernel_rfl) ?_)
  refine HC.out.mono ?_; rintro e w4 ⟨⟨b, rfl, hmay⟩, hb4⟩
  have hk4 : Below W.heap.size W w4 := hk3.trans (hb4.mono hk3.size)
  clear hb4 HC hk3
  have HB4 := Lib.hid (HBW.out.trans (hk4.mono HBW.out.size))
  cases b with
  | false =>
    clear hmay
    go_wp2_with fail
    exact HQ.out _ _ rfl rfl HB4.out
  | true =>
  have HMAY := Lib.hid (hmay.1 rfl)
  clear hmay
  have kA0 : w4.cell? ⟨A, 0, none⟩ = some (.int .i64 c.id) := block_cells (HBA.out _ hk4) 0
  have kA2 : w4.cell? ⟨A, 2, none⟩ = some (.int .i64 c.tm) := block_cells (HBA.out _ hk4) 2
  have kB1 : w4.cell? ⟨B, 1, none⟩ = some (.int .i64 m.fr) := block_cells (HBB.out _ hk4) 1
  have kB2 : w4.cell? ⟨B, 2, none⟩ = some (.int .i64 m.dst) := block_cells (HBB.out _ hk4) 2
  have kB3 : w4.cell? ⟨B, 3, none⟩ = some (.int .i64 m.tm) := block_cells (HBB.out _ hk4) 3
  by_cases h : c.tm ≤ m.tm
  · have d0 : decide (c.tm ≤ m.tm) = true := by simpa using h
    clear h
    go_wp2_with fail
    exact HQ.out _ _ rfl rfl HB4.out
  have d0 : decide (c.tm ≤ m.tm) = false := by simpa using h
  have H0 := Lib.hid h
  clear h
  by_cases h : m.tm < 1
  · have d1 : decide (m.tm < 1) = true := by simpa using h
    clear h
    go_wp2_with fail
    exact HQ.out _ _ rfl rfl HB4.out
  have d1 : decide (m.tm < 1) = false := by simpa using h
  have H1 := Lib.hid h
  clear h
  by_cases h : m.dst ≠ c.id
  · have d2 : (m.dst != c.id) = true := by simpa using h
    clear h
    go_wp2_with fail
    exact HQ.out _ _ rfl rfl HB4.out
  have d2 : (m.dst != c.id) = false := by simpa using h
  have H2 := Lib.hid h
  clear h
  by_cases h : m.fr < 1
  · have d3 : decide (m.fr < 1) = true := by simpa using h
    clear h
    go_wp2_with fail
    exact HQ.out _ _ rfl rfl HB4.out
  have d3 : decide (m.fr < 1) = false := by simpa using h
  have H3 := Lib.hid h
  clear h
  by_cases h : 9 < m.fr
  · have d4 : decide (9 < m.fr) = true := by simpa using h
    clear h
    go_wp2_with fail
    exact HQ.out _ _ rfl rfl HB4.out
  have d4 : decide (9 < m.fr) = false := by simpa using h
  have H4 := Lib.hid h
  clear h
  by_cases h : m.fr = c.id
  · have d5 : (m.fr == c.id) = true := by simpa using h
    clear h
    go_wp2_with fail
    exact HQ.out _ _ rfl rfl HB4.out
  have d5 : (m.fr == c.id) = false := by simpa using h
  have H5 := Lib.hid h
  clear h
  obtain ⟨o, ho, hk1, hk3, hk0⟩ : ∃ o, stepB c m = ⟨c, o⟩ ∧ (m.k = 1 → o = if stk c = true then [] else [putM c m.fr { ms0 with k := 2 }]) ∧ (m.k = 3 ∨ m.k = 5 → o = [putM c m.fr { ms0 with k := 4 }]) ∧ (¬ (m.k = 1 ∨ m.k = 3 ∨ m.k = 5) → o = []) := by
    have h := stale_out (c := c) (m := m) (by have := H0.out; omega) HMAY.out.tm1 (by have := H1.out; omega) (by have := H2.out; omega) (by have := H3.out; omega) (by have := H4.out; omega) H5.out
    rw [h]
    by_cases e1 : m.k = 1
    · rw [if_pos e1]
      by_cases e2 : stk c = true
      · rw [if_pos e2]; exact ⟨_, rfl, fun _ => by rw [if_pos e2], fun h => by omega, fun h => absurd (.inl e1) h⟩
      · rw [if_neg e2]; exact ⟨_, rfl, fun _ => by rw [if_neg e2], fun h => by omega, fun h => absurd (.inl e1) h⟩
    · rw [if_neg e1]
      by_cases e2 : m.k = 3 ∨ m.k = 5
      · rw [if_pos e2]; exact ⟨_, rfl, fun h => absurd h e1, fun _ => rfl, fun h => absurd (.inr e2) h⟩
      · rw [if_neg e2]; exact ⟨_, rfl, fun h => absurd h e1, fun h => absurd h e2, fun _ => rfl⟩
  have HO1 := Lib.hid hk1; have HO3 := Lib.hid hk3; have HO0 := Lib.hid hk0
  have HSTP := Lib.hid (show Calls Tryz.prog 12 #[.agg (coL c p k).toArray, .agg (msC m q d).toArray] w4 (CoEnd w4 ⟨c, o⟩) from by
    have h1 := step_any 60 c p k m q d w4 (fit_may HMAY.out HCN.out (by decide) HVC.out.l.j (fun e he => (HVC.out.l.es e he).j)) (by decide) (HTW.out w4 hk4) (HEA.out w4 hk4) (HEB.out w4 hk4) (by have := HMN.out; omega) (fun e he => (HVM.out.es e he).j) HVM.out.cf
    rw [ho] at h1; exact h1)
  go_upto_region 5 with fail
  clear ho hk1 hk3 hk0 kA0 kA2 kB1 kB2 kB3 H0 H1 H2 H3 H4 H5
  go_wp2_with (first | (with_reducible refine wpList_load_mid (op := ⟨some 60, _, _, _, _, _⟩) rfl _ _ rfl A 0 rfl (coL c p k) _ (HRA.out _ (by assumption)) Tryz.underlying33 rfl (by kernel_rfl) ?_) | (with_reducible refine wpList_load_mid (op := ⟨some 61, _, _, _, _, _⟩) rfl _ _ rfl B 0 rfl (msC m q d) _ (HRB.out _ (by assumption)) Tryz.underlying39 rfl (by kernel_rfl) ?_))
  refine HSTP.out.mono ?_; rintro e w5 ⟨p5, d5, v5, l5, rfl, hl5, hO5, hM5, -, hb5⟩
  have hk5 : Below W.heap.size W w5 := hk4.trans (hb5.mono hk4.size)
  have HMS := Lib.hid hM5; have HL5 := Lib.hid (show l5.map MsX.m = o from hl5)
  have HE5 := Lib.hid (show EnSl w5 (.slice p5 c.l.es.length d5) c.l.es from EnSl.of_own hO5)
  clear hb5 hM5 hl5 hO5 HSTP
  go_upto_region 6 with (with_reducible refine wpList_store_new (op := ⟨none, .store 33 _ _, _, _, _, _⟩) rfl _ _ _ rfl _ (coL c p5 d5).toArray rfl rfl (by kernel_rfl) rfl (one_all rfl) ?_)
  obtain ⟨w6, hw⟩ : ∃ z : World, w5.alloc (.cells (coL c p5 d5).toArray 33) = z := ⟨_, rfl⟩
  have b6 : Below w5.heap.size w5 w6 := by rw [← hw]; exact (Below.refl _ _).alloc (Nat.le_refl _) _
  have hD : w6.heap[w5.heap.size]? = some (.cells (coL c p5 d5).toArray 33 (0, 0)) := by rw [← hw]; exact heap_last w5 _
  (try rw [hw])
  obtain ⟨D, eD⟩ : ∃ z, w5.heap.size = z := ⟨_, rfl⟩
  (try rw [eD])
  rw [eD] at hD
  have HRD := Lib.hid (core_range hD)
  have hk6 : Below W.heap.size W w6 := hk5.trans (b6.mono hk5.size)
  have HM6 := Lib.hid (HMS.out.keep b6)
  have HSM := Lib.hid (show Calls Tryz.prog 14 #[.agg (coL c p k).toArray, .agg (coL c p5 d5).toArray] w6 fun r w' => r = .returned (.bool true) ∧ Below w6.heap.size w6 w' from rsame13_any c p p5 k d5 w6 (by have := HCN.out; omega) (HEA.out w6 hk6) (HE5.out.keep b6 (Nat.le_refl _)))
  clear hw b6 hD eD hk4 hk5 HMS HE5
  go_wp2_with (first | (with_reducible refine wpList_load_mid (op := ⟨some 65, _, _, _, _, _⟩) rfl _ _ rfl A 0 rfl (coL c p k) _ (HRA.out _ (by assumption)) Tryz.underlying33 rfl (by kernel_rfl) ?_) | (with_reducible refine wpList_load_mid (op := ⟨some 66, _, _, _, _, _⟩) rfl _ _ rfl D 0 rfl (coL c p5 d5) _ HRD.out Tryz.underlying33 rfl (by kernel_rfl) ?_))
  refine HSM.out.mono ?_; rintro e w7 ⟨rfl, hb7⟩
  have hk7 : Below W.heap.size W w7 := hk6.trans (hb7.mono hk6.size)
  have HM7 := Lib.hid (HM6.out.keep hb7)
  clear hb7 HSM HM6 hk6 HRD
  go_upto_region 8 with fail
  have kA1 : w7.cell? ⟨A, 1, none⟩ = some (.int .i64 c.role) := block_cells (HBA.out _ hk7) 1
  have kA4 : w7.cell? ⟨A, 4, none⟩ = some (.int .i64 c.ld) := block_cells (HBA.out _ hk7) 4
  have kA5 : w7.cell? ⟨A, 5, none⟩ = some (.int .i64 c.wt) := block_cells (HBA.out _ hk7) 5
  go_cut [7] from 69 to 82 (fun s wx => s = .bool (stk c) ∧ wx = w7)
  case first =>
    by_cases h1 : c.role = 2
    · have d1 : (c.role == 2) = true := by simpa using h1
      have HS : Hid (stk c = true) := by show _ = _; unfold stk; rw [decide_eq_true h1]; rfl
      clear h1
      go_wp2_with fail
      go_meet
      case rel => exact ⟨by rw [HS.out], rfl⟩
    have d1 : (c.role == 2) = false := by simpa using h1
    by_cases h2 : c.ld = 0
    · have d2 : (c.ld != 0) = false := by simpa using h2
      have HS : Hid (stk c = false) := by show _ = _; unfold stk; rw [decide_eq_false h1, decide_eq_false (fun h => h h2)]; rfl
      clear h1 h2
      go_wp2_with fail
      go_meet
      case rel => exact ⟨by rw [HS.out], rfl⟩
    have d2 : (c.ld != 0) = true := by simpa using h2
    by_cases h3 : c.wt < 10
    · have d3 : decide (c.wt < 10) = true := by simpa using h3
      have HS : Hid (stk c = true) := by show _ = _; unfold stk; rw [decide_eq_false h1, decide_eq_true h2, decide_eq_true h3]; rfl
      clear h1 h2 h3
      go_wp2_with fail
      go_meet
      case rel => exact ⟨by rw [HS.out], rfl⟩
    · have d3 : decide (c.wt < 10) = false := by simpa using h3
      have HS : Hid (stk c = false) := by show _ = _; unfold stk; rw [decide_eq_false h1, decide_eq_true h2, decide_eq_false h3]; rfl
      clear h1 h2 h3
      go_wp2_with fail
      go_meet
      case rel => exact ⟨by rw [HS.out], rfl⟩
  case rest =>
    obtain ⟨rfl, rfl⟩ := hcut
    obtain ⟨w8, rfl⟩ : ∃ z : World, z = wc := ⟨_, rfl⟩
    have kB0 : w8.cell? ⟨B, 0, none⟩ = some (.int .i64 m.k) := block_cells (HBB.out _ hk7) 0
    have HK8 := Lib.hid hk7
    have HB8 := Lib.hid (HBW.out.trans (hk7.mono HBW.out.size))
    have HA8 := Lib.hid (HBA.out _ hk7)
    have HBB8 := Lib.hid (HBB.out _ hk7)
    clear kA1 kA4 kA5 hk7
    obtain ⟨s, hs⟩ : ∃ s, stk c = s := ⟨_, rfl⟩
    have HS := Lib.hid hs
    rw [hs]
    clear hs
    by_cases h1 : m.k = 1
    · have d1 : (m.k == 1) = true := by simpa using h1
      have HOO := Lib.hid (HO1.out h1)
      clear h1
      cases s with
      | true =>
        have hl := HL5.out; have ho := HOO.out; rw [if_pos HS.out] at ho; rw [ho] at hl
        obtain ⟨pv, cv, rfl⟩ := ms_nil HM7.out hl
        clear hl ho HM7
        go_upto_region 11 with fail
        obtain ⟨U, f, hU, hf, hg⟩ := calm_class (w8); obtain ⟨u0, hu0⟩ := hg _ (Below.refl _ _); rw [hu0]; clear hu0
        have HBU : Hid (∀ u, Below w.heap.size w (f u)) := fun u => HB8.out.trans ((hf u).mono HB8.out.size)
        refine wp_region_calm f (by kernel_rfl) (by kernel_rfl) (calm_drew hf hg _) ?_
        repeat (go_big_quiet_step (fail))
        refine wpQuiet_nil ?_; rintro _ ⟨u, rfl⟩
        go_wp2_with fail
        exact HQ.out _ _ rfl rfl (HBU.out _)
      | false =>
        have hl := HL5.out; have ho := HOO.out; rw [if_neg (by rw [HS.out]; exact Bool.false_ne_true)] at ho; rw [ho] at hl
        obtain ⟨g, cv, py, ky, rfl, hcell⟩ := ms_one HM7.out hl
        have HCE := Lib.hid hcell
        clear hl ho HM7 hcell
        go_upto_region 11 with fail
        obtain ⟨U, f, hU, hf, hg⟩ := calm_class (w8); obtain ⟨u0, hu0⟩ := hg _ (Below.refl _ _); rw [hu0]; clear hu0
        have HBU : Hid (∀ u, Below w.heap.size w (f u)) := fun u => HB8.out.trans ((hf u).mono HB8.out.size)
        have kg0 : ∀ u, (f u).cell? ⟨g, 0, none⟩ = some (.int .i64 2) := fun u => HCE.out _ (hf u) 0 (by decide)
        have kg2 : ∀ u, (f u).cell? ⟨g, 2, none⟩ = some (.int .i64 m.fr) := fun u => HCE.out _ (hf u) 2 (by decide)
        have kg3 : ∀ u, (f u).cell? ⟨g, 3, none⟩ = some (.int .i64 c.tm) := fun u => HCE.out _ (hf u) 3 (by decide)
        have kg8 : ∀ u, (f u).cell? ⟨g, 8, none⟩ = some (.bool false) := fun u => HCE.out _ (hf u) 8 (by decide)
        have kA2 : ∀ u, (f u).cell? ⟨A, 2, none⟩ = some (.int .i64 c.tm) := fun u => block_cells (calm_heap hf HA8.out u) 2
        have kB1 : ∀ u, (f u).cell? ⟨B, 1, none⟩ = some (.int .i64 m.fr) := fun u => block_cells (calm_heap hf HBB8.out u) 1
        refine wp_region_calm f (by kernel_rfl) (by kernel_rfl) (calm_drew hf hg _) ?_
        repeat (go_big_quiet_step (fail))
        refine wpQuiet_nil ?_; rintro _ ⟨u, rfl⟩
        go_wp2_with fail
        exact HQ.out _ _ rfl rfl (HBU.out _)
    have d1 : (m.k == 1) = false := by simpa using h1
    by_cases h3 : m.k = 3 ∨ m.k = 5
    · have HOO := Lib.hid (HO3.out h3)
      have hl := HL5.out; have ho := HOO.out; rw [ho] at hl
      obtain ⟨g, cv, py, ky, rfl, hcell⟩ := ms_one HM7.out hl
      have HCE := Lib.hid hcell
      clear hl ho HM7 hcell h1
      by_cases h33 : m.k = 3
      · have d3 : (m.k == 3) = true := by simpa using h33
        clear h33 h3
        go_upto_region 14 with fail
        obtain ⟨U, f, hU, hf, hg⟩ := calm_class (w8); obtain ⟨u0, hu0⟩ := hg _ (Below.refl _ _); rw [hu0]; clear hu0
        have HBU : Hid (∀ u, Below w.heap.size w (f u)) := fun u => HB8.out.trans ((hf u).mono HB8.out.size)
        have kg0 : ∀ u, (f u).cell? ⟨g, 0, none⟩ = some (.int .i64 4) := fun u => HCE.out _ (hf u) 0 (by decide)
        have kg2 : ∀ u, (f u).cell? ⟨g, 2, none⟩ = some (.int .i64 m.fr) := fun u => HCE.out _ (hf u) 2 (by decide)
        have kg3 : ∀ u, (f u).cell? ⟨g, 3, none⟩ = some (.int .i64 c.tm) := fun u => HCE.out _ (hf u) 3 (by decide)
        have kg8 : ∀ u, (f u).cell? ⟨g, 8, none⟩ = some (.bool false) := fun u => HCE.out _ (hf u) 8 (by decide)
        have kA2 : ∀ u, (f u).cell? ⟨A, 2, none⟩ = some (.int .i64 c.tm) := fun u => block_cells (calm_heap hf HA8.out u) 2
        have kB1 : ∀ u, (f u).cell? ⟨B, 1, none⟩ = some (.int .i64 m.fr) := fun u => block_cells (calm_heap hf HBB8.out u) 1
        refine wp_region_calm f (by kernel_rfl) (by kernel_rfl) (calm_drew hf hg _) ?_
        repeat (go_big_quiet_step (fail))
        refine wpQuiet_nil ?_; rintro _ ⟨u, rfl⟩
        go_wp2_with fail
        exact HQ.out _ _ rfl rfl (HBU.out _)
      · have d3 : (m.k == 3) = false := by simpa using h33
        have d5 : (m.k == 5) = true := by have h5 : m.k = 5 := by omega
                                          simpa using h5
        clear h33 h3
        go_upto_region 14 with fail
        obtain ⟨U, f, hU, hf, hg⟩ := calm_class (w8); obtain ⟨u0, hu0⟩ := hg _ (Below.refl _ _); rw [hu0]; clear hu0
        have HBU : Hid (∀ u, Below w.heap.size w (f u)) := fun u => HB8.out.trans ((hf u).mono HB8.out.size)
        have kg0 : ∀ u, (f u).cell? ⟨g, 0, none⟩ = some (.int .i64 4) := fun u => HCE.out _ (hf u) 0 (by decide)
        have kg2 : ∀ u, (f u).cell? ⟨g, 2, none⟩ = some (.int .i64 m.fr) := fun u => HCE.out _ (hf u) 2 (by decide)
        have kg3 : ∀ u, (f u).cell? ⟨g, 3, none⟩ = some (.int .i64 c.tm) := fun u => HCE.out _ (hf u) 3 (by decide)
        have kg8 : ∀ u, (f u).cell? ⟨g, 8, none⟩ = some (.bool false) := fun u => HCE.out _ (hf u) 8 (by decide)
        have kA2 : ∀ u, (f u).cell? ⟨A, 2, none⟩ = some (.int .i64 c.tm) := fun u => block_cells (calm_heap hf HA8.out u) 2
        have kB1 : ∀ u, (f u).cell? ⟨B, 1, none⟩ = some (.int .i64 m.fr) := fun u => block_cells (calm_heap hf HBB8.out u) 1
        refine wp_region_calm f (by kernel_rfl) (by kernel_rfl) (calm_drew hf hg _) ?_
        repeat (go_big_quiet_step (fail))
        refine wpQuiet_nil ?_; rintro _ ⟨u, rfl⟩
        go_wp2_with fail
        exact HQ.out _ _ rfl rfl (HBU.out _)
    · have d3 : (m.k == 3) = false := by have h : ¬ m.k = 3 := fun h => h3 (.inl h)
                                         simpa using h
      have d5 : (m.k == 5) = false := by have h : ¬ m.k = 5 := fun h => h3 (.inr h)
                                         simpa using h
      have ho := HO0.out (by omega)
      have hl := HL5.out; rw [ho] at hl
      obtain ⟨pv, cv, rfl⟩ := ms_nil HM7.out hl
      clear hl ho HM7 h1 h3
      go_wp2_with fail
      exact HQ.out _ _ rfl rfl HB8.out
end Go.Proofs.YtbnndbdnejfehaaGreatDoor
