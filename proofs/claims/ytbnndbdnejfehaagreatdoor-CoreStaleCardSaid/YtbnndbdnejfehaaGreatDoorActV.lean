import Derived.Test.YtbnndbdnejfehaaGreatDoorLogZa
import Derived.Test.YtbnndbdnejfehaaGreatDoorLogZc
import Derived.Test.YtbnndbdnejfehaaGreatDoorLogW
import Derived.Test.YtbnndbdnejfehaaGreatDoorPlainTurns
import Derived.Test.YtbnndbdnejfehaaGreatDoorLogP
import Derived.Test.YtbnndbdnejfehaaGreatDoorConf3
/- Core: methods of an act that take others' entries: what they meet. -/
namespace Go.Proofs.YtbnndbdnejfehaaGreatDoor
open Go.ChangeShapes Go.WideShapes Go.ChangeAt Go.RowKit

end Go.Proofs.YtbnndbdnejfehaaGreatDoor
/- Core: methods of an act that takes others' entries: whether they may be; who is followed (the program's). -/
namespace Go.Proofs.YtbnndbdnejfehaaGreatDoor
open Go.ChangeShapes Go.WideShapes Go.ChangeAt Go.RowKit

theorem jMay (J : Jn) (w : World) : Calls Tryz.prog 62 #[.agg #[.int .u16 J.ov, .int .u16 J.ox, .int .u16 J.ol, .int .i64 J.oe, .int .i64 J.ok, .int .u16 J.nv, .int .u16 J.nx, .int .u16 J.nl, .int .i64 J.ne, .int .i64 J.nk, .bool J.two]] w fun r w' => r = .returned (.bool (jnM J)) ∧ Below w.heap.size w w' :=
  confMayJoint_any J.ov J.ox J.ol J.oe J.ok J.nv J.nx J.nl J.ne J.nk J.two w
set_option maxRecDepth 100000 in
set_option maxHeartbeats 16000000 in
theorem mayConfs_any (es : List Ent) (p : Option Addr) (c : Nat) (w : World) (hn : es.length ≤ 1000000) (hE : EnSl w (.slice p es.length c) es) :
    Calls Tryz.prog 63 #[.slice p es.length c] w fun r w' => r = .returned (.bool (es.all enM)) ∧ Below w.heap.size w w' := by
  have HE := Lib.hid hE
  obtain ⟨M, hM⟩ : ∃ M, es.all enM = M := ⟨_, rfl⟩
  have HM := Lib.hid hM
  rw [hM]
  clear hE hM
  go_enter Tryz.func63, Tryz.ntmps63
  go_wp2_with fail
  go_loopw [7] (fun i wr => ∃ k : Nat, k ≤ es.length ∧ i = .int .i64 k ∧ Hid (M = (es.drop k).all enM) ∧ Hid (Below w.heap.size w wr)) (fun i _ => es.length - (intOf i).toNat)
  case atStart => exact ⟨0, Nat.zero_le _, rfl, by show _ = _; rw [← HM.out, List.drop_zero], Below.refl _ _⟩
  case round =>
    obtain ⟨k, hk, rfl, HT, HB⟩ := hrel
    obtain ⟨wk, rfl⟩ : ∃ wk : World, wk = wr := ⟨_, rfl⟩
    by_cases hlt : k < es.length
    · obtain ⟨g, o, cap, hv, hgl, hc⟩ := (HE.out.keep HB.out (Nat.le_refl _)).at k hlt
      simp only [Value.slice.injEq] at hv
      obtain ⟨rfl, -⟩ := hv
      have hS : M = (enM es[k] && (es.drop (k + 1)).all enM) := by rw [HT.out, enM_at hlt]
      obtain ⟨e, he⟩ : ∃ e, es[k] = e := ⟨_, rfl⟩
      rw [he] at hc hS
      have HS := Lib.hid hS
      have hq0 : wk.cell? ⟨g, o + k * 14, none⟩ = some (.int .i64 e.t) := hc 0 (by decide)
      have hq1 : wk.cell? ⟨g, o + k * 14 + 1, none⟩ = some (.int .i64 e.k) := hc 1 (by decide)
      have hq2 : wk.cell? ⟨g, o + k * 14 + 2, none⟩ = some (.string e.d) := hc 2 (by decide)
      have hq3 : wk.cell? ⟨g, o + k * 14 + 3, none⟩ = some (.int .u16 e.j.ov) := hc 3 (by decide)
      have hq4 : wk.cell? ⟨g, o + k * 14 + 4, none⟩ = some (.int .u16 e.j.ox) := hc 4 (by decide)
      have hq5 : wk.cell? ⟨g, o + k * 14 + 5, none⟩ = some (.int .u16 e.j.ol) := hc 5 (by decide)
      have hq6 : wk.cell? ⟨g, o + k * 14 + 6, none⟩ = some (.int .i64 e.j.oe) := hc 6 (by decide)
      have hq7 : wk.cell? ⟨g, o + k * 14 + 7, none⟩ = some (.int .i64 e.j.ok) := hc 7 (by decide)
      have hq8 : wk.cell? ⟨g, o + k * 14 + 8, none⟩ = some (.int .u16 e.j.nv) := hc 8 (by decide)
      have hq9 : wk.cell? ⟨g, o + k * 14 + 9, none⟩ = some (.int .u16 e.j.nx) := hc 9 (by decide)
      have hq10 : wk.cell? ⟨g, o + k * 14 + 10, none⟩ = some (.int .u16 e.j.nl) := hc 10 (by decide)
      have hq11 : wk.cell? ⟨g, o + k * 14 + 11, none⟩ = some (.int .i64 e.j.ne) := hc 11 (by decide)
      have hq12 : wk.cell? ⟨g, o + k * 14 + 12, none⟩ = some (.int .i64 e.j.nk) := hc 12 (by decide)
      have hq13 : wk.cell? ⟨g, o + k * 14 + 13, none⟩ = some (.bool e.j.two) := hc 13 (by decide)
      have hd1 : decide ((k : Int) < (es.length : Int)) = true := by simp; omega
      clear hc he hS HT
      go_upto_region 4 with fail
      obtain ⟨W, hW⟩ : ∃ W, wk.alloc (.cells #[.int .i64 e.t, .int .i64 e.k, .string e.d, .int .u16 e.j.ov, .int .u16 e.j.ox, .int .u16 e.j.ol, .int .i64 e.j.oe, .int .i64 e.j.ok, .int .u16 e.j.nv, .int .u16 e.j.nx, .int .u16 e.j.nl, .int .i64 e.j.ne, .int .i64 e.j.nk, .bool e.j.two] 47) = W := ⟨_, rfl⟩
      have hX := heap_last wk (.cells #[.int .i64 e.t, .int .i64 e.k, .string e.d, .int .u16 e.j.ov, .int .u16 e.j.ox, .int .u16 e.j.ol, .int .i64 e.j.oe, .int .i64 e.j.ok, .int .u16 e.j.nv, .int .u16 e.j.nx, .int .u16 e.j.nl, .int .i64 e.j.ne, .int .i64 e.j.nk, .bool e.j.two] 47)
      have hb : Below wk.heap.size wk W := by rw [← hW]; exact (Below.refl _ _).alloc (Nat.le_refl _) _
      obtain ⟨X, eX⟩ : ∃ X, wk.heap.size = X := ⟨_, rfl⟩
      rw [hW] at hX ⊢
      (try rw [eX])
      rw [eX] at hX
      have kX := block_cells hX
      have HB1 := Lib.hid (HB.out.trans (hb.mono HB.out.size))
      clear hW hX hb eX hq0 hq1 hq2 hq3 hq4 hq5 hq6 hq7 hq8 hq9 hq10 hq11 hq12 hq13
      by_cases hk2 : e.k = 2
      · have hd2 : (e.k == 2) = true := by simp [hk2]
        obtain ⟨J, hJ⟩ : ∃ J, e.j = J := ⟨_, rfl⟩
        rw [hJ] at kX
        obtain ⟨b, hb⟩ : ∃ b, jnM J = b := ⟨_, rfl⟩
        have HMJ := Lib.hid (show Calls Tryz.prog 62 #[.agg #[.int .u16 J.ov, .int .u16 J.ox, .int .u16 J.ol, .int .i64 J.oe, .int .i64 J.ok, .int .u16 J.nv, .int .u16 J.nx, .int .u16 J.nl, .int .i64 J.ne, .int .i64 J.nk, .bool J.two]] W fun r w' => r = .returned (.bool b) ∧ Below W.heap.size W w' from by have := jMay J W; rw [hb] at this; exact this)
        have HS2 : Hid (M = (b && (es.drop (k + 1)).all enM)) := by show _ = _; rw [HS.out, enM_conf hk2, hJ, hb]
        have HK2 := Lib.hid hk2
        clear hb hk2 hJ HS
        go_wp2_with fail
        refine HMJ.out.mono ?_; rintro r w2 ⟨rfl, b2⟩
        have HB2 := Lib.hid (HB1.out.trans (b2.mono HB1.out.size))
        clear b2 HMJ kX
        cases b with
        | false =>
          have HN : Hid (false = M) := by show _ = _; rw [HS2.out]; rfl
          go_wp2_with fail
          go_ret
          exact ⟨ret_boolL HN.out, HB2.out⟩
        | true =>
          have HN : Hid (M = (es.drop (k + 1)).all enM) := by show _ = _; rw [HS2.out]; rfl
          go_wp2_with fail
          go_roundw
          case rel => exact ⟨k + 1, by omega, by go_num, HN, HB2⟩
          case measure => simp [intOf]; omega
      · have hd2 : (e.k == 2) = false := by simp [hk2]
        have HN : Hid (M = (es.drop (k + 1)).all enM) := by show _ = _; rw [HS.out, enM_other hk2]; rfl
        clear hk2
        go_wp2_with fail
        go_roundw
        case rel => exact ⟨k + 1, by omega, by go_num, HN, HB1⟩
        case measure => simp [intOf]; omega
    · obtain rfl : k = es.length := by omega
      have hd1 : decide ((es.length : Int) < (es.length : Int)) = false := by simp
      have HN : Hid (true = M) := by show _ = _; rw [HT.out, List.drop_eq_nil_of_le (Nat.le_refl _)]; rfl
      go_wp2_with fail
      go_ret
      exact ⟨ret_boolL HN.out, HB.out⟩
/-- What a method of an act tells: the act behind it. -/
def AcDo (T : TypeId) (B : Nat) (w : World) (R : Nat) (v : Value) (a : Ac) (e : Ending) (w' : World) : Prop :=
  e = .returned (.tuple #[]) ∧ ∃ v' q d l', l'.map MsX.m = a.out ∧ AcW T B w' R ⟨a.c, q, d⟩ v' l' ∧ AcR w w' R v v'
/-- A message that may be handed on: who it is from is a node, its numbers are bounded. -/
structure MgFit (m : Ms) : Prop where
  fr0 : 1 ≤ m.fr
  fr9 : m.fr ≤ 9
  ix0 : 0 ≤ m.ix
  ix1 : m.ix ≤ 1099511627776
  n : m.es.length ≤ 100000
  js : ∀ e ∈ m.es, JoF (joX e.j)
  cf : JoF (joX m.cf)
set_option maxRecDepth 100000 in
set_option maxHeartbeats 16000000 in
theorem follows_act (B R : Nat) (c : Co) (p : Option Addr) (k : Nat) (v : Value) (l : List MsX) (m : Ms) (q : Option Addr) (d : Nat) (w : World) (h : AcW 69 B w R ⟨c, p, k⟩ v l) :
    Calls Tryz.prog 99 #[.pointer (some ⟨R, 0, none⟩), .agg #[.int .i64 m.k, .int .i64 m.fr, .int .i64 m.dst, .int .i64 m.tm, .int .i64 m.ix, .int .i64 m.lt, .int .i64 m.cm, .int .i64 m.sf, .bool m.yes, .slice q m.es.length d, .string m.sn, .int .u16 m.cf.ov, .int .u16 m.cf.ox, .int .u16 m.cf.ol, .int .i64 m.cf.oe, .int .i64 m.cf.ok, .int .u16 m.cf.nv, .int .u16 m.cf.nx, .int .u16 m.cf.nl, .int .i64 m.cf.ne, .int .i64 m.cf.nk, .bool m.cf.two]] w fun e w' => e = .returned (.tuple #[]) ∧ AcW 69 B w' R ⟨followC c m, p, k⟩ v l ∧ AcR w w' R v v := by
  obtain ⟨W, hW⟩ : ∃ z : World, w.alloc (.cells #[.int .i64 m.k, .int .i64 m.fr, .int .i64 m.dst, .int .i64 m.tm, .int .i64 m.ix, .int .i64 m.lt, .int .i64 m.cm, .int .i64 m.sf, .bool m.yes, .slice q m.es.length d, .string m.sn, .int .u16 m.cf.ov, .int .u16 m.cf.ox, .int .u16 m.cf.ol, .int .i64 m.cf.oe, .int .i64 m.cf.ok, .int .u16 m.cf.nv, .int .u16 m.cf.nx, .int .u16 m.cf.nl, .int .i64 m.cf.ne, .int .i64 m.cf.nk, .bool m.cf.two] 39) = z := ⟨_, rfl⟩
  have hb : Below w.heap.size w W := by rw [← hW]; exact (Below.refl _ _).alloc (Nat.le_refl _) _
  have hX : W.heap[w.heap.size]? = some (.cells #[.int .i64 m.k, .int .i64 m.fr, .int .i64 m.dst, .int .i64 m.tm, .int .i64 m.ix, .int .i64 m.lt, .int .i64 m.cm, .int .i64 m.sf, .bool m.yes, .slice q m.es.length d, .string m.sn, .int .u16 m.cf.ov, .int .u16 m.cf.ox, .int .u16 m.cf.ol, .int .i64 m.cf.oe, .int .i64 m.cf.ok, .int .u16 m.cf.nv, .int .u16 m.cf.nx, .int .u16 m.cf.nl, .int .i64 m.cf.ne, .int .i64 m.cf.nk, .bool m.cf.two] 39 (0, 0)) := by rw [← hW]; exact heap_last w _
  obtain ⟨X, eX⟩ : ∃ X, w.heap.size = X := ⟨_, rfl⟩
  rw [eX] at hX
  have hXR : X ≠ R := by have := h.lt; omega
  have hXv : v.ownBlock ≠ some X := fun e => by have := (h.vge _ e).2; omega
  have HA := Lib.hid (h.keep hb)
  have HB := Lib.hid (AcR.below (R := R) (v := v) hb)
  have HW := Lib.hid hW; have HEX := Lib.hid eX; have HX := Lib.hid hX
  clear h hW hb hX eX
  go_enter Tryz.func99, Tryz.ntmps99
  go_upto_region 1 with fail
  rw [HW.out]
  (try rw [HEX.out])
  clear HW
  have hA := HA.out.keep (Below.refl _ _).drew
  have HXd : Hid (W.drew.heap[X]? = some (.cells #[.int .i64 m.k, .int .i64 m.fr, .int .i64 m.dst, .int .i64 m.tm, .int .i64 m.ix, .int .i64 m.lt, .int .i64 m.cm, .int .i64 m.sf, .bool m.yes, .slice q m.es.length d, .string m.sn, .int .u16 m.cf.ov, .int .u16 m.cf.ox, .int .u16 m.cf.ol, .int .i64 m.cf.oe, .int .i64 m.cf.ok, .int .u16 m.cf.nv, .int .u16 m.cf.nx, .int .u16 m.cf.nl, .int .i64 m.cf.ne, .int .i64 m.cf.nk, .bool m.cf.two] 39 (0, 0))) := HX.out
  have h0 : One X 1 (.int .i64 m.fr) W.drew := ⟨block_cells HXd.out 1⟩
  have HBd := Lib.hid HB.out.drew
  refine wp_region_held_drew (S := One X 1 (.int .i64 m.fr)) (by kernel_rfl) h0 (fun hHeld => ?_)
  obtain ⟨wd, ewd⟩ : ∃ x, W.drew = x := ⟨_, rfl⟩
  rewrite [ewd] at hA h0 hHeld HXd HBd ⊢
  clear ewd HA HX HB
  have k0 : ∀ w', One X 1 (.int .i64 m.fr) w' → w'.cell? ⟨X, 1, none⟩ = some (.int .i64 m.fr) := fun w' h => h.r
  refine tkH (i := 0) (v := ?_) rfl (Or.inl ⟨by rfl, ?_⟩) hHeld ?_
  rotate_left
  · (intro wz hSw; (try dsimp only at hSw); (try simp only [zA, zC]); go_simp; try with_reducible rfl)
  try simp only [zA, zC, Act.put, zD, zE, zF]
  refine tkH (i := 1) (v := ?_) rfl (Or.inl ⟨by rfl, ?_⟩) hHeld ?_
  rotate_left
  · (intro wz hSw; (try dsimp only at hSw); (try simp only [zA, zB, zC]); go_simp; try with_reducible rfl)
  try simp only [zA, zB, zC, Act.put, zD, zE, zF]
  refine tkH (i := 2) (v := ?_) rfl (Or.inl ⟨by rfl, ?_⟩) hHeld ?_
  rotate_left
  · (intro wz hSw; (try dsimp only at hSw); (try simp only [zA, zB, zC]); go_simp; try with_reducible rfl)
  try simp only [zA, zB, zC, Act.put, zD, zE, zF]
  refine tkH (i := 3) (v := ?_) rfl (Or.inl ⟨by rfl, ?_⟩) hHeld ?_
  rotate_left
  · (intro wz hSw; (try dsimp only at hSw); (try simp only [zA, zB, zC]); go_simp; try with_reducible rfl)
  try simp only [zA, zB, zC, Act.put, zD, zE, zF]
  refine tkH (i := 4) (v := ?_) rfl (Or.inl ⟨by rfl, ?_⟩) hHeld ?_
  rotate_left
  · (intro wz hSw; (try dsimp only at hSw); (try simp only [zA, zB, zC]); go_simp; try with_reducible rfl)
  try simp only [zA, zB, zC, Act.put, zD, zE, zF]
  clear k0
  have hq0 := hA.put 1 (.int .i64 0) (by decide) ⟨{ c with role := 0 }, p, k⟩ rfl rfl rfl rfl
  have k1 : wd.cell? ⟨R, 1, none⟩ = some (.int .i64 c.role) := block_cells hA.blk 1
  have f1 : wd.frozen? ⟨R, 1, none⟩ = false := block_free hA.blk 1
  have y0 := (hq0.2.blk HXd.out hXR hXv).1
  have s0 : One X 1 (.int .i64 m.fr) (wd.setCell ⟨R, 1, none⟩ (.int .i64 0)) := ⟨block_cells y0 1⟩
  have hq1 := hq0.1.put 4 (.int .i64 m.fr) (by decide) ⟨{ c with role := 0, ld := m.fr }, p, k⟩ rfl rfl rfl rfl
  have k4 : (wd.setCell ⟨R, 1, none⟩ (.int .i64 0)).cell? ⟨R, 4, none⟩ = some (.int .i64 c.ld) := block_cells hq0.1.blk 4
  have f4 : (wd.setCell ⟨R, 1, none⟩ (.int .i64 0)).frozen? ⟨R, 4, none⟩ = false := block_free hq0.1.blk 4
  have y1 := (hq1.2.blk y0 hXR hXv).1
  have s1 : One X 1 (.int .i64 m.fr) ((wd.setCell ⟨R, 1, none⟩ (.int .i64 0)).setCell ⟨R, 4, none⟩ (.int .i64 m.fr)) := ⟨block_cells y1 1⟩
  have hq2 := hq1.1.put 5 (.int .i64 0) (by decide) ⟨{ c with role := 0, ld := m.fr, wt := 0 }, p, k⟩ rfl rfl rfl rfl
  have k5 : ((wd.setCell ⟨R, 1, none⟩ (.int .i64 0)).setCell ⟨R, 4, none⟩ (.int .i64 m.fr)).cell? ⟨R, 5, none⟩ = some (.int .i64 c.wt) := block_cells hq1.1.blk 5
  have f5 : ((wd.setCell ⟨R, 1, none⟩ (.int .i64 0)).setCell ⟨R, 4, none⟩ (.int .i64 m.fr)).frozen? ⟨R, 5, none⟩ = false := block_free hq1.1.blk 5
  have y2 := (hq2.2.blk y1 hXR hXv).1
  have s2 : One X 1 (.int .i64 m.fr) (((wd.setCell ⟨R, 1, none⟩ (.int .i64 0)).setCell ⟨R, 4, none⟩ (.int .i64 m.fr)).setCell ⟨R, 5, none⟩ (.int .i64 0)) := ⟨block_cells y2 1⟩
  have HP := Lib.hid (And.intro hq2.1 (((HBd.out.trans hq0.2).trans hq1.2).trans hq2.2))
  clear hA hq0 hq1 hq2 y0 y1 y2
  refine tkH (i := 5) (v := ?_) rfl (Or.inl ⟨by rfl, ?_⟩) hHeld ?_
  rotate_left
  · (intro wz hSw; (try dsimp only at hSw); (try simp only [zA, zB, zC]); go_simp; try with_reducible rfl)
  try simp only [zA, zB, zC, Act.put, zD, zE, zF]
  refine tkH (i := 6) (v := ?_) rfl (Or.inl ⟨by rfl, ?_⟩) hHeld ?_
  rotate_left
  · (intro wz hSw; (try dsimp only at hSw); (try simp only [zA, zB, zC]); go_simp; try with_reducible rfl)
  try simp only [zA, zB, zC, Act.put, zD, zE, zF]
  refine tkH (i := 7) (v := ?_) rfl (Or.inl ⟨by rfl, ?_⟩) hHeld ?_
  rotate_left
  · (intro wz hSw; (try dsimp only at hSw); (try simp only [zA, zB, zC]); go_simp; try with_reducible rfl)
  try simp only [zA, zB, zC, Act.put, zD, zE, zF]
  refine wpAnyH_ready (rs := [8]) (by kernel_rfl) (by simp) ?_; refine AllReadyH.cons rfl (fun K hK => ?_) AllReadyH.nil
  try simp only [zA, zB, zC]
  go_simp
  refine hK.out _ _ s0 (fun _ => ?_)
  clear hK K hHeld k1 f1
  try simp only [zA, zB, zC, Act.put, zD, zE, zF]
  have hHeld := s0
  refine tkH (i := 9) (v := ?_) rfl (Or.inl ⟨by rfl, ?_⟩) hHeld ?_
  rotate_left
  · (intro wz hSw; (try dsimp only at hSw); (try simp only [zA, zB, zC]); go_simp; try with_reducible rfl)
  try simp only [zA, zB, zC, Act.put, zD, zE, zF]
  refine tkH (i := 10) (v := ?_) rfl (Or.inl ⟨by rfl, ?_⟩) hHeld ?_
  rotate_left
  · (intro wz hSw; (try dsimp only at hSw); (try simp only [zA, zB, zC]); go_simp; try with_reducible rfl)
  try simp only [zA, zB, zC, Act.put, zD, zE, zF]
  refine tkH (i := 11) (v := ?_) rfl (Or.inl ⟨by rfl, ?_⟩) hHeld ?_
  rotate_left
  · (intro wz hSw; (try dsimp only at hSw); (try simp only [zA, zB, zC]); go_simp; try with_reducible rfl)
  try simp only [zA, zB, zC, Act.put, zD, zE, zF]
  refine wpAnyH_ready (rs := [12]) (by kernel_rfl) (by simp) ?_; refine AllReadyH.cons rfl (fun K hK => ?_) AllReadyH.nil
  try simp only [zA, zB, zC]
  go_simp
  refine hK.out _ _ s1 (fun _ => ?_)
  clear hK K hHeld k4 f4
  try simp only [zA, zB, zC, Act.put, zD, zE, zF]
  have hHeld := s1
  refine tkH (i := 13) (v := ?_) rfl (Or.inl ⟨by rfl, ?_⟩) hHeld ?_
  rotate_left
  · (intro wz hSw; (try dsimp only at hSw); (try simp only [zA, zB, zC]); go_simp; try with_reducible rfl)
  try simp only [zA, zB, zC, Act.put, zD, zE, zF]
  refine tkH (i := 14) (v := ?_) rfl (Or.inl ⟨by rfl, ?_⟩) hHeld ?_
  rotate_left
  · (intro wz hSw; (try dsimp only at hSw); (try simp only [zA, zB, zC]); go_simp; try with_reducible rfl)
  try simp only [zA, zB, zC, Act.put, zD, zE, zF]
  refine tkH (i := 15) (v := ?_) rfl (Or.inl ⟨by rfl, ?_⟩) hHeld ?_
  rotate_left
  · (intro wz hSw; (try dsimp only at hSw); (try simp only [zA, zB, zC]); go_simp; try with_reducible rfl)
  try simp only [zA, zB, zC, Act.put, zD, zE, zF]
  refine wpAnyH_ready (rs := [16]) (by kernel_rfl) (by simp) ?_; refine AllReadyH.cons rfl (fun K hK => ?_) AllReadyH.nil
  try simp only [zA, zB, zC]
  go_simp
  refine hK.out _ _ s2 (fun _ => ?_)
  clear hK K hHeld k5 f5
  try simp only [zA, zB, zC, Act.put, zD, zE, zF]
  refine wpAnyH_done (by kernel_rfl) ?_ _
  clear h0 s0 s1 s2
  go_wp2_with fail
  first | go_end0 | refine bodyPost_ret (results_none rfl _ _ _) rfl ?_
  exact ⟨rfl, HP.out.1, HP.out.2⟩
end Go.Proofs.YtbnndbdnejfehaaGreatDoor
