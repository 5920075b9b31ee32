/- The reference of core: which cores may be. -/
import Derived.Test.YtbnndbdnejfehaaGreatDoorPlainCore
import Derived.Test.YtbnndbdnejfehaaGreatDoorRef10d
import Derived.Test.YtbnndbdnejfehaaGreatDoorLogW
namespace Go.Proofs.YtbnndbdnejfehaaGreatDoor
open Go.ChangeShapes Go.WideShapes Go.ChangeAt Go.RowKit

theorem cfF_fit {s : CfX} (h : CfF s) : FitC s.v s.x s.l := by
  obtain ⟨h1, h2, h3, -⟩ := h
  unfold In16 at h1 h2 h3
  exact ⟨h1.1, by omega, h2.1, by omega, h3.1, by omega⟩
theorem rmayJn_any (j : Jn) (hj : JoF (joX j)) (w : World) : Calls Tryz.prog 86 #[.agg #[.int .u16 j.ov, .int .u16 j.ox, .int .u16 j.ol, .int .i64 j.oe, .int .i64 j.ok, .int .u16 j.nv, .int .u16 j.nx, .int .u16 j.nl, .int .i64 j.ne, .int .i64 j.nk, .bool j.two]] w fun r w' => r = .returned (.bool (jnM j)) ∧ Below w.heap.size w w' :=
  refMayJoint_any j.ov j.ox j.ol j.oe j.ok j.nv j.nx j.nl j.ne j.nk j.two (cfF_fit hj.1) (cfF_fit hj.2) w
set_option maxRecDepth 100000 in
set_option maxHeartbeats 8000000 in
theorem rmayLog_any (l : Lg) (p : Option Addr) (c : Nat) (w : World) (hn : l.es.length ≤ 1000000) (hE : EnSl w (.slice p l.es.length c) l.es) (hj : JoF (joX l.j)) (hes : ∀ e ∈ l.es, JoF (joX e.j)) :
    Calls Tryz.prog 32 #[.agg #[.int .i64 l.b, .int .i64 l.bt, .int .u16 l.j.ov, .int .u16 l.j.ox, .int .u16 l.j.ol, .int .i64 l.j.oe, .int .i64 l.j.ok, .int .u16 l.j.nv, .int .u16 l.j.nx, .int .u16 l.j.nl, .int .i64 l.j.ne, .int .i64 l.j.nk, .bool l.j.two, .slice p l.es.length c]] w fun r w' => r = .returned (.bool (logM l)) ∧ Below w.heap.size w w' := by
  have HE := Lib.hid hE; have HES := Lib.hid hes; have HJ := Lib.hid hj
  clear hE hes hj
  go_enter Tryz.func32, Tryz.ntmps32
  go_upto_region 1 with fail
  have HA0 := Lib.hid (heap_last w (.cells #[.int .i64 l.b, .int .i64 l.bt, .int .u16 l.j.ov, .int .u16 l.j.ox, .int .u16 l.j.ol, .int .i64 l.j.oe, .int .i64 l.j.ok, .int .u16 l.j.nv, .int .u16 l.j.nx, .int .u16 l.j.nl, .int .i64 l.j.ne, .int .i64 l.j.nk, .bool l.j.two, .slice p l.es.length c] 30))
  have HB0 := Lib.hid ((Below.refl _ w).alloc (Nat.le_refl _) (.cells #[.int .i64 l.b, .int .i64 l.bt, .int .u16 l.j.ov, .int .u16 l.j.ox, .int .u16 l.j.ol, .int .i64 l.j.oe, .int .i64 l.j.ok, .int .u16 l.j.nv, .int .u16 l.j.nx, .int .u16 l.j.nl, .int .i64 l.j.ne, .int .i64 l.j.nk, .bool l.j.two, .slice p l.es.length c] 30))
  obtain ⟨W, hW⟩ : ∃ W, w.alloc (.cells #[.int .i64 l.b, .int .i64 l.bt, .int .u16 l.j.ov, .int .u16 l.j.ox, .int .u16 l.j.ol, .int .i64 l.j.oe, .int .i64 l.j.ok, .int .u16 l.j.nv, .int .u16 l.j.nx, .int .u16 l.j.nl, .int .i64 l.j.ne, .int .i64 l.j.nk, .bool l.j.two, .slice p l.es.length c] 30) = W := ⟨_, rfl⟩
  rw [hW] at HA0 HB0 ⊢
  clear hW
  have kA := block_cells HA0.out
  have HC := Lib.hid (rmay_any l p c W hn (HE.out.keep HB0.out (Nat.le_refl _)))
  cases hm : mayL l with
  | false =>
    have HN : Hid (logM l = false) := by show _ = _; unfold logM; rw [hm]; rfl
    rw [hm] at HC
    clear hm
    go_wp2_with fail
    refine HC.out.mono ?_; rintro r w1 ⟨rfl, hb⟩
    have HB := Lib.hid (HB0.out.trans (hb.mono HB0.out.size))
    clear hb HC kA
    go_wp2_with fail
    go_ret
    exact ⟨ret_boolL HN.out.symm, HB.out⟩
  | true =>
  rw [hm] at HC
  have HM := Lib.hid hm
  clear hm
  go_wp2_with fail
  refine HC.out.mono ?_; rintro r w1 ⟨rfl, hb⟩
  have HBa := Lib.hid (HB0.out.trans (hb.mono HB0.out.size))
  have HA1 := Lib.hid (below_block hb (block_lt HA0.out) HA0.out)
  clear hb HC kA
  have kA := block_cells HA1.out
  have HC := Lib.hid (rmayJn_any l.j HJ.out w1)
  cases hm : jnM l.j with
  | false =>
    have HN : Hid (logM l = false) := by show _ = _; unfold logM; rw [hm]; simp
    rw [hm] at HC
    clear hm
    go_wp2_with fail
    refine HC.out.mono ?_; rintro r w2 ⟨rfl, hb⟩
    have HB := Lib.hid (HBa.out.trans (hb.mono HBa.out.size))
    clear hb HC kA
    go_wp2_with fail
    go_ret
    exact ⟨ret_boolL HN.out.symm, HB.out⟩
  | true =>
  rw [hm] at HC
  have HL : Hid (logM l = l.es.all enM) := by show _ = _; unfold logM; rw [hm, HM.out]; rfl
  clear hm HM
  go_wp2_with fail
  refine HC.out.mono ?_; rintro r w2 ⟨rfl, hb⟩
  have HB2 := Lib.hid (HBa.out.trans (hb.mono HBa.out.size))
  have HA2 := Lib.hid (below_block hb (block_lt HA1.out) HA1.out)
  clear hb HC kA HBa HA1 HB0 HA0
  have kA := block_cells HA2.out
  go_wp2_with fail
  clear kA
  go_loopw [3] (fun i wr => ∃ k : Nat, k ≤ l.es.length ∧ i = .int .i64 k ∧ Hid (logM l = (l.es.drop k).all enM) ∧ Hid (Below w2.heap.size w2 wr)) (fun i _ => l.es.length - (intOf i).toNat)
  case atStart => exact ⟨0, Nat.zero_le _, rfl, HL, Below.refl _ _⟩
  case round =>
    obtain ⟨k, hk, rfl, HT, HB⟩ := hrel
    obtain ⟨wk, rfl⟩ : ∃ wk : World, wk = wr := ⟨_, rfl⟩
    have kA := block_cells (below_block HB.out (block_lt HA2.out) HA2.out)
    have HBW := Lib.hid (HB2.out.trans (HB.out.mono HB2.out.size))
    by_cases hlt : k < l.es.length
    · obtain ⟨g, o, cap, hv, hgl, hc⟩ := (HE.out.keep HBW.out (Nat.le_refl _)).at k hlt
      simp only [Value.slice.injEq] at hv
      obtain ⟨rfl, -⟩ := hv
      have hS := HT.out.trans (enM_at hlt)
      have hjo := HES.out l.es[k] (List.getElem_mem hlt)
      obtain ⟨e, he⟩ : ∃ e, l.es[k] = e := ⟨_, rfl⟩
      rw [he] at hc hS hjo
      have HS := Lib.hid hS
      have HC := Lib.hid (rmayJn_any e.j hjo wk)
      have hq0 : wk.cell? ⟨g, o + k * 14, none⟩ = some (.int .i64 e.t) := hc 0 (by decide)
      have hq1 : wk.cell? ⟨g, o + k * 14 + 1, none⟩ = some (.int .i64 e.k) := hc 1 (by decide)
      have hq2 : wk.cell? ⟨g, o + k * 14 + 2, none⟩ = some (.string e.d) := hc 2 (by decide)
      have hq3 : wk.cell? ⟨g, o + k * 14 + 3, none⟩ = some (.int .u16 e.j.ov) := hc 3 (by decide)
      have hq4 : wk.cell? ⟨g, o + k * 14 + 4, none⟩ = some (.int .u16 e.j.ox) := hc 4 (by decide)
      have hq5 : wk.cell? ⟨g, o + k * 14 + 5, none⟩ = some (.int .u16 e.j.ol) := hc 5 (by decide)
      have hq6 : wk.cell? ⟨g, o + k * 14 + 6, none⟩ = some (.int .i64 e.j.oe) := hc 6 (by decide)
      have hq7 : wk.cell? ⟨g, o + k * 14 + 7, none⟩ = some (.int .i64 e.j.ok) := hc 7 (by decide)
      have hq8 : wk.cell? ⟨g, o + k * 14 + 8, none⟩ = some (.int .u16 e.j.nv) := hc 8 (by decide)
      have hq9 : wk.cell? ⟨g, o + k * 14 + 9, none⟩ = some (.int .u16 e.j.nx) := hc 9 (by decide)
      have hq10 : wk.cell? ⟨g, o + k * 14 + 10, none⟩ = some (.int .u16 e.j.nl) := hc 10 (by decide)
      have hq11 : wk.cell? ⟨g, o + k * 14 + 11, none⟩ = some (.int .i64 e.j.ne) := hc 11 (by decide)
      have hq12 : wk.cell? ⟨g, o + k * 14 + 12, none⟩ = some (.int .i64 e.j.nk) := hc 12 (by decide)
      have hq13 : wk.cell? ⟨g, o + k * 14 + 13, none⟩ = some (.bool e.j.two) := hc 13 (by decide)
      have hd1 : decide ((k : Int) < (l.es.length : Int)) = true := by simp; omega
      have hkm : (k : Int) < (l.es.length : Int) := by omega
      clear hc he hS hjo
      by_cases hx : e.k = 2
      · have hd2 : (e.k == 2) = true := by simp [hx]
        cases hm : jnM e.j with
        | false =>
          rw [hm] at HC
          have HN : Hid (logM l = false) := by show _ = _; rw [HS.out, enM_conf hx, hm]; rfl
          clear hm hx
          go_wp2_with fail
          refine HC.out.mono ?_; rintro r w3 ⟨rfl, hb⟩
          have HB3 := Lib.hid (HBW.out.trans (hb.mono HBW.out.size))
          clear hb
          go_wp2_with fail
          go_ret
          exact ⟨ret_boolL HN.out.symm, HB3.out⟩
        | true =>
          rw [hm] at HC
          have HN : Hid (logM l = (l.es.drop (k + 1)).all enM) := by show _ = _; rw [HS.out, enM_conf hx, hm]; rfl
          clear hm hx
          go_wp2_with fail
          refine HC.out.mono ?_; rintro r w3 ⟨rfl, hb⟩
          have HB3 := Lib.hid (HB.out.trans (hb.mono HB.out.size))
          clear hb
          go_wp2_with fail
          go_roundw
          case rel => exact ⟨k + 1, by omega, by go_num, HN, HB3.out⟩
          case measure => simp [intOf]; omega
      · have hd2 : (e.k == 2) = false := by simp [hx]
        have HN : Hid (logM l = (l.es.drop (k + 1)).all enM) := by show _ = _; rw [HS.out, enM_other hx]; rfl
        clear hx
        go_wp2_with fail
        go_roundw
        case rel => exact ⟨k + 1, by omega, by go_num, HN, HB⟩
        case measure => simp [intOf]; omega
    · obtain rfl : k = l.es.length := by omega
      have hd1 : decide ((l.es.length : Int) < (l.es.length : Int)) = false := by simp
      have HN : Hid (logM l = true) := by show _ = _; rw [HT.out, List.drop_of_length_le (Nat.le_refl _)]; rfl
      go_wp2_with fail
      go_ret
      exact ⟨ret_boolL HN.out.symm, HBW.out⟩
end Go.Proofs.YtbnndbdnejfehaaGreatDoor
