/- The reference of entries: Last, At, Term; which log is newer. -/
import Derived.Test.YtbnndbdnejfehaaGreatDoorLogA
import Derived.Test.YtbnndbdnejfehaaGreatDoorCalmTail
namespace Go.Proofs.YtbnndbdnejfehaaGreatDoor
open Go.ChangeShapes Go.WideShapes Go.ChangeAt Go.RowKit

def put14 (w : World) (C : Nat) (x0 x1 x2 x3 x4 x5 x6 x7 x8 x9 x10 x11 x12 x13 : Value) : World := ((((((((((((((w.setCell ⟨C, 0, none⟩ x0).setCell ⟨C, 1, none⟩ x1).setCell ⟨C, 2, none⟩ x2).setCell ⟨C, 3, none⟩ x3).setCell ⟨C, 4, none⟩ x4).setCell ⟨C, 5, none⟩ x5).setCell ⟨C, 6, none⟩ x6).setCell ⟨C, 7, none⟩ x7).setCell ⟨C, 8, none⟩ x8).setCell ⟨C, 9, none⟩ x9).setCell ⟨C, 10, none⟩ x10).setCell ⟨C, 11, none⟩ x11).setCell ⟨C, 12, none⟩ x12).setCell ⟨C, 13, none⟩ x13)
structure Kp14 (B : Nat) (w wk : World) (C : Nat) (t : TypeId) (cs : Array Value) : Prop where
  blk : wk.heap[C]? = some (.cells cs t (0, 0))
  bel : Below B w wk
theorem cells_setL {w : World} {g : Nat} {cur : Array Value} {t : TypeId} (h : w.heap[g]? = some (.cells cur t (0, 0))) (j : Nat) (v : Value) : (w.setCell ⟨g, j, none⟩ v).heap[g]? = some (.cells (cur.setIfInBounds j v) t (0, 0)) := by
  simp [World.setCell, Array.getElem?_modify, h]
theorem Kp14.step {B : Nat} {w wk : World} {C : Nat} {t : TypeId} {cs : Array Value} (h : Kp14 B w wk C t cs) (hC : B ≤ C) (j : Nat) (v : Value) : Kp14 B w (wk.setCell ⟨C, j, none⟩ v) C t (cs.setIfInBounds j v) :=
  ⟨cells_setL h.blk j v, h.bel.setCell hC v⟩
theorem put14_ok {B : Nat} {w wk : World} {C : Nat} {t : TypeId} {a0 a1 a2 a3 a4 a5 a6 a7 a8 a9 a10 a11 a12 a13 : Value} (hA : wk.heap[C]? = some (.cells #[a0, a1, a2, a3, a4, a5, a6, a7, a8, a9, a10, a11, a12, a13] t (0, 0))) (hb : Below B w wk) (hC : B ≤ C) (x0 x1 x2 x3 x4 x5 x6 x7 x8 x9 x10 x11 x12 x13 : Value) :
    (put14 wk C x0 x1 x2 x3 x4 x5 x6 x7 x8 x9 x10 x11 x12 x13).heap[C]? = some (.cells #[x0, x1, x2, x3, x4, x5, x6, x7, x8, x9, x10, x11, x12, x13] t (0, 0)) ∧ Below B w (put14 wk C x0 x1 x2 x3 x4 x5 x6 x7 x8 x9 x10 x11 x12 x13) := by
  have k0 : Kp14 B w wk C t _ := ⟨hA, hb⟩
  have k := ((((((((((((((k0.step hC 0 x0).step hC 1 x1).step hC 2 x2).step hC 3 x3).step hC 4 x4).step hC 5 x5).step hC 6 x6).step hC 7 x7).step hC 8 x8).step hC 9 x9).step hC 10 x10).step hC 11 x11).step hC 12 x12).step hC 13 x13)
  have h := k.blk
  simp only [zD, zE, zF] at h
  exact ⟨h, k.bel⟩
section
variable (l : Lg) (p : Option Addr) (c : Nat)
set_option maxHeartbeats 400000 in
theorem rlast_any (w : World) (h0 : 0 ≤ l.b) (h1 : l.b ≤ 1152921504606846976) (h2 : l.es.length ≤ 1000000) :
    Calls Tryz.prog 33 #[.agg #[.int .i64 l.b, .int .i64 l.bt, .int .u16 l.j.ov, .int .u16 l.j.ox, .int .u16 l.j.ol, .int .i64 l.j.oe, .int .i64 l.j.ok, .int .u16 l.j.nv, .int .u16 l.j.nx, .int .u16 l.j.nl, .int .i64 l.j.ne, .int .i64 l.j.nk, .bool l.j.two, .slice p l.es.length c]] w fun r w' => r = .returned (.int .i64 l.last) ∧ Below w.heap.size w w' := by
  have HE : Hid (l.last = l.b + l.es.length) := rfl
  go_enter Tryz.func33, Tryz.ntmps33
  go_wp2_with fail
  go_ret
  exact ⟨ret_intL HE.out.symm, (Below.refl _ _).alloc (Nat.le_refl _) _⟩
set_option maxRecDepth 100000 in
set_option maxHeartbeats 4000000 in
theorem rat_any (i : Int) (w : World) (h0 : 0 ≤ l.b) (h1 : l.b ≤ 1152921504606846976) (h2 : l.es.length ≤ 1000000) (_i0 : -9223372036854775808 ≤ i) (_i1 : i ≤ 9223372036854775807) (hE : EnSl w (.slice p l.es.length c) l.es) {e : Ent} {is : Bool} (h : Hid (atL l i = (e, is))) :
    Calls Tryz.prog 139 #[.agg #[.int .i64 l.b, .int .i64 l.bt, .int .u16 l.j.ov, .int .u16 l.j.ox, .int .u16 l.j.ol, .int .i64 l.j.oe, .int .i64 l.j.ok, .int .u16 l.j.nv, .int .u16 l.j.nx, .int .u16 l.j.nl, .int .i64 l.j.ne, .int .i64 l.j.nk, .bool l.j.two, .slice p l.es.length c], .int .i64 i] w fun r w' => r = .returned (.tuple #[.agg #[.int .i64 e.t, .int .i64 e.k, .string e.d, .int .u16 e.j.ov, .int .u16 e.j.ox, .int .u16 e.j.ol, .int .i64 e.j.oe, .int .i64 e.j.ok, .int .u16 e.j.nv, .int .u16 e.j.nx, .int .u16 e.j.nl, .int .i64 e.j.ne, .int .i64 e.j.nk, .bool e.j.two], .bool is]) ∧ Below w.heap.size w w' := by
  have HE := Lib.hid hE
  clear hE
  by_cases hlo : i ≤ l.b
  · obtain ⟨rfl, rfl⟩ : ent0 = e ∧ false = is := by have := h.out; rw [atL_low hlo] at this; exact ⟨congrArg Prod.fst this, congrArg Prod.snd this⟩
    clear h
    go_enter Tryz.func139, Tryz.ntmps139
    go_wp2_with fail
    refine bodyPost_ret (v := .tuple #[.agg #[.int .i64 0, .int .i64 0, .string ⟨#[]⟩, .int .u16 0, .int .u16 0, .int .u16 0, .int .i64 0, .int .i64 0, .int .u16 0, .int .u16 0, .int .u16 0, .int .i64 0, .int .i64 0, .bool false], .bool false]) (by simp [results, Tryz.results139, go_sem]) rfl ⟨rfl, ((Below.refl _ _).alloc (Nat.le_refl _) _).alloc (by simp) _⟩
  · obtain ⟨k, hk⟩ := Int.eq_ofNat_of_zero_le (show 0 ≤ i - l.b - 1 by omega)
    have HK := Lib.hid hk
    have hA := heap_prev (.cells #[.int .i64 0, .int .i64 0, .string ⟨#[]⟩, .int .u16 0, .int .u16 0, .int .u16 0, .int .i64 0, .int .i64 0, .int .u16 0, .int .u16 0, .int .u16 0, .int .i64 0, .int .i64 0, .bool false] 47) (heap_last w (.cells #[.int .i64 l.b, .int .i64 l.bt, .int .u16 l.j.ov, .int .u16 l.j.ox, .int .u16 l.j.ol, .int .i64 l.j.oe, .int .i64 l.j.ok, .int .u16 l.j.nv, .int .u16 l.j.nx, .int .u16 l.j.nl, .int .i64 l.j.ne, .int .i64 l.j.nk, .bool l.j.two, .slice p l.es.length c] 30))
    have hC := heap_last (w.alloc (.cells #[.int .i64 l.b, .int .i64 l.bt, .int .u16 l.j.ov, .int .u16 l.j.ox, .int .u16 l.j.ol, .int .i64 l.j.oe, .int .i64 l.j.ok, .int .u16 l.j.nv, .int .u16 l.j.nx, .int .u16 l.j.nl, .int .i64 l.j.ne, .int .i64 l.j.nk, .bool l.j.two, .slice p l.es.length c] 30)) (.cells #[.int .i64 0, .int .i64 0, .string ⟨#[]⟩, .int .u16 0, .int .u16 0, .int .u16 0, .int .i64 0, .int .i64 0, .int .u16 0, .int .u16 0, .int .u16 0, .int .i64 0, .int .i64 0, .bool false] 47)
    have hB : Below w.heap.size w ((w.alloc (.cells #[.int .i64 l.b, .int .i64 l.bt, .int .u16 l.j.ov, .int .u16 l.j.ox, .int .u16 l.j.ol, .int .i64 l.j.oe, .int .i64 l.j.ok, .int .u16 l.j.nv, .int .u16 l.j.nx, .int .u16 l.j.nl, .int .i64 l.j.ne, .int .i64 l.j.nk, .bool l.j.two, .slice p l.es.length c] 30)).alloc (.cells #[.int .i64 0, .int .i64 0, .string ⟨#[]⟩, .int .u16 0, .int .u16 0, .int .u16 0, .int .i64 0, .int .i64 0, .int .u16 0, .int .u16 0, .int .u16 0, .int .i64 0, .int .i64 0, .bool false] 47)) := ((Below.refl _ _).alloc (Nat.le_refl _) _).alloc (by simp) _
    simp only [World.size_alloc] at hC
    have HW := Lib.hid (And.intro hA (And.intro hC hB))
    clear hA hC hB
    have HL := Lib.hid (rlast_any l p c)
    by_cases hlt : k < l.es.length
    · obtain ⟨rfl, rfl⟩ : l.es[k] = e ∧ true = is := by have := h.out; rw [atL_in hk hlt] at this; exact ⟨congrArg Prod.fst this, congrArg Prod.snd this⟩
      have hlast : decide (l.last < i) = false := by rw [decide_eq_false_iff_not]; unfold Lg.last; omega
      clear h
      go_enter Tryz.func139, Tryz.ntmps139
      go_wp2_with fail
      refine (HL.out _ h0 h1 h2).mono ?_; rintro r w2 ⟨rfl, hb2⟩
      have hA2 := below_block hb2 (by simp; omega) HW.out.1
      have hC2 := below_block hb2 (by simp) HW.out.2.1
      have HB2 := Lib.hid (HW.out.2.2.trans (hb2.mono (by simp; omega)))
      have HE2 := HE.out.keep HB2.out (Nat.le_refl _)
      obtain ⟨g, o, cap, hv, hgl, hc⟩ := HE2.at k hlt
      simp only [Value.slice.injEq] at hv
      obtain ⟨rfl, -⟩ := hv
      obtain ⟨e, he⟩ : ∃ e, l.es[k] = e := ⟨_, rfl⟩
      rw [he] at hc
      have HEE := Lib.hid he
      have hq0 : w2.cell? ⟨g, o + k * 14, none⟩ = some (.int .i64 e.t) := hc 0 (by decide)
      have hq1 : w2.cell? ⟨g, o + k * 14 + 1, none⟩ = some (.int .i64 e.k) := hc 1 (by decide)
      have hq2 : w2.cell? ⟨g, o + k * 14 + 2, none⟩ = some (.string e.d) := hc 2 (by decide)
      have hq3 : w2.cell? ⟨g, o + k * 14 + 3, none⟩ = some (.int .u16 e.j.ov) := hc 3 (by decide)
      have hq4 : w2.cell? ⟨g, o + k * 14 + 4, none⟩ = some (.int .u16 e.j.ox) := hc 4 (by decide)
      have hq5 : w2.cell? ⟨g, o + k * 14 + 5, none⟩ = some (.int .u16 e.j.ol) := hc 5 (by decide)
      have hq6 : w2.cell? ⟨g, o + k * 14 + 6, none⟩ = some (.int .i64 e.j.oe) := hc 6 (by decide)
      have hq7 : w2.cell? ⟨g, o + k * 14 + 7, none⟩ = some (.int .i64 e.j.ok) := hc 7 (by decide)
      have hq8 : w2.cell? ⟨g, o + k * 14 + 8, none⟩ = some (.int .u16 e.j.nv) := hc 8 (by decide)
      have hq9 : w2.cell? ⟨g, o + k * 14 + 9, none⟩ = some (.int .u16 e.j.nx) := hc 9 (by decide)
      have hq10 : w2.cell? ⟨g, o + k * 14 + 10, none⟩ = some (.int .u16 e.j.nl) := hc 10 (by decide)
      have hq11 : w2.cell? ⟨g, o + k * 14 + 11, none⟩ = some (.int .i64 e.j.ne) := hc 11 (by decide)
      have hq12 : w2.cell? ⟨g, o + k * 14 + 12, none⟩ = some (.int .i64 e.j.nk) := hc 12 (by decide)
      have hq13 : w2.cell? ⟨g, o + k * 14 + 13, none⟩ = some (.bool e.j.two) := hc 13 (by decide)
      have kA := block_cells hA2
      have kC := block_cells hC2
      have fC := block_free hC2
      have HC2 := Lib.hid hC2
      clear hc he hk hb2 hA2 hC2 HE2
      go_upto_region 3 with fail
      rw [show w = w from rfl]
      have hkk := HK.out
      go_wp2_with fail
      have F := put14_ok HC2.out HB2.out (by omega) (.int .i64 e.t) (.int .i64 e.k) (.string e.d) (.int .u16 e.j.ov) (.int .u16 e.j.ox) (.int .u16 e.j.ol) (.int .i64 e.j.oe) (.int .i64 e.j.ok) (.int .u16 e.j.nv) (.int .u16 e.j.nx) (.int .u16 e.j.nl) (.int .i64 e.j.ne) (.int .i64 e.j.nk) (.bool e.j.two)
      have kF := block_cells F.1
      unfold put14 at F kF
      refine bodyPost_ret (v := .tuple #[.agg #[.int .i64 e.t, .int .i64 e.k, .string e.d, .int .u16 e.j.ov, .int .u16 e.j.ox, .int .u16 e.j.ol, .int .i64 e.j.oe, .int .i64 e.j.ok, .int .u16 e.j.nv, .int .u16 e.j.nx, .int .u16 e.j.nl, .int .i64 e.j.ne, .int .i64 e.j.nk, .bool e.j.two], .bool true]) ?_ rfl ?_
      · simp [results, Tryz.results139, go_sem, kF]
      · rw [HEE.out]; exact ⟨rfl, F.2⟩
    · obtain ⟨rfl, rfl⟩ : ent0 = e ∧ false = is := by have := h.out; rw [atL_high (by unfold Lg.last; omega) h0] at this; exact ⟨congrArg Prod.fst this, congrArg Prod.snd this⟩
      have hlast : decide (l.last < i) = true := by rw [decide_eq_true_iff]; unfold Lg.last; omega
      clear h hk
      go_enter Tryz.func139, Tryz.ntmps139
      go_wp2_with fail
      refine (HL.out _ h0 h1 h2).mono ?_; rintro r w2 ⟨rfl, hb2⟩
      have hC2 := below_block hb2 (by simp) HW.out.2.1
      have HB2 := Lib.hid (HW.out.2.2.trans (hb2.mono (by simp; omega)))
      have kC := block_cells hC2
      have fC := block_free hC2
      have HC2 := Lib.hid hC2
      clear hb2 hC2
      go_wp2_with fail
      have F := put14_ok HC2.out HB2.out (by omega) (.int .i64 0) (.int .i64 0) (.string ⟨#[]⟩) (.int .u16 0) (.int .u16 0) (.int .u16 0) (.int .i64 0) (.int .i64 0) (.int .u16 0) (.int .u16 0) (.int .u16 0) (.int .i64 0) (.int .i64 0) (.bool false)
      have kF := block_cells F.1
      unfold put14 at F kF
      refine bodyPost_ret (v := .tuple #[.agg #[.int .i64 0, .int .i64 0, .string ⟨#[]⟩, .int .u16 0, .int .u16 0, .int .u16 0, .int .i64 0, .int .i64 0, .int .u16 0, .int .u16 0, .int .u16 0, .int .i64 0, .int .i64 0, .bool false], .bool false]) ?_ rfl ⟨rfl, F.2⟩
      simp [results, Tryz.results139, go_sem, kF]
theorem rat_un (i : Int) (w : World) (h0 : 0 ≤ l.b) (h1 : l.b ≤ 1152921504606846976) (h2 : l.es.length ≤ 1000000) (i0 : -9223372036854775808 ≤ i) (i1 : i ≤ 9223372036854775807) (hE : EnSl w (.slice p l.es.length c) l.es) :
    ∃ e is, atL l i = (e, is) ∧ Calls Tryz.prog 139 #[.agg #[.int .i64 l.b, .int .i64 l.bt, .int .u16 l.j.ov, .int .u16 l.j.ox, .int .u16 l.j.ol, .int .i64 l.j.oe, .int .i64 l.j.ok, .int .u16 l.j.nv, .int .u16 l.j.nx, .int .u16 l.j.nl, .int .i64 l.j.ne, .int .i64 l.j.nk, .bool l.j.two, .slice p l.es.length c], .int .i64 i] w fun r w' => r = .returned (.tuple #[.agg #[.int .i64 e.t, .int .i64 e.k, .string e.d, .int .u16 e.j.ov, .int .u16 e.j.ox, .int .u16 e.j.ol, .int .i64 e.j.oe, .int .i64 e.j.ok, .int .u16 e.j.nv, .int .u16 e.j.nx, .int .u16 e.j.nl, .int .i64 e.j.ne, .int .i64 e.j.nk, .bool e.j.two], .bool is]) ∧ Below w.heap.size w w' := by
  obtain ⟨⟨e, is⟩, h⟩ : ∃ x, atL l i = x := ⟨_, rfl⟩
  exact ⟨e, is, h, rat_any l p c i w h0 h1 h2 i0 i1 hE h⟩
set_option maxRecDepth 100000 in
set_option maxHeartbeats 4000000 in
theorem rterm_any (i : Int) (w : World) (h0 : 0 ≤ l.b) (h1 : l.b ≤ 1152921504606846976) (h2 : l.es.length ≤ 1000000) (i0 : -9223372036854775808 ≤ i) (i1 : i ≤ 9223372036854775807) (hE : EnSl w (.slice p l.es.length c) l.es) {t : Int} {is : Bool} (h : Hid (termL l i = (t, is))) :
    Calls Tryz.prog 87 #[.agg #[.int .i64 l.b, .int .i64 l.bt, .int .u16 l.j.ov, .int .u16 l.j.ox, .int .u16 l.j.ol, .int .i64 l.j.oe, .int .i64 l.j.ok, .int .u16 l.j.nv, .int .u16 l.j.nx, .int .u16 l.j.nl, .int .i64 l.j.ne, .int .i64 l.j.nk, .bool l.j.two, .slice p l.es.length c], .int .i64 i] w fun r w' => r = .returned (.tuple #[.int .i64 t, .bool is]) ∧ Below w.heap.size w w' := by
  have HE := Lib.hid hE
  clear hE
  by_cases hb : i = l.b
  · obtain ⟨rfl, rfl⟩ : l.bt = t ∧ true = is := by have := h.out; rw [termL_base hb] at this; exact ⟨congrArg Prod.fst this, congrArg Prod.snd this⟩
    clear h
    subst hb
    go_enter Tryz.func87, Tryz.ntmps87
    go_wp2_with fail
    go_ret2
    exact ⟨rfl, (Below.refl _ _).alloc (Nat.le_refl _) _⟩
  · have hbox : Below w.heap.size w (w.alloc (.cells #[.int .i64 l.b, .int .i64 l.bt, .int .u16 l.j.ov, .int .u16 l.j.ox, .int .u16 l.j.ol, .int .i64 l.j.oe, .int .i64 l.j.ok, .int .u16 l.j.nv, .int .u16 l.j.nx, .int .u16 l.j.nl, .int .i64 l.j.ne, .int .i64 l.j.nk, .bool l.j.two, .slice p l.es.length c] 30)) := (Below.refl _ _).alloc (Nat.le_refl _) _
    obtain ⟨e, is', hat, hcall⟩ := rat_un l p c i _ h0 h1 h2 i0 i1 (HE.out.keep hbox (Nat.le_refl _))
    obtain ⟨rfl, rfl⟩ : e.t = t ∧ is' = is := by have := h.out; rw [termL_not hb, hat] at this; exact ⟨congrArg Prod.fst this, congrArg Prod.snd this⟩
    have HC := Lib.hid hcall; have HB := Lib.hid hbox
    have hbf : (i == l.b) = false := by simpa using hb
    clear h hat hcall hbox hb
    go_enter Tryz.func87, Tryz.ntmps87
    go_wp2_with fail
    refine HC.out.mono ?_; rintro r w2 ⟨rfl, hb2⟩
    have HB2 := Lib.hid (HB.out.trans (hb2.mono HB.out.size))
    clear hb2
    go_wp2_with fail
    go_ret2
    exact ⟨rfl, HB2.out.alloc HB2.out.size _⟩
end
end Go.Proofs.YtbnndbdnejfehaaGreatDoor
