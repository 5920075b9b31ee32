import Derived.Test.YtbnndbdnejfehaaGreatDoorTakeT
import Derived.Deep.DeepCutAuto
import Derived.Deep.RegionLaw
import Derived.Deep.AppendLies
import Derived.Deep.Onto
import Derived.Lib.AppendZeros
/- Logs: the plain law: what a log is, and what it tells of its entries. -/
namespace Go.Proofs.YtbnndbdnejfehaaGreatDoor

structure Jn where
  ov : Int
  ox : Int
  ol : Int
  oe : Int
  ok : Int
  nv : Int
  nx : Int
  nl : Int
  ne : Int
  nk : Int
  two : Bool
deriving DecidableEq
structure Ent where
  t : Int
  k : Int
  d : ByteArray
  j : Jn
deriving DecidableEq
structure Lg where
  b : Int
  bt : Int
  j : Jn
  es : List Ent
deriving DecidableEq
def jn0 : Jn := ⟨0, 0, 0, 0, 0, 0, 0, 0, 0, 0, false⟩
def ent0 : Ent := ⟨0, 0, ⟨#[]⟩, jn0⟩
def Lg.last (l : Lg) : Int := l.b + l.es.length
/-- An entry by its number. -/
def atL (l : Lg) (i : Int) : Ent × Bool := if i ≤ l.b then (ent0, false) else match l.es[(i - l.b - 1).toNat]? with
  | some e => (e, true)
  | none => (ent0, false)
def termL (l : Lg) (i : Int) : Int × Bool := if i = l.b then (l.bt, true) else ((atL l i).1.t, (atL l i).2)
theorem atL_low {l : Lg} {i : Int} (h : i ≤ l.b) : atL l i = (ent0, false) := by unfold atL; rw [if_pos h]
theorem atL_high {l : Lg} {i : Int} (h : l.last < i) (_hb : 0 ≤ l.b) : atL l i = (ent0, false) := by
  unfold Lg.last at h
  unfold atL; rw [if_neg (by omega), List.getElem?_eq_none (by omega)]
theorem atL_in {l : Lg} {i : Int} {k : Nat} (h : i - l.b - 1 = (k : Int)) (hk : k < l.es.length) : atL l i = (l.es[k], true) := by
  unfold atL; rw [if_neg (by omega), h, Int.toNat_natCast, List.getElem?_eq_getElem hk]
theorem termL_base {l : Lg} {i : Int} (h : i = l.b) : termL l i = (l.bt, true) := by unfold termL; rw [if_pos h]
theorem termL_not {l : Lg} {i : Int} (h : i ≠ l.b) : termL l i = ((atL l i).1.t, (atL l i).2) := by unfold termL; rw [if_neg h]
end Go.Proofs.YtbnndbdnejfehaaGreatDoor
/- entries: Last, At, Term; the reference's. -/
namespace Go.Proofs.YtbnndbdnejfehaaGreatDoor
open Go.ChangeShapes Go.WideShapes Go.ChangeAt Go.RowKit

theorem ret_intL {k : IntKind} {a b : Int} (h : a = b) : Ending.returned (.int k a) = .returned (.int k b) := by rw [h]
def entC (e : Ent) : List Value := [.int .i64 e.t, .int .i64 e.k, .string e.d, .int .u16 e.j.ov, .int .u16 e.j.ox, .int .u16 e.j.ol, .int .i64 e.j.oe, .int .i64 e.j.ok, .int .u16 e.j.nv, .int .u16 e.j.nx, .int .u16 e.j.nl, .int .i64 e.j.ne, .int .i64 e.j.nk, .bool e.j.two]
def entRow (L : List Ent) : List Value := L.flatMap entC
theorem entRow_len (L : List Ent) : (entRow L).length = L.length * 14 := by
  induction L with
  | nil => rfl
  | cons x t ih => simp only [entRow, List.flatMap_cons, List.length_append, List.length_cons] at ih ⊢; rw [ih]; simp [entC]; omega
theorem entRow_app (L M : List Ent) : entRow (L ++ M) = entRow L ++ entRow M := by simp [entRow]
theorem entC_one (L : List Ent) : ∀ u ∈ entRow L, u.oneCell' = true := by
  intro u hu
  obtain ⟨e, -, hu⟩ := List.mem_flatMap.1 hu
  simp only [entC, List.mem_cons, List.not_mem_nil, or_false] at hu
  rcases hu with rfl | rfl | rfl | rfl | rfl | rfl | rfl | rfl | rfl | rfl | rfl | rfl | rfl | rfl <;> rfl
theorem entRow_get {L : List Ent} {k j : Nat} (hk : k < L.length) (hj : j < 14) : (entRow L)[k * 14 + j]? = (entC L[k])[j]? := by
  induction L generalizing k with
  | nil => simp at hk
  | cons x t ih =>
    have hl : (entC x).length = 14 := rfl
    cases k with
    | zero => simp only [entRow, List.flatMap_cons, zC]; rw [List.getElem?_append_left (by rw [hl]; omega), Nat.zero_mul, Nat.zero_add]
    | succ k =>
      simp only [entRow, List.flatMap_cons, zB]
      rw [List.getElem?_append_right (by rw [hl]; omega), hl, show (k + 1) * 14 + j - 14 = k * 14 + j by omega]
      exact ih (by simpa using hk)
/-- A slice of entries, whoever owns it. -/
def EnSl (w : World) (v : Value) (L : List Ent) : Prop := Sl w.heap.size w v 14 L.length (entRow L)
theorem EnSl.keep {w w' : World} {v : Value} {L : List Ent} {B : Nat} (h : EnSl w v L) (hb : Below B w w') (hB : w.heap.size ≤ B) : EnSl w' v L := (Sl.keep h (hb.mono hB)).mono hb.size
theorem EnSl.form {w : World} {v : Value} {L : List Ent} (h : EnSl w v L) : ∃ p cap, v = .slice p L.length cap ∧ L.length ≤ cap ∧ cap ≤ maxLen := by
  rcases h.2 with ⟨h2, h3⟩ | ⟨ad, cap', h2, h3, h4, h5⟩
  · exact ⟨none, 0, by rw [h2, h3], by omega, by unfold maxLen; omega⟩
  · exact ⟨_, cap', h2, h3, h4⟩
theorem EnSl.at {w : World} {v : Value} {L : List Ent} (h : EnSl w v L) (k : Nat) (hk : k < L.length) : ∃ g o cap, v = .slice (some ⟨g, o, none⟩) L.length cap ∧ g < w.heap.size ∧ ∀ j, j < 14 → w.cell? ⟨g, o + k * 14 + j, none⟩ = (entC L[k])[j]? := by
  rcases h.2 with ⟨h2, h3⟩ | ⟨ad, cap', h2, h3, h4, h5⟩
  · omega
  · obtain ⟨g', o', rfl, h6, h7⟩ := h5 (by omega)
    exact ⟨g', o', cap', h2, h6, fun j hj => by rw [Nat.add_assoc, h7 _ (by omega), entRow_get hk hj]⟩
section
variable (l : Lg) (p : Option Addr) (c : Nat)
set_option maxHeartbeats 400000 in
theorem last_any (w : World) (h0 : 0 ≤ l.b) (h1 : l.b ≤ 1152921504606846976) (h2 : l.es.length ≤ 1000000) :
    Calls Tryz.prog 64 #[.agg #[.int .i64 l.b, .int .i64 l.bt, .int .u16 l.j.ov, .int .u16 l.j.ox, .int .u16 l.j.ol, .int .i64 l.j.oe, .int .i64 l.j.ok, .int .u16 l.j.nv, .int .u16 l.j.nx, .int .u16 l.j.nl, .int .i64 l.j.ne, .int .i64 l.j.nk, .bool l.j.two, .slice p l.es.length c]] w fun r w' => r = .returned (.int .i64 l.last) ∧ Below w.heap.size w w' := by
  have HE : Hid (l.last = l.b + l.es.length) := rfl
  go_enter Tryz.func64, Tryz.ntmps64
  go_wp2_with fail
  go_ret
  exact ⟨ret_intL HE.out.symm, (Below.refl _ _).alloc (Nat.le_refl _) _⟩
set_option maxRecDepth 100000 in
set_option maxHeartbeats 4000000 in
theorem at_any (i : Int) (w : World) (h0 : 0 ≤ l.b) (h1 : l.b ≤ 1152921504606846976) (_h2 : l.es.length ≤ 1000000) (i0 : -9223372036854775808 ≤ i) (i1 : i ≤ 9223372036854775807) (hE : EnSl w (.slice p l.es.length c) l.es) {e : Ent} {is : Bool} (h : Hid (atL l i = (e, is))) :
    Calls Tryz.prog 114 #[.agg #[.int .i64 l.b, .int .i64 l.bt, .int .u16 l.j.ov, .int .u16 l.j.ox, .int .u16 l.j.ol, .int .i64 l.j.oe, .int .i64 l.j.ok, .int .u16 l.j.nv, .int .u16 l.j.nx, .int .u16 l.j.nl, .int .i64 l.j.ne, .int .i64 l.j.nk, .bool l.j.two, .slice p l.es.length c], .int .i64 i] w fun r w' => r = .returned (.tuple #[.agg #[.int .i64 e.t, .int .i64 e.k, .string e.d, .int .u16 e.j.ov, .int .u16 e.j.ox, .int .u16 e.j.ol, .int .i64 e.j.oe, .int .i64 e.j.ok, .int .u16 e.j.nv, .int .u16 e.j.nx, .int .u16 e.j.nl, .int .i64 e.j.ne, .int .i64 e.j.nk, .bool e.j.two], .bool is]) ∧ Below w.heap.size w w' := by
  have HE := Lib.hid hE
  clear hE
  by_cases hlo : i ≤ l.b
  · obtain ⟨rfl, rfl⟩ : ent0 = e ∧ false = is := by have := h.out; rw [atL_low hlo] at this; exact ⟨congrArg Prod.fst this, congrArg Prod.snd this⟩
    clear h
    go_enter Tryz.func114, Tryz.ntmps114
    go_wp2_with fail
    refine bodyPost_ret (v := .tuple #[.agg #[.int .i64 0, .int .i64 0, .string ⟨#[]⟩, .int .u16 0, .int .u16 0, .int .u16 0, .int .i64 0, .int .i64 0, .int .u16 0, .int .u16 0, .int .u16 0, .int .i64 0, .int .i64 0, .bool false], .bool false]) (by simp [results, Tryz.results114, go_sem]) rfl ⟨rfl, ((Below.refl _ _).alloc (Nat.le_refl _) _).alloc (by simp) _⟩
  · obtain ⟨k, hk⟩ := Int.eq_ofNat_of_zero_le (show 0 ≤ i - l.b - 1 by omega)
    have HK := Lib.hid hk
    by_cases hlt : k < l.es.length
    · obtain ⟨rfl, rfl⟩ : l.es[k] = e ∧ true = is := by have := h.out; rw [atL_in hk hlt] at this; exact ⟨congrArg Prod.fst this, congrArg Prod.snd this⟩
      obtain ⟨g, o, cap, hv, hgl, hc⟩ := HE.out.at k hlt
      simp only [Value.slice.injEq] at hv
      obtain ⟨rfl, -⟩ := hv
      obtain ⟨e, he⟩ : ∃ e, l.es[k] = e := ⟨_, rfl⟩
      rw [he] at hc ⊢
      have hq0 : w.cell? ⟨g, o + k * 14, none⟩ = some (.int .i64 e.t) := hc 0 (by decide)
      have hq1 : w.cell? ⟨g, o + k * 14 + 1, none⟩ = some (.int .i64 e.k) := hc 1 (by decide)
      have hq2 : w.cell? ⟨g, o + k * 14 + 2, none⟩ = some (.string e.d) := hc 2 (by decide)
      have hq3 : w.cell? ⟨g, o + k * 14 + 3, none⟩ = some (.int .u16 e.j.ov) := hc 3 (by decide)
      have hq4 : w.cell? ⟨g, o + k * 14 + 4, none⟩ = some (.int .u16 e.j.ox) := hc 4 (by decide)
      have hq5 : w.cell? ⟨g, o + k * 14 + 5, none⟩ = some (.int .u16 e.j.ol) := hc 5 (by decide)
      have hq6 : w.cell? ⟨g, o + k * 14 + 6, none⟩ = some (.int .i64 e.j.oe) := hc 6 (by decide)
      have hq7 : w.cell? ⟨g, o + k * 14 + 7, none⟩ = some (.int .i64 e.j.ok) := hc 7 (by decide)
      have hq8 : w.cell? ⟨g, o + k * 14 + 8, none⟩ = some (.int .u16 e.j.nv) := hc 8 (by decide)
      have hq9 : w.cell? ⟨g, o + k * 14 + 9, none⟩ = some (.int .u16 e.j.nx) := hc 9 (by decide)
      have hq10 : w.cell? ⟨g, o + k * 14 + 10, none⟩ = some (.int .u16 e.j.nl) := hc 10 (by decide)
      have hq11 : w.cell? ⟨g, o + k * 14 + 11, none⟩ = some (.int .i64 e.j.ne) := hc 11 (by decide)
      have hq12 : w.cell? ⟨g, o + k * 14 + 12, none⟩ = some (.int .i64 e.j.nk) := hc 12 (by decide)
      have hq13 : w.cell? ⟨g, o + k * 14 + 13, none⟩ = some (.bool e.j.two) := hc 13 (by decide)
      have hgw : g ≠ w.heap.size := by omega
      have hgw' : g ≠ w.heap.size + 1 := by omega
      clear h hc he hk
      go_enter Tryz.func114, Tryz.ntmps114
      go_upto_region 4 with fail
      rw [HK.out]
      go_wp2_with fail
      refine bodyPost_ret (v := .tuple #[.agg #[.int .i64 e.t, .int .i64 e.k, .string e.d, .int .u16 e.j.ov, .int .u16 e.j.ox, .int .u16 e.j.ol, .int .i64 e.j.oe, .int .i64 e.j.ok, .int .u16 e.j.nv, .int .u16 e.j.nx, .int .u16 e.j.nl, .int .i64 e.j.ne, .int .i64 e.j.nk, .bool e.j.two], .bool true]) (by simp [results, Tryz.results114, go_sem]) rfl ⟨rfl, ((Below.refl _ _).alloc (Nat.le_refl _) _).alloc (by simp) _⟩
    · obtain ⟨rfl, rfl⟩ : ent0 = e ∧ false = is := by have := h.out; rw [atL_high (by unfold Lg.last; omega) h0] at this; exact ⟨congrArg Prod.fst this, congrArg Prod.snd this⟩
      clear h hk
      go_enter Tryz.func114, Tryz.ntmps114
      go_upto_region 4 with fail
      rw [HK.out]
      go_wp2_with fail
      refine bodyPost_ret (v := .tuple #[.agg #[.int .i64 0, .int .i64 0, .string ⟨#[]⟩, .int .u16 0, .int .u16 0, .int .u16 0, .int .i64 0, .int .i64 0, .int .u16 0, .int .u16 0, .int .u16 0, .int .i64 0, .int .i64 0, .bool false], .bool false]) (by simp [results, Tryz.results114, go_sem]) rfl ⟨rfl, ((Below.refl _ _).alloc (Nat.le_refl _) _).alloc (by simp) _⟩
theorem at_un (i : Int) (w : World) (h0 : 0 ≤ l.b) (h1 : l.b ≤ 1152921504606846976) (h2 : l.es.length ≤ 1000000) (i0 : -9223372036854775808 ≤ i) (i1 : i ≤ 9223372036854775807) (hE : EnSl w (.slice p l.es.length c) l.es) :
    ∃ e is, atL l i = (e, is) ∧ Calls Tryz.prog 114 #[.agg #[.int .i64 l.b, .int .i64 l.bt, .int .u16 l.j.ov, .int .u16 l.j.ox, .int .u16 l.j.ol, .int .i64 l.j.oe, .int .i64 l.j.ok, .int .u16 l.j.nv, .int .u16 l.j.nx, .int .u16 l.j.nl, .int .i64 l.j.ne, .int .i64 l.j.nk, .bool l.j.two, .slice p l.es.length c], .int .i64 i] w fun r w' => r = .returned (.tuple #[.agg #[.int .i64 e.t, .int .i64 e.k, .string e.d, .int .u16 e.j.ov, .int .u16 e.j.ox, .int .u16 e.j.ol, .int .i64 e.j.oe, .int .i64 e.j.ok, .int .u16 e.j.nv, .int .u16 e.j.nx, .int .u16 e.j.nl, .int .i64 e.j.ne, .int .i64 e.j.nk, .bool e.j.two], .bool is]) ∧ Below w.heap.size w w' := by
  obtain ⟨⟨e, is⟩, h⟩ : ∃ x, atL l i = x := ⟨_, rfl⟩
  exact ⟨e, is, h, at_any l p c i w h0 h1 h2 i0 i1 hE h⟩
set_option maxRecDepth 100000 in
set_option maxHeartbeats 4000000 in
theorem term_any (i : Int) (w : World) (h0 : 0 ≤ l.b) (h1 : l.b ≤ 1152921504606846976) (h2 : l.es.length ≤ 1000000) (i0 : -9223372036854775808 ≤ i) (i1 : i ≤ 9223372036854775807) (hE : EnSl w (.slice p l.es.length c) l.es) {t : Int} {is : Bool} (h : Hid (termL l i = (t, is))) :
    Calls Tryz.prog 65 #[.agg #[.int .i64 l.b, .int .i64 l.bt, .int .u16 l.j.ov, .int .u16 l.j.ox, .int .u16 l.j.ol, .int .i64 l.j.oe, .int .i64 l.j.ok, .int .u16 l.j.nv, .int .u16 l.j.nx, .int .u16 l.j.nl, .int .i64 l.j.ne, .int .i64 l.j.nk, .bool l.j.two, .slice p l.es.length c], .int .i64 i] w fun r w' => r = .returned (.tuple #[.int .i64 t, .bool is]) ∧ Below w.heap.size w w' := by
  have HE := Lib.hid hE
  clear hE
  by_cases hb : i = l.b
  · obtain ⟨rfl, rfl⟩ : l.bt = t ∧ true = is := by have := h.out; rw [termL_base hb] at this; exact ⟨congrArg Prod.fst this, congrArg Prod.snd this⟩
    clear h
    subst hb
    go_enter Tryz.func65, Tryz.ntmps65
    go_wp2_with fail
    go_ret2
    exact ⟨rfl, (Below.refl _ _).alloc (Nat.le_refl _) _⟩
  · have hbox : Below w.heap.size w (w.alloc (.cells #[.int .i64 l.b, .int .i64 l.bt, .int .u16 l.j.ov, .int .u16 l.j.ox, .int .u16 l.j.ol, .int .i64 l.j.oe, .int .i64 l.j.ok, .int .u16 l.j.nv, .int .u16 l.j.nx, .int .u16 l.j.nl, .int .i64 l.j.ne, .int .i64 l.j.nk, .bool l.j.two, .slice p l.es.length c] 30)) := (Below.refl _ _).alloc (Nat.le_refl _) _
    obtain ⟨e, is', hat, hcall⟩ := at_un l p c i _ h0 h1 h2 i0 i1 (HE.out.keep hbox (Nat.le_refl _))
    obtain ⟨rfl, rfl⟩ : e.t = t ∧ is' = is := by have := h.out; rw [termL_not hb, hat] at this; exact ⟨congrArg Prod.fst this, congrArg Prod.snd this⟩
    have HC := Lib.hid hcall; have HB := Lib.hid hbox
    have hbf : (i == l.b) = false := by simpa using hb
    clear h hat hcall hbox hb
    go_enter Tryz.func65, Tryz.ntmps65
    go_wp2_with fail
    refine HC.out.mono ?_; rintro r w2 ⟨rfl, hb2⟩
    have HB2 := Lib.hid (HB.out.trans (hb2.mono HB.out.size))
    clear hb2
    go_wp2_with fail
    go_ret2
    exact ⟨rfl, HB2.out.alloc HB2.out.size _⟩
end
end Go.Proofs.YtbnndbdnejfehaaGreatDoor
/- The reference of entries: Last, At, Term; which log is newer. -/
namespace Go.Proofs.YtbnndbdnejfehaaGreatDoor
open Go.ChangeShapes Go.WideShapes Go.ChangeAt Go.RowKit

def put14 (w : World) (C : Nat) (x0 x1 x2 x3 x4 x5 x6 x7 x8 x9 x10 x11 x12 x13 : Value) : World := ((((((((((((((w.setCell ⟨C, 0, none⟩ x0).setCell ⟨C, 1, none⟩ x1).setCell ⟨C, 2, none⟩ x2).setCell ⟨C, 3, none⟩ x3).setCell ⟨C, 4, none⟩ x4).setCell ⟨C, 5, none⟩ x5).setCell ⟨C, 6, none⟩ x6).setCell ⟨C, 7, none⟩ x7).setCell ⟨C, 8, none⟩ x8).setCell ⟨C, 9, none⟩ x9).setCell ⟨C, 10, none⟩ x10).setCell ⟨C, 11, none⟩ x11).setCell ⟨C, 12, none⟩ x12).setCell ⟨C, 13, none⟩ x13)
structure Kp14 (B : Nat) (w wk : World) (C : Nat) (t : TypeId) (cs : Array Value) : Prop where
  blk : wk.heap[C]? = some (.cells cs t (0, 0))
  bel : Below B w wk
theorem cells_setL {w : World} {g : Nat} {cur : Array Value} {t : TypeId} (h : w.heap[g]? = some (.cells cur t (0, 0))) (j : Nat) (v : Value) : (w.setCell ⟨g, j, none⟩ v).heap[g]? = some (.cells (cur.setIfInBounds j v) t (0, 0)) := by
  simp [World.setCell, Array.getElem?_modify, h]
theorem Kp14.step {B : Nat} {w wk : World} {C : Nat} {t : TypeId} {cs : Array Value} (h : Kp14 B w wk C t cs) (hC : B ≤ C) (j : Nat) (v : Value) : Kp14 B w (wk.setCell ⟨C, j, none⟩ v) C t (cs.setIfInBounds j v) :=
  ⟨cells_setL h.blk j v, h.bel.setCell hC v⟩
theorem put14_ok {B : Nat} {w wk : World} {C : Nat} {t : TypeId} {a0 a1 a2 a3 a4 a5 a6 a7 a8 a9 a10 a11 a12 a13 : Value} (hA : wk.heap[C]? = some (.cells #[a0, a1, a2, a3, a4, a5, a6, a7, a8, a9, a10, a11, a12, a13] t (0, 0))) (hb : Below B w wk) (hC : B ≤ C) (x0 x1 x2 x3 x4 x5 x6 x7 x8 x9 x10 x11 x12 x13 : Value) :
    (put14 wk C x0 x1 x2 x3 x4 x5 x6 x7 x8 x9 x10 x11 x12 x13).heap[C]? = some (.cells #[x0, x1, x2, x3, x4, x5, x6, x7, x8, x9, x10, x11, x12, x13] t (0, 0)) ∧ Below B w (put14 wk C x0 x1 x2 x3 x4 x5 x6 x7 x8 x9 x10 x11 x12 x13) := by
  have k0 : Kp14 B w wk C t _ := ⟨hA, hb⟩
  have k := ((((((((((((((k0.step hC 0 x0).step hC 1 x1).step hC 2 x2).step hC 3 x3).step hC 4 x4).step hC 5 x5).step hC 6 x6).step hC 7 x7).step hC 8 x8).step hC 9 x9).step hC 10 x10).step hC 11 x11).step hC 12 x12).step hC 13 x13)
  have h := k.blk
  simp only [zD, zE, zF] at h
  exact ⟨h, k.bel⟩
section
variable (l : Lg) (p : Option Addr) (c : Nat)
set_option maxHeartbeats 400000 in
theorem rlast_any (w : World) (h0 : 0 ≤ l.b) (h1 : l.b ≤ 1152921504606846976) (h2 : l.es.length ≤ 1000000) :
    Calls Tryz.prog 33 #[.agg #[.int .i64 l.b, .int .i64 l.bt, .int .u16 l.j.ov, .int .u16 l.j.ox, .int .u16 l.j.ol, .int .i64 l.j.oe, .int .i64 l.j.ok, .int .u16 l.j.nv, .int .u16 l.j.nx, .int .u16 l.j.nl, .int .i64 l.j.ne, .int .i64 l.j.nk, .bool l.j.two, .slice p l.es.length c]] w fun r w' => r = .returned (.int .i64 l.last) ∧ Below w.heap.size w w' := by
  have HE : Hid (l.last = l.b + l.es.length) := rfl
  go_enter Tryz.func33, Tryz.ntmps33
  go_wp2_with fail
  go_ret
  exact ⟨ret_intL HE.out.symm, (Below.refl _ _).alloc (Nat.le_refl _) _⟩
set_option maxRecDepth 100000 in
set_option maxHeartbeats 4000000 in
theorem rat_any (i : Int) (w : World) (h0 : 0 ≤ l.b) (h1 : l.b ≤ 1152921504606846976) (h2 : l.es.length ≤ 1000000) (_i0 : -9223372036854775808 ≤ i) (_i1 : i ≤ 9223372036854775807) (hE : EnSl w (.slice p l.es.length c) l.es) {e : Ent} {is : Bool} (h : Hid (atL l i = (e, is))) :
    Calls Tryz.prog 139 #[.agg #[.int .i64 l.b, .int .i64 l.bt, .int .u16 l.j.ov, .int .u16 l.j.ox, .int .u16 l.j.ol, .int .i64 l.j.oe, .int .i64 l.j.ok, .int .u16 l.j.nv, .int .u16 l.j.nx, .int .u16 l.j.nl, .int .i64 l.j.ne, .int .i64 l.j.nk, .bool l.j.two, .slice p l.es.length c], .int .i64 i] w fun r w' => r = .returned (.tuple #[.agg #[.int .i64 e.t, .int .i64 e.k, .string e.d, .int .u16 e.j.ov, .int .u16 e.j.ox, .int .u16 e.j.ol, .int .i64 e.j.oe, .int .i64 e.j.ok, .int .u16 e.j.nv, .int .u16 e.j.nx, .int .u16 e.j.nl, .int .i64 e.j.ne, .int .i64 e.j.nk, .bool e.j.two], .bool is]) ∧ Below w.heap.size w w' := by
  have HE := Lib.hid hE
  clear hE
  by_cases hlo : i ≤ l.b
  · obtain ⟨rfl, rfl⟩ : ent0 = e ∧ false = is := by have := h.out; rw [atL_low hlo] at this; exact ⟨congrArg Prod.fst this, congrArg Prod.snd this⟩
    clear h
    go_enter Tryz.func139, Tryz.ntmps139
    go_wp2_with fail
    refine bodyPost_ret (v := .tuple #[.agg #[.int .i64 0, .int .i64 0, .string ⟨#[]⟩, .int .u16 0, .int .u16 0, .int .u16 0, .int .i64 0, .int .i64 0, .int .u16 0, .int .u16 0, .int .u16 0, .int .i64 0, .int .i64 0, .bool false], .bool false]) (by simp [results, Tryz.results139, go_sem]) rfl ⟨rfl, ((Below.refl _ _).alloc (Nat.le_refl _) _).alloc (by simp) _⟩
  · obtain ⟨k, hk⟩ := Int.eq_ofNat_of_zero_le (show 0 ≤ i - l.b - 1 by omega)
    have HK := Lib.hid hk
    have hA := heap_prev (.cells #[.int .i64 0, .int .i64 0, .string ⟨#[]⟩, .int .u16 0, .int .u16 0, .int .u16 0, .int .i64 0, .int .i64 0, .int .u16 0, .int .u16 0, .int .u16 0, .int .i64 0, .int .i64 0, .bool false] 47) (heap_last w (.cells #[.int .i64 l.b, .int .i64 l.bt, .int .u16 l.j.ov, .int .u16 l.j.ox, .int .u16 l.j.ol, .int .i64 l.j.oe, .int .i64 l.j.ok, .int .u16 l.j.nv, .int .u16 l.j.nx, .int .u16 l.j.nl, .int .i64 l.j.ne, .int .i64 l.j.nk, .bool l.j.two, .slice p l.es.length c] 30))
    have hC := heap_last (w.alloc (.cells #[.int .i64 l.b, .int .i64 l.bt, .int .u16 l.j.ov, .int .u16 l.j.ox, .int .u16 l.j.ol, .int .i64 l.j.oe, .int .i64 l.j.ok, .int .u16 l.j.nv, .int .u16 l.j.nx, .int .u16 l.j.nl, .int .i64 l.j.ne, .int .i64 l.j.nk, .bool l.j.two, .slice p l.es.length c] 30)) (.cells #[.int .i64 0, .int .i64 0, .string ⟨#[]⟩, .int .u16 0, .int .u16 0, .int .u16 0, .int .i64 0, .int .i64 0, .int .u16 0, .int .u16 0, .int .u16 0, .int .i64 0, .int .i64 0, .bool false] 47)
    have hB : Below w.heap.size w ((w.alloc (.cells #[.int .i64 l.b, .int .i64 l.bt, .int .u16 l.j.ov, .int .u16 l.j.ox, .int .u16 l.j.ol, .int .i64 l.j.oe, .int .i64 l.j.ok, .int .u16 l.j.nv, .int .u16 l.j.nx, .int .u16 l.j.nl, .int .i64 l.j.ne, .int .i64 l.j.nk, .bool l.j.two, .slice p l.es.length c] 30)).alloc (.cells #[.int .i64 0, .int .i64 0, .string ⟨#[]⟩, .int .u16 0, .int .u16 0, .int .u16 0, .int .i64 0, .int .i64 0, .int .u16 0, .int .u16 0, .int .u16 0, .int .i64 0, .int .i64 0, .bool false] 47)) := ((Below.refl _ _).alloc (Nat.le_refl _) _).alloc (by simp) _
    simp only [World.size_alloc] at hC
    have HW := Lib.hid (And.intro hA (And.intro hC hB))
    clear hA hC hB
    have HL := Lib.hid (rlast_any l p c)
    by_cases hlt : k < l.es.length
    · obtain ⟨rfl, rfl⟩ : l.es[k] = e ∧ true = is := by have := h.out; rw [atL_in hk hlt] at this; exact ⟨congrArg Prod.fst this, congrArg Prod.snd this⟩
      have hlast : decide (l.last < i) = false := by rw [decide_eq_false_iff_not]; unfold Lg.last; omega
      clear h
      go_enter Tryz.func139, Tryz.ntmps139
      go_wp2_with fail
      refine (HL.out _ h0 h1 h2).mono ?_; rintro r w2 ⟨rfl, hb2⟩
      have hA2 := below_block hb2 (by simp; omega) HW.out.1
      have hC2 := below_block hb2 (by simp) HW.out.2.1
      have HB2 := Lib.hid (HW.out.2.2.trans (hb2.mono (by simp; omega)))
      have HE2 := HE.out.keep HB2.out (Nat.le_refl _)
      obtain ⟨g, o, cap, hv, hgl, hc⟩ := HE2.at k hlt
      simp only [Value.slice.injEq] at hv
      obtain ⟨rfl, -⟩ := hv
      obtain ⟨e, he⟩ : ∃ e, l.es[k] = e := ⟨_, rfl⟩
      rw [he] at hc
      have HEE := Lib.hid he
      have hq0 : w2.cell? ⟨g, o + k * 14, none⟩ = some (.int .i64 e.t) := hc 0 (by decide)
      have hq1 : w2.cell? ⟨g, o + k * 14 + 1, none⟩ = some (.int .i64 e.k) := hc 1 (by decide)
      have hq2 : w2.cell? ⟨g, o + k * 14 + 2, none⟩ = some (.string e.d) := hc 2 (by decide)
      have hq3 : w2.cell? ⟨g, o + k * 14 + 3, none⟩ = some (.int .u16 e.j.ov) := hc 3 (by decide)
      have hq4 : w2.cell? ⟨g, o + k * 14 + 4, none⟩ = some (.int .u16 e.j.ox) := hc 4 (by decide)
      have hq5 : w2.cell? ⟨g, o + k * 14 + 5, none⟩ = some (.int .u16 e.j.ol) := hc 5 (by decide)
      have hq6 : w2.cell? ⟨g, o + k * 14 + 6, none⟩ = some (.int .i64 e.j.oe) := hc 6 (by decide)
      have hq7 : w2.cell? ⟨g, o + k * 14 + 7, none⟩ = some (.int .i64 e.j.ok) := hc 7 (by decide)
      have hq8 : w2.cell? ⟨g, o + k * 14 + 8, none⟩ = some (.int .u16 e.j.nv) := hc 8 (by decide)
      have hq9 : w2.cell? ⟨g, o + k * 14 + 9, none⟩ = some (.int .u16 e.j.nx) := hc 9 (by decide)
      have hq10 : w2.cell? ⟨g, o + k * 14 + 10, none⟩ = some (.int .u16 e.j.nl) := hc 10 (by decide)
      have hq11 : w2.cell? ⟨g, o + k * 14 + 11, none⟩ = some (.int .i64 e.j.ne) := hc 11 (by decide)
      have hq12 : w2.cell? ⟨g, o + k * 14 + 12, none⟩ = some (.int .i64 e.j.nk) := hc 12 (by decide)
      have hq13 : w2.cell? ⟨g, o + k * 14 + 13, none⟩ = some (.bool e.j.two) := hc 13 (by decide)
      have kA := block_cells hA2
      have kC := block_cells hC2
      have fC := block_free hC2
      have HC2 := Lib.hid hC2
      clear hc he hk hb2 hA2 hC2 HE2
      go_upto_region 3 with fail
      rw [show w = w from rfl]
      have hkk := HK.out
      go_wp2_with fail
      have F := put14_ok HC2.out HB2.out (by omega) (.int .i64 e.t) (.int .i64 e.k) (.string e.d) (.int .u16 e.j.ov) (.int .u16 e.j.ox) (.int .u16 e.j.ol) (.int .i64 e.j.oe) (.int .i64 e.j.ok) (.int .u16 e.j.nv) (.int .u16 e.j.nx) (.int .u16 e.j.nl) (.int .i64 e.j.ne) (.int .i64 e.j.nk) (.bool e.j.two)
      have kF := block_cells F.1
      unfold put14 at F kF
      refine bodyPost_ret (v := .tuple #[.agg #[.int .i64 e.t, .int .i64 e.k, .string e.d, .int .u16 e.j.ov, .int .u16 e.j.ox, .int .u16 e.j.ol, .int .i64 e.j.oe, .int .i64 e.j.ok, .int .u16 e.j.nv, .int .u16 e.j.nx, .int .u16 e.j.nl, .int .i64 e.j.ne, .int .i64 e.j.nk, .bool e.j.two], .bool true]) ?_ rfl ?_
      · simp [results, Tryz.results139, go_sem, kF]
      · rw [HEE.out]; exact ⟨rfl, F.2⟩
    · obtain ⟨rfl, rfl⟩ : ent0 = e ∧ false = is := by have := h.out; rw [atL_high (by unfold Lg.last; omega) h0] at this; exact ⟨congrArg Prod.fst this, congrArg Prod.snd this⟩
      have hlast : decide (l.last < i) = true := by rw [decide_eq_true_iff]; unfold Lg.last; omega
      clear h hk
      go_enter Tryz.func139, Tryz.ntmps139
      go_wp2_with fail
      refine (HL.out _ h0 h1 h2).mono ?_; rintro r w2 ⟨rfl, hb2⟩
      have hC2 := below_block hb2 (by simp) HW.out.2.1
      have HB2 := Lib.hid (HW.out.2.2.trans (hb2.mono (by simp; omega)))
      have kC := block_cells hC2
      have fC := block_free hC2
      have HC2 := Lib.hid hC2
      clear hb2 hC2
      go_wp2_with fail
      have F := put14_ok HC2.out HB2.out (by omega) (.int .i64 0) (.int .i64 0) (.string ⟨#[]⟩) (.int .u16 0) (.int .u16 0) (.int .u16 0) (.int .i64 0) (.int .i64 0) (.int .u16 0) (.int .u16 0) (.int .u16 0) (.int .i64 0) (.int .i64 0) (.bool false)
      have kF := block_cells F.1
      unfold put14 at F kF
      refine bodyPost_ret (v := .tuple #[.agg #[.int .i64 0, .int .i64 0, .string ⟨#[]⟩, .int .u16 0, .int .u16 0, .int .u16 0, .int .i64 0, .int .i64 0, .int .u16 0, .int .u16 0, .int .u16 0, .int .i64 0, .int .i64 0, .bool false], .bool false]) ?_ rfl ⟨rfl, F.2⟩
      simp [results, Tryz.results139, go_sem, kF]
theorem rat_un (i : Int) (w : World) (h0 : 0 ≤ l.b) (h1 : l.b ≤ 1152921504606846976) (h2 : l.es.length ≤ 1000000) (i0 : -9223372036854775808 ≤ i) (i1 : i ≤ 9223372036854775807) (hE : EnSl w (.slice p l.es.length c) l.es) :
    ∃ e is, atL l i = (e, is) ∧ Calls Tryz.prog 139 #[.agg #[.int .i64 l.b, .int .i64 l.bt, .int .u16 l.j.ov, .int .u16 l.j.ox, .int .u16 l.j.ol, .int .i64 l.j.oe, .int .i64 l.j.ok, .int .u16 l.j.nv, .int .u16 l.j.nx, .int .u16 l.j.nl, .int .i64 l.j.ne, .int .i64 l.j.nk, .bool l.j.two, .slice p l.es.length c], .int .i64 i] w fun r w' => r = .returned (.tuple #[.agg #[.int .i64 e.t, .int .i64 e.k, .string e.d, .int .u16 e.j.ov, .int .u16 e.j.ox, .int .u16 e.j.ol, .int .i64 e.j.oe, .int .i64 e.j.ok, .int .u16 e.j.nv, .int .u16 e.j.nx, .int .u16 e.j.nl, .int .i64 e.j.ne, .int .i64 e.j.nk, .bool e.j.two], .bool is]) ∧ Below w.heap.size w w' := by
  obtain ⟨⟨e, is⟩, h⟩ : ∃ x, atL l i = x := ⟨_, rfl⟩
  exact ⟨e, is, h, rat_any l p c i w h0 h1 h2 i0 i1 hE h⟩
set_option maxRecDepth 100000 in
set_option maxHeartbeats 4000000 in
theorem rterm_any (i : Int) (w : World) (h0 : 0 ≤ l.b) (h1 : l.b ≤ 1152921504606846976) (h2 : l.es.length ≤ 1000000) (i0 : -9223372036854775808 ≤ i) (i1 : i ≤ 9223372036854775807) (hE : EnSl w (.slice p l.es.length c) l.es) {t : Int} {is : Bool} (h : Hid (termL l i = (t, is))) :
    Calls Tryz.prog 87 #[.agg #[.int .i64 l.b, .int .i64 l.bt, .int .u16 l.j.ov, .int .u16 l.j.ox, .int .u16 l.j.ol, .int .i64 l.j.oe, .int .i64 l.j.ok, .int .u16 l.j.nv, .int .u16 l.j.nx, .int .u16 l.j.nl, .int .i64 l.j.ne, .int .i64 l.j.nk, .bool l.j.two, .slice p l.es.length c], .int .i64 i] w fun r w' => r = .returned (.tuple #[.int .i64 t, .bool is]) ∧ Below w.heap.size w w' := by
  have HE := Lib.hid hE
  clear hE
  by_cases hb : i = l.b
  · obtain ⟨rfl, rfl⟩ : l.bt = t ∧ true = is := by have := h.out; rw [termL_base hb] at this; exact ⟨congrArg Prod.fst this, congrArg Prod.snd this⟩
    clear h
    subst hb
    go_enter Tryz.func87, Tryz.ntmps87
    go_wp2_with fail
    go_ret2
    exact ⟨rfl, (Below.refl _ _).alloc (Nat.le_refl _) _⟩
  · have hbox : Below w.heap.size w (w.alloc (.cells #[.int .i64 l.b, .int .i64 l.bt, .int .u16 l.j.ov, .int .u16 l.j.ox, .int .u16 l.j.ol, .int .i64 l.j.oe, .int .i64 l.j.ok, .int .u16 l.j.nv, .int .u16 l.j.nx, .int .u16 l.j.nl, .int .i64 l.j.ne, .int .i64 l.j.nk, .bool l.j.two, .slice p l.es.length c] 30)) := (Below.refl _ _).alloc (Nat.le_refl _) _
    obtain ⟨e, is', hat, hcall⟩ := rat_un l p c i _ h0 h1 h2 i0 i1 (HE.out.keep hbox (Nat.le_refl _))
    obtain ⟨rfl, rfl⟩ : e.t = t ∧ is' = is := by have := h.out; rw [termL_not hb, hat] at this; exact ⟨congrArg Prod.fst this, congrArg Prod.snd this⟩
    have HC := Lib.hid hcall; have HB := Lib.hid hbox
    have hbf : (i == l.b) = false := by simpa using hb
    clear h hat hcall hbox hb
    go_enter Tryz.func87, Tryz.ntmps87
    go_wp2_with fail
    refine HC.out.mono ?_; rintro r w2 ⟨rfl, hb2⟩
    have HB2 := Lib.hid (HB.out.trans (hb2.mono HB.out.size))
    clear hb2
    go_wp2_with fail
    go_ret2
    exact ⟨rfl, HB2.out.alloc HB2.out.size _⟩
end
end Go.Proofs.YtbnndbdnejfehaaGreatDoor
/- Logs: the plain law: which log is newer. -/
namespace Go.Proofs.YtbnndbdnejfehaaGreatDoor

def lastTerm (l : Lg) : Int := (termL l l.last).1
def newerL (l : Lg) (last term : Int) : Bool := decide (lastTerm l < term) || (decide (term = lastTerm l) && decide (l.last ≤ last))
end Go.Proofs.YtbnndbdnejfehaaGreatDoor
/- entries: Newer; the reference's. -/
namespace Go.Proofs.YtbnndbdnejfehaaGreatDoor
open Go.ChangeShapes Go.WideShapes Go.ChangeAt Go.RowKit

/-- A log that may be. -/
structure LgFit (l : Lg) : Prop where
  b0 : 0 ≤ l.b
  b1 : l.b ≤ 1152921504606846976
  n : l.es.length ≤ 1000000
theorem LgFit.last0 {l : Lg} (h : LgFit l) : -9223372036854775808 ≤ l.last ∧ l.last ≤ 9223372036854775807 := by
  have := h.b0; have := h.b1; have := h.n; unfold Lg.last; omega
section
variable (l : Lg) (p : Option Addr) (c : Nat)
theorem term_is (w : World) (hf : LgFit l) {i : Int} (hi : -9223372036854775808 ≤ i ∧ i ≤ 9223372036854775807) (hE : EnSl w (.slice p l.es.length c) l.es) :
    Calls Tryz.prog 65 #[.agg #[.int .i64 l.b, .int .i64 l.bt, .int .u16 l.j.ov, .int .u16 l.j.ox, .int .u16 l.j.ol, .int .i64 l.j.oe, .int .i64 l.j.ok, .int .u16 l.j.nv, .int .u16 l.j.nx, .int .u16 l.j.nl, .int .i64 l.j.ne, .int .i64 l.j.nk, .bool l.j.two, .slice p l.es.length c], .int .i64 i] w fun r w' => r = .returned (.tuple #[.int .i64 (termL l i).1, .bool (termL l i).2]) ∧ Below w.heap.size w w' :=
  term_any l p c i w hf.b0 hf.b1 hf.n hi.1 hi.2 hE rfl
theorem rterm_is (w : World) (hf : LgFit l) {i : Int} (hi : -9223372036854775808 ≤ i ∧ i ≤ 9223372036854775807) (hE : EnSl w (.slice p l.es.length c) l.es) :
    Calls Tryz.prog 87 #[.agg #[.int .i64 l.b, .int .i64 l.bt, .int .u16 l.j.ov, .int .u16 l.j.ox, .int .u16 l.j.ol, .int .i64 l.j.oe, .int .i64 l.j.ok, .int .u16 l.j.nv, .int .u16 l.j.nx, .int .u16 l.j.nl, .int .i64 l.j.ne, .int .i64 l.j.nk, .bool l.j.two, .slice p l.es.length c], .int .i64 i] w fun r w' => r = .returned (.tuple #[.int .i64 (termL l i).1, .bool (termL l i).2]) ∧ Below w.heap.size w w' :=
  rterm_any l p c i w hf.b0 hf.b1 hf.n hi.1 hi.2 hE rfl
end
end Go.Proofs.YtbnndbdnejfehaaGreatDoor
/- Logs: the plain law: a log of terms that rise by steps. -/
namespace Go.Proofs.YtbnndbdnejfehaaGreatDoor

def max1 (t : Int) : Int := if t < 1 then 1 else t
end Go.Proofs.YtbnndbdnejfehaaGreatDoor
/- The law's own logs. -/
namespace Go.Proofs.YtbnndbdnejfehaaGreatDoor
open Go.ChangeShapes Go.WideShapes Go.ChangeAt Go.RowKit

theorem Tryz.infoEn : (Tryz.prog.info? 47).map (fun i => (i.zero, i.size, i.bytes)) = some (some (.agg #[.int .i64 0, .int .i64 0, .string ⟨#[]⟩, .int .u16 0, .int .u16 0, .int .u16 0, .int .i64 0, .int .i64 0, .int .u16 0, .int .u16 0, .int .u16 0, .int .i64 0, .int .i64 0, .bool false]), 14, 88) := by kernel_rfl
theorem own_belowL {B : Nat} {w w' : World} {base : Nat} {e : TypeId} {size : Nat} {v : Value} {n : Nat} {xs : List Value} (h : w.ownsRow base e size v n xs) (hb : Below B w w') (hB : w.heap.size ≤ B) : w'.ownsRow base e size v n xs :=
  h.kept (row := none) ⟨hb.os, hb.tape, hb.output, hb.size, fun k hk _ => hb.block k (by omega)⟩ (by cases v.ownBlock <;> simp)
theorem own_geL {w : World} {base : Nat} {e : TypeId} {size : Nat} {v : Value} {n : Nat} {xs : List Value} (h : w.ownsRow base e size v n xs) : ∀ k, v.ownBlock = some k → base ≤ k ∧ k < w.heap.size := by
  intro k hk
  rcases h.2 with ⟨h3, h4⟩ | ⟨g, cap, cur, hv, hb, hg, -⟩
  · subst h3; simp [Value.ownBlock] at hk
  · subst hv
    have hkg : g = k := by simpa [Value.ownBlock] using hk
    subst hkg
    exact ⟨hb, block_lt hg⟩
theorem grown_setL {a w : World} {C : Nat} (h : a.grownBy w (some C)) (j : Nat) (v : Value) : a.grownBy (w.setCell ⟨C, j, none⟩ v) (some C) :=
  ⟨h.os, h.tape, h.output, by simpa [World.setCell] using h.size, fun k hk hne => (Below.heap_setCell _ _ _ _ (fun e => hne (by rw [e]))).trans (h.block k hk hne)⟩
theorem grown_reflL (w : World) (row : Option Nat) : w.grownBy w row := ⟨rfl, rfl, rfl, Nat.le_refl _, fun _ _ _ => rfl⟩
theorem put14_grown (w : World) (C : Nat) (x0 x1 x2 x3 x4 x5 x6 x7 x8 x9 x10 x11 x12 x13 : Value) : w.grownBy (put14 w C x0 x1 x2 x3 x4 x5 x6 x7 x8 x9 x10 x11 x12 x13) (some C) :=
  grown_setL (grown_setL (grown_setL (grown_setL (grown_setL (grown_setL (grown_setL (grown_setL (grown_setL (grown_setL (grown_setL (grown_setL (grown_setL (grown_setL (grown_reflL w _) 0 x0) 1 x1) 2 x2) 3 x3) 4 x4) 5 x5) 6 x6) 7 x7) 8 x8) 9 x9) 10 x10) 11 x11) 12 x12) 13 x13
theorem own_farL {w w' : World} {base : Nat} {e : TypeId} {size : Nat} {v : Value} {n : Nat} {xs : List Value} {C : Nat} (h : w.ownsRow base e size v n xs) (hg : w.grownBy w' (some C)) (hC : C < base) : w'.ownsRow base e size v n xs := by
  refine h.kept hg ?_
  cases hv : v.ownBlock with
  | none => exact .inl rfl
  | some g => right; intro he; have := (own_geL h g hv).1; simp only [Option.some.injEq] at he; omega
/-- A log in a memory of its own. -/
def LgEnd (B : Nat) (w : World) (m : Lg) (r : Ending) (w' : World) : Prop :=
  ∃ p c, r = .returned (.agg #[.int .i64 m.b, .int .i64 m.bt, .int .u16 m.j.ov, .int .u16 m.j.ox, .int .u16 m.j.ol, .int .i64 m.j.oe, .int .i64 m.j.ok, .int .u16 m.j.nv, .int .u16 m.j.nx, .int .u16 m.j.nl, .int .i64 m.j.ne, .int .i64 m.j.nk, .bool m.j.two, .slice p m.es.length c]) ∧ w'.ownsRow B 47 14 (.slice p m.es.length c) m.es.length (entRow m.es) ∧ Below w.heap.size w w'
end Go.Proofs.YtbnndbdnejfehaaGreatDoor
/- slices.Grow of nothing; slices.Concat of two lists of entries. -/
namespace Go.Proofs.YtbnndbdnejfehaaGreatDoor
open Go.ChangeShapes Go.WideShapes Go.ChangeAt Go.RowKit

set_option maxRecDepth 100000 in
set_option maxHeartbeats 4000000 in
theorem grow_nil (n : Nat) (hn : n ≤ 1000000) (w : World) :
    Calls Tryz.prog 156 #[.slice none 0 0, .int .i64 n] w fun r w' => ∃ v, r = .returned v ∧ w'.ownsRow w.heap.size 47 14 v 0 [] ∧ Below w.heap.size w w' := by
  obtain ⟨i0, hi, hz0, hz1, hz2⟩ := info_parts Tryz.infoEn
  rcases Nat.eq_zero_or_pos n with h0 | h0
  · subst h0
    rw [show ((0 : Nat) : Int) = 0 from rfl]
    go_enter Tryz.func156, Tryz.ntmps156
    go_wp2_with fail
    go_ret
    exact ⟨_, rfl, World.ownsRow_nil _ _ _ _, Below.refl _ _⟩
  · have hr := fun ty => Lib.run_append_nil_zeros (P := Tryz.prog) w 28 3 ty 47 i0 (.agg #[.int .i64 0, .int .i64 0, .string ⟨#[]⟩, .int .u16 0, .int .u16 0, .int .u16 0, .int .i64 0, .int .i64 0, .int .u16 0, .int .u16 0, .int .u16 0, .int .i64 0, .int .i64 0, .bool false]) .i64 .i64 Tryz.underlying28 Tryz.underlying3 hi hz0 n h0 (by rw [hz1]; omega) (by omega) (by rw [hz2]; omega)
    have HR := Lib.hid hr
    have d1 : decide ((n : Int) < 0) = false := by simp
    have d2 : decide ((0 : Int) < (n : Int)) = true := by simp; omega
    clear hr
    go_enter Tryz.func156, Tryz.ntmps156
    go_wp2_with (at_builtin; refine Lib.wpList_append_run _ rfl _ _ 28 3 rfl (.slice none 0 0) (.int .i64 n) rfl rfl _ _ (HR.out _) ?_)
    obtain ⟨C, hC⟩ : ∃ C, grownCap w n 0 47 = C := ⟨_, rfl⟩
    have hC1 : n ≤ C := by rw [← hC]; exact grownCap_ge _ _ _ _
    have hC2 : C ≤ maxLen := by rw [← hC]; exact grownCap_le_maxLen _ _ _ _ (by unfold maxLen; omega)
    rw [hC]
    clear hC
    go_wp2_with fail
    go_ret
    refine ⟨_, rfl, World.ownsRow_made w.drew _ C (Nat.le_refl _) hC2 ?_, ((Below.refl _ _).drew).alloc (Nat.le_refl _) _⟩
    rw [Array.size_append, size_zeroCells, size_zeroCells]
    show n * 14 + (C - n) * 14 = C * 14
    omega
set_option maxRecDepth 100000 in
set_option maxHeartbeats 4000000 in
theorem concat_two (L1 L2 : List Ent) (p1 p2 : Option Addr) (c1 c2 : Nat) (w : World) (R : Nat) (hR : w.heap[R]? = some (.cells #[.slice p1 L1.length c1, .slice p2 L2.length c2] 28 (0, 0))) (h1 : EnSl w (.slice p1 L1.length c1) L1) (h2 : EnSl w (.slice p2 L2.length c2) L2) (hn : L1.length + L2.length ≤ 1000000) :
    Calls Tryz.prog 151 #[.slice (some ⟨R, 0, none⟩) 2 2] w fun r w' => ∃ v, r = .returned v ∧ w'.ownsRow w.heap.size 47 14 v (L1.length + L2.length) (entRow (L1 ++ L2)) ∧ Below w.heap.size w w' := by
  obtain ⟨i0, hi, hz0, hz1, hz2⟩ := info_parts Tryz.infoEn
  have HR := Lib.hid hR
  have H1 := Lib.hid h1
  have H2 := Lib.hid h2
  have HAPP := Lib.hid (entRow_app L1 L2)
  have HL1 := Lib.hid (entC_one L1)
  have HL2 := Lib.hid (entC_one L2)
  have HG := Lib.hid (fun (W : World) => grow_nil (L1.length + L2.length) hn W)
  have kR := block_cells hR
  obtain ⟨n1, hn1⟩ : ∃ n, L1.length = n := ⟨_, rfl⟩
  obtain ⟨n2, hn2⟩ : ∃ n, L2.length = n := ⟨_, rfl⟩
  have H1' : Hid (Sl w.heap.size w (.slice p1 n1 c1) 14 n1 (entRow L1)) := by have := H1.out; unfold EnSl at this; rw [hn1] at this; exact this
  have H2' : Hid (Sl w.heap.size w (.slice p2 n2 c2) 14 n2 (entRow L2)) := by have := H2.out; unfold EnSl at this; rw [hn2] at this; exact this
  have HR2 : Hid (w.heap[R]? = some (.cells #[.slice p1 n1 c1, .slice p2 n2 c2] 28 (0, 0))) := by have := hR; rw [hn1, hn2] at this; exact this
  rw [hn1, hn2] at kR HG hn ⊢
  rw [Int.natCast_add] at HG
  have HRL := Lib.hid (block_lt hR)
  clear hR h1 h2 hn1 hn2 H1 H2
  go_enter Tryz.func151, Tryz.ntmps151
  go_wp2_with fail
  go_loopw [3, 11] (fun s i wr => w = wr ∧ ((i = .int .i64 0 ∧ s = .int .i64 0) ∨ (i = .int .i64 1 ∧ s = .int .i64 n1) ∨ (i = .int .i64 2 ∧ s = .int .i64 ((n1 : Int) + (n2 : Int))))) (fun _ i _ => 2 - (intOf i).toNat)
  case atStart => exact ⟨rfl, .inl ⟨rfl, rfl⟩⟩
  case round =>
    obtain ⟨rfl, ⟨rfl, rfl⟩ | ⟨rfl, rfl⟩ | ⟨rfl, rfl⟩⟩ := hrel
    · go_wp2_with fail
      go_roundw
      case rel => exact ⟨trivial, .inr (.inl ⟨by go_num, by go_num⟩)⟩
      case measure => simp [intOf]
    · go_wp2_with fail
      go_roundw
      case rel => exact ⟨trivial, .inr (.inr ⟨by go_num, by go_num⟩)⟩
      case measure => simp [intOf]
    · go_wp2_with fail
      refine (HG.out _).mono ?_; rintro r w1 ⟨v1, rfl, ho1, hb1⟩
      have HO1 := Lib.hid ho1; have HB1 := Lib.hid hb1
      have kR1 := block_cells (below_block hb1 HRL.out HR2.out)
      clear ho1 hb1 kR
      go_wp2_with fail
      go_loopw [6, 27] (fun v i wr => Hid (Below w.heap.size w wr) ∧ ((i = .int .i64 0 ∧ Hid (wr.ownsRow w.heap.size 47 14 v 0 [])) ∨ (i = .int .i64 1 ∧ Hid (wr.ownsRow w.heap.size 47 14 v n1 (entRow L1))) ∨ (i = .int .i64 2 ∧ Hid (wr.ownsRow w.heap.size 47 14 v (n1 + n2) (entRow L1 ++ entRow L2))))) (fun _ i _ => 2 - (intOf i).toNat)
      case atStart => exact ⟨HB1, .inl ⟨rfl, HO1⟩⟩
      case round =>
        obtain ⟨HB, ⟨rfl, HO⟩ | ⟨rfl, HO⟩ | ⟨rfl, HO⟩⟩ := hrel
        · obtain ⟨wk, rfl⟩ : ∃ wk : World, wk = wr := ⟨_, rfl⟩
          have kRk := block_cells (below_block HB.out HRL.out HR2.out)
          go_wp2_with (at_builtin; refine wpList_append_sl rfl _ _ 28 rfl w.heap.size 47 i0 (.agg #[.int .i64 0, .int .i64 0, .string ⟨#[]⟩, .int .u16 0, .int .u16 0, .int .u16 0, .int .i64 0, .int .i64 0, .int .u16 0, .int .u16 0, .int .u16 0, .int .i64 0, .int .i64 0, .bool false]) 14 88 Tryz.underlying28 hi hz0 hz1 hz2 rfl (by decide) _ 0 [] rfl HO.out w.heap.size _ n1 (entRow L1) rfl (H1'.out.keep HB.out) HL1.out ?_ ?_ HB.out.size ?_)
          · unfold maxLen; omega
          · omega
          intro v3 w3 hown3 hgrow3
          have HO3 : Hid (w3.ownsRow w.heap.size 47 14 v3 n1 (entRow L1)) := hown3
          have HB3 : Hid (Below w.heap.size w w3) := HB.out.grown hgrow3 HB.out.size (fun j hj => (HO.out.lt j hj).1)
          clear hown3 hgrow3
          go_wp2_with fail
          go_roundw
          case rel => exact ⟨HB3, .inr (.inl ⟨by go_num, HO3⟩)⟩
          case measure => simp [intOf]
        · obtain ⟨wk, rfl⟩ : ∃ wk : World, wk = wr := ⟨_, rfl⟩
          have kRk := block_cells (below_block HB.out HRL.out HR2.out)
          go_wp2_with (at_builtin; refine wpList_append_sl rfl _ _ 28 rfl w.heap.size 47 i0 (.agg #[.int .i64 0, .int .i64 0, .string ⟨#[]⟩, .int .u16 0, .int .u16 0, .int .u16 0, .int .i64 0, .int .i64 0, .int .u16 0, .int .u16 0, .int .u16 0, .int .i64 0, .int .i64 0, .bool false]) 14 88 Tryz.underlying28 hi hz0 hz1 hz2 rfl (by decide) _ n1 (entRow L1) rfl HO.out w.heap.size _ n2 (entRow L2) rfl (H2'.out.keep HB.out) HL2.out ?_ ?_ HB.out.size ?_)
          · unfold maxLen; omega
          · omega
          intro v3 w3 hown3 hgrow3
          have HO3 := Lib.hid hown3
          have HB3 : Hid (Below w.heap.size w w3) := HB.out.grown hgrow3 HB.out.size (fun j hj => (HO.out.lt j hj).1)
          clear hown3 hgrow3
          go_wp2_with fail
          go_roundw
          case rel => exact ⟨HB3, .inr (.inr ⟨by go_num, HO3⟩)⟩
          case measure => simp [intOf]
        · go_wp2_with fail
          go_ret
          exact ⟨_, rfl, by rw [HAPP.out]; exact HO.out, HB.out⟩
end Go.Proofs.YtbnndbdnejfehaaGreatDoor
/- Logs: the plain law: what is in force at the end of a log. -/
namespace Go.Proofs.YtbnndbdnejfehaaGreatDoor

def confF (j : Jn) (es : List Ent) : Jn := es.foldl (fun j e => if e.k = 2 then e.j else j) j
def confL (l : Lg) : Jn := confF l.j l.es
theorem confF_app (j : Jn) (a b : List Ent) : confF j (a ++ b) = confF (confF j a) b := by simp [confF]
theorem confF_none {j : Jn} {es : List Ent} (h : ∀ e ∈ es, e.k ≠ 2) : confF j es = j := by
  induction es generalizing j with
  | nil => rfl
  | cons x t ih =>
    have h1 : confF j (x :: t) = confF (if x.k = 2 then x.j else j) t := rfl
    rw [h1, if_neg (h x (by simp))]
    exact ih (fun e he => h e (by simp [he]))
theorem confF_at {j : Jn} {es : List Ent} {m : Nat} (hm : m < es.length) (hk : es[m].k = 2) (h : ∀ e ∈ es.drop (m + 1), e.k ≠ 2) : confF j es = es[m].j := by
  have hs : es = es.take m ++ (es[m] :: es.drop (m + 1)) := by rw [List.getElem_cons_drop, List.take_append_drop]
  have h1 : confF j es = confF (confF j (es.take m)) (es[m] :: es.drop (m + 1)) := by
    conv => lhs; rw [hs]
    rw [confF_app]
  have h2 : ∀ j', confF j' (es[m] :: es.drop (m + 1)) = confF (if es[m].k = 2 then es[m].j else j') (es.drop (m + 1)) := fun _ => rfl
  rw [h1, h2, if_pos hk, confF_none h]
end Go.Proofs.YtbnndbdnejfehaaGreatDoor
/- Logs: the plain law: what becomes of a log when another one's entries are merged, and when it is compacted. -/
namespace Go.Proofs.YtbnndbdnejfehaaGreatDoor

def frontL (l : Lg) (n : Nat) (L2 : List Ent) : Lg := ⟨l.b, l.bt, l.j, l.es.take n ++ L2⟩
/-- Is the k-th of the entries another one, or none? -/
def badL (l : Lg) (prev : Int) (es : List Ent) (k : Nat) : Bool := termL l (prev + 1 + k) != ((es.getD k ent0).t, true)
def cutAt (l : Lg) (prev : Int) (es : List Ent) : Option Nat := (List.range es.length).find? (badL l prev es)
/-- Behind prev, which the log has (or its base). -/
def joinL (l : Lg) (prev : Int) (es : List Ent) : Lg := match cutAt l prev es with
  | some k => frontL l (prev - l.b + k).toNat (es.drop k)
  | none => l
def refusedL (l : Lg) (prev term : Int) (n : Nat) : Bool := (decide (l.b ≤ prev) && (!(termL l prev).2 || decide ((termL l prev).1 ≠ term))) || (decide (prev < l.b) && decide ((n : Int) < l.b - prev))
def mergeL (l : Lg) (prev term : Int) (es : List Ent) : Lg × Int × Bool :=
  if l.last < prev ∨ prev < 0 then (l, 0, false)
  else if refusedL l prev term es.length then (l, 0, false)
  else if prev < l.b then (joinL l l.b (es.drop (l.b - prev).toNat), prev + es.length, true)
  else (joinL l prev es, prev + es.length, true)
/-- Entries up tq a number are forgotten. -/
def compactL (l : Lg) (tq : Int) : Lg × Int :=
  if (termL l tq).2 then (⟨tq, (termL l tq).1, confF l.j (l.es.take (tq - l.b).toNat), l.es.drop (tq - l.b).toNat⟩, 0) else (⟨0, 0, jn0, []⟩, 1)
end Go.Proofs.YtbnndbdnejfehaaGreatDoor
/- entries: front: a log with its first entries alone, and others behind. -/
namespace Go.Proofs.YtbnndbdnejfehaaGreatDoor
open Go.ChangeShapes Go.WideShapes Go.ChangeAt Go.RowKit

theorem entRow_take (L : List Ent) (n : Nat) : entRow (L.take n) = (entRow L).take (n * 14) := by
  induction L generalizing n with
  | nil => simp [entRow]
  | cons x t ih =>
    cases n with
    | zero => simp [entRow]
    | succ m =>
      have hl : (entC x).length = 14 := rfl
      have h2 : entRow (x :: t) = entC x ++ entRow t := rfl
      have h3 : entRow ((x :: t).take (m + 1)) = entC x ++ entRow (t.take m) := rfl
      rw [h3, h2, ih, List.take_append, hl, List.take_of_length_le (show (entC x).length ≤ (m + 1) * 14 by rw [hl]; omega), show (m + 1) * 14 - 14 = m * 14 by omega]
theorem EnSl.take {w : World} {p : Option Addr} {c : Nat} {L : List Ent} (h : EnSl w (.slice p L.length c) L) {n : Nat} (hn : n ≤ L.length) : EnSl w (.slice p (L.take n).length c) (L.take n) := by
  have hln : (L.take n).length = n := by rw [List.length_take]; omega
  unfold EnSl at h ⊢
  rw [hln]
  refine ⟨by rw [entRow_len, hln], ?_⟩
  rcases h.2 with ⟨h2, h3⟩ | ⟨ad, cap, h2, h3, h4, h5⟩
  · left; refine ⟨?_, by omega⟩
    simp only [Value.slice.injEq] at h2 ⊢
    exact ⟨h2.1, by omega, h2.2.2⟩
  · right
    simp only [Value.slice.injEq] at h2
    obtain ⟨rfl, -, rfl⟩ := h2
    refine ⟨ad, c, rfl, by omega, h4, fun h0 => ?_⟩
    obtain ⟨g, o, h6, h7, h8⟩ := h5 (by omega)
    refine ⟨g, o, h6, h7, fun j hj => ?_⟩
    rw [h8 j (by omega), entRow_take, List.getElem?_take, if_pos hj]
theorem own_slice {w : World} {base : Nat} {e : TypeId} {size : Nat} {v : Value} {n : Nat} {xs : List Value} (h : w.ownsRow base e size v n xs) : ∃ p c, v = .slice p n c := by
  rcases h.2 with ⟨h3, h4⟩ | ⟨g, cap, cur, hv, hb, hg, -⟩
  · subst h4; exact ⟨_, _, h3⟩
  · exact ⟨_, _, hv⟩
theorem heap_atL {w : World} {o : Obj} {n : Nat} (h : w.heap.size = n) : (w.alloc o).heap[n]? = some o := by subst h; exact heap_last w o
set_option maxRecDepth 100000 in
set_option maxHeartbeats 4000000 in
theorem front_any (l : Lg) (p : Option Addr) (c n : Nat) (L2 : List Ent) (p2 : Option Addr) (c2 : Nat) (w : World) (hn : n ≤ l.es.length) (hE : EnSl w (.slice p l.es.length c) l.es) (h2 : EnSl w (.slice p2 L2.length c2) L2) (hl : l.es.length + L2.length ≤ 1000000) :
    Calls Tryz.prog 137 #[.agg #[.int .i64 l.b, .int .i64 l.bt, .int .u16 l.j.ov, .int .u16 l.j.ox, .int .u16 l.j.ol, .int .i64 l.j.oe, .int .i64 l.j.ok, .int .u16 l.j.nv, .int .u16 l.j.nx, .int .u16 l.j.nl, .int .i64 l.j.ne, .int .i64 l.j.nk, .bool l.j.two, .slice p l.es.length c], .int .i64 n, .slice p2 L2.length c2] w (LgEnd w.heap.size w (frontL l n L2)) := by
  obtain ⟨p', c', he, hc1, hc2⟩ := hE.form
  simp only [Value.slice.injEq] at he
  obtain ⟨rfl, -, rfl⟩ := he
  unfold maxLen at hc2
  have hnc : n ≤ c := by omega
  have hln : (l.es.take n).length = n := by rw [List.length_take]; omega
  have HLN := Lib.hid hln
  have HE1 := Lib.hid (hE.take hn)
  have HE2 := Lib.hid h2
  clear hE h2 hln
  go_enter Tryz.func137, Tryz.ntmps137
  go_wp2_with fail
  refine (concat_two (l.es.take n) L2 p p2 c c2 _ (w.heap.size + 1 + 1) ?_ ?_ ?_ ?_).mono ?_
  · rw [HLN.out]; exact heap_atL (by simp)
  · exact HE1.out.keep (B := w.heap.size) ((((Below.refl _ _).alloc (Nat.le_refl _) _).alloc (by simp) _).alloc (by simp; omega) _) (Nat.le_refl _)
  · exact HE2.out.keep (B := w.heap.size) ((((Below.refl _ _).alloc (Nat.le_refl _) _).alloc (by simp) _).alloc (by simp; omega) _) (Nat.le_refl _)
  · rw [HLN.out]; omega
  rintro r w2 ⟨v, rfl, ho, hb⟩
  obtain ⟨p3, c3, rfl⟩ := own_slice ho
  rw [HLN.out] at ho ⊢
  have hA2 := below_block (n := w.heap.size) hb (by simp; omega) (heap_prev _ (heap_prev _ (heap_last w _)))
  have hZ2 := below_block (n := w.heap.size + 1) hb (by simp) (heap_prev _ (heap_atL (by simp)))
  have hbw : Below w.heap.size w w2 := Below.trans ((((Below.refl _ _).alloc (Nat.le_refl _) _).alloc (by simp) _).alloc (by simp; omega) _) (hb.mono (by simp; omega))
  have HO := Lib.hid (ho.mono (base' := w.heap.size + 2) (by simp))
  have HBW := Lib.hid hbw
  have HA2 := Lib.hid hA2
  have HZ2 := Lib.hid hZ2
  have kA := block_cells hA2
  have fA := block_free hA2
  have kZ := block_cells hZ2
  have fZ := block_free hZ2
  clear ho hb hbw hA2 hZ2
  go_wp2_with fail
  obtain ⟨S, hS⟩ : ∃ S, Value.slice p3 (n + L2.length) c3 = S := ⟨_, rfl⟩
  have hZ3 : (w2.setCell ⟨w.heap.size, 13, none⟩ (.slice p3 (n + L2.length) c3)).heap[w.heap.size + 1]? = _ := (Below.heap_setCell _ _ _ _ (by simp)).trans HZ2.out
  have hb3 : Below w.heap.size w (w2.setCell ⟨w.heap.size, 13, none⟩ (.slice p3 (n + L2.length) c3)) := HBW.out.setCell (Nat.le_refl _) _
  have F := put14_ok hZ3 hb3 (Nat.le_succ _) (.int .i64 l.b) (.int .i64 l.bt) (.int .u16 l.j.ov) (.int .u16 l.j.ox) (.int .u16 l.j.ol) (.int .i64 l.j.oe) (.int .i64 l.j.ok) (.int .u16 l.j.nv) (.int .u16 l.j.nx) (.int .u16 l.j.nl) (.int .i64 l.j.ne) (.int .i64 l.j.nk) (.bool l.j.two) (.slice p3 (n + L2.length) c3)
  have kF := block_cells F.1
  have G := own_farL (own_farL HO.out (grown_setL (grown_reflL w2 (some w.heap.size)) 13 (.slice p3 (n + L2.length) c3)) (by omega)) (put14_grown (w2.setCell ⟨w.heap.size, 13, none⟩ (.slice p3 (n + L2.length) c3)) (w.heap.size + 1) (.int .i64 l.b) (.int .i64 l.bt) (.int .u16 l.j.ov) (.int .u16 l.j.ox) (.int .u16 l.j.ol) (.int .i64 l.j.oe) (.int .i64 l.j.ok) (.int .u16 l.j.nv) (.int .u16 l.j.nx) (.int .u16 l.j.nl) (.int .i64 l.j.ne) (.int .i64 l.j.nk) (.bool l.j.two) (.slice p3 (n + L2.length) c3)) (by omega)
  unfold put14 at F kF G
  clear hS
  have hlen : (frontL l n L2).es.length = n + L2.length := by show (l.es.take n ++ L2).length = _; rw [List.length_append, HLN.out]
  refine bodyPost_ret (v := .agg #[.int .i64 l.b, .int .i64 l.bt, .int .u16 l.j.ov, .int .u16 l.j.ox, .int .u16 l.j.ol, .int .i64 l.j.oe, .int .i64 l.j.ok, .int .u16 l.j.nv, .int .u16 l.j.nx, .int .u16 l.j.nl, .int .i64 l.j.ne, .int .i64 l.j.nk, .bool l.j.two, .slice p3 (n + L2.length) c3]) ?_ rfl ?_
  · simp [results, Tryz.results137, go_sem, kF]
  · refine ⟨p3, c3, by rw [hlen]; rfl, ?_, F.2⟩
    rw [hlen]
    exact G.mono (by omega)
end Go.Proofs.YtbnndbdnejfehaaGreatDoor
/- Entries from k on. -/
namespace Go.Proofs.YtbnndbdnejfehaaGreatDoor
open Go.ChangeShapes Go.WideShapes Go.ChangeAt Go.RowKit

theorem entRow_drop (L : List Ent) (n : Nat) : entRow (L.drop n) = (entRow L).drop (n * 14) := by
  induction L generalizing n with
  | nil => simp [entRow]
  | cons x t ih =>
    cases n with
    | zero => simp
    | succ m =>
      have hl : (entC x).length = 14 := rfl
      have h2 : entRow (x :: t) = entC x ++ entRow t := rfl
      have h3 : (x :: t).drop (m + 1) = t.drop m := rfl
      rw [h3, h2, ih, List.drop_append, hl, List.drop_eq_nil_of_le (show (entC x).length ≤ (m + 1) * 14 by rw [hl]; omega), show (m + 1) * 14 - 14 = m * 14 by omega]
      rfl
/-- From k on: the address goes up by k entries. -/
theorem EnSl.drop {w : World} {p : Option Addr} {c : Nat} {L : List Ent} (h : EnSl w (.slice p L.length c) L) {k : Nat} (hk : k ≤ L.length) : EnSl w (.slice (Option.map (fun x => x.add (k * 14)) p) (L.drop k).length (c - k)) (L.drop k) := by
  have hln : (L.drop k).length = L.length - k := by rw [List.length_drop]
  unfold EnSl at h ⊢
  rw [hln]
  refine ⟨by rw [entRow_len, hln], ?_⟩
  rcases h.2 with ⟨h2, h3⟩ | ⟨ad, cap, h2, h3, h4, h5⟩
  · left
    simp only [Value.slice.injEq] at h2
    obtain ⟨rfl, h6, rfl⟩ := h2
    exact ⟨by simp [h6], by omega⟩
  · right
    simp only [Value.slice.injEq] at h2
    obtain ⟨rfl, -, rfl⟩ := h2
    refine ⟨ad.add (k * 14), c - k, rfl, by omega, by omega, fun h0 => ?_⟩
    obtain ⟨g, o, rfl, h7, h8⟩ := h5 (by omega)
    refine ⟨g, o + k * 14, by unfold Addr.add; split <;> simp_all, h7, fun j hj => ?_⟩
    rw [Nat.add_assoc, h8 _ (by omega), entRow_drop, List.getElem?_drop]
/-- Nothing is left: any address. -/
theorem EnSl.drop0 {w : World} {q : Option Addr} {c' : Nat} {L : List Ent} {k : Nat} (hk : L.length ≤ k) (hc : c' ≤ maxLen) (hq : q = none → c' = 0) : EnSl w (.slice q (L.drop k).length c') (L.drop k) := by
  have hd : L.drop k = [] := List.drop_eq_nil_of_le hk
  rw [hd]
  refine ⟨rfl, ?_⟩
  cases q with
  | none => left; rw [hq rfl]; exact ⟨rfl, rfl⟩
  | some a => right; exact ⟨a, c', rfl, Nat.zero_le _, hc, fun h => absurd h (Nat.lt_irrefl 0)⟩
/-- From k on, as the program has it: at the capacity's end the address stays. -/
theorem EnSl.drop_if {w : World} {p : Option Addr} {c : Nat} {L : List Ent} (h : EnSl w (.slice p L.length c) L) {k : Nat} (hk : k ≤ L.length) : EnSl w (.slice (if c = k then p else Option.map (fun x => x.add (k * 14)) p) (L.length - k) (c - k)) (L.drop k) := by
  have hln : L.length - k = (L.drop k).length := by rw [List.length_drop]
  rw [hln]
  split
  · rename_i hc
    obtain ⟨p', c', he, hc1, hc2⟩ := h.form
    simp only [Value.slice.injEq] at he
    obtain ⟨rfl, -, rfl⟩ := he
    exact EnSl.drop0 (by omega) (by omega) (fun _ => by omega)
  · exact h.drop hk
end Go.Proofs.YtbnndbdnejfehaaGreatDoor
