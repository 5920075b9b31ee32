import Derived.Test.YtjaabakobpabjaaCalm
import Derived.Deep.DeepCutAuto
import Derived.WalkKit
import Derived.Test.YtjaabakobpabjaaProg
import Derived.StillTailTactics
import Derived.StillTail
/- entries: Last, At, Term; the reference's. -/
namespace Go.Proofs.Ytjaabakobpabjaa
open Go.ChangeShapes Go.WideShapes Go.ChangeAt Go.RowKit

theorem ret_intL {k : IntKind} {a b : Int} (h : a = b) : Ending.returned (.int k a) = .returned (.int k b) := by rw [h]
def entC (e : Ent) : List Value := [.int .i64 e.t, .int .i64 e.k, .string e.d, .int .u16 e.j.ov, .int .u16 e.j.ox, .int .u16 e.j.ol, .int .i64 e.j.oe, .int .i64 e.j.ok, .int .u16 e.j.nv, .int .u16 e.j.nx, .int .u16 e.j.nl, .int .i64 e.j.ne, .int .i64 e.j.nk, .bool e.j.two]
def entRow (L : List Ent) : List Value := L.flatMap entC
theorem entRow_len (L : List Ent) : (entRow L).length = L.length * 14 := by
  induction L with
  | nil => rfl
  | cons x t ih => simp only [entRow, List.flatMap_cons, List.length_append, List.length_cons] at ih ⊢; rw [ih]; simp [entC]; omega
theorem entRow_app (L M : List Ent) : entRow (L ++ M) = entRow L ++ entRow M := by simp [entRow]
theorem entC_one (L : List Ent) : ∀ u ∈ entRow L, u.oneCell' = true := by
  intro u hu
  obtain ⟨e, -, hu⟩ := List.mem_flatMap.1 hu
  simp only [entC, List.mem_cons, List.not_mem_nil, or_false] at hu
  rcases hu with rfl | rfl | rfl | rfl | rfl | rfl | rfl | rfl | rfl | rfl | rfl | rfl | rfl | rfl <;> rfl
theorem entRow_get {L : List Ent} {k j : Nat} (hk : k < L.length) (hj : j < 14) : (entRow L)[k * 14 + j]? = (entC L[k])[j]? := by
  induction L generalizing k with
  | nil => simp at hk
  | cons x t ih =>
    have hl : (entC x).length = 14 := rfl
    cases k with
    | zero => simp only [entRow, List.flatMap_cons, List.getElem_cons_zero]; rw [List.getElem?_append_left (by rw [hl]; omega), Nat.zero_mul, Nat.zero_add]
    | succ k =>
      simp only [entRow, List.flatMap_cons, List.getElem_cons_succ]
      rw [List.getElem?_append_right (by rw [hl]; omega), hl, show (k + 1) * 14 + j - 14 = k * 14 + j by omega]
      exact ih (by simpa using hk)
/-- A slice of entries, whoever owns it. -/
def EnSl (w : World) (v : Value) (L : List Ent) : Prop := Sl w.heap.size w v 14 L.length (entRow L)
theorem EnSl.keep {w w' : World} {v : Value} {L : List Ent} {B : Nat} (h : EnSl w v L) (hb : Below B w w') (hB : w.heap.size ≤ B) : EnSl w' v L := (Sl.keep h (hb.mono hB)).mono hb.size
theorem EnSl.form {w : World} {v : Value} {L : List Ent} (h : EnSl w v L) : ∃ p cap, v = .slice p L.length cap ∧ L.length ≤ cap ∧ cap ≤ maxLen := by
  rcases h.2 with ⟨h2, h3⟩ | ⟨ad, cap', h2, h3, h4, h5⟩
  · exact ⟨none, 0, by rw [h2, h3], by omega, by unfold maxLen; omega⟩
  · exact ⟨_, cap', h2, h3, h4⟩
theorem EnSl.at {w : World} {v : Value} {L : List Ent} (h : EnSl w v L) (k : Nat) (hk : k < L.length) : ∃ g o cap, v = .slice (some ⟨g, o, none⟩) L.length cap ∧ g < w.heap.size ∧ ∀ j, j < 14 → w.cell? ⟨g, o + k * 14 + j, none⟩ = (entC L[k])[j]? := by
  rcases h.2 with ⟨h2, h3⟩ | ⟨ad, cap', h2, h3, h4, h5⟩
  · omega
  · obtain ⟨g', o', rfl, h6, h7⟩ := h5 (by omega)
    exact ⟨g', o', cap', h2, h6, fun j hj => by rw [Nat.add_assoc, h7 _ (by omega), entRow_get hk hj]⟩
section
variable (l : Lg) (p : Option Addr) (c : Nat)
set_option maxHeartbeats 400000 in
theorem last_any (w : World) (h0 : 0 ≤ l.b) (h1 : l.b ≤ 1152921504606846976) (h2 : l.es.length ≤ 1000000) :
    Calls Try.prog 43 #[.agg #[.int .i64 l.b, .int .i64 l.bt, .int .u16 l.j.ov, .int .u16 l.j.ox, .int .u16 l.j.ol, .int .i64 l.j.oe, .int .i64 l.j.ok, .int .u16 l.j.nv, .int .u16 l.j.nx, .int .u16 l.j.nl, .int .i64 l.j.ne, .int .i64 l.j.nk, .bool l.j.two, .slice p l.es.length c]] w fun r w' => r = .returned (.int .i64 l.last) ∧ Below w.heap.size w w' := by
  have HE : Hid (l.last = l.b + l.es.length) := rfl
  go_enter Try.func43, Try.ntmps43
  go_wp2_with fail
  go_ret
  exact ⟨ret_intL HE.out.symm, (Below.refl _ _).alloc (Nat.le_refl _) _⟩
set_option maxRecDepth 100000 in
set_option maxHeartbeats 4000000 in
theorem at_any (i : Int) (w : World) (h0 : 0 ≤ l.b) (h1 : l.b ≤ 1152921504606846976) (_h2 : l.es.length ≤ 1000000) (i0 : -9223372036854775808 ≤ i) (i1 : i ≤ 9223372036854775807) (hE : EnSl w (.slice p l.es.length c) l.es) {e : Ent} {is : Bool} (h : Hid (atL l i = (e, is))) :
    Calls Try.prog 42 #[.agg #[.int .i64 l.b, .int .i64 l.bt, .int .u16 l.j.ov, .int .u16 l.j.ox, .int .u16 l.j.ol, .int .i64 l.j.oe, .int .i64 l.j.ok, .int .u16 l.j.nv, .int .u16 l.j.nx, .int .u16 l.j.nl, .int .i64 l.j.ne, .int .i64 l.j.nk, .bool l.j.two, .slice p l.es.length c], .int .i64 i] w fun r w' => r = .returned (.tuple #[.agg #[.int .i64 e.t, .int .i64 e.k, .string e.d, .int .u16 e.j.ov, .int .u16 e.j.ox, .int .u16 e.j.ol, .int .i64 e.j.oe, .int .i64 e.j.ok, .int .u16 e.j.nv, .int .u16 e.j.nx, .int .u16 e.j.nl, .int .i64 e.j.ne, .int .i64 e.j.nk, .bool e.j.two], .bool is]) ∧ Below w.heap.size w w' := by
  have HE := Lib.hid hE
  clear hE
  by_cases hlo : i ≤ l.b
  · obtain ⟨rfl, rfl⟩ : ent0 = e ∧ false = is := by have := h.out; rw [atL_low hlo] at this; exact ⟨congrArg Prod.fst this, congrArg Prod.snd this⟩
    clear h
    go_enter Try.func42, Try.ntmps42
    go_wp2_with fail
    refine bodyPost_ret (v := .tuple #[.agg #[.int .i64 0, .int .i64 0, .string ⟨#[]⟩, .int .u16 0, .int .u16 0, .int .u16 0, .int .i64 0, .int .i64 0, .int .u16 0, .int .u16 0, .int .u16 0, .int .i64 0, .int .i64 0, .bool false], .bool false]) (by simp [results, Try.results42, go_sem]) rfl ⟨rfl, ((Below.refl _ _).alloc (Nat.le_refl _) _).alloc (by simp) _⟩
  · obtain ⟨k, hk⟩ := Int.eq_ofNat_of_zero_le (show 0 ≤ i - l.b - 1 by omega)
    have HK := Lib.hid hk
    by_cases hlt : k < l.es.length
    · obtain ⟨rfl, rfl⟩ : l.es[k] = e ∧ true = is := by have := h.out; rw [atL_in hk hlt] at this; exact ⟨congrArg Prod.fst this, congrArg Prod.snd this⟩
      obtain ⟨g, o, cap, hv, hgl, hc⟩ := HE.out.at k hlt
      simp only [Value.slice.injEq] at hv
      obtain ⟨rfl, -⟩ := hv
      obtain ⟨e, he⟩ : ∃ e, l.es[k] = e := ⟨_, rfl⟩
      rw [he] at hc ⊢
      have hq0 : w.cell? ⟨g, o + k * 14, none⟩ = some (.int .i64 e.t) := hc 0 (by decide)
      have hq1 : w.cell? ⟨g, o + k * 14 + 1, none⟩ = some (.int .i64 e.k) := hc 1 (by decide)
      have hq2 : w.cell? ⟨g, o + k * 14 + 2, none⟩ = some (.string e.d) := hc 2 (by decide)
      have hq3 : w.cell? ⟨g, o + k * 14 + 3, none⟩ = some (.int .u16 e.j.ov) := hc 3 (by decide)
      have hq4 : w.cell? ⟨g, o + k * 14 + 4, none⟩ = some (.int .u16 e.j.ox) := hc 4 (by decide)
      have hq5 : w.cell? ⟨g, o + k * 14 + 5, none⟩ = some (.int .u16 e.j.ol) := hc 5 (by decide)
      have hq6 : w.cell? ⟨g, o + k * 14 + 6, none⟩ = some (.int .i64 e.j.oe) := hc 6 (by decide)
      have hq7 : w.cell? ⟨g, o + k * 14 + 7, none⟩ = some (.int .i64 e.j.ok) := hc 7 (by decide)
      have hq8 : w.cell? ⟨g, o + k * 14 + 8, none⟩ = some (.int .u16 e.j.nv) := hc 8 (by decide)
      have hq9 : w.cell? ⟨g, o + k * 14 + 9, none⟩ = some (.int .u16 e.j.nx) := hc 9 (by decide)
      have hq10 : w.cell? ⟨g, o + k * 14 + 10, none⟩ = some (.int .u16 e.j.nl) := hc 10 (by decide)
      have hq11 : w.cell? ⟨g, o + k * 14 + 11, none⟩ = some (.int .i64 e.j.ne) := hc 11 (by decide)
      have hq12 : w.cell? ⟨g, o + k * 14 + 12, none⟩ = some (.int .i64 e.j.nk) := hc 12 (by decide)
      have hq13 : w.cell? ⟨g, o + k * 14 + 13, none⟩ = some (.bool e.j.two) := hc 13 (by decide)
      have hgw : g ≠ w.heap.size := by omega
      have hgw' : g ≠ w.heap.size + 1 := by omega
      clear h hc he hk
      go_enter Try.func42, Try.ntmps42
      go_upto_region 4 with fail
      rw [HK.out]
      go_wp2_with fail
      refine bodyPost_ret (v := .tuple #[.agg #[.int .i64 e.t, .int .i64 e.k, .string e.d, .int .u16 e.j.ov, .int .u16 e.j.ox, .int .u16 e.j.ol, .int .i64 e.j.oe, .int .i64 e.j.ok, .int .u16 e.j.nv, .int .u16 e.j.nx, .int .u16 e.j.nl, .int .i64 e.j.ne, .int .i64 e.j.nk, .bool e.j.two], .bool true]) (by simp [results, Try.results42, go_sem]) rfl ⟨rfl, ((Below.refl _ _).alloc (Nat.le_refl _) _).alloc (by simp) _⟩
    · obtain ⟨rfl, rfl⟩ : ent0 = e ∧ false = is := by have := h.out; rw [atL_high (by unfold Lg.last; omega) h0] at this; exact ⟨congrArg Prod.fst this, congrArg Prod.snd this⟩
      clear h hk
      go_enter Try.func42, Try.ntmps42
      go_upto_region 4 with fail
      rw [HK.out]
      go_wp2_with fail
      refine bodyPost_ret (v := .tuple #[.agg #[.int .i64 0, .int .i64 0, .string ⟨#[]⟩, .int .u16 0, .int .u16 0, .int .u16 0, .int .i64 0, .int .i64 0, .int .u16 0, .int .u16 0, .int .u16 0, .int .i64 0, .int .i64 0, .bool false], .bool false]) (by simp [results, Try.results42, go_sem]) rfl ⟨rfl, ((Below.refl _ _).alloc (Nat.le_refl _) _).alloc (by simp) _⟩
theorem at_un (i : Int) (w : World) (h0 : 0 ≤ l.b) (h1 : l.b ≤ 1152921504606846976) (h2 : l.es.length ≤ 1000000) (i0 : -9223372036854775808 ≤ i) (i1 : i ≤ 9223372036854775807) (hE : EnSl w (.slice p l.es.length c) l.es) :
    ∃ e is, atL l i = (e, is) ∧ Calls Try.prog 42 #[.agg #[.int .i64 l.b, .int .i64 l.bt, .int .u16 l.j.ov, .int .u16 l.j.ox, .int .u16 l.j.ol, .int .i64 l.j.oe, .int .i64 l.j.ok, .int .u16 l.j.nv, .int .u16 l.j.nx, .int .u16 l.j.nl, .int .i64 l.j.ne, .int .i64 l.j.nk, .bool l.j.two, .slice p l.es.length c], .int .i64 i] w fun r w' => r = .returned (.tuple #[.agg #[.int .i64 e.t, .int .i64 e.k, .string e.d, .int .u16 e.j.ov, .int .u16 e.j.ox, .int .u16 e.j.ol, .int .i64 e.j.oe, .int .i64 e.j.ok, .int .u16 e.j.nv, .int .u16 e.j.nx, .int .u16 e.j.nl, .int .i64 e.j.ne, .int .i64 e.j.nk, .bool e.j.two], .bool is]) ∧ Below w.heap.size w w' := by
  obtain ⟨⟨e, is⟩, h⟩ : ∃ x, atL l i = x := ⟨_, rfl⟩
  exact ⟨e, is, h, at_any l p c i w h0 h1 h2 i0 i1 hE h⟩
set_option maxRecDepth 100000 in
set_option maxHeartbeats 4000000 in
theorem term_any (i : Int) (w : World) (h0 : 0 ≤ l.b) (h1 : l.b ≤ 1152921504606846976) (h2 : l.es.length ≤ 1000000) (i0 : -9223372036854775808 ≤ i) (i1 : i ≤ 9223372036854775807) (hE : EnSl w (.slice p l.es.length c) l.es) {t : Int} {is : Bool} (h : Hid (termL l i = (t, is))) :
    Calls Try.prog 41 #[.agg #[.int .i64 l.b, .int .i64 l.bt, .int .u16 l.j.ov, .int .u16 l.j.ox, .int .u16 l.j.ol, .int .i64 l.j.oe, .int .i64 l.j.ok, .int .u16 l.j.nv, .int .u16 l.j.nx, .int .u16 l.j.nl, .int .i64 l.j.ne, .int .i64 l.j.nk, .bool l.j.two, .slice p l.es.length c], .int .i64 i] w fun r w' => r = .returned (.tuple #[.int .i64 t, .bool is]) ∧ Below w.heap.size w w' := by
  have HE := Lib.hid hE
  clear hE
  by_cases hb : i = l.b
  · obtain ⟨rfl, rfl⟩ : l.bt = t ∧ true = is := by have := h.out; rw [termL_base hb] at this; exact ⟨congrArg Prod.fst this, congrArg Prod.snd this⟩
    clear h
    subst hb
    go_enter Try.func41, Try.ntmps41
    go_wp2_with fail
    go_ret2
    exact ⟨rfl, (Below.refl _ _).alloc (Nat.le_refl _) _⟩
  · have hbox : Below w.heap.size w (w.alloc (.cells #[.int .i64 l.b, .int .i64 l.bt, .int .u16 l.j.ov, .int .u16 l.j.ox, .int .u16 l.j.ol, .int .i64 l.j.oe, .int .i64 l.j.ok, .int .u16 l.j.nv, .int .u16 l.j.nx, .int .u16 l.j.nl, .int .i64 l.j.ne, .int .i64 l.j.nk, .bool l.j.two, .slice p l.es.length c] 45)) := (Below.refl _ _).alloc (Nat.le_refl _) _
    obtain ⟨e, is', hat, hcall⟩ := at_un l p c i _ h0 h1 h2 i0 i1 (HE.out.keep hbox (Nat.le_refl _))
    obtain ⟨rfl, rfl⟩ : e.t = t ∧ is' = is := by have := h.out; rw [termL_not hb, hat] at this; exact ⟨congrArg Prod.fst this, congrArg Prod.snd this⟩
    have HC := Lib.hid hcall; have HB := Lib.hid hbox
    have hbf : (i == l.b) = false := by simpa using hb
    clear h hat hcall hbox hb
    go_enter Try.func41, Try.ntmps41
    go_wp2_with fail
    refine HC.out.mono ?_; rintro r w2 ⟨rfl, hb2⟩
    have HB2 := Lib.hid (HB.out.trans (hb2.mono HB.out.size))
    clear hb2
    go_wp2_with fail
    go_ret2
    exact ⟨rfl, HB2.out.alloc HB2.out.size _⟩
end
end Go.Proofs.Ytjaabakobpabjaa
/- What stamps and attempts compute, in plain words: which one is ahead, the later one, ties, clocks. -/
namespace Go.Proofs.Ytjaabakobpabjaa

end Go.Proofs.Ytjaabakobpabjaa
/- Contracts of package stamp and of its reference: which stamp, which attempt is ahead; the later one. -/
namespace Go.Proofs.Ytjaabakobpabjaa
open Go.RowKit

end Go.Proofs.Ytjaabakobpabjaa
/- A region that draws its order: a head whose operations are quiet in a class of worlds (calls that make memory among them), and a tail in one forced order, walked in whatever world of the class the head leaves. -/
namespace Go.Proofs.Ytjaabakobpabjaa
open Go.RowKit

section
variable {P : Program} {ops : Array Oper} {md : Region.Mode} {C : World → Prop}

end
end Go.Proofs.Ytjaabakobpabjaa
