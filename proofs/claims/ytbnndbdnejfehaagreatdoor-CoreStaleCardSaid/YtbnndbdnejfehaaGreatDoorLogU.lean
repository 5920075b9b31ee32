import Derived.Test.YtbnndbdnejfehaaGreatDoorLogJ
import Derived.Test.YtbnndbdnejfehaaGreatDoorLogP
import Derived.Lib.MinMax
/- entries: Slice. -/
namespace Go.Proofs.YtbnndbdnejfehaaGreatDoor
open Go.ChangeShapes Go.WideShapes Go.ChangeAt Go.RowKit

def fromK (l : Lg) (from' : Int) : Nat := if l.b < from' then min (from' - l.b - 1).toNat l.es.length else 0
def sliceL (l : Lg) (from' most : Int) : List Ent := (l.es.drop (fromK l from')).take most.toNat
theorem slice_leaf {w W : World} {q : Option Addr} {c' k m : Nat} {L : List Ent} {most : Int} {v : Value} (hE : EnSl w (.slice q (L.length - k) c') (L.drop k)) (hb : Below w.heap.size w W) (hk : k ≤ L.length) (hM : m = min most.toNat (L.length - k)) (hv : v = .slice q m c') : EnSl W v ((L.drop k).take most.toNat) := by
  subst hv
  have hl : L.length - k = (L.drop k).length := by rw [List.length_drop]
  rw [hl] at hE
  have h := (hE.keep hb (Nat.le_refl _)).take (n := m) (by rw [List.length_drop]; omega)
  have hl : ((L.drop k).take m).length = m := by rw [List.length_take, List.length_drop]; omega
  have ht : (L.drop k).take m = (L.drop k).take most.toNat := by rw [hM, ← List.length_drop, ← List.take_eq_take_min]
  rw [hl, ht] at h
  exact h
set_option maxRecDepth 100000 in
set_option maxHeartbeats 4000000 in
theorem slice_any (l : Lg) (p : Option Addr) (c : Nat) (fr most : Int) (w : World) (h0 : 0 ≤ l.b) (h1 : l.b ≤ 1152921504606846976) (hn : l.es.length ≤ 1000000) (f0 : fr ≤ 9223372036854775807) (m1 : most ≤ 9223372036854775807) (hE : EnSl w (.slice p l.es.length c) l.es) :
    Calls Tryz.prog 88 #[.agg #[.int .i64 l.b, .int .i64 l.bt, .int .u16 l.j.ov, .int .u16 l.j.ox, .int .u16 l.j.ol, .int .i64 l.j.oe, .int .i64 l.j.ok, .int .u16 l.j.nv, .int .u16 l.j.nx, .int .u16 l.j.nl, .int .i64 l.j.ne, .int .i64 l.j.nk, .bool l.j.two, .slice p l.es.length c], .int .i64 fr, .int .i64 most] w fun r w' => ∃ v, r = .returned v ∧ w'.ownsRow w.heap.size 47 14 v (sliceL l fr most).length (entRow (sliceL l fr most)) ∧ Below w.heap.size w w' := by
  obtain ⟨p', c', he, hc1, hc2⟩ := hE.form
  simp only [Value.slice.injEq] at he
  obtain ⟨rfl, -, rfl⟩ := he
  unfold maxLen at hc2
  have HE := Lib.hid hE
  clear hE
  have hk0 : ∃ k : Nat, k ≤ l.es.length ∧ sliceL l fr most = (l.es.drop k).take most.toNat ∧ ((l.b < fr ∧ min (max (fr - l.b - 1) 0) (l.es.length : Int) = k) ∨ (¬ l.b < fr ∧ k = 0)) := by
    by_cases hb : l.b < fr
    · refine ⟨min (fr - l.b - 1).toNat l.es.length, Nat.min_le_right _ _, ?_, .inl ⟨hb, by omega⟩⟩
      unfold sliceL fromK; rw [if_pos hb]
    · refine ⟨0, Nat.zero_le _, ?_, .inr ⟨hb, rfl⟩⟩
      unfold sliceL fromK; rw [if_neg hb]
  obtain ⟨k, hkl, hs, hk1⟩ := hk0
  have HS := Lib.hid hs
  obtain ⟨m, hm⟩ : ∃ m : Nat, min (max most 0) ((l.es.length - k : Nat) : Int) = m := ⟨(min (max most 0) ((l.es.length - k : Nat) : Int)).toNat, by omega⟩
  have HM := Lib.hid hm
  have hm1 : m ≤ l.es.length - k := by omega
  have hm2 : m = min most.toNat (l.es.length - k) := by omega
  have HM2 := Lib.hid hm2
  clear hs hm hm2
  rcases hk1 with ⟨hb, hk⟩ | ⟨hb, hk⟩
  · have HK := Lib.hid hk
    clear hk
    have hd : decide (l.b < fr) = true := by simpa using hb
    go_enter Tryz.func88, Tryz.ntmps88
    go_upto_region 4 with fail
    rw [HK.out]
    have hsl := HE.out.drop_if hkl
    by_cases hck : c = k
    · rw [if_pos hck] at hsl
      have HSL := Lib.hid hsl
      clear hsl
      have hkc : k = l.es.length := by omega
      subst hkc
      subst hck
      rw [Nat.sub_self] at HM HM2 HSL
      go_upto_region 5 with fail
      go_wp2_with fail
      refine (clone_any _ ((l.es.drop l.es.length).take most.toNat) _ (slice_leaf (by rw [Nat.sub_self]; exact HSL.out) ((Below.refl _ _).alloc (Nat.le_refl _) _) (Nat.le_refl _) (by omega) rfl) (by rw [List.length_take, List.length_drop]; omega)).mono ?_
      rintro r w2 ⟨v, rfl, ho, hb2⟩
      have HO := Lib.hid (ho.mono (base' := w.heap.size) (by simp))
      have HB2 : Hid (Below w.heap.size w w2) := ((Below.refl _ _).alloc (Nat.le_refl _) _).trans (hb2.mono (by simp))
      clear ho hb2
      go_wp2_with fail
      go_ret
      rw [HS.out]
      exact ⟨_, rfl, HO.out, HB2.out⟩
    · rw [if_neg hck] at hsl
      have HSL := Lib.hid hsl
      clear hsl
      go_upto_region 5 with fail
      have hm := HM.out
      go_wp2_with fail
      refine (clone_any _ ((l.es.drop k).take most.toNat) _ (slice_leaf HSL.out ((Below.refl _ _).alloc (Nat.le_refl _) _) (by omega) HM2.out rfl) (by rw [List.length_take, List.length_drop]; omega)).mono ?_
      rintro r w2 ⟨v, rfl, ho, hb2⟩
      have HO := Lib.hid (ho.mono (base' := w.heap.size) (by simp))
      have HB2 : Hid (Below w.heap.size w w2) := ((Below.refl _ _).alloc (Nat.le_refl _) _).trans (hb2.mono (by simp))
      clear ho hb2 hm
      go_wp2_with fail
      go_ret
      rw [HS.out]
      exact ⟨_, rfl, HO.out, HB2.out⟩
  · have hd : decide (l.b < fr) = false := by simpa using hb
    subst hk
    have hsl : EnSl w (.slice p (l.es.length - 0) c) (l.es.drop 0) := HE.out
    have HSL := Lib.hid hsl
    clear hsl
    go_enter Tryz.func88, Tryz.ntmps88
    go_upto_region 5 with fail
    have hm := (show min (max most 0) (l.es.length : Int) = m from HM.out)
    go_wp2_with fail
    refine (clone_any _ ((l.es.drop 0).take most.toNat) _ (slice_leaf HSL.out ((Below.refl _ _).alloc (Nat.le_refl _) _) (by omega) HM2.out rfl) (by rw [List.length_take, List.length_drop]; omega)).mono ?_
    rintro r w2 ⟨v, rfl, ho, hb2⟩
    have HO := Lib.hid (ho.mono (base' := w.heap.size) (by simp))
    have HB2 : Hid (Below w.heap.size w w2) := ((Below.refl _ _).alloc (Nat.le_refl _) _).trans (hb2.mono (by simp))
    clear ho hb2 hm
    go_wp2_with fail
    go_ret
    rw [HS.out]
    exact ⟨_, rfl, HO.out, HB2.out⟩
end Go.Proofs.YtbnndbdnejfehaaGreatDoor
/- A log that lies in a block of memory, with its entries; and how it stays. -/
namespace Go.Proofs.YtbnndbdnejfehaaGreatDoor
open Go.ChangeShapes Go.WideShapes Go.ChangeAt Go.RowKit

/-- A log, stored in a block: the block's cells, and the entries that it points at. -/
structure Lies (W : World) (A : Nat) (l : Lg) (p : Option Addr) (c : Nat) : Prop where
  h : W.heap[A]? = some (.cells #[.int .i64 l.b, .int .i64 l.bt, .int .u16 l.j.ov, .int .u16 l.j.ox, .int .u16 l.j.ol, .int .i64 l.j.oe, .int .i64 l.j.ok, .int .u16 l.j.nv, .int .u16 l.j.nx, .int .u16 l.j.nl, .int .i64 l.j.ne, .int .i64 l.j.nk, .bool l.j.two, .slice p l.es.length c] 30 (0, 0))
  e : EnSl W (.slice p l.es.length c) l.es
theorem Lies.keep {W W' : World} {A : Nat} {l : Lg} {p : Option Addr} {c : Nat} (h : Lies W A l p c) (hb : Below W.heap.size W W') : Lies W' A l p c := ⟨below_block hb (block_lt h.h) h.h, h.e.keep hb (Nat.le_refl _)⟩
theorem Lies.new {w W : World} {l : Lg} {p : Option Addr} {c : Nat} (he : EnSl w (.slice p l.es.length c) l.es) (hW : w.alloc (.cells #[.int .i64 l.b, .int .i64 l.bt, .int .u16 l.j.ov, .int .u16 l.j.ox, .int .u16 l.j.ol, .int .i64 l.j.oe, .int .i64 l.j.ok, .int .u16 l.j.nv, .int .u16 l.j.nx, .int .u16 l.j.nl, .int .i64 l.j.ne, .int .i64 l.j.nk, .bool l.j.two, .slice p l.es.length c] 30) = W) : Lies W w.heap.size l p c := by
  subst hW; exact ⟨heap_last _ _, he.keep ((Below.refl _ _).alloc (Nat.le_refl _) _) (Nat.le_refl _)⟩
theorem Lies.at {W W' : World} {A : Nat} {l : Lg} {p : Option Addr} {c : Nat} (h : Lies W A l p c) (hb : Below W.heap.size W W') : ∀ j, W'.cell? ⟨A, j, none⟩ = #[.int .i64 l.b, .int .i64 l.bt, .int .u16 l.j.ov, .int .u16 l.j.ox, .int .u16 l.j.ol, .int .i64 l.j.oe, .int .i64 l.j.ok, .int .u16 l.j.nv, .int .u16 l.j.nx, .int .u16 l.j.nl, .int .i64 l.j.ne, .int .i64 l.j.nk, .bool l.j.two, .slice p l.es.length c][j]? := block_cells (h.keep hb).h
theorem Lies.cell {W : World} {A : Nat} {l : Lg} {p : Option Addr} {c : Nat} (h : Lies W A l p c) : ∀ j, W.cell? ⟨A, j, none⟩ = #[.int .i64 l.b, .int .i64 l.bt, .int .u16 l.j.ov, .int .u16 l.j.ox, .int .u16 l.j.ol, .int .i64 l.j.oe, .int .i64 l.j.ok, .int .u16 l.j.nv, .int .u16 l.j.nx, .int .u16 l.j.nl, .int .i64 l.j.ne, .int .i64 l.j.nk, .bool l.j.two, .slice p l.es.length c][j]? := block_cells h.h
theorem below_new (w : World) (o : Obj) {W : World} (hW : w.alloc o = W) : Below w.heap.size w W := by subst hW; exact (Below.refl _ _).alloc (Nat.le_refl _) _
theorem wf_i64 {n : Int} (h : (Lit.int .i64 n).wf = true) : -9223372036854775808 ≤ n ∧ n ≤ 9223372036854775807 := by
  have h1 : IntKind.i64.min = -9223372036854775808 := rfl
  have h2 : IntKind.i64.max = 9223372036854775807 := rfl
  simp only [Lit.wf, Bool.and_eq_true, decide_eq_true_eq] at h; omega
end Go.Proofs.YtbnndbdnejfehaaGreatDoor
/- The reference of entries: what is in force at the end, and where it stands. -/
namespace Go.Proofs.YtbnndbdnejfehaaGreatDoor
open Go.ChangeShapes Go.WideShapes Go.ChangeAt Go.RowKit

/-- What is in force behind the first k entries, and its number. -/
def confA (l : Lg) : Nat → Jn × Int
  | 0 => (l.j, l.b)
  | k + 1 => if (l.es.getD k ent0).k = 2 then ((l.es.getD k ent0).j, l.b + 1 + k) else confA l k
end Go.Proofs.YtbnndbdnejfehaaGreatDoor
