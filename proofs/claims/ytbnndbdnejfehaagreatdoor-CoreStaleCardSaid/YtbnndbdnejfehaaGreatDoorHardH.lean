import Derived.Test.YtbnndbdnejfehaaGreatDoorLogN3
import Derived.Test.YtbnndbdnejfehaaGreatDoorLogN5
import Derived.Test.YtbnndbdnejfehaaGreatDoorLogN7
import Derived.Test.YtbnndbdnejfehaaGreatDoorLogN9
import Derived.Test.YtbnndbdnejfehaaGreatDoorLogP
import Derived.Test.YtbnndbdnejfehaaGreatDoorLogG
import Derived.Deep.DrawnRows
import Derived.Lib.MinMax
import Derived.Test.YtbnndbdnejfehaaGreatDoorLogV
import Derived.Test.YtbnndbdnejfehaaGreatDoorAgg
/- entries: Merge. -/
namespace Go.Proofs.YtbnndbdnejfehaaGreatDoor
open Go.ChangeShapes Go.WideShapes Go.ChangeAt Go.RowKit

set_option maxRecDepth 100000 in
set_option maxHeartbeats 16000000 in
theorem merge_any (l : Lg) (p : Option Addr) (c : Nat) (prev term : Int) (es : List Ent) (p2 : Option Addr) (c2 : Nat) (w : World) (hF : LgFit l) (hp : -9223372036854775808 ≤ prev ∧ prev ≤ 9223372036854775807) (hE : EnSl w (.slice p l.es.length c) l.es) (h2 : EnSl w (.slice p2 es.length c2) es) (hl : l.es.length + es.length ≤ 1000000) :
    Calls Tryz.prog 145 #[.agg #[.int .i64 l.b, .int .i64 l.bt, .int .u16 l.j.ov, .int .u16 l.j.ox, .int .u16 l.j.ol, .int .i64 l.j.oe, .int .i64 l.j.ok, .int .u16 l.j.nv, .int .u16 l.j.nx, .int .u16 l.j.nl, .int .i64 l.j.ne, .int .i64 l.j.nk, .bool l.j.two, .slice p l.es.length c], .int .i64 prev, .int .i64 term, .slice p2 es.length c2] w (LgEnd3 w.heap.size w (mergeL l prev term es)) := by
  by_cases ho : l.last < prev ∨ prev < 0
  · exact merge_out l p c prev term es p2 c2 w hF hp hE h2 hl ho
  · rcases Bool.eq_false_or_eq_true (refusedL l prev term es.length) with hrf | hrf
    · exact merge_ref l p c prev term es p2 c2 w hF hp hE h2 hl ho hrf
    · by_cases hb : l.b ≤ prev
      · by_cases hz : es.length = 0
        · exact merge_high0 l p c prev term es p2 c2 w hF hp hE h2 hl ho hrf hb hz
        · have hz' : 0 < es.length := by omega
          cases hc : cutAt l prev es with
          | none => exact merge_high_none l p c prev term es p2 c2 w hF hp hE h2 hl ho hrf hb hz' (cutAt_isnone hc)
          | some k0 =>
            obtain ⟨h1, h3, h4⟩ := cutAt_is hc
            rcases Bool.eq_false_or_eq_true (termL l (prev + 1 + k0)).2 with hb2 | hb2
            · exact merge_high_true l p c prev term es p2 c2 w hF hp hE h2 hl ho hrf hb hz' k0 h1 h4 h3 hb2
            · exact merge_high_false l p c prev term es p2 c2 w hF hp hE h2 hl ho hrf hb hz' k0 h1 h4 h3 hb2
      · have hlb : prev < l.b := by omega
        by_cases hz : es.length ≤ (l.b - prev).toNat
        · exact merge_low0 l p c prev term es p2 c2 w hF hp hE h2 hl ho hrf hlb hz
        · have hz' : 0 < (es.drop (l.b - prev).toNat).length := by rw [List.length_drop]; omega
          have hd : l.b - prev = ((l.b - prev).toNat : Int) := by omega
          cases hc : cutAt l l.b (es.drop (l.b - prev).toNat) with
          | none => exact merge_low_none l p c prev term es p2 c2 w hF hp hE h2 hl ho hrf hlb _ _ hd rfl hz' (cutAt_isnone hc)
          | some k0 =>
            obtain ⟨h1, h3, h4⟩ := cutAt_is hc
            rcases Bool.eq_false_or_eq_true (termL l (l.b + 1 + k0)).2 with hb2 | hb2
            · exact merge_low_true l p c prev term es p2 c2 w hF hp hE h2 hl ho hrf hlb _ _ hd rfl hz' k0 h1 h4 h3 hb2
            · exact merge_low_false l p c prev term es p2 c2 w hF hp hE h2 hl ho hrf hlb _ _ hd rfl hz' k0 h1 h4 h3 hb2
end Go.Proofs.YtbnndbdnejfehaaGreatDoor
/- The law: begun; newer. -/
namespace Go.Proofs.YtbnndbdnejfehaaGreatDoor
open Go.ChangeShapes Go.WideShapes Go.ChangeAt Go.RowKit

theorem EnSl.two {w : World} {g : Nat} {e f : Ent} {t : TypeId} (h : w.heap[g]? = some (.cells #[.int .i64 e.t, .int .i64 e.k, .string e.d, .int .u16 e.j.ov, .int .u16 e.j.ox, .int .u16 e.j.ol, .int .i64 e.j.oe, .int .i64 e.j.ok, .int .u16 e.j.nv, .int .u16 e.j.nx, .int .u16 e.j.nl, .int .i64 e.j.ne, .int .i64 e.j.nk, .bool e.j.two, .int .i64 f.t, .int .i64 f.k, .string f.d, .int .u16 f.j.ov, .int .u16 f.j.ox, .int .u16 f.j.ol, .int .i64 f.j.oe, .int .i64 f.j.ok, .int .u16 f.j.nv, .int .u16 f.j.nx, .int .u16 f.j.nl, .int .i64 f.j.ne, .int .i64 f.j.nk, .bool f.j.two] t (0, 0))) : EnSl w (.slice (some ⟨g, 0, none⟩) 2 2) [e, f] := by
  refine ⟨rfl, .inr ⟨⟨g, 0, none⟩, 2, rfl, Nat.le_refl _, by unfold maxLen; omega, fun _ => ⟨g, 0, rfl, block_lt h, fun j hj => ?_⟩⟩⟩
  rw [Nat.zero_add, block_cells h j]
  simp [entRow, entC]
end Go.Proofs.YtbnndbdnejfehaaGreatDoor
/- The reference of entries: the last term, and which log is newer. -/
namespace Go.Proofs.YtbnndbdnejfehaaGreatDoor
open Go.ChangeShapes Go.WideShapes Go.ChangeAt Go.RowKit

set_option maxRecDepth 100000 in
set_option maxHeartbeats 4000000 in
theorem rlastTerm_any (l : Lg) (p : Option Addr) (c : Nat) (w : World) (hF : LgFit l) (hE : EnSl w (.slice p l.es.length c) l.es) :
    Calls Tryz.prog 34 #[.agg #[.int .i64 l.b, .int .i64 l.bt, .int .u16 l.j.ov, .int .u16 l.j.ox, .int .u16 l.j.ol, .int .i64 l.j.oe, .int .i64 l.j.ok, .int .u16 l.j.nv, .int .u16 l.j.nx, .int .u16 l.j.nl, .int .i64 l.j.ne, .int .i64 l.j.nk, .bool l.j.two, .slice p l.es.length c]] w fun r w' => r = .returned (.int .i64 (lastTerm l)) ∧ Below w.heap.size w w' := by
  have HF : Hid (LgFit l) := hF
  have HE := Lib.hid hE
  have hA := heap_last w (.cells #[.int .i64 l.b, .int .i64 l.bt, .int .u16 l.j.ov, .int .u16 l.j.ox, .int .u16 l.j.ol, .int .i64 l.j.oe, .int .i64 l.j.ok, .int .u16 l.j.nv, .int .u16 l.j.nx, .int .u16 l.j.nl, .int .i64 l.j.ne, .int .i64 l.j.nk, .bool l.j.two, .slice p l.es.length c] 30)
  have hB : Below w.heap.size w (w.alloc (.cells #[.int .i64 l.b, .int .i64 l.bt, .int .u16 l.j.ov, .int .u16 l.j.ox, .int .u16 l.j.ol, .int .i64 l.j.oe, .int .i64 l.j.ok, .int .u16 l.j.nv, .int .u16 l.j.nx, .int .u16 l.j.nl, .int .i64 l.j.ne, .int .i64 l.j.nk, .bool l.j.two, .slice p l.es.length c] 30)) := (Below.refl _ w).alloc (Nat.le_refl _) _
  have HW := Lib.hid (And.intro hA hB)
  clear hA hB hF hE
  obtain ⟨X, hX⟩ : ∃ X, l.last = X := ⟨_, rfl⟩
  obtain ⟨T, hT⟩ : ∃ T, termL l X = T := ⟨_, rfl⟩
  have hlt : lastTerm l = T.1 := by unfold lastTerm; rw [hX, hT]
  have HLX := Lib.hid hX; have HTX := Lib.hid hT
  rw [hlt]
  have HXb : Hid (-9223372036854775808 ≤ X ∧ X ≤ 9223372036854775807) := by show _ ∧ _; rw [← hX]; exact HF.out.last0
  clear hX hT hlt
  go_enter Tryz.func34, Tryz.ntmps34
  go_upto_region 1 with fail
  obtain ⟨W, hW⟩ : ∃ W, w.alloc (.cells #[.int .i64 l.b, .int .i64 l.bt, .int .u16 l.j.ov, .int .u16 l.j.ox, .int .u16 l.j.ol, .int .i64 l.j.oe, .int .i64 l.j.ok, .int .u16 l.j.nv, .int .u16 l.j.nx, .int .u16 l.j.nl, .int .i64 l.j.ne, .int .i64 l.j.nk, .bool l.j.two, .slice p l.es.length c] 30) = W := ⟨_, rfl⟩
  rw [hW] at HW ⊢
  clear hW
  obtain ⟨U, f, hU, hf, hg⟩ := calm_class (W); obtain ⟨u0, hu0⟩ := hg _ (Below.refl _ _); rw [hu0]; clear hu0
  have kA := fun u => block_cells (calm_heap hf HW.out.1 u)
  have HBu : Hid (∀ u, Below w.heap.size w (f u)) := fun u => HW.out.2.trans ((hf u).mono HW.out.2.size)
  have LA : Hid (∀ u, Calls Tryz.prog 33 #[.agg #[.int .i64 l.b, .int .i64 l.bt, .int .u16 l.j.ov, .int .u16 l.j.ox, .int .u16 l.j.ol, .int .i64 l.j.oe, .int .i64 l.j.ok, .int .u16 l.j.nv, .int .u16 l.j.nx, .int .u16 l.j.nl, .int .i64 l.j.ne, .int .i64 l.j.nk, .bool l.j.two, .slice p l.es.length c]] (f u) fun r w' => r = .returned (.int .i64 X) ∧ Below (f u).heap.size (f u) w') := fun u => by
    have := rlast_any l p c (f u) HF.out.b0 HF.out.b1 HF.out.n; rw [HLX.out] at this; exact this
  have TA : Hid (∀ u, Calls Tryz.prog 87 #[.agg #[.int .i64 l.b, .int .i64 l.bt, .int .u16 l.j.ov, .int .u16 l.j.ox, .int .u16 l.j.ol, .int .i64 l.j.oe, .int .i64 l.j.ok, .int .u16 l.j.nv, .int .u16 l.j.nx, .int .u16 l.j.nl, .int .i64 l.j.ne, .int .i64 l.j.nk, .bool l.j.two, .slice p l.es.length c], .int .i64 X] (f u) fun r w' => r = .returned (.tuple #[.int .i64 T.1, .bool T.2]) ∧ Below (f u).heap.size (f u) w') := fun u => by
    have := rterm_is l p c (f u) HF.out HXb.out (HE.out.keep (HBu.out u) (Nat.le_refl _)); rw [HTX.out] at this; exact this
  refine wp_region_calm f (by kernel_rfl) (by kernel_rfl) (calm_drew hf hg _) ?_
  repeat (go_big_quiet_step ((first | (go_at_call 33; with_reducible exact calm_of hf hg (LA.out _)) | (go_at_call 87; with_reducible exact calm_of hf hg (TA.out _)))))
  refine wpQuiet_nil ?_; rintro _ ⟨u, rfl⟩
  go_wp2_with fail
  go_ret
  exact ⟨rfl, HBu.out _⟩
end Go.Proofs.YtbnndbdnejfehaaGreatDoor
/- Entries: append of a list to a row of the call's own, as a step. -/
namespace Go.Proofs.YtbnndbdnejfehaaGreatDoor
open Go.ChangeShapes Go.WideShapes Go.ChangeAt Go.RowKit

end Go.Proofs.YtbnndbdnejfehaaGreatDoor
/- The reference of entries: Slice. -/
namespace Go.Proofs.YtbnndbdnejfehaaGreatDoor
open Go.ChangeShapes Go.WideShapes Go.ChangeAt Go.RowKit

end Go.Proofs.YtbnndbdnejfehaaGreatDoor
/- The boxes of a call: a log, and what is returned. -/
namespace Go.Proofs.YtbnndbdnejfehaaGreatDoor
open Go.ChangeShapes Go.WideShapes Go.ChangeAt Go.RowKit

/-- The boxes of a call: a log, and what it returns; the memory below them stays. -/
structure BoxW (w : World) (A R N : Nat) (l : Lg) (p : Option Addr) (c : Nat) (wr : World) : Prop where
  a : wr.heap[A]? = some (.cells #[.int .i64 l.b, .int .i64 l.bt, .int .u16 l.j.ov, .int .u16 l.j.ox, .int .u16 l.j.ol, .int .i64 l.j.oe, .int .i64 l.j.ok, .int .u16 l.j.nv, .int .u16 l.j.nx, .int .u16 l.j.nl, .int .i64 l.j.ne, .int .i64 l.j.nk, .bool l.j.two, .slice p l.es.length c] 30 (0, 0))
  z : wr.heap[R]? = some (.cells #[.int .i64 0, .int .i64 0, .int .u16 0, .int .u16 0, .int .u16 0, .int .i64 0, .int .i64 0, .int .u16 0, .int .u16 0, .int .u16 0, .int .i64 0, .int .i64 0, .bool false, .slice none 0 0] 30 (0, 0))
  b : Below A w wr
  s : N ≤ wr.heap.size
  an : A < N
  rn : R < N
theorem BoxW.keep {w wr w' : World} {A R N : Nat} {l : Lg} {p : Option Addr} {c : Nat} (h : BoxW w A R N l p c wr) (hb : Below wr.heap.size wr w') : BoxW w A R N l p c w' :=
  ⟨below_block hb (block_lt h.a) h.a, below_block hb (block_lt h.z) h.z, h.b.trans (hb.mono (by have := h.s; have := h.an; omega)), Nat.le_trans h.s hb.size, h.an, h.rn⟩
theorem BoxW.alloc {w wr : World} {A R N : Nat} {l : Lg} {p : Option Addr} {c : Nat} (h : BoxW w A R N l p c wr) (o : Obj) : BoxW w A R N l p c (wr.alloc o) := h.keep (below_new _ _ rfl)
theorem BoxW.grown {w wr w' : World} {A R N : Nat} {l : Lg} {p : Option Addr} {c : Nat} {row : Option Nat} (h : BoxW w A R N l p c wr) (hg : wr.grownBy w' row) (hr : ∀ k, row = some k → N ≤ k) : BoxW w A R N l p c w' :=
  ⟨(hg.block A (block_lt h.a) (fun e => by have := hr A e.symm; have := h.an; omega)).trans h.a, (hg.block R (block_lt h.z) (fun e => by have := hr R e.symm; have := h.rn; omega)).trans h.z, h.b.grown hg (by have := h.s; have := h.an; omega) (fun k hk => by have := hr k hk; have := h.an; omega), Nat.le_trans h.s hg.size, h.an, h.rn⟩
/-- A row that was appended to goes into the box's last field, and the box into the result. -/
theorem BoxW.out {w wr : World} {A R N : Nat} {l m : Lg} {p q : Option Addr} {c cc : Nat} (h : BoxW w A R N l p c wr) (hAR : A < R) (hm : m.b = l.b ∧ m.bt = l.bt ∧ m.j = l.j) (ho : wr.ownsRow N 47 14 (.slice q m.es.length cc) m.es.length (entRow m.es)) :
    BoxW w A R N m q cc (wr.setCell ⟨A, 13, none⟩ (.slice q m.es.length cc)) ∧ (wr.setCell ⟨A, 13, none⟩ (.slice q m.es.length cc)).ownsRow N 47 14 (.slice q m.es.length cc) m.es.length (entRow m.es) := by
  obtain ⟨h1, h2, h3⟩ := hm
  have hk := cells_setL h.a 13 (.slice q m.es.length cc)
  simp only [zD, zE, zF] at hk
  have hg := grown_setL (grown_reflL wr (some A)) 13 (.slice q m.es.length cc)
  refine ⟨⟨by rw [h1, h2, h3]; exact hk, (hg.block R (block_lt h.z) (by simp; omega)).trans h.z, h.b.setCell (p := ⟨A, 13, none⟩) (Nat.le_refl _) _, Nat.le_trans h.s hg.size, h.an, h.rn⟩, own_farL ho hg h.an⟩
theorem BoxW.fin {w wr : World} {A R N : Nat} {m : Lg} {q : Option Addr} {cc : Nat} (h : BoxW w A R N m q cc wr) (hAR : A ≤ R) (ho : wr.ownsRow N 47 14 (.slice q m.es.length cc) m.es.length (entRow m.es)) :
    (∀ j, (put14 wr R (.int .i64 m.b) (.int .i64 m.bt) (.int .u16 m.j.ov) (.int .u16 m.j.ox) (.int .u16 m.j.ol) (.int .i64 m.j.oe) (.int .i64 m.j.ok) (.int .u16 m.j.nv) (.int .u16 m.j.nx) (.int .u16 m.j.nl) (.int .i64 m.j.ne) (.int .i64 m.j.nk) (.bool m.j.two) (.slice q m.es.length cc)).cell? ⟨R, j, none⟩ = #[.int .i64 m.b, .int .i64 m.bt, .int .u16 m.j.ov, .int .u16 m.j.ox, .int .u16 m.j.ol, .int .i64 m.j.oe, .int .i64 m.j.ok, .int .u16 m.j.nv, .int .u16 m.j.nx, .int .u16 m.j.nl, .int .i64 m.j.ne, .int .i64 m.j.nk, .bool m.j.two, .slice q m.es.length cc][j]?) ∧ (put14 wr R (.int .i64 m.b) (.int .i64 m.bt) (.int .u16 m.j.ov) (.int .u16 m.j.ox) (.int .u16 m.j.ol) (.int .i64 m.j.oe) (.int .i64 m.j.ok) (.int .u16 m.j.nv) (.int .u16 m.j.nx) (.int .u16 m.j.nl) (.int .i64 m.j.ne) (.int .i64 m.j.nk) (.bool m.j.two) (.slice q m.es.length cc)).ownsRow N 47 14 (.slice q m.es.length cc) m.es.length (entRow m.es) ∧ Below A w (put14 wr R (.int .i64 m.b) (.int .i64 m.bt) (.int .u16 m.j.ov) (.int .u16 m.j.ox) (.int .u16 m.j.ol) (.int .i64 m.j.oe) (.int .i64 m.j.ok) (.int .u16 m.j.nv) (.int .u16 m.j.nx) (.int .u16 m.j.nl) (.int .i64 m.j.ne) (.int .i64 m.j.nk) (.bool m.j.two) (.slice q m.es.length cc)) := by
  have F := put14_ok h.z h.b hAR (.int .i64 m.b) (.int .i64 m.bt) (.int .u16 m.j.ov) (.int .u16 m.j.ox) (.int .u16 m.j.ol) (.int .i64 m.j.oe) (.int .i64 m.j.ok) (.int .u16 m.j.nv) (.int .u16 m.j.nx) (.int .u16 m.j.nl) (.int .i64 m.j.ne) (.int .i64 m.j.nk) (.bool m.j.two) (.slice q m.es.length cc)
  exact ⟨block_cells F.1, own_farL ho (put14_grown wr R (.int .i64 m.b) (.int .i64 m.bt) (.int .u16 m.j.ov) (.int .u16 m.j.ox) (.int .u16 m.j.ol) (.int .i64 m.j.oe) (.int .i64 m.j.ok) (.int .u16 m.j.nv) (.int .u16 m.j.nx) (.int .u16 m.j.nl) (.int .i64 m.j.ne) (.int .i64 m.j.nk) (.bool m.j.two) (.slice q m.es.length cc)) h.rn, F.2⟩
end Go.Proofs.YtbnndbdnejfehaaGreatDoor
/- The reference of entries: Push. -/
namespace Go.Proofs.YtbnndbdnejfehaaGreatDoor
open Go.ChangeShapes Go.WideShapes Go.ChangeAt Go.RowKit

end Go.Proofs.YtbnndbdnejfehaaGreatDoor
/- Hard: all that must last. -/
namespace Go.Proofs.YtbnndbdnejfehaaGreatDoor
open Go.ChangeShapes Go.WideShapes Go.ChangeAt Go.RowKit

/-- A range's core, and where its entries lie. -/
structure KpX where
  r : Int
  c : Co
  p : Option Addr
  k : Nat
def kpC (x : KpX) : List Value := [.int .i64 x.r, .int .i64 x.c.id, .int .i64 x.c.role, .int .i64 x.c.tm, .int .i64 x.c.vt, .int .i64 x.c.ld, .int .i64 x.c.wt, .int .i64 x.c.cm, .int .i64 x.c.sf, .int .i64 x.c.l.b, .int .i64 x.c.l.bt, .int .u16 x.c.l.j.ov, .int .u16 x.c.l.j.ox, .int .u16 x.c.l.j.ol, .int .i64 x.c.l.j.oe, .int .i64 x.c.l.j.ok, .int .u16 x.c.l.j.nv, .int .u16 x.c.l.j.nx, .int .u16 x.c.l.j.nl, .int .i64 x.c.l.j.ne, .int .i64 x.c.l.j.nk, .bool x.c.l.j.two, .slice x.p x.c.l.es.length x.k, .string x.c.sn, .int .u16 x.c.vs, .int .u16 x.c.hd, .int .i64 (x.c.nx 0), .int .i64 (x.c.nx 1), .int .i64 (x.c.nx 2), .int .i64 (x.c.nx 3), .int .i64 (x.c.nx 4), .int .i64 (x.c.nx 5), .int .i64 (x.c.nx 6), .int .i64 (x.c.nx 7), .int .i64 (x.c.nx 8), .int .i64 (x.c.nx 9), .int .i64 (x.c.mt 0), .int .i64 (x.c.mt 1), .int .i64 (x.c.mt 2), .int .i64 (x.c.mt 3), .int .i64 (x.c.mt 4), .int .i64 (x.c.mt 5), .int .i64 (x.c.mt 6), .int .i64 (x.c.mt 7), .int .i64 (x.c.mt 8), .int .i64 (x.c.mt 9)]
def KpAt (w : World) (q : Option Addr) (l : List KpX) : Prop := ∀ j, (hj : j < l.length) → ∃ g o, q = some ⟨g, o, none⟩ ∧ g < w.heap.size ∧ (∀ i, i < 46 → w.cell? ⟨g, o + j * 46 + i, none⟩ = (kpC l[j])[i]?) ∧ EnSl w (.slice l[j].p l[j].c.l.es.length l[j].k) l[j].c.l.es
theorem KpAt.keep {w w' : World} {q : Option Addr} {l : List KpX} (h : KpAt w q l) (hb : Below w.heap.size w w') : KpAt w' q l := fun j hj => by
  obtain ⟨g, o, e, hg, hc, he⟩ := h j hj
  exact ⟨g, o, e, Nat.lt_of_lt_of_le hg hb.size, fun i hi => (hb.cell (p := ⟨g, o + j * 46 + i, none⟩) hg).trans (hc i hi), he.keep hb (Nat.le_refl _)⟩
end Go.Proofs.YtbnndbdnejfehaaGreatDoor
/- Hard: the reference's Whole. -/
namespace Go.Proofs.YtbnndbdnejfehaaGreatDoor
open Go.ChangeShapes Go.WideShapes Go.ChangeAt Go.RowKit

/-- An append of a slice that may be none, in a region that draws its order. -/
theorem wp_append_any {P : Program} {w : World} {o : Oper} {a : Act} {K : Act → World → Prop} {Q : Exit → Act → World → Prop} (s x : Operand) (t : TypeId)
    (ho : o.op = .call { callee := .builtin .append, args := #[s, x], argTypes := #[t, t] })
    (base : Nat) (e : TypeId) (i : TypeInfo) (z : Value) (size bytes : Nat) (ht : P.underlying t = some (.slice e)) (hi : P.info? e = some i) (hz : i.zero = some z)
    (hsize : i.size = size) (hby : i.bytes = bytes) (hzs : z.cells.size = size) (hsz : 0 < size)
    (v : Value) (n : Nat) (xs : List Value) (hs : a.eval s = v) (hown : w.ownsRow base e size v n xs)
    (B : Nat) (u : Value) (m : Nat) (news : List Value) (hx : a.eval x = u) (hsl : Sl B w u size m news) (h1 : ∀ u ∈ news, u.oneCell' = true)
    (h63 : n + m ≤ maxLen) (hbytes : (n + m) * bytes ≤ 140737488355328) (hbase : base ≤ w.heap.size)
    (h : ∀ v' w', w'.ownsRow base e size v' (n + m) (xs ++ news) → w.grownBy w' v.ownBlock → (v'.ownBlock = v.ownBlock ∨ v'.ownBlock = some w.heap.size) → K (a.put o.dst v') w') : Oper.wp P o a w K Q := by
  by_cases hm : 0 < m
  · exact wp_append_row s x t ho base e i z size bytes ht hi hz hsize hby hzs hsz v n xs hs hown B u m news hx hsl hm h1 h63 hbytes hbase h
  · obtain ⟨hl, hc⟩ := hsl
    obtain rfl : m = 0 := by omega
    have hn : news = [] := List.eq_nil_of_length_eq_zero (by simpa using hl)
    subst hn
    have hk := h v w (by simpa using hown) ⟨rfl, rfl, rfl, Nat.le_refl _, fun _ _ _ => rfl⟩ (.inl rfl)
    rcases hc with ⟨rfl, -⟩ | ⟨ad, cap, rfl, _, _, hcell⟩
    · have hrun := run_append_owned_none (P := P) (w := w) base t o.type e i size ht hi v n xs hown
      unfold Oper.wp
      simp [execOp, ho, resolve, invoke, builtin, hs, hx, hrun, Result.andThen]
      exact hk
    · obtain ⟨v', w', hr, h2, h3, -, h5⟩ := run_append_own_at (P := P) (w := w) base t o.type e i z size bytes ht hi hz hsize hby hzs hsz v n xs hown ad 0 cap [] (by simp) (fun j u hu => by simp at hu) (fun u hu => by cases hu) h63 hbytes hbase
      unfold Oper.wp execOp
      simp only [ho, resolve, invoke, builtin, Sem.run_bind, Sem.run_pure, Result.andThen_ok, List.map_toArray, List.map_cons, List.map_nil, hs, hx, hr]
      exact h v' w' h2 h3 h5
end Go.Proofs.YtbnndbdnejfehaaGreatDoor
