import Derived.Test.YtbnndbdnejfehaaGreatDoorLogA
import Derived.Test.YtbnndbdnejfehaaGreatDoorCalmTail
import Derived.Test.YtbnndbdnejfehaaGreatDoorLogB
import Derived.Test.YtbnndbdnejfehaaGreatDoorWireC
import Derived.Deep.RegionLaw
import Derived.Deep.AppendLies
import Derived.Deep.Onto
import Derived.Lib.AppendZeros
/- Logs: the plain law: which log is newer. -/
namespace Go.Proofs.YtbnndbdnejfehaaGreatDoor

def lastTerm (l : Lg) : Int := (termL l l.last).1
def newerL (l : Lg) (last term : Int) : Bool := decide (lastTerm l < term) || (decide (term = lastTerm l) && decide (l.last ≤ last))
theorem newer_or (l : Lg) (last term : Int) : decide (0 ≤ orI [cmpI term (lastTerm l), cmpI last l.last]) = newerL l last term := by
  unfold newerL
  rw [Bool.eq_iff_iff]
  rcases cmpI_cases term (lastTerm l) with h | h | h <;> rcases cmpI_cases last l.last with g | g | g <;> simp only [orI, h.2, g.2] <;> simp <;> omega
end Go.Proofs.YtbnndbdnejfehaaGreatDoor
/- entries: Newer; the reference's. -/
namespace Go.Proofs.YtbnndbdnejfehaaGreatDoor
open Go.ChangeShapes Go.WideShapes Go.ChangeAt Go.RowKit

theorem row_cellsL {w : World} {b : Nat} {xs : List Int} {t : TypeId} (h : w.heap[b]? = some (.cells (xs.map (Value.int .i64)).toArray t (0, 0))) (j : Nat) (hj : j < xs.length) : w.cell? ⟨b, j, none⟩ = some (.int .i64 (xs.getD j 0)) := by
  rw [block_cells h j]; simp [List.getD, hj]
/-- A log that may be. -/
structure LgFit (l : Lg) : Prop where
  b0 : 0 ≤ l.b
  b1 : l.b ≤ 1152921504606846976
  n : l.es.length ≤ 1000000
theorem LgFit.last0 {l : Lg} (h : LgFit l) : -9223372036854775808 ≤ l.last ∧ l.last ≤ 9223372036854775807 := by
  have := h.b0; have := h.b1; have := h.n; unfold Lg.last; omega
section
variable (l : Lg) (p : Option Addr) (c : Nat)
theorem term_is (w : World) (hf : LgFit l) {i : Int} (hi : -9223372036854775808 ≤ i ∧ i ≤ 9223372036854775807) (hE : EnSl w (.slice p l.es.length c) l.es) :
    Calls Tryz.prog 65 #[.agg #[.int .i64 l.b, .int .i64 l.bt, .int .u16 l.j.ov, .int .u16 l.j.ox, .int .u16 l.j.ol, .int .i64 l.j.oe, .int .i64 l.j.ok, .int .u16 l.j.nv, .int .u16 l.j.nx, .int .u16 l.j.nl, .int .i64 l.j.ne, .int .i64 l.j.nk, .bool l.j.two, .slice p l.es.length c], .int .i64 i] w fun r w' => r = .returned (.tuple #[.int .i64 (termL l i).1, .bool (termL l i).2]) ∧ Below w.heap.size w w' :=
  term_any l p c i w hf.b0 hf.b1 hf.n hi.1 hi.2 hE rfl
theorem rterm_is (w : World) (hf : LgFit l) {i : Int} (hi : -9223372036854775808 ≤ i ∧ i ≤ 9223372036854775807) (hE : EnSl w (.slice p l.es.length c) l.es) :
    Calls Tryz.prog 87 #[.agg #[.int .i64 l.b, .int .i64 l.bt, .int .u16 l.j.ov, .int .u16 l.j.ox, .int .u16 l.j.ol, .int .i64 l.j.oe, .int .i64 l.j.ok, .int .u16 l.j.nv, .int .u16 l.j.nx, .int .u16 l.j.nl, .int .i64 l.j.ne, .int .i64 l.j.nk, .bool l.j.two, .slice p l.es.length c], .int .i64 i] w fun r w' => r = .returned (.tuple #[.int .i64 (termL l i).1, .bool (termL l i).2]) ∧ Below w.heap.size w w' :=
  rterm_any l p c i w hf.b0 hf.b1 hf.n hi.1 hi.2 hE rfl
set_option maxRecDepth 100000 in
set_option maxHeartbeats 4000000 in
theorem newer_any (last term : Int) (w : World) (hF : LgFit l) (hE : EnSl w (.slice p l.es.length c) l.es) :
    Calls Tryz.prog 90 #[.agg #[.int .i64 l.b, .int .i64 l.bt, .int .u16 l.j.ov, .int .u16 l.j.ox, .int .u16 l.j.ol, .int .i64 l.j.oe, .int .i64 l.j.ok, .int .u16 l.j.nv, .int .u16 l.j.nx, .int .u16 l.j.nl, .int .i64 l.j.ne, .int .i64 l.j.nk, .bool l.j.two, .slice p l.es.length c], .int .i64 last, .int .i64 term] w fun r w' => r = .returned (.bool (newerL l last term)) ∧ Below w.heap.size w w' := by
  have HO := Lib.hid (newer_or l last term)
  have HF : Hid (LgFit l) := hF
  have HE := Lib.hid hE
  have hA := heap_last w (.cells #[.int .i64 l.b, .int .i64 l.bt, .int .u16 l.j.ov, .int .u16 l.j.ox, .int .u16 l.j.ol, .int .i64 l.j.oe, .int .i64 l.j.ok, .int .u16 l.j.nv, .int .u16 l.j.nx, .int .u16 l.j.nl, .int .i64 l.j.ne, .int .i64 l.j.nk, .bool l.j.two, .slice p l.es.length c] 30)
  have hB : Below w.heap.size w (w.alloc (.cells #[.int .i64 l.b, .int .i64 l.bt, .int .u16 l.j.ov, .int .u16 l.j.ox, .int .u16 l.j.ol, .int .i64 l.j.oe, .int .i64 l.j.ok, .int .u16 l.j.nv, .int .u16 l.j.nx, .int .u16 l.j.nl, .int .i64 l.j.ne, .int .i64 l.j.nk, .bool l.j.two, .slice p l.es.length c] 30)) := (Below.refl _ _).alloc (Nat.le_refl _) _
  have HW := Lib.hid (And.intro hA hB)
  clear hA hB hF hE
  obtain ⟨X, hX⟩ : ∃ X, l.last = X := ⟨_, rfl⟩
  obtain ⟨T, hT⟩ : ∃ T, termL l X = T := ⟨_, rfl⟩
  have hlt : lastTerm l = T.1 := by unfold lastTerm; rw [hX, hT]
  have HLX := Lib.hid hX; have HTX := Lib.hid hT
  rw [hlt, hX] at HO
  have HXb : Hid (-9223372036854775808 ≤ X ∧ X ≤ 9223372036854775807) := by show _ ∧ _; rw [← hX]; exact HF.out.last0
  clear hX hT hlt
  go_enter Tryz.func90, Tryz.ntmps90
  go_upto_region 1 with fail
  obtain ⟨W, hW⟩ : ∃ W, w.alloc (.cells #[.int .i64 l.b, .int .i64 l.bt, .int .u16 l.j.ov, .int .u16 l.j.ox, .int .u16 l.j.ol, .int .i64 l.j.oe, .int .i64 l.j.ok, .int .u16 l.j.nv, .int .u16 l.j.nx, .int .u16 l.j.nl, .int .i64 l.j.ne, .int .i64 l.j.nk, .bool l.j.two, .slice p l.es.length c] 30) = W := ⟨_, rfl⟩
  rw [hW] at HW ⊢
  clear hW
  obtain ⟨U, f, hU, hf, hg⟩ := calm_class (W); obtain ⟨u0, hu0⟩ := hg _ (Below.refl _ _); rw [hu0]; clear hu0
  have kA := fun u => block_cells (calm_heap hf HW.out.1 u)
  have HBu : Hid (∀ u, Below w.heap.size w (f u)) := fun u => HW.out.2.trans ((hf u).mono HW.out.2.size)
  have LA : Hid (∀ u, Calls Tryz.prog 64 #[.agg #[.int .i64 l.b, .int .i64 l.bt, .int .u16 l.j.ov, .int .u16 l.j.ox, .int .u16 l.j.ol, .int .i64 l.j.oe, .int .i64 l.j.ok, .int .u16 l.j.nv, .int .u16 l.j.nx, .int .u16 l.j.nl, .int .i64 l.j.ne, .int .i64 l.j.nk, .bool l.j.two, .slice p l.es.length c]] (f u) fun r w' => r = .returned (.int .i64 X) ∧ Below (f u).heap.size (f u) w') := fun u => by
    have := last_any l p c (f u) HF.out.b0 HF.out.b1 HF.out.n; rw [HLX.out] at this; exact this
  have TA : Hid (∀ u, Calls Tryz.prog 65 #[.agg #[.int .i64 l.b, .int .i64 l.bt, .int .u16 l.j.ov, .int .u16 l.j.ox, .int .u16 l.j.ol, .int .i64 l.j.oe, .int .i64 l.j.ok, .int .u16 l.j.nv, .int .u16 l.j.nx, .int .u16 l.j.nl, .int .i64 l.j.ne, .int .i64 l.j.nk, .bool l.j.two, .slice p l.es.length c], .int .i64 X] (f u) fun r w' => r = .returned (.tuple #[.int .i64 T.1, .bool T.2]) ∧ Below (f u).heap.size (f u) w') := fun u => by
    have := term_is l p c (f u) HF.out HXb.out (HE.out.keep (HBu.out u) (Nat.le_refl _)); rw [HTX.out] at this; exact this
  refine wp_region_calm f (by kernel_rfl) (by kernel_rfl) (calm_drew hf hg _) ?_
  repeat (go_big_quiet_step ((first | (go_at_call 64; with_reducible exact calm_of hf hg (LA.out _)) | (go_at_call 65; with_reducible exact calm_of hf hg (TA.out _)))))
  refine wpQuiet_nil ?_; rintro _ ⟨u, rfl⟩
  go_upto_region 2 with fail
  refine wp_region_calm_tail f 7 (by kernel_rfl) (by kernel_rfl) (calm_drew hf hg _) ?_
  simp only [List.take_succ_cons, List.take_zero, List.drop_succ_cons, List.drop_zero]
  repeat (go_big_quiet_step ((first | (go_at_call 64; with_reducible exact calm_of hf hg (LA.out _)) | (go_at_call 142; exact calm_same (cmp_int _ _ _)))))
  refine wpQuiet_nil ?_
  intro u
  go_wp2_with fail
  refine (or_any _ 2 [cmpI term T.1, cmpI last X] rfl (by omega) _ (fun j hj => row_cellsL (xs := [cmpI term T.1, cmpI last X]) (heap_last (f u) _) j hj)).mono ?_; rintro r w' ⟨rfl, rfl⟩
  go_wp2_with fail
  go_ret
  exact ⟨ret_bool HO.out, (HBu.out u).alloc (HBu.out u).size _⟩
end
end Go.Proofs.YtbnndbdnejfehaaGreatDoor
/- Logs: the plain law: a log of terms that rise by steps. -/
namespace Go.Proofs.YtbnndbdnejfehaaGreatDoor

def max1 (t : Int) : Int := if t < 1 then 1 else t
end Go.Proofs.YtbnndbdnejfehaaGreatDoor
/- The law's own logs. -/
namespace Go.Proofs.YtbnndbdnejfehaaGreatDoor
open Go.ChangeShapes Go.WideShapes Go.ChangeAt Go.RowKit

theorem Tryz.infoEn : (Tryz.prog.info? 47).map (fun i => (i.zero, i.size, i.bytes)) = some (some (.agg #[.int .i64 0, .int .i64 0, .string ⟨#[]⟩, .int .u16 0, .int .u16 0, .int .u16 0, .int .i64 0, .int .i64 0, .int .u16 0, .int .u16 0, .int .u16 0, .int .i64 0, .int .i64 0, .bool false]), 14, 88) := by kernel_rfl
theorem own_belowL {B : Nat} {w w' : World} {base : Nat} {e : TypeId} {size : Nat} {v : Value} {n : Nat} {xs : List Value} (h : w.ownsRow base e size v n xs) (hb : Below B w w') (hB : w.heap.size ≤ B) : w'.ownsRow base e size v n xs :=
  h.kept (row := none) ⟨hb.os, hb.tape, hb.output, hb.size, fun k hk _ => hb.block k (by omega)⟩ (by cases v.ownBlock <;> simp)
theorem own_geL {w : World} {base : Nat} {e : TypeId} {size : Nat} {v : Value} {n : Nat} {xs : List Value} (h : w.ownsRow base e size v n xs) : ∀ k, v.ownBlock = some k → base ≤ k ∧ k < w.heap.size := by
  intro k hk
  rcases h.2 with ⟨h3, h4⟩ | ⟨g, cap, cur, hv, hb, hg, -⟩
  · subst h3; simp [Value.ownBlock] at hk
  · subst hv
    have hkg : g = k := by simpa [Value.ownBlock] using hk
    subst hkg
    exact ⟨hb, block_lt hg⟩
theorem grown_setL {a w : World} {C : Nat} (h : a.grownBy w (some C)) (j : Nat) (v : Value) : a.grownBy (w.setCell ⟨C, j, none⟩ v) (some C) :=
  ⟨h.os, h.tape, h.output, by simpa [World.setCell] using h.size, fun k hk hne => (Below.heap_setCell _ _ _ _ (fun e => hne (by rw [e]))).trans (h.block k hk hne)⟩
theorem grown_reflL (w : World) (row : Option Nat) : w.grownBy w row := ⟨rfl, rfl, rfl, Nat.le_refl _, fun _ _ _ => rfl⟩
theorem put14_grown (w : World) (C : Nat) (x0 x1 x2 x3 x4 x5 x6 x7 x8 x9 x10 x11 x12 x13 : Value) : w.grownBy (put14 w C x0 x1 x2 x3 x4 x5 x6 x7 x8 x9 x10 x11 x12 x13) (some C) :=
  grown_setL (grown_setL (grown_setL (grown_setL (grown_setL (grown_setL (grown_setL (grown_setL (grown_setL (grown_setL (grown_setL (grown_setL (grown_setL (grown_setL (grown_reflL w _) 0 x0) 1 x1) 2 x2) 3 x3) 4 x4) 5 x5) 6 x6) 7 x7) 8 x8) 9 x9) 10 x10) 11 x11) 12 x12) 13 x13
theorem own_farL {w w' : World} {base : Nat} {e : TypeId} {size : Nat} {v : Value} {n : Nat} {xs : List Value} {C : Nat} (h : w.ownsRow base e size v n xs) (hg : w.grownBy w' (some C)) (hC : C < base) : w'.ownsRow base e size v n xs := by
  refine h.kept hg ?_
  cases hv : v.ownBlock with
  | none => exact .inl rfl
  | some g => right; intro he; have := (own_geL h g hv).1; simp only [Option.some.injEq] at he; omega
/-- A log in a memory of its own. -/
def LgEnd (B : Nat) (w : World) (m : Lg) (r : Ending) (w' : World) : Prop :=
  ∃ p c, r = .returned (.agg #[.int .i64 m.b, .int .i64 m.bt, .int .u16 m.j.ov, .int .u16 m.j.ox, .int .u16 m.j.ol, .int .i64 m.j.oe, .int .i64 m.j.ok, .int .u16 m.j.nv, .int .u16 m.j.nx, .int .u16 m.j.nl, .int .i64 m.j.ne, .int .i64 m.j.nk, .bool m.j.two, .slice p m.es.length c]) ∧ w'.ownsRow B 47 14 (.slice p m.es.length c) m.es.length (entRow m.es) ∧ Below w.heap.size w w'
end Go.Proofs.YtbnndbdnejfehaaGreatDoor
/- slices.Grow of nothing; slices.Concat of two lists of entries. -/
namespace Go.Proofs.YtbnndbdnejfehaaGreatDoor
open Go.ChangeShapes Go.WideShapes Go.ChangeAt Go.RowKit

set_option maxRecDepth 100000 in
set_option maxHeartbeats 4000000 in
theorem grow_nil (n : Nat) (hn : n ≤ 1000000) (w : World) :
    Calls Tryz.prog 156 #[.slice none 0 0, .int .i64 n] w fun r w' => ∃ v, r = .returned v ∧ w'.ownsRow w.heap.size 47 14 v 0 [] ∧ Below w.heap.size w w' := by
  obtain ⟨i0, hi, hz0, hz1, hz2⟩ := info_parts Tryz.infoEn
  rcases Nat.eq_zero_or_pos n with h0 | h0
  · subst h0
    rw [show ((0 : Nat) : Int) = 0 from rfl]
    go_enter Tryz.func156, Tryz.ntmps156
    go_wp2_with fail
    go_ret
    exact ⟨_, rfl, World.ownsRow_nil _ _ _ _, Below.refl _ _⟩
  · have hr := fun ty => Lib.run_append_nil_zeros (P := Tryz.prog) w 28 3 ty 47 i0 (.agg #[.int .i64 0, .int .i64 0, .string ⟨#[]⟩, .int .u16 0, .int .u16 0, .int .u16 0, .int .i64 0, .int .i64 0, .int .u16 0, .int .u16 0, .int .u16 0, .int .i64 0, .int .i64 0, .bool false]) .i64 .i64 Tryz.underlying28 Tryz.underlying3 hi hz0 n h0 (by rw [hz1]; omega) (by omega) (by rw [hz2]; omega)
    have HR := Lib.hid hr
    have d1 : decide ((n : Int) < 0) = false := by simp
    have d2 : decide ((0 : Int) < (n : Int)) = true := by simp; omega
    clear hr
    go_enter Tryz.func156, Tryz.ntmps156
    go_wp2_with (at_builtin; refine Lib.wpList_append_run _ rfl _ _ 28 3 rfl (.slice none 0 0) (.int .i64 n) rfl rfl _ _ (HR.out _) ?_)
    obtain ⟨C, hC⟩ : ∃ C, grownCap w n 0 47 = C := ⟨_, rfl⟩
    have hC1 : n ≤ C := by rw [← hC]; exact grownCap_ge _ _ _ _
    have hC2 : C ≤ maxLen := by rw [← hC]; exact grownCap_le_maxLen _ _ _ _ (by unfold maxLen; omega)
    rw [hC]
    clear hC
    go_wp2_with fail
    go_ret
    refine ⟨_, rfl, World.ownsRow_made w.drew _ C (Nat.le_refl _) hC2 ?_, ((Below.refl _ _).drew).alloc (Nat.le_refl _) _⟩
    rw [Array.size_append, size_zeroCells, size_zeroCells]
    show n * 14 + (C - n) * 14 = C * 14
    omega
set_option maxRecDepth 100000 in
set_option maxHeartbeats 4000000 in
theorem concat_two (L1 L2 : List Ent) (p1 p2 : Option Addr) (c1 c2 : Nat) (w : World) (R : Nat) (hR : w.heap[R]? = some (.cells #[.slice p1 L1.length c1, .slice p2 L2.length c2] 28 (0, 0))) (h1 : EnSl w (.slice p1 L1.length c1) L1) (h2 : EnSl w (.slice p2 L2.length c2) L2) (hn : L1.length + L2.length ≤ 1000000) :
    Calls Tryz.prog 151 #[.slice (some ⟨R, 0, none⟩) 2 2] w fun r w' => ∃ v, r = .returned v ∧ w'.ownsRow w.heap.size 47 14 v (L1.length + L2.length) (entRow (L1 ++ L2)) ∧ Below w.heap.size w w' := by
  obtain ⟨i0, hi, hz0, hz1, hz2⟩ := info_parts Tryz.infoEn
  have HR := Lib.hid hR
  have H1 := Lib.hid h1
  have H2 := Lib.hid h2
  have HAPP := Lib.hid (entRow_app L1 L2)
  have HL1 := Lib.hid (entC_one L1)
  have HL2 := Lib.hid (entC_one L2)
  have HG := Lib.hid (fun (W : World) => grow_nil (L1.length + L2.length) hn W)
  have kR := block_cells hR
  obtain ⟨n1, hn1⟩ : ∃ n, L1.length = n := ⟨_, rfl⟩
  obtain ⟨n2, hn2⟩ : ∃ n, L2.length = n := ⟨_, rfl⟩
  have H1' : Hid (Sl w.heap.size w (.slice p1 n1 c1) 14 n1 (entRow L1)) := by have := H1.out; unfold EnSl at this; rw [hn1] at this; exact this
  have H2' : Hid (Sl w.heap.size w (.slice p2 n2 c2) 14 n2 (entRow L2)) := by have := H2.out; unfold EnSl at this; rw [hn2] at this; exact this
  have HR2 : Hid (w.heap[R]? = some (.cells #[.slice p1 n1 c1, .slice p2 n2 c2] 28 (0, 0))) := by have := hR; rw [hn1, hn2] at this; exact this
  rw [hn1, hn2] at kR HG hn ⊢
  rw [Int.natCast_add] at HG
  have HRL := Lib.hid (block_lt hR)
  clear hR h1 h2 hn1 hn2 H1 H2
  go_enter Tryz.func151, Tryz.ntmps151
  go_wp2_with fail
  go_loopw [3, 11] (fun s i wr => w = wr ∧ ((i = .int .i64 0 ∧ s = .int .i64 0) ∨ (i = .int .i64 1 ∧ s = .int .i64 n1) ∨ (i = .int .i64 2 ∧ s = .int .i64 ((n1 : Int) + (n2 : Int))))) (fun _ i _ => 2 - (intOf i).toNat)
  case atStart => exact ⟨rfl, .inl ⟨rfl, rfl⟩⟩
  case round =>
    obtain ⟨rfl, ⟨rfl, rfl⟩ | ⟨rfl, rfl⟩ | ⟨rfl, rfl⟩⟩ := hrel
    · go_wp2_with fail
      go_roundw
      case rel => exact ⟨trivial, .inr (.inl ⟨by go_num, by go_num⟩)⟩
      case measure => simp [intOf]
    · go_wp2_with fail
      go_roundw
      case rel => exact ⟨trivial, .inr (.inr ⟨by go_num, by go_num⟩)⟩
      case measure => simp [intOf]
    · go_wp2_with fail
      refine (HG.out _).mono ?_; rintro r w1 ⟨v1, rfl, ho1, hb1⟩
      have HO1 := Lib.hid ho1; have HB1 := Lib.hid hb1
      have kR1 := block_cells (below_block hb1 HRL.out HR2.out)
      clear ho1 hb1 kR
      go_wp2_with fail
      go_loopw [6, 27] (fun v i wr => Hid (Below w.heap.size w wr) ∧ ((i = .int .i64 0 ∧ Hid (wr.ownsRow w.heap.size 47 14 v 0 [])) ∨ (i = .int .i64 1 ∧ Hid (wr.ownsRow w.heap.size 47 14 v n1 (entRow L1))) ∨ (i = .int .i64 2 ∧ Hid (wr.ownsRow w.heap.size 47 14 v (n1 + n2) (entRow L1 ++ entRow L2))))) (fun _ i _ => 2 - (intOf i).toNat)
      case atStart => exact ⟨HB1, .inl ⟨rfl, HO1⟩⟩
      case round =>
        obtain ⟨HB, ⟨rfl, HO⟩ | ⟨rfl, HO⟩ | ⟨rfl, HO⟩⟩ := hrel
        · obtain ⟨wk, rfl⟩ : ∃ wk : World, wk = wr := ⟨_, rfl⟩
          have kRk := block_cells (below_block HB.out HRL.out HR2.out)
          go_wp2_with (at_builtin; refine wpList_append_sl rfl _ _ 28 rfl w.heap.size 47 i0 (.agg #[.int .i64 0, .int .i64 0, .string ⟨#[]⟩, .int .u16 0, .int .u16 0, .int .u16 0, .int .i64 0, .int .i64 0, .int .u16 0, .int .u16 0, .int .u16 0, .int .i64 0, .int .i64 0, .bool false]) 14 88 Tryz.underlying28 hi hz0 hz1 hz2 rfl (by decide) _ 0 [] rfl HO.out w.heap.size _ n1 (entRow L1) rfl (H1'.out.keep HB.out) HL1.out ?_ ?_ HB.out.size ?_)
          · unfold maxLen; omega
          · omega
          intro v3 w3 hown3 hgrow3
          have HO3 : Hid (w3.ownsRow w.heap.size 47 14 v3 n1 (entRow L1)) := hown3
          have HB3 : Hid (Below w.heap.size w w3) := HB.out.grown hgrow3 HB.out.size (fun j hj => (HO.out.lt j hj).1)
          clear hown3 hgrow3
          go_wp2_with fail
          go_roundw
          case rel => exact ⟨HB3, .inr (.inl ⟨by go_num, HO3⟩)⟩
          case measure => simp [intOf]
        · obtain ⟨wk, rfl⟩ : ∃ wk : World, wk = wr := ⟨_, rfl⟩
          have kRk := block_cells (below_block HB.out HRL.out HR2.out)
          go_wp2_with (at_builtin; refine wpList_append_sl rfl _ _ 28 rfl w.heap.size 47 i0 (.agg #[.int .i64 0, .int .i64 0, .string ⟨#[]⟩, .int .u16 0, .int .u16 0, .int .u16 0, .int .i64 0, .int .i64 0, .int .u16 0, .int .u16 0, .int .u16 0, .int .i64 0, .int .i64 0, .bool false]) 14 88 Tryz.underlying28 hi hz0 hz1 hz2 rfl (by decide) _ n1 (entRow L1) rfl HO.out w.heap.size _ n2 (entRow L2) rfl (H2'.out.keep HB.out) HL2.out ?_ ?_ HB.out.size ?_)
          · unfold maxLen; omega
          · omega
          intro v3 w3 hown3 hgrow3
          have HO3 := Lib.hid hown3
          have HB3 : Hid (Below w.heap.size w w3) := HB.out.grown hgrow3 HB.out.size (fun j hj => (HO.out.lt j hj).1)
          clear hown3 hgrow3
          go_wp2_with fail
          go_roundw
          case rel => exact ⟨HB3, .inr (.inr ⟨by go_num, HO3⟩)⟩
          case measure => simp [intOf]
        · go_wp2_with fail
          go_ret
          exact ⟨_, rfl, by rw [HAPP.out]; exact HO.out, HB.out⟩
end Go.Proofs.YtbnndbdnejfehaaGreatDoor
