/- entries: Newer; the reference's. -/
import Derived.Test.YtabiccpodnjieaaLogB
import Derived.Test.YtabiccpodnjieaaPlainNewer
namespace Go.Proofs.Ytabiccpodnjieaa
open Go.ChangeShapes Go.WideShapes Go.ChangeAt Go.RowKit

theorem row_cellsL {w : World} {b : Nat} {xs : List Int} {t : TypeId} (h : w.heap[b]? = some (.cells (xs.map (Value.int .i64)).toArray t (0, 0))) (j : Nat) (hj : j < xs.length) : w.cell? ⟨b, j, none⟩ = some (.int .i64 (xs.getD j 0)) := by
  rw [block_cells h j]; simp [List.getD, hj]
/-- A log that may be. -/
structure LgFit (l : Lg) : Prop where
  b0 : 0 ≤ l.b
  b1 : l.b ≤ 4398046511104
  n : l.es.length ≤ 1000000
theorem LgFit.last0 {l : Lg} (h : LgFit l) : -9223372036854775808 ≤ l.last ∧ l.last ≤ 9223372036854775807 := by
  have := h.b0; have := h.b1; have := h.n; unfold Lg.last; omega
section
variable (l : Lg) (p : Option Addr) (c : Nat)
theorem term_is (w : World) (hf : LgFit l) {i : Int} (hi : -9223372036854775808 ≤ i ∧ i ≤ 9223372036854775807) (hE : EnSl w (.slice p l.es.length c) l.es) :
    Calls Try.prog 14 #[.agg #[.int .i64 l.b, .int .i64 l.bt, .int .u16 l.j.ov, .int .u16 l.j.ox, .int .u16 l.j.ol, .int .i64 l.j.oe, .int .i64 l.j.ok, .int .u16 l.j.nv, .int .u16 l.j.nx, .int .u16 l.j.nl, .int .i64 l.j.ne, .int .i64 l.j.nk, .bool l.j.two, .slice p l.es.length c], .int .i64 i] w fun r w' => r = .returned (.tuple #[.int .i64 (termL l i).1, .bool (termL l i).2]) ∧ Below w.heap.size w w' :=
  term_any l p c i w hf.b0 hf.b1 hf.n hi.1 hi.2 hE rfl
theorem rterm_is (w : World) (hf : LgFit l) {i : Int} (hi : -9223372036854775808 ≤ i ∧ i ≤ 9223372036854775807) (hE : EnSl w (.slice p l.es.length c) l.es) :
    Calls Try.prog 30 #[.agg #[.int .i64 l.b, .int .i64 l.bt, .int .u16 l.j.ov, .int .u16 l.j.ox, .int .u16 l.j.ol, .int .i64 l.j.oe, .int .i64 l.j.ok, .int .u16 l.j.nv, .int .u16 l.j.nx, .int .u16 l.j.nl, .int .i64 l.j.ne, .int .i64 l.j.nk, .bool l.j.two, .slice p l.es.length c], .int .i64 i] w fun r w' => r = .returned (.tuple #[.int .i64 (termL l i).1, .bool (termL l i).2]) ∧ Below w.heap.size w w' :=
  rterm_any l p c i w hf.b0 hf.b1 hf.n hi.1 hi.2 hE rfl
set_option maxRecDepth 100000 in
set_option maxHeartbeats 4000000 in
theorem newer_any (last term : Int) (w : World) (hF : LgFit l) (hE : EnSl w (.slice p l.es.length c) l.es) :
    Calls Try.prog 36 #[.agg #[.int .i64 l.b, .int .i64 l.bt, .int .u16 l.j.ov, .int .u16 l.j.ox, .int .u16 l.j.ol, .int .i64 l.j.oe, .int .i64 l.j.ok, .int .u16 l.j.nv, .int .u16 l.j.nx, .int .u16 l.j.nl, .int .i64 l.j.ne, .int .i64 l.j.nk, .bool l.j.two, .slice p l.es.length c], .int .i64 last, .int .i64 term] w fun r w' => r = .returned (.bool (newerL l last term)) ∧ Below w.heap.size w w' := by
  have HO := Lib.hid (newer_or l last term)
  have HF : Hid (LgFit l) := hF
  have HE := Lib.hid hE
  have hA := heap_last w (.cells #[.int .i64 l.b, .int .i64 l.bt, .int .u16 l.j.ov, .int .u16 l.j.ox, .int .u16 l.j.ol, .int .i64 l.j.oe, .int .i64 l.j.ok, .int .u16 l.j.nv, .int .u16 l.j.nx, .int .u16 l.j.nl, .int .i64 l.j.ne, .int .i64 l.j.nk, .bool l.j.two, .slice p l.es.length c] 32)
  have hB : Below w.heap.size w (w.alloc (.cells #[.int .i64 l.b, .int .i64 l.bt, .int .u16 l.j.ov, .int .u16 l.j.ox, .int .u16 l.j.ol, .int .i64 l.j.oe, .int .i64 l.j.ok, .int .u16 l.j.nv, .int .u16 l.j.nx, .int .u16 l.j.nl, .int .i64 l.j.ne, .int .i64 l.j.nk, .bool l.j.two, .slice p l.es.length c] 32)) := (Below.refl _ _).alloc (Nat.le_refl _) _
  have HW := Lib.hid (And.intro hA hB)
  clear hA hB hF hE
  obtain ⟨X, hX⟩ : ∃ X, l.last = X := ⟨_, rfl⟩
  obtain ⟨T, hT⟩ : ∃ T, termL l X = T := ⟨_, rfl⟩
  have hlt : lastTerm l = T.1 := by unfold lastTerm; rw [hX, hT]
  have HLX := Lib.hid hX; have HTX := Lib.hid hT
  rw [hlt, hX] at HO
  have HXb : Hid (-9223372036854775808 ≤ X ∧ X ≤ 9223372036854775807) := by show _ ∧ _; rw [← hX]; exact HF.out.last0
  clear hX hT hlt
  go_enter Try.func36, Try.ntmps36
  go_upto_region 1 with fail
  obtain ⟨W, hW⟩ : ∃ W, w.alloc (.cells #[.int .i64 l.b, .int .i64 l.bt, .int .u16 l.j.ov, .int .u16 l.j.ox, .int .u16 l.j.ol, .int .i64 l.j.oe, .int .i64 l.j.ok, .int .u16 l.j.nv, .int .u16 l.j.nx, .int .u16 l.j.nl, .int .i64 l.j.ne, .int .i64 l.j.nk, .bool l.j.two, .slice p l.es.length c] 32) = W := ⟨_, rfl⟩
  rw [hW] at HW ⊢
  clear hW
  obtain ⟨U, f, hU, hf, hg⟩ := calm_class (W); obtain ⟨u0, hu0⟩ := hg _ (Below.refl _ _); rw [hu0]; clear hu0
  have kA := fun u => block_cells (calm_heap hf HW.out.1 u)
  have HBu : Hid (∀ u, Below w.heap.size w (f u)) := fun u => HW.out.2.trans ((hf u).mono HW.out.2.size)
  have LA : Hid (∀ u, Calls Try.prog 12 #[.agg #[.int .i64 l.b, .int .i64 l.bt, .int .u16 l.j.ov, .int .u16 l.j.ox, .int .u16 l.j.ol, .int .i64 l.j.oe, .int .i64 l.j.ok, .int .u16 l.j.nv, .int .u16 l.j.nx, .int .u16 l.j.nl, .int .i64 l.j.ne, .int .i64 l.j.nk, .bool l.j.two, .slice p l.es.length c]] (f u) fun r w' => r = .returned (.int .i64 X) ∧ Below (f u).heap.size (f u) w') := fun u => by
    have := last_any l p c (f u) HF.out.b0 HF.out.b1 HF.out.n; rw [HLX.out] at this; exact this
  have TA : Hid (∀ u, Calls Try.prog 14 #[.agg #[.int .i64 l.b, .int .i64 l.bt, .int .u16 l.j.ov, .int .u16 l.j.ox, .int .u16 l.j.ol, .int .i64 l.j.oe, .int .i64 l.j.ok, .int .u16 l.j.nv, .int .u16 l.j.nx, .int .u16 l.j.nl, .int .i64 l.j.ne, .int .i64 l.j.nk, .bool l.j.two, .slice p l.es.length c], .int .i64 X] (f u) fun r w' => r = .returned (.tuple #[.int .i64 T.1, .bool T.2]) ∧ Below (f u).heap.size (f u) w') := fun u => by
    have := term_is l p c (f u) HF.out HXb.out (HE.out.keep (HBu.out u) (Nat.le_refl _)); rw [HTX.out] at this; exact this
  refine wp_region_calm f (by kernel_rfl) (by kernel_rfl) (calm_drew hf hg _) ?_
  repeat (go_big_quiet_step ((first | (go_at_call 12; with_reducible exact calm_of hf hg (LA.out _)) | (go_at_call 14; with_reducible exact calm_of hf hg (TA.out _)))))
  refine wpQuiet_nil ?_; rintro _ ⟨u, rfl⟩
  go_upto_region 2 with fail
  refine wp_region_calm_tail f 7 (by kernel_rfl) (by kernel_rfl) (calm_drew hf hg _) ?_
  simp only [List.take_succ_cons, List.take_zero, List.drop_succ_cons, List.drop_zero]
  repeat (go_big_quiet_step ((first | (go_at_call 12; with_reducible exact calm_of hf hg (LA.out _)) | (go_at_call 44; exact calm_same (cmp_int _ _ _)))))
  refine wpQuiet_nil ?_
  intro u
  go_wp2_with fail
  refine (or_any _ 2 [cmpI term T.1, cmpI last X] rfl (by omega) _ (fun j hj => row_cellsL (xs := [cmpI term T.1, cmpI last X]) (heap_last (f u) _) j hj)).mono ?_; rintro r w' ⟨rfl, rfl⟩
  go_wp2_with fail
  go_ret
  exact ⟨ret_bool HO.out, (HBu.out u).alloc (HBu.out u).size _⟩
end
end Go.Proofs.Ytabiccpodnjieaa
