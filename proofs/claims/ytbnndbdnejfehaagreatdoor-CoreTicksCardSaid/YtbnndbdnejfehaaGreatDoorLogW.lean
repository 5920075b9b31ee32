import Derived.Test.YtbnndbdnejfehaaGreatDoorLogP
/- entries: Merge, where nothing is taken. -/
namespace Go.Proofs.YtbnndbdnejfehaaGreatDoor
open Go.ChangeShapes Go.WideShapes Go.ChangeAt Go.RowKit

end Go.Proofs.YtbnndbdnejfehaaGreatDoor
/- entries: Merge, behind the base: no entries. -/
namespace Go.Proofs.YtbnndbdnejfehaaGreatDoor
open Go.ChangeShapes Go.WideShapes Go.ChangeAt Go.RowKit

end Go.Proofs.YtbnndbdnejfehaaGreatDoor
/- entries: Merge, behind the base (none). -/
namespace Go.Proofs.YtbnndbdnejfehaaGreatDoor
open Go.ChangeShapes Go.WideShapes Go.ChangeAt Go.RowKit

end Go.Proofs.YtbnndbdnejfehaaGreatDoor
/- entries: Merge, from ahead of the base: nothing is left. -/
namespace Go.Proofs.YtbnndbdnejfehaaGreatDoor
open Go.ChangeShapes Go.WideShapes Go.ChangeAt Go.RowKit

end Go.Proofs.YtbnndbdnejfehaaGreatDoor
/- entries: Merge, behind the base (false). -/
namespace Go.Proofs.YtbnndbdnejfehaaGreatDoor
open Go.ChangeShapes Go.WideShapes Go.ChangeAt Go.RowKit

end Go.Proofs.YtbnndbdnejfehaaGreatDoor
/- entries: Merge, behind the base (true). -/
namespace Go.Proofs.YtbnndbdnejfehaaGreatDoor
open Go.ChangeShapes Go.WideShapes Go.ChangeAt Go.RowKit

end Go.Proofs.YtbnndbdnejfehaaGreatDoor
/- entries: Merge, from ahead of the base (none). -/
namespace Go.Proofs.YtbnndbdnejfehaaGreatDoor
open Go.ChangeShapes Go.WideShapes Go.ChangeAt Go.RowKit

end Go.Proofs.YtbnndbdnejfehaaGreatDoor
/- entries: Merge, from ahead of the base (false). -/
namespace Go.Proofs.YtbnndbdnejfehaaGreatDoor
open Go.ChangeShapes Go.WideShapes Go.ChangeAt Go.RowKit

end Go.Proofs.YtbnndbdnejfehaaGreatDoor
/- entries: Merge, from ahead of the base (true). -/
namespace Go.Proofs.YtbnndbdnejfehaaGreatDoor
open Go.ChangeShapes Go.WideShapes Go.ChangeAt Go.RowKit

end Go.Proofs.YtbnndbdnejfehaaGreatDoor
/- entries: Merge. -/
namespace Go.Proofs.YtbnndbdnejfehaaGreatDoor
open Go.ChangeShapes Go.WideShapes Go.ChangeAt Go.RowKit

end Go.Proofs.YtbnndbdnejfehaaGreatDoor
/- The law: begun; newer. -/
namespace Go.Proofs.YtbnndbdnejfehaaGreatDoor
open Go.ChangeShapes Go.WideShapes Go.ChangeAt Go.RowKit

theorem EnSl.two {w : World} {g : Nat} {e f : Ent} {t : TypeId} (h : w.heap[g]? = some (.cells #[.int .i64 e.t, .int .i64 e.k, .string e.d, .int .u16 e.j.ov, .int .u16 e.j.ox, .int .u16 e.j.ol, .int .i64 e.j.oe, .int .i64 e.j.ok, .int .u16 e.j.nv, .int .u16 e.j.nx, .int .u16 e.j.nl, .int .i64 e.j.ne, .int .i64 e.j.nk, .bool e.j.two, .int .i64 f.t, .int .i64 f.k, .string f.d, .int .u16 f.j.ov, .int .u16 f.j.ox, .int .u16 f.j.ol, .int .i64 f.j.oe, .int .i64 f.j.ok, .int .u16 f.j.nv, .int .u16 f.j.nx, .int .u16 f.j.nl, .int .i64 f.j.ne, .int .i64 f.j.nk, .bool f.j.two] t (0, 0))) : EnSl w (.slice (some ⟨g, 0, none⟩) 2 2) [e, f] := by
  refine ⟨rfl, .inr ⟨⟨g, 0, none⟩, 2, rfl, Nat.le_refl _, by unfold maxLen; omega, fun _ => ⟨g, 0, rfl, block_lt h, fun j hj => ?_⟩⟩⟩
  rw [Nat.zero_add, block_cells h j]
  simp [entRow, entC]
end Go.Proofs.YtbnndbdnejfehaaGreatDoor
/- The reference of entries: the last term, and which log is newer. -/
namespace Go.Proofs.YtbnndbdnejfehaaGreatDoor
open Go.ChangeShapes Go.WideShapes Go.ChangeAt Go.RowKit

set_option maxRecDepth 100000 in
set_option maxHeartbeats 4000000 in
theorem rlastTerm_any (l : Lg) (p : Option Addr) (c : Nat) (w : World) (hF : LgFit l) (hE : EnSl w (.slice p l.es.length c) l.es) :
    Calls Tryz.prog 34 #[.agg #[.int .i64 l.b, .int .i64 l.bt, .int .u16 l.j.ov, .int .u16 l.j.ox, .int .u16 l.j.ol, .int .i64 l.j.oe, .int .i64 l.j.ok, .int .u16 l.j.nv, .int .u16 l.j.nx, .int .u16 l.j.nl, .int .i64 l.j.ne, .int .i64 l.j.nk, .bool l.j.two, .slice p l.es.length c]] w fun r w' => r = .returned (.int .i64 (lastTerm l)) ∧ Below w.heap.size w w' := by
  have HF : Hid (LgFit l) := hF
  have HE := Lib.hid hE
  have hA := heap_last w (.cells #[.int .i64 l.b, .int .i64 l.bt, .int .u16 l.j.ov, .int .u16 l.j.ox, .int .u16 l.j.ol, .int .i64 l.j.oe, .int .i64 l.j.ok, .int .u16 l.j.nv, .int .u16 l.j.nx, .int .u16 l.j.nl, .int .i64 l.j.ne, .int .i64 l.j.nk, .bool l.j.two, .slice p l.es.length c] 30)
  have hB : Below w.heap.size w (w.alloc (.cells #[.int .i64 l.b, .int .i64 l.bt, .int .u16 l.j.ov, .int .u16 l.j.ox, .int .u16 l.j.ol, .int .i64 l.j.oe, .int .i64 l.j.ok, .int .u16 l.j.nv, .int .u16 l.j.nx, .int .u16 l.j.nl, .int .i64 l.j.ne, .int .i64 l.j.nk, .bool l.j.two, .slice p l.es.length c] 30)) := (Below.refl _ w).alloc (Nat.le_refl _) _
  have HW := Lib.hid (And.intro hA hB)
  clear hA hB hF hE
  obtain ⟨X, hX⟩ : ∃ X, l.last = X := ⟨_, rfl⟩
  obtain ⟨T, hT⟩ : ∃ T, termL l X = T := ⟨_, rfl⟩
  have hlt : lastTerm l = T.1 := by unfold lastTerm; rw [hX, hT]
  have HLX := Lib.hid hX; have HTX := Lib.hid hT
  rw [hlt]
  have HXb : Hid (-9223372036854775808 ≤ X ∧ X ≤ 9223372036854775807) := by show _ ∧ _; rw [← hX]; exact HF.out.last0
  clear hX hT hlt
  go_enter Tryz.func34, Tryz.ntmps34
  go_upto_region 1 with fail
  obtain ⟨W, hW⟩ : ∃ W, w.alloc (.cells #[.int .i64 l.b, .int .i64 l.bt, .int .u16 l.j.ov, .int .u16 l.j.ox, .int .u16 l.j.ol, .int .i64 l.j.oe, .int .i64 l.j.ok, .int .u16 l.j.nv, .int .u16 l.j.nx, .int .u16 l.j.nl, .int .i64 l.j.ne, .int .i64 l.j.nk, .bool l.j.two, .slice p l.es.length c] 30) = W := ⟨_, rfl⟩
  rw [hW] at HW ⊢
  clear hW
  obtain ⟨U, f, hU, hf, hg⟩ := calm_class (W); obtain ⟨u0, hu0⟩ := hg _ (Below.refl _ _); rw [hu0]; clear hu0
  have kA := fun u => block_cells (calm_heap hf HW.out.1 u)
  have HBu : Hid (∀ u, Below w.heap.size w (f u)) := fun u => HW.out.2.trans ((hf u).mono HW.out.2.size)
  have LA : Hid (∀ u, Calls Tryz.prog 33 #[.agg #[.int .i64 l.b, .int .i64 l.bt, .int .u16 l.j.ov, .int .u16 l.j.ox, .int .u16 l.j.ol, .int .i64 l.j.oe, .int .i64 l.j.ok, .int .u16 l.j.nv, .int .u16 l.j.nx, .int .u16 l.j.nl, .int .i64 l.j.ne, .int .i64 l.j.nk, .bool l.j.two, .slice p l.es.length c]] (f u) fun r w' => r = .returned (.int .i64 X) ∧ Below (f u).heap.size (f u) w') := fun u => by
    have := rlast_any l p c (f u) HF.out.b0 HF.out.b1 HF.out.n; rw [HLX.out] at this; exact this
  have TA : Hid (∀ u, Calls Tryz.prog 87 #[.agg #[.int .i64 l.b, .int .i64 l.bt, .int .u16 l.j.ov, .int .u16 l.j.ox, .int .u16 l.j.ol, .int .i64 l.j.oe, .int .i64 l.j.ok, .int .u16 l.j.nv, .int .u16 l.j.nx, .int .u16 l.j.nl, .int .i64 l.j.ne, .int .i64 l.j.nk, .bool l.j.two, .slice p l.es.length c], .int .i64 X] (f u) fun r w' => r = .returned (.tuple #[.int .i64 T.1, .bool T.2]) ∧ Below (f u).heap.size (f u) w') := fun u => by
    have := rterm_is l p c (f u) HF.out HXb.out (HE.out.keep (HBu.out u) (Nat.le_refl _)); rw [HTX.out] at this; exact this
  refine wp_region_calm f (by kernel_rfl) (by kernel_rfl) (calm_drew hf hg _) ?_
  repeat (go_big_quiet_step ((first | (go_at_call 33; with_reducible exact calm_of hf hg (LA.out _)) | (go_at_call 87; with_reducible exact calm_of hf hg (TA.out _)))))
  refine wpQuiet_nil ?_; rintro _ ⟨u, rfl⟩
  go_wp2_with fail
  go_ret
  exact ⟨rfl, HBu.out _⟩
end Go.Proofs.YtbnndbdnejfehaaGreatDoor
