/- The reference of entries: the last term, and which log is newer. -/
import Derived.Test.YtabiccpodnjieaaLogO
import Derived.Test.YtabiccpodnjieaaLogP
namespace Go.Proofs.Ytabiccpodnjieaa
open Go.ChangeShapes Go.WideShapes Go.ChangeAt Go.RowKit

set_option maxRecDepth 100000 in
set_option maxHeartbeats 4000000 in
theorem rlastTerm_any (l : Lg) (p : Option Addr) (c : Nat) (w : World) (hF : LgFit l) (hE : EnSl w (.slice p l.es.length c) l.es) :
    Calls Try.prog 45 #[.agg #[.int .i64 l.b, .int .i64 l.bt, .int .u16 l.j.ov, .int .u16 l.j.ox, .int .u16 l.j.ol, .int .i64 l.j.oe, .int .i64 l.j.ok, .int .u16 l.j.nv, .int .u16 l.j.nx, .int .u16 l.j.nl, .int .i64 l.j.ne, .int .i64 l.j.nk, .bool l.j.two, .slice p l.es.length c]] w fun r w' => r = .returned (.int .i64 (lastTerm l)) ∧ Below w.heap.size w w' := by
  have HF : Hid (LgFit l) := hF
  have HE := Lib.hid hE
  have hA := heap_last w (.cells #[.int .i64 l.b, .int .i64 l.bt, .int .u16 l.j.ov, .int .u16 l.j.ox, .int .u16 l.j.ol, .int .i64 l.j.oe, .int .i64 l.j.ok, .int .u16 l.j.nv, .int .u16 l.j.nx, .int .u16 l.j.nl, .int .i64 l.j.ne, .int .i64 l.j.nk, .bool l.j.two, .slice p l.es.length c] 32)
  have hB : Below w.heap.size w (w.alloc (.cells #[.int .i64 l.b, .int .i64 l.bt, .int .u16 l.j.ov, .int .u16 l.j.ox, .int .u16 l.j.ol, .int .i64 l.j.oe, .int .i64 l.j.ok, .int .u16 l.j.nv, .int .u16 l.j.nx, .int .u16 l.j.nl, .int .i64 l.j.ne, .int .i64 l.j.nk, .bool l.j.two, .slice p l.es.length c] 32)) := (Below.refl _ w).alloc (Nat.le_refl _) _
  have HW := Lib.hid (And.intro hA hB)
  clear hA hB hF hE
  obtain ⟨X, hX⟩ : ∃ X, l.last = X := ⟨_, rfl⟩
  obtain ⟨T, hT⟩ : ∃ T, termL l X = T := ⟨_, rfl⟩
  have hlt : lastTerm l = T.1 := by unfold lastTerm; rw [hX, hT]
  have HLX := Lib.hid hX; have HTX := Lib.hid hT
  rw [hlt]
  have HXb : Hid (-9223372036854775808 ≤ X ∧ X ≤ 9223372036854775807) := by show _ ∧ _; rw [← hX]; exact HF.out.last0
  clear hX hT hlt
  go_enter Try.func45, Try.ntmps45
  go_upto_region 1 with fail
  obtain ⟨W, hW⟩ : ∃ W, w.alloc (.cells #[.int .i64 l.b, .int .i64 l.bt, .int .u16 l.j.ov, .int .u16 l.j.ox, .int .u16 l.j.ol, .int .i64 l.j.oe, .int .i64 l.j.ok, .int .u16 l.j.nv, .int .u16 l.j.nx, .int .u16 l.j.nl, .int .i64 l.j.ne, .int .i64 l.j.nk, .bool l.j.two, .slice p l.es.length c] 32) = W := ⟨_, rfl⟩
  rw [hW] at HW ⊢
  clear hW
  obtain ⟨U, f, hU, hf, hg⟩ := calm_class (W); obtain ⟨u0, hu0⟩ := hg _ (Below.refl _ _); rw [hu0]; clear hu0
  have kA := fun u => block_cells (calm_heap hf HW.out.1 u)
  have HBu : Hid (∀ u, Below w.heap.size w (f u)) := fun u => HW.out.2.trans ((hf u).mono HW.out.2.size)
  have LA : Hid (∀ u, Calls Try.prog 32 #[.agg #[.int .i64 l.b, .int .i64 l.bt, .int .u16 l.j.ov, .int .u16 l.j.ox, .int .u16 l.j.ol, .int .i64 l.j.oe, .int .i64 l.j.ok, .int .u16 l.j.nv, .int .u16 l.j.nx, .int .u16 l.j.nl, .int .i64 l.j.ne, .int .i64 l.j.nk, .bool l.j.two, .slice p l.es.length c]] (f u) fun r w' => r = .returned (.int .i64 X) ∧ Below (f u).heap.size (f u) w') := fun u => by
    have := rlast_any l p c (f u) HF.out.b0 HF.out.b1 HF.out.n; rw [HLX.out] at this; exact this
  have TA : Hid (∀ u, Calls Try.prog 30 #[.agg #[.int .i64 l.b, .int .i64 l.bt, .int .u16 l.j.ov, .int .u16 l.j.ox, .int .u16 l.j.ol, .int .i64 l.j.oe, .int .i64 l.j.ok, .int .u16 l.j.nv, .int .u16 l.j.nx, .int .u16 l.j.nl, .int .i64 l.j.ne, .int .i64 l.j.nk, .bool l.j.two, .slice p l.es.length c], .int .i64 X] (f u) fun r w' => r = .returned (.tuple #[.int .i64 T.1, .bool T.2]) ∧ Below (f u).heap.size (f u) w') := fun u => by
    have := rterm_is l p c (f u) HF.out HXb.out (HE.out.keep (HBu.out u) (Nat.le_refl _)); rw [HTX.out] at this; exact this
  refine wp_region_calm f (by kernel_rfl) (by kernel_rfl) (calm_drew hf hg _) ?_
  repeat (go_big_quiet_step ((first | (go_at_call 32; with_reducible exact calm_of hf hg (LA.out _)) | (go_at_call 30; with_reducible exact calm_of hf hg (TA.out _)))))
  refine wpQuiet_nil ?_; rintro _ ⟨u, rfl⟩
  go_wp2_with fail
  go_ret
  exact ⟨rfl, HBu.out _⟩
set_option maxRecDepth 100000 in
set_option maxHeartbeats 4000000 in
theorem rnewer_any (l : Lg) (p : Option Addr) (c : Nat) (last term : Int) (w : World) (hF : LgFit l) (hE : EnSl w (.slice p l.es.length c) l.es) :
    Calls Try.prog 37 #[.agg #[.int .i64 l.b, .int .i64 l.bt, .int .u16 l.j.ov, .int .u16 l.j.ox, .int .u16 l.j.ol, .int .i64 l.j.oe, .int .i64 l.j.ok, .int .u16 l.j.nv, .int .u16 l.j.nx, .int .u16 l.j.nl, .int .i64 l.j.ne, .int .i64 l.j.nk, .bool l.j.two, .slice p l.es.length c], .int .i64 last, .int .i64 term] w fun r w' => r = .returned (.bool (newerL l last term)) ∧ Below w.heap.size w w' := by
  have HF : Hid (LgFit l) := hF
  have HE := Lib.hid hE
  have hA := heap_last w (.cells #[.int .i64 l.b, .int .i64 l.bt, .int .u16 l.j.ov, .int .u16 l.j.ox, .int .u16 l.j.ol, .int .i64 l.j.oe, .int .i64 l.j.ok, .int .u16 l.j.nv, .int .u16 l.j.nx, .int .u16 l.j.nl, .int .i64 l.j.ne, .int .i64 l.j.nk, .bool l.j.two, .slice p l.es.length c] 32)
  have hB : Below w.heap.size w (w.alloc (.cells #[.int .i64 l.b, .int .i64 l.bt, .int .u16 l.j.ov, .int .u16 l.j.ox, .int .u16 l.j.ol, .int .i64 l.j.oe, .int .i64 l.j.ok, .int .u16 l.j.nv, .int .u16 l.j.nx, .int .u16 l.j.nl, .int .i64 l.j.ne, .int .i64 l.j.nk, .bool l.j.two, .slice p l.es.length c] 32)) := (Below.refl _ w).alloc (Nat.le_refl _) _
  have HW := Lib.hid (And.intro hA hB)
  have hN : newerL l last term = (decide (lastTerm l < term) || (decide (term = lastTerm l) && decide (l.last ≤ last))) := rfl
  clear hA hB hF hE
  obtain ⟨X, hX⟩ : ∃ X, l.last = X := ⟨_, rfl⟩
  obtain ⟨T, hT⟩ : ∃ T, lastTerm l = T := ⟨_, rfl⟩
  rw [hX, hT] at hN
  have HLX := Lib.hid hX; have HTX := Lib.hid hT; have HN := Lib.hid hN
  clear hX hT hN
  obtain ⟨U, f, hU, hf, hg⟩ := calm_class (w.alloc (.cells #[.int .i64 l.b, .int .i64 l.bt, .int .u16 l.j.ov, .int .u16 l.j.ox, .int .u16 l.j.ol, .int .i64 l.j.oe, .int .i64 l.j.ok, .int .u16 l.j.nv, .int .u16 l.j.nx, .int .u16 l.j.nl, .int .i64 l.j.ne, .int .i64 l.j.nk, .bool l.j.two, .slice p l.es.length c] 32))
  have HBu : Hid (∀ u, Below w.heap.size w (f u)) := fun u => HW.out.2.trans ((hf u).mono HW.out.2.size)
  have kA := fun u => block_cells (calm_heap hf HW.out.1 u)
  have LA : Hid (∀ u, Calls Try.prog 32 #[.agg #[.int .i64 l.b, .int .i64 l.bt, .int .u16 l.j.ov, .int .u16 l.j.ox, .int .u16 l.j.ol, .int .i64 l.j.oe, .int .i64 l.j.ok, .int .u16 l.j.nv, .int .u16 l.j.nx, .int .u16 l.j.nl, .int .i64 l.j.ne, .int .i64 l.j.nk, .bool l.j.two, .slice p l.es.length c]] (f u) fun r w' => r = .returned (.int .i64 X) ∧ Below (f u).heap.size (f u) w') := fun u => by
    have := rlast_any l p c (f u) HF.out.b0 HF.out.b1 HF.out.n; rw [HLX.out] at this; exact this
  have LT : Hid (∀ u, Calls Try.prog 45 #[.agg #[.int .i64 l.b, .int .i64 l.bt, .int .u16 l.j.ov, .int .u16 l.j.ox, .int .u16 l.j.ol, .int .i64 l.j.oe, .int .i64 l.j.ok, .int .u16 l.j.nv, .int .u16 l.j.nx, .int .u16 l.j.nl, .int .i64 l.j.ne, .int .i64 l.j.nk, .bool l.j.two, .slice p l.es.length c]] (f u) fun r w' => r = .returned (.int .i64 T) ∧ Below (f u).heap.size (f u) w') := fun u => by
    have := rlastTerm_any l p c (f u) HF.out (HE.out.keep (HBu.out u) (Nat.le_refl _)); rw [HTX.out] at this; exact this
  rcases Int.lt_trichotomy T term with h | h | h
  · have HM : Hid (newerL l last term = true) := by show _ = _; rw [HN.out]; simp [h]
    go_enter Try.func37, Try.ntmps37
    go_upto_region 1 with fail
    obtain ⟨u0, hu0⟩ := hg _ (Below.refl _ _); rw [hu0]; clear hu0
    go_wp2_with (first | (go_at_call 45; refine (LT.out _).mono ?_; rintro r w' ⟨rfl, hb⟩; obtain ⟨u, rfl⟩ := calm_step hf hg hb; clear hb) | (go_at_call 32; refine (LA.out _).mono ?_; rintro r w' ⟨rfl, hb⟩; obtain ⟨u, rfl⟩ := calm_step hf hg hb; clear hb))
    go_ret
    exact ⟨ret_boolL HM.out.symm, HBu.out _⟩
  · subst h
    by_cases hx : X ≤ last
    · have HM : Hid (newerL l last T = true) := by show _ = _; rw [HN.out]; simp [hx]
      go_enter Try.func37, Try.ntmps37
      go_upto_region 1 with fail
      obtain ⟨u0, hu0⟩ := hg _ (Below.refl _ _); rw [hu0]; clear hu0
      go_wp2_with (first | (go_at_call 45; refine (LT.out _).mono ?_; rintro r w' ⟨rfl, hb⟩; obtain ⟨u, rfl⟩ := calm_step hf hg hb; clear hb) | (go_at_call 32; refine (LA.out _).mono ?_; rintro r w' ⟨rfl, hb⟩; obtain ⟨u, rfl⟩ := calm_step hf hg hb; clear hb))
      go_ret
      exact ⟨ret_boolL HM.out.symm, HBu.out _⟩
    · have HM : Hid (newerL l last T = false) := by show _ = _; rw [HN.out]; simp [hx]
      go_enter Try.func37, Try.ntmps37
      go_upto_region 1 with fail
      obtain ⟨u0, hu0⟩ := hg _ (Below.refl _ _); rw [hu0]; clear hu0
      go_wp2_with (first | (go_at_call 45; refine (LT.out _).mono ?_; rintro r w' ⟨rfl, hb⟩; obtain ⟨u, rfl⟩ := calm_step hf hg hb; clear hb) | (go_at_call 32; refine (LA.out _).mono ?_; rintro r w' ⟨rfl, hb⟩; obtain ⟨u, rfl⟩ := calm_step hf hg hb; clear hb))
      go_ret
      exact ⟨ret_boolL ((decide_eq_false (by omega)).trans HM.out.symm), HBu.out _⟩
  · have HM : Hid (newerL l last term = false) := by show _ = _; rw [HN.out]; simp; omega
    have hd : (term == T) = false := by simp; omega
    go_enter Try.func37, Try.ntmps37
    go_upto_region 1 with fail
    obtain ⟨u0, hu0⟩ := hg _ (Below.refl _ _); rw [hu0]; clear hu0
    go_wp2_with (first | (go_at_call 45; refine (LT.out _).mono ?_; rintro r w' ⟨rfl, hb⟩; obtain ⟨u, rfl⟩ := calm_step hf hg hb; clear hb) | (go_at_call 32; refine (LA.out _).mono ?_; rintro r w' ⟨rfl, hb⟩; obtain ⟨u, rfl⟩ := calm_step hf hg hb; clear hb))
    go_ret
    exact ⟨ret_boolL ((decide_eq_false (by omega)).trans HM.out.symm), HBu.out _⟩
end Go.Proofs.Ytabiccpodnjieaa
