/- slices.Grow of nothing; slices.Concat of two lists of entries. -/
import Derived.Test.YtjaabakobpabjaaLogD
import Derived.Lib.AppendZeros
namespace Go.Proofs.Ytjaabakobpabjaa
open Go.ChangeShapes Go.WideShapes Go.ChangeAt Go.RowKit

set_option maxRecDepth 100000 in
set_option maxHeartbeats 4000000 in
theorem grow_nil (n : Nat) (hn : n ≤ 1000000) (w : World) :
    Calls Try.prog 111 #[.slice none 0 0, .int .i64 n] w fun r w' => ∃ v, r = .returned v ∧ w'.ownsRow w.heap.size 85 14 v 0 [] ∧ Below w.heap.size w w' := by
  obtain ⟨i0, hi, hz0, hz1, hz2⟩ := info_parts Try.infoEn
  rcases Nat.eq_zero_or_pos n with h0 | h0
  · subst h0
    rw [show ((0 : Nat) : Int) = 0 from rfl]
    go_enter Try.func111, Try.ntmps111
    go_wp2_with fail
    go_ret
    exact ⟨_, rfl, World.ownsRow_nil _ _ _ _, Below.refl _ _⟩
  · have hr := fun ty => Lib.run_append_nil_zeros (P := Try.prog) w 43 3 ty 85 i0 (.agg #[.int .i64 0, .int .i64 0, .string ⟨#[]⟩, .int .u16 0, .int .u16 0, .int .u16 0, .int .i64 0, .int .i64 0, .int .u16 0, .int .u16 0, .int .u16 0, .int .i64 0, .int .i64 0, .bool false]) .i64 .i64 Try.underlying43 Try.underlying3 hi hz0 n h0 (by rw [hz1]; omega) (by omega) (by rw [hz2]; omega)
    have HR := Lib.hid hr
    have d1 : decide ((n : Int) < 0) = false := by simp
    have d2 : decide ((0 : Int) < (n : Int)) = true := by simp; omega
    clear hr
    go_enter Try.func111, Try.ntmps111
    go_wp2_with (at_builtin; refine Lib.wpList_append_run _ rfl _ _ 43 3 rfl (.slice none 0 0) (.int .i64 n) rfl rfl _ _ (HR.out _) ?_)
    obtain ⟨C, hC⟩ : ∃ C, grownCap w n 0 85 = C := ⟨_, rfl⟩
    have hC1 : n ≤ C := by rw [← hC]; exact grownCap_ge _ _ _ _
    have hC2 : C ≤ maxLen := by rw [← hC]; exact grownCap_le_maxLen _ _ _ _ (by unfold maxLen; omega)
    rw [hC]
    clear hC
    go_wp2_with fail
    go_ret
    refine ⟨_, rfl, World.ownsRow_made w.drew _ C (Nat.le_refl _) hC2 ?_, ((Below.refl _ _).drew).alloc (Nat.le_refl _) _⟩
    rw [Array.size_append, size_zeroCells, size_zeroCells]
    show n * 14 + (C - n) * 14 = C * 14
    omega
set_option maxRecDepth 100000 in
set_option maxHeartbeats 4000000 in
theorem concat_two (L1 L2 : List Ent) (p1 p2 : Option Addr) (c1 c2 : Nat) (w : World) (R : Nat) (hR : w.heap[R]? = some (.cells #[.slice p1 L1.length c1, .slice p2 L2.length c2] 43 (0, 0))) (h1 : EnSl w (.slice p1 L1.length c1) L1) (h2 : EnSl w (.slice p2 L2.length c2) L2) (hn : L1.length + L2.length ≤ 1000000) :
    Calls Try.prog 96 #[.slice (some ⟨R, 0, none⟩) 2 2] w fun r w' => ∃ v, r = .returned v ∧ w'.ownsRow w.heap.size 85 14 v (L1.length + L2.length) (entRow (L1 ++ L2)) ∧ Below w.heap.size w w' := by
  obtain ⟨i0, hi, hz0, hz1, hz2⟩ := info_parts Try.infoEn
  have HR := Lib.hid hR
  have H1 := Lib.hid h1
  have H2 := Lib.hid h2
  have HAPP := Lib.hid (entRow_app L1 L2)
  have HL1 := Lib.hid (entC_one L1)
  have HL2 := Lib.hid (entC_one L2)
  have HG := Lib.hid (fun (W : World) => grow_nil (L1.length + L2.length) hn W)
  have kR := block_cells hR
  obtain ⟨n1, hn1⟩ : ∃ n, L1.length = n := ⟨_, rfl⟩
  obtain ⟨n2, hn2⟩ : ∃ n, L2.length = n := ⟨_, rfl⟩
  have H1' : Hid (Sl w.heap.size w (.slice p1 n1 c1) 14 n1 (entRow L1)) := by have := H1.out; unfold EnSl at this; rw [hn1] at this; exact this
  have H2' : Hid (Sl w.heap.size w (.slice p2 n2 c2) 14 n2 (entRow L2)) := by have := H2.out; unfold EnSl at this; rw [hn2] at this; exact this
  have HR2 : Hid (w.heap[R]? = some (.cells #[.slice p1 n1 c1, .slice p2 n2 c2] 43 (0, 0))) := by have := hR; rw [hn1, hn2] at this; exact this
  rw [hn1, hn2] at kR HG hn ⊢
  rw [Int.natCast_add] at HG
  have HRL := Lib.hid (block_lt hR)
  clear hR h1 h2 hn1 hn2 H1 H2
  go_enter Try.func96, Try.ntmps96
  go_wp2_with fail
  go_loopw [3, 11] (fun s i wr => w = wr ∧ ((i = .int .i64 0 ∧ s = .int .i64 0) ∨ (i = .int .i64 1 ∧ s = .int .i64 n1) ∨ (i = .int .i64 2 ∧ s = .int .i64 ((n1 : Int) + (n2 : Int))))) (fun _ i _ => 2 - (intOf i).toNat)
  case atStart => exact ⟨rfl, .inl ⟨rfl, rfl⟩⟩
  case round =>
    obtain ⟨rfl, ⟨rfl, rfl⟩ | ⟨rfl, rfl⟩ | ⟨rfl, rfl⟩⟩ := hrel
    · go_wp2_with fail
      go_roundw
      case rel => exact ⟨trivial, .inr (.inl ⟨by go_num, by go_num⟩)⟩
      case measure => simp [intOf]
    · go_wp2_with fail
      go_roundw
      case rel => exact ⟨trivial, .inr (.inr ⟨by go_num, by go_num⟩)⟩
      case measure => simp [intOf]
    · go_wp2_with fail
      refine (HG.out _).mono ?_; rintro r w1 ⟨v1, rfl, ho1, hb1⟩
      have HO1 := Lib.hid ho1; have HB1 := Lib.hid hb1
      have kR1 := block_cells (below_block hb1 HRL.out HR2.out)
      clear ho1 hb1 kR
      go_wp2_with fail
      go_loopw [6, 27] (fun v i wr => Hid (Below w.heap.size w wr) ∧ ((i = .int .i64 0 ∧ Hid (wr.ownsRow w.heap.size 85 14 v 0 [])) ∨ (i = .int .i64 1 ∧ Hid (wr.ownsRow w.heap.size 85 14 v n1 (entRow L1))) ∨ (i = .int .i64 2 ∧ Hid (wr.ownsRow w.heap.size 85 14 v (n1 + n2) (entRow L1 ++ entRow L2))))) (fun _ i _ => 2 - (intOf i).toNat)
      case atStart => exact ⟨HB1, .inl ⟨rfl, HO1⟩⟩
      case round =>
        obtain ⟨HB, ⟨rfl, HO⟩ | ⟨rfl, HO⟩ | ⟨rfl, HO⟩⟩ := hrel
        · obtain ⟨wk, rfl⟩ : ∃ wk : World, wk = wr := ⟨_, rfl⟩
          have kRk := block_cells (below_block HB.out HRL.out HR2.out)
          go_wp2_with (at_builtin; refine wpList_append_sl rfl _ _ 43 rfl w.heap.size 85 i0 (.agg #[.int .i64 0, .int .i64 0, .string ⟨#[]⟩, .int .u16 0, .int .u16 0, .int .u16 0, .int .i64 0, .int .i64 0, .int .u16 0, .int .u16 0, .int .u16 0, .int .i64 0, .int .i64 0, .bool false]) 14 88 Try.underlying43 hi hz0 hz1 hz2 rfl (by decide) _ 0 [] rfl HO.out w.heap.size _ n1 (entRow L1) rfl (H1'.out.keep HB.out) HL1.out ?_ ?_ HB.out.size ?_)
          · unfold maxLen; omega
          · omega
          intro v3 w3 hown3 hgrow3
          have HO3 : Hid (w3.ownsRow w.heap.size 85 14 v3 n1 (entRow L1)) := hown3
          have HB3 : Hid (Below w.heap.size w w3) := HB.out.grown hgrow3 HB.out.size (fun j hj => (HO.out.lt j hj).1)
          clear hown3 hgrow3
          go_wp2_with fail
          go_roundw
          case rel => exact ⟨HB3, .inr (.inl ⟨by go_num, HO3⟩)⟩
          case measure => simp [intOf]
        · obtain ⟨wk, rfl⟩ : ∃ wk : World, wk = wr := ⟨_, rfl⟩
          have kRk := block_cells (below_block HB.out HRL.out HR2.out)
          go_wp2_with (at_builtin; refine wpList_append_sl rfl _ _ 43 rfl w.heap.size 85 i0 (.agg #[.int .i64 0, .int .i64 0, .string ⟨#[]⟩, .int .u16 0, .int .u16 0, .int .u16 0, .int .i64 0, .int .i64 0, .int .u16 0, .int .u16 0, .int .u16 0, .int .i64 0, .int .i64 0, .bool false]) 14 88 Try.underlying43 hi hz0 hz1 hz2 rfl (by decide) _ n1 (entRow L1) rfl HO.out w.heap.size _ n2 (entRow L2) rfl (H2'.out.keep HB.out) HL2.out ?_ ?_ HB.out.size ?_)
          · unfold maxLen; omega
          · omega
          intro v3 w3 hown3 hgrow3
          have HO3 := Lib.hid hown3
          have HB3 : Hid (Below w.heap.size w w3) := HB.out.grown hgrow3 HB.out.size (fun j hj => (HO.out.lt j hj).1)
          clear hown3 hgrow3
          go_wp2_with fail
          go_roundw
          case rel => exact ⟨HB3, .inr (.inr ⟨by go_num, HO3⟩)⟩
          case measure => simp [intOf]
        · go_wp2_with fail
          go_ret
          exact ⟨_, rfl, by rw [HAPP.out]; exact HO.out, HB.out⟩
end Go.Proofs.Ytjaabakobpabjaa
