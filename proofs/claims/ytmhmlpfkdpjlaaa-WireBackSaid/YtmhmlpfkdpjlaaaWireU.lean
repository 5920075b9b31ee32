/- Wire: package wire's TakeCmd, of the bytes of a command without spans and writes. -/
import Derived.Test.YtmhmlpfkdpjlaaaWireT
import Derived.Deep.RegionHeld3
namespace Go.Proofs.Ytmhmlpfkdpjlaaa
open Go.ChangeShapes Go.WideShapes Go.ChangeAt Go.RowKit

def put14W (w : World) (g : Nat) (x0 x1 x2 x3 x4 x5 x6 x7 x8 x9 x10 x11 x12 x13 : Value) : World := (((((((((((((w.setCell ⟨g, 0, none⟩ x0).setCell ⟨g, 1, none⟩ x1).setCell ⟨g, 2, none⟩ x2).setCell ⟨g, 3, none⟩ x3).setCell ⟨g, 4, none⟩ x4).setCell ⟨g, 5, none⟩ x5).setCell ⟨g, 6, none⟩ x6).setCell ⟨g, 7, none⟩ x7).setCell ⟨g, 8, none⟩ x8).setCell ⟨g, 9, none⟩ x9).setCell ⟨g, 10, none⟩ x10).setCell ⟨g, 11, none⟩ x11).setCell ⟨g, 12, none⟩ x12).setCell ⟨g, 13, none⟩ x13
theorem put14W_rd {B R g : Nat} {w : World} {ys : List Int} {bad : Bool} (h : RdS B w R ys bad) (hg : R < g) (x0 x1 x2 x3 x4 x5 x6 x7 x8 x9 x10 x11 x12 x13 : Value) : RdS B (put14W w g x0 x1 x2 x3 x4 x5 x6 x7 x8 x9 x10 x11 x12 x13) R ys bad := ((((((((((((((((((((((((((((h).setFar hg x0)).setFar hg x1)).setFar hg x2)).setFar hg x3)).setFar hg x4)).setFar hg x5)).setFar hg x6)).setFar hg x7)).setFar hg x8)).setFar hg x9)).setFar hg x10)).setFar hg x11)).setFar hg x12)).setFar hg x13)
theorem put14W_gr {w0 w : World} {row : Option Nat} {g : Nat} (h : w0.grownBy w row) (hg : w0.heap.size ≤ g) (x0 x1 x2 x3 x4 x5 x6 x7 x8 x9 x10 x11 x12 x13 : Value) : w0.grownBy (put14W w g x0 x1 x2 x3 x4 x5 x6 x7 x8 x9 x10 x11 x12 x13) row := (grown_setFar ((grown_setFar ((grown_setFar ((grown_setFar ((grown_setFar ((grown_setFar ((grown_setFar ((grown_setFar ((grown_setFar ((grown_setFar ((grown_setFar ((grown_setFar ((grown_setFar ((grown_setFar (h) hg)) hg)) hg)) hg)) hg)) hg)) hg)) hg)) hg)) hg)) hg)) hg)) hg)) hg)
theorem put14W_bel {B : Nat} {w0 w : World} {g : Nat} (h : Below B w0 w) (hg : B ≤ g) (x0 x1 x2 x3 x4 x5 x6 x7 x8 x9 x10 x11 x12 x13 : Value) : Below B w0 (put14W w g x0 x1 x2 x3 x4 x5 x6 x7 x8 x9 x10 x11 x12 x13) := ((((((((((((((((((((((((((((h).setCell (p := ⟨g, 0, none⟩) hg x0)).setCell (p := ⟨g, 1, none⟩) hg x1)).setCell (p := ⟨g, 2, none⟩) hg x2)).setCell (p := ⟨g, 3, none⟩) hg x3)).setCell (p := ⟨g, 4, none⟩) hg x4)).setCell (p := ⟨g, 5, none⟩) hg x5)).setCell (p := ⟨g, 6, none⟩) hg x6)).setCell (p := ⟨g, 7, none⟩) hg x7)).setCell (p := ⟨g, 8, none⟩) hg x8)).setCell (p := ⟨g, 9, none⟩) hg x9)).setCell (p := ⟨g, 10, none⟩) hg x10)).setCell (p := ⟨g, 11, none⟩) hg x11)).setCell (p := ⟨g, 12, none⟩) hg x12)).setCell (p := ⟨g, 13, none⟩) hg x13)
theorem put14W_at {w : World} {g : Nat} {t : TypeId} {a0 a1 a2 a3 a4 a5 a6 a7 a8 a9 a10 a11 a12 a13 : Value} (h : w.heap[g]? = some (.cells #[a0, a1, a2, a3, a4, a5, a6, a7, a8, a9, a10, a11, a12, a13] t (0, 0))) (x0 x1 x2 x3 x4 x5 x6 x7 x8 x9 x10 x11 x12 x13 : Value) : (put14W w g x0 x1 x2 x3 x4 x5 x6 x7 x8 x9 x10 x11 x12 x13).heap[g]? = some (.cells #[x0, x1, x2, x3, x4, x5, x6, x7, x8, x9, x10, x11, x12, x13] t (0, 0)) := by
  have k := (cells_setW ((cells_setW ((cells_setW ((cells_setW ((cells_setW ((cells_setW ((cells_setW ((cells_setW ((cells_setW ((cells_setW ((cells_setW ((cells_setW ((cells_setW ((cells_setW (h) 0 x0)) 1 x1)) 2 x2)) 3 x3)) 4 x4)) 5 x5)) 6 x6)) 7 x7)) 8 x8)) 9 x9)) 10 x10)) 11 x11)) 12 x12)) 13 x13)
  simp only [List.setIfInBounds_toArray, List.set_cons_zero, List.set_cons_succ] at k
  exact k
theorem grown_reflW (w : World) (row : Option Nat) : w.grownBy w row := ⟨rfl, rfl, rfl, Nat.le_refl _, fun _ _ _ => rfl⟩
theorem RdS.lt {B R : Nat} {w : World} {xs : List Int} {bad : Bool} (h : RdS B w R xs bad) : R < w.heap.size := by
  obtain ⟨_, p, cap, hR, _⟩ := h; exact block_lt hR
set_option maxRecDepth 100000 in
set_option maxHeartbeats 16000000 in
theorem takeCmd_none (c : CmX) (v : Value) (w : World) (F : CmF c) (hs : c.sp = []) (hw : c.wr = []) (hv : Sl w.heap.size w v 1 (encCm c).length (byt (encCm c))) :
    Calls Try.prog 22 #[v] w fun e w' => e = .returned (.tuple #[.agg #[.int .i64 c.k, .int .i64 c.e, .int .i64 c.n, .int .i64 c.h, .int .i64 c.yn, .int .i64 c.yl, .int .i64 c.ys, .int .i64 c.ya, .int .i64 c.sw, .int .i64 c.st, .int .i64 c.w, .bool c.yes, .slice none 0 0, .slice none 0 0], .int .i64 0]) ∧ Below w.heap.size w w' := by
  obtain ⟨p, cap, rfl, hc1, hc2, -, -⟩ := hv.form
  have HV := Lib.hid hv
  have HL := Lib.hid hc1
  obtain ⟨B, eB⟩ : ∃ n, w.heap.size = n := ⟨_, rfl⟩
  have HEB := Lib.hid eB
  have hoct : ∀ x ∈ encCm c, 0 ≤ x ∧ x ≤ 255 := by
    have e1 : encCm c = [1] ++ encN c.k ++ encN c.e ++ encN c.n ++ encN c.h ++ (encN c.yn ++ encN c.yl ++ encN c.ys ++ encN c.ya) ++ stampB c.sw c.st ++ encN c.w ++ encF c.yes ++ encN 0 ++ encN 0 := by
      unfold encCm encHd encSps encWrs encY; rw [hs, hw]; simp
    rw [e1]
    have hn := encN_oct; have hst := stampB_octW c.sw c.st
    intro x hx
    simp only [List.mem_append, List.mem_singleton] at hx
    rcases hx with (((((((((h | h) | h) | h) | h) | (((h | h) | h) | h)) | h) | h) | h) | h) | h
    · omega
    all_goals first | exact hn _ x h | exact hst x h | (unfold encF at h; rw [List.mem_singleton] at h; split at h <;> omega)
  obtain ⟨X0, hX0⟩ : ∃ X, encCm c = X := ⟨_, rfl⟩
  rw [hX0] at HV HL hoct ⊢
  obtain ⟨X11, hX11⟩ : ∃ X : List Int, [] = X := ⟨_, rfl⟩
  obtain ⟨X10, hX10⟩ : ∃ X, encN 0 ++ X11 = X := ⟨_, rfl⟩
  obtain ⟨X9, hX9⟩ : ∃ X, encN 0 ++ X10 = X := ⟨_, rfl⟩
  obtain ⟨X8, hX8⟩ : ∃ X, encF c.yes ++ X9 = X := ⟨_, rfl⟩
  obtain ⟨X7, hX7⟩ : ∃ X, encN c.w ++ X8 = X := ⟨_, rfl⟩
  obtain ⟨X6, hX6⟩ : ∃ X, stampB c.sw c.st ++ X7 = X := ⟨_, rfl⟩
  obtain ⟨X5, hX5⟩ : ∃ X, encY c.yn c.yl c.ys c.ya ++ X6 = X := ⟨_, rfl⟩
  obtain ⟨X4, hX4⟩ : ∃ X, encN c.h ++ X5 = X := ⟨_, rfl⟩
  obtain ⟨X3, hX3⟩ : ∃ X, encN c.n ++ X4 = X := ⟨_, rfl⟩
  obtain ⟨X2, hX2⟩ : ∃ X, encN c.e ++ X3 = X := ⟨_, rfl⟩
  obtain ⟨X1, hX1⟩ : ∃ X, encN c.k ++ X2 = X := ⟨_, rfl⟩
  have hx0 : X0 = 1 :: X1 := by
    rw [← hX0, ← hX1, ← hX2, ← hX3, ← hX4, ← hX5, ← hX6, ← hX7, ← hX8, ← hX9, ← hX10, ← hX11]
    unfold encCm encHd encSps encWrs; rw [hs, hw]; simp
  have o1 : ∀ x ∈ X1, 0 ≤ x ∧ x ≤ 255 := fun x hx => hoct x (by rw [hx0]; exact List.mem_cons_of_mem _ hx)
  have o2 : ∀ x ∈ X2, 0 ≤ x ∧ x ≤ 255 := fun x hx => o1 x (by rw [← hX1]; exact List.mem_append_right _ hx)
  have o3 : ∀ x ∈ X3, 0 ≤ x ∧ x ≤ 255 := fun x hx => o2 x (by rw [← hX2]; exact List.mem_append_right _ hx)
  have o4 : ∀ x ∈ X4, 0 ≤ x ∧ x ≤ 255 := fun x hx => o3 x (by rw [← hX3]; exact List.mem_append_right _ hx)
  have o5 : ∀ x ∈ X5, 0 ≤ x ∧ x ≤ 255 := fun x hx => o4 x (by rw [← hX4]; exact List.mem_append_right _ hx)
  have o6 : ∀ x ∈ X6, 0 ≤ x ∧ x ≤ 255 := fun x hx => o5 x (by rw [← hX5]; exact List.mem_append_right _ hx)
  have o7 : ∀ x ∈ X7, 0 ≤ x ∧ x ≤ 255 := fun x hx => o6 x (by rw [← hX6]; exact List.mem_append_right _ hx)
  have o8 : ∀ x ∈ X8, 0 ≤ x ∧ x ≤ 255 := fun x hx => o7 x (by rw [← hX7]; exact List.mem_append_right _ hx)
  have o9 : ∀ x ∈ X9, 0 ≤ x ∧ x ≤ 255 := fun x hx => o8 x (by rw [← hX8]; exact List.mem_append_right _ hx)
  have o10 : ∀ x ∈ X10, 0 ≤ x ∧ x ≤ 255 := fun x hx => o9 x (by rw [← hX9]; exact List.mem_append_right _ hx)
  have o11 : ∀ x ∈ X11, 0 ≤ x ∧ x ≤ 255 := fun x hx => o10 x (by rw [← hX10]; exact List.mem_append_right _ hx)
  have C1 : Hid (∀ (R : Nat) (w' : World), RdS B w' R X1 false → Calls Try.prog 56 #[.pointer (some ⟨R, 0, none⟩)] w' fun e w'' => e = .returned (.int .i64 c.k) ∧ RdS B w'' R X2 false ∧ w'.grownBy w'' (some R)) := fun R w' h => by
    have := rint_any B R X1 false w' o1 h
    have e := rdNw_enc F.k X2
    rw [hX1] at e
    rw [e] at this; exact this
  have C2 : Hid (∀ (R : Nat) (w' : World), RdS B w' R X2 false → Calls Try.prog 56 #[.pointer (some ⟨R, 0, none⟩)] w' fun e w'' => e = .returned (.int .i64 c.e) ∧ RdS B w'' R X3 false ∧ w'.grownBy w'' (some R)) := fun R w' h => by
    have := rint_any B R X2 false w' o2 h
    have e := rdNw_enc F.e X3
    rw [hX2] at e
    rw [e] at this; exact this
  have C3 : Hid (∀ (R : Nat) (w' : World), RdS B w' R X3 false → Calls Try.prog 56 #[.pointer (some ⟨R, 0, none⟩)] w' fun e w'' => e = .returned (.int .i64 c.n) ∧ RdS B w'' R X4 false ∧ w'.grownBy w'' (some R)) := fun R w' h => by
    have := rint_any B R X3 false w' o3 h
    have e := rdNw_enc F.n X4
    rw [hX3] at e
    rw [e] at this; exact this
  have C4 : Hid (∀ (R : Nat) (w' : World), RdS B w' R X4 false → Calls Try.prog 56 #[.pointer (some ⟨R, 0, none⟩)] w' fun e w'' => e = .returned (.int .i64 c.h) ∧ RdS B w'' R X5 false ∧ w'.grownBy w'' (some R)) := fun R w' h => by
    have := rint_any B R X4 false w' o4 h
    have e := rdNw_enc F.h X5
    rw [hX4] at e
    rw [e] at this; exact this
  have C5 : Hid (∀ (R : Nat) (w' : World), RdS B w' R X5 false → Calls Try.prog 57 #[.pointer (some ⟨R, 0, none⟩)] w' fun e w'' => e = .returned (.agg #[.int .i64 c.yn, .int .i64 c.yl, .int .i64 c.ys, .int .i64 c.ya]) ∧ RdS B w'' R X6 false ∧ w'.grownBy w'' (some R)) := fun R w' h => by
    have := rtry_any B R X5 false w' o5 h
    have e := rdYw_enc F.yn F.yl F.ys F.ya X6
    rw [hX5] at e
    rw [e] at this; exact this
  have C6 : Hid (∀ (R : Nat) (w' : World), RdS B w' R X6 false → Calls Try.prog 58 #[.pointer (some ⟨R, 0, none⟩)] w' fun e w'' => e = .returned (.agg #[.int .i64 c.sw, .int .i64 c.st]) ∧ RdS B w'' R X7 false ∧ w'.grownBy w'' (some R)) := fun R w' h => by
    have := rmoment_any B R X6 false w' o6 h
    have e := rdSw_enc F.sw F.st X7
    rw [hX6] at e
    rw [e] at this; exact this
  have C7 : Hid (∀ (R : Nat) (w' : World), RdS B w' R X7 false → Calls Try.prog 59 #[.pointer (some ⟨R, 0, none⟩)] w' fun e w'' => e = .returned (.int .i64 c.w) ∧ RdS B w'' R X8 false ∧ w'.grownBy w'' (some R)) := fun R w' h => by
    have := rnum_any B R X7 false w' o7 h
    have e := rdNw_enc F.w X8
    rw [hX7] at e
    rw [e] at this; exact this
  have C8 : Hid (∀ (R : Nat) (w' : World), RdS B w' R X8 false → Calls Try.prog 60 #[.pointer (some ⟨R, 0, none⟩)] w' fun e w'' => e = .returned (.bool c.yes) ∧ RdS B w'' R X9 false ∧ w'.grownBy w'' (some R)) := fun R w' h => by
    have := rflag_any B R X8 false w' o8 h
    have e := rdFw_enc c.yes X9
    rw [hX8] at e
    rw [e] at this; exact this
  have C0 : Hid (∀ (R : Nat) (w' : World), RdS B w' R X0 false → Calls Try.prog 55 #[.pointer (some ⟨R, 0, none⟩)] w' fun e w'' => e = .returned (.int .i64 1) ∧ RdS B w'' R X1 false ∧ w'.grownBy w'' (some R)) := fun R w' h => by
    have := rbyteW_any B R X0 false w' hoct h
    rw [hx0] at this; exact this
  have C9 : Hid (∀ (R : Nat) (fv : Value) (w' : World), RdS B w' R X9 false → Calls Try.prog 61 #[.pointer (some ⟨R, 0, none⟩), fv] w' fun e w'' => e = .returned (.tuple #[]) ∧ RdS B w'' R X10 false ∧ w'.grownBy w'' (some R)) := fun R fv w' h =>
    rlist_zero B R X9 X10 false false fv w' o9 h (by have e := rdNw_enc (v := 0) ⟨by omega, by omega⟩ X10; rw [hX9] at e; exact e)
  have C10 : Hid (∀ (R : Nat) (fv : Value) (w' : World), RdS B w' R X10 false → Calls Try.prog 61 #[.pointer (some ⟨R, 0, none⟩), fv] w' fun e w'' => e = .returned (.tuple #[]) ∧ RdS B w'' R X11 false ∧ w'.grownBy w'' (some R)) := fun R fv w' h =>
    rlist_zero B R X10 X11 false false fv w' o10 h (by have e := rdNw_enc (v := 0) ⟨by omega, by omega⟩ X11; rw [hX10] at e; exact e)
  have HX11 := Lib.hid hX11
  clear hX0 hX1 hX2 hX3 hX4 hX5 hX6 hX7 hX8 hX9 hX10 hX11 hx0 o1 o2 o3 o4 o5 o6 o7 o8 o9 o10 o11 hoct hs hw F hv hc1 hc2
  have hmf : ∀ (fn : Fn) (first cap : Array Value) (w : World), (Instr.makeFunc fn first cap).run Try.prog w = .ok (.func fn first cap) w := fun _ _ _ _ => rfl
  go_enter Try.func22, Try.ntmps22
  go_upto_region 2 with fail
  obtain ⟨Wa, hWa⟩ : ∃ x : World, w.alloc (.cells #[.int .i64 0, .int .i64 0, .int .i64 0, .int .i64 0, .int .i64 0, .int .i64 0, .int .i64 0, .int .i64 0, .int .i64 0, .int .i64 0, .int .i64 0, .bool false, .slice none 0 0, .slice none 0 0] 29) = x := ⟨_, rfl⟩
  obtain ⟨Wb, hWb⟩ : ∃ x : World, Wa.alloc (.cells #[.slice p X0.length cap, .bool false] 101) = x := ⟨_, rfl⟩
  obtain ⟨W, hW⟩ : ∃ x : World, Wb.alloc (.cells #[.pointer (some ⟨B + 1, 0, none⟩)] 99) = x := ⟨_, rfl⟩
  have sa : Wa.heap.size = B + 1 := by rw [← hWa]; simp; omega
  have sb : Wb.heap.size = B + 1 + 1 := by rw [← hWb]; simp; omega
  have ba : Below B w Wa := by rw [← hWa]; exact (Below.refl _ _).alloc (by omega) _
  have bb : Below Wa.heap.size Wa Wb := by rw [← hWb]; exact (Below.refl _ _).alloc (Nat.le_refl _) _
  have bc : Below Wb.heap.size Wb W := by rw [← hW]; exact (Below.refl _ _).alloc (Nat.le_refl _) _
  have hT : W.heap[B + 1 + 1]? = some (.cells #[.pointer (some ⟨B + 1, 0, none⟩)] 99 (0, 0)) := by rw [← hW, ← sb]; exact heap_last _ _
  have hRb : Wb.heap[B + 1]? = some (.cells #[.slice p X0.length cap, .bool false] 101 (0, 0)) := by rw [← hWb, ← sa]; exact heap_last _ _
  have hR := below_block bc (block_lt hRb) hRb
  have hZa : Wa.heap[B]? = some (.cells #[.int .i64 0, .int .i64 0, .int .i64 0, .int .i64 0, .int .i64 0, .int .i64 0, .int .i64 0, .int .i64 0, .int .i64 0, .int .i64 0, .int .i64 0, .bool false, .slice none 0 0, .slice none 0 0] 29 (0, 0)) := by rw [← hWa, ← eB]; exact heap_last _ _
  have hZb := below_block bb (block_lt hZa) hZa
  have hZ := below_block bc (block_lt hZb) hZb
  have hB1 : Below B w W := (ba.trans (bb.mono (by omega))).trans (bc.mono (by omega))
  have hr : RdS B W (B + 1) X0 false := ⟨by omega, p, cap, hR, by have := HV.out; rw [eB] at this; exact this.keep hB1⟩
  rw [hWa, hWb, hW]
  obtain ⟨R, eR⟩ : ∃ n, B + 1 = n := ⟨_, rfl⟩
  rw [eR] at hT hr ⊢
  have hBR : B < R := by omega
  have HT := Lib.hid hT; have H0 := Lib.hid hr; have HB1 := Lib.hid hB1; have HZ := Lib.hid hZ
  clear hWa hWb hW sa sb ba bb bc hRb hR hZa hZb hZ hB1 hr hT eR eB HV HL
  have kT := block_cells HT.out
  go_wp2_with fail
  refine (C0.out _ _ H0.out).mono ?_; rintro e w1 ⟨rfl, h1, g1⟩
  have H1 := Lib.hid h1; have G1 := Lib.hid g1
  have hT1 := (g1.block (R + 1) (block_lt HT.out) (by simp)).trans HT.out
  have HT1 := Lib.hid hT1
  clear h1 g1 kT hT1 HT H0 C0
  go_upto_region 3 with fail
  have kT : ∀ w', w1.grownBy w' (some R) → ∀ j, w'.cell? ⟨R + 1, j, none⟩ = #[.pointer (some ⟨R, 0, none⟩)][j]? := fun w' h => block_cells ((h.block (R + 1) (block_lt HT1.out) (by simp)).trans HT1.out)
  apply cutG (R := fun g w' => w1.grownBy w' (some R) ∧ RdS B w' R X9 false ∧ w'.heap[g]? = some (.cells #[.int .i64 c.k, .int .i64 c.e, .int .i64 c.n, .int .i64 c.h, .int .i64 c.yn, .int .i64 c.yl, .int .i64 c.ys, .int .i64 c.ya, .int .i64 c.sw, .int .i64 c.st, .int .i64 c.w, .bool c.yes, .slice none 0 0, .slice none 0 0] 29 (0, 0)) ∧ w1.heap.size ≤ g)
  · intro hcut
    have h0 : w1.grownBy w1.drew (some R) := grown_drewW (grown_reflW w1 _)
    have r0 : RdS B w1.drew R X1 false := H1.out.drew
    refine wp_region_held_drew (S := fun w' => w1.grownBy w' (some R)) (by kernel_rfl) h0 (fun hHeld => ?_)
    obtain ⟨wd, ewd⟩ : ∃ x, w1.drew = x := ⟨_, rfl⟩
    rw [ewd] at h0 r0 hHeld ⊢
    clear ewd
    refine wpAnyH_take (i := 0) (v := ?_) rfl (by kernel_rfl) (by kernel_rfl) (by kernel_rfl) (fun _ _ _ h => h) (Or.inl ⟨by rfl, ?_⟩) hHeld ?_
    rotate_left
    · (intro wz hSw; (try dsimp only at hSw); (try simp only [List.getElem_toArray, List.getElem_cons_zero]); go_simp; try with_reducible rfl)
    try simp only [List.getElem_toArray, List.getElem_cons_zero, Act.put, List.setIfInBounds_toArray, List.set_cons_zero, List.set_cons_succ]
    refine wpAnyH_take (i := 2) (v := ?_) rfl (by kernel_rfl) (by kernel_rfl) (by kernel_rfl) (fun _ _ _ h => h) (Or.inl ⟨by rfl, ?_⟩) hHeld ?_
    rotate_left
    · (intro wz hSw; (try dsimp only at hSw); (try simp only [List.getElem_toArray, List.getElem_cons_succ, List.getElem_cons_zero]); go_simp; try with_reducible rfl)
    try simp only [List.getElem_toArray, List.getElem_cons_succ, List.getElem_cons_zero, Act.put, List.setIfInBounds_toArray, List.set_cons_zero, List.set_cons_succ]
    refine wpAnyH_take (i := 4) (v := ?_) rfl (by kernel_rfl) (by kernel_rfl) (by kernel_rfl) (fun _ _ _ h => h) (Or.inl ⟨by rfl, ?_⟩) hHeld ?_
    rotate_left
    · (intro wz hSw; (try dsimp only at hSw); (try simp only [List.getElem_toArray, List.getElem_cons_succ, List.getElem_cons_zero]); go_simp; try with_reducible rfl)
    try simp only [List.getElem_toArray, List.getElem_cons_succ, List.getElem_cons_zero, Act.put, List.setIfInBounds_toArray, List.set_cons_zero, List.set_cons_succ]
    refine wpAnyH_take (i := 6) (v := ?_) rfl (by kernel_rfl) (by kernel_rfl) (by kernel_rfl) (fun _ _ _ h => h) (Or.inl ⟨by rfl, ?_⟩) hHeld ?_
    rotate_left
    · (intro wz hSw; (try dsimp only at hSw); (try simp only [List.getElem_toArray, List.getElem_cons_succ, List.getElem_cons_zero]); go_simp; try with_reducible rfl)
    try simp only [List.getElem_toArray, List.getElem_cons_succ, List.getElem_cons_zero, Act.put, List.setIfInBounds_toArray, List.set_cons_zero, List.set_cons_succ]
    refine wpAnyH_take (i := 8) (v := ?_) rfl (by kernel_rfl) (by kernel_rfl) (by kernel_rfl) (fun _ _ _ h => h) (Or.inl ⟨by rfl, ?_⟩) hHeld ?_
    rotate_left
    · (intro wz hSw; (try dsimp only at hSw); (try simp only [List.getElem_toArray, List.getElem_cons_succ, List.getElem_cons_zero]); go_simp; try with_reducible rfl)
    try simp only [List.getElem_toArray, List.getElem_cons_succ, List.getElem_cons_zero, Act.put, List.setIfInBounds_toArray, List.set_cons_zero, List.set_cons_succ]
    refine wpAnyH_take (i := 10) (v := ?_) rfl (by kernel_rfl) (by kernel_rfl) (by kernel_rfl) (fun _ _ _ h => h) (Or.inl ⟨by rfl, ?_⟩) hHeld ?_
    rotate_left
    · (intro wz hSw; (try dsimp only at hSw); (try simp only [List.getElem_toArray, List.getElem_cons_succ, List.getElem_cons_zero]); go_simp; try with_reducible rfl)
    try simp only [List.getElem_toArray, List.getElem_cons_succ, List.getElem_cons_zero, Act.put, List.setIfInBounds_toArray, List.set_cons_zero, List.set_cons_succ]
    refine wpAnyH_take (i := 12) (v := ?_) rfl (by kernel_rfl) (by kernel_rfl) (by kernel_rfl) (fun _ _ _ h => h) (Or.inl ⟨by rfl, ?_⟩) hHeld ?_
    rotate_left
    · (intro wz hSw; (try dsimp only at hSw); (try simp only [List.getElem_toArray, List.getElem_cons_succ, List.getElem_cons_zero]); go_simp; try with_reducible rfl)
    try simp only [List.getElem_toArray, List.getElem_cons_succ, List.getElem_cons_zero, Act.put, List.setIfInBounds_toArray, List.set_cons_zero, List.set_cons_succ]
    refine wpAnyH_take (i := 14) (v := ?_) rfl (by kernel_rfl) (by kernel_rfl) (by kernel_rfl) (fun _ _ _ h => h) (Or.inl ⟨by rfl, ?_⟩) hHeld ?_
    rotate_left
    · (intro wz hSw; (try dsimp only at hSw); (try simp only [List.getElem_toArray, List.getElem_cons_succ, List.getElem_cons_zero]); go_simp; try with_reducible rfl)
    try simp only [List.getElem_toArray, List.getElem_cons_succ, List.getElem_cons_zero, Act.put, List.setIfInBounds_toArray, List.set_cons_zero, List.set_cons_succ]
    clear hHeld
    apply cutG (R := fun g w' => w1.grownBy w' (some R) ∧ RdS B w' R X9 false ∧ w'.heap[g]? = some (.cells #[.int .i64 0, .int .i64 0, .int .i64 0, .int .i64 0, .int .i64 0, .int .i64 0, .int .i64 0, .int .i64 0, .int .i64 0, .int .i64 0, .int .i64 0, .bool false, .slice none 0 0, .slice none 0 0] 29 (0, 0)) ∧ w1.heap.size ≤ g)
    · intro hcut2
      have hHeld := h0
      refine wpAnyH_ready (rs := [1, 17]) (by kernel_rfl) (by simp) ?_
      refine AllReadyH.cons rfl (fun K hK => ?_) (AllReadyH.cons rfl (fun K hK => ?_) AllReadyH.nil)
      · skip
        try simp only [List.getElem_toArray, List.getElem_cons_succ, List.getElem_cons_zero]
        go_simp
        refine (C1.out _ _ r0).mono ?_; rintro r wc1 ⟨rfl, r1, hg1⟩
        have hS1 := grown_transW h0 hg1
        refine hK.out _ _ hS1 (fun _ => ?_)
        clear hK K hHeld
        try simp only [List.getElem_toArray, List.getElem_cons_succ, List.getElem_cons_zero, Act.put, List.setIfInBounds_toArray, List.set_cons_zero, List.set_cons_succ]
        have hHeld := hS1
        refine wpAnyH_ready (rs := [3, 17]) (by kernel_rfl) (by simp) ?_
        refine AllReadyH.cons rfl (fun K hK => ?_) (AllReadyH.cons rfl (fun K hK => ?_) AllReadyH.nil)
        · skip
          try simp only [List.getElem_toArray, List.getElem_cons_succ, List.getElem_cons_zero]
          go_simp
          refine (C2.out _ _ r1).mono ?_; rintro r wc2 ⟨rfl, r2, hg2⟩
          have hS2 := grown_transW hS1 hg2
          refine hK.out _ _ hS2 (fun _ => ?_)
          clear hK K hHeld
          try simp only [List.getElem_toArray, List.getElem_cons_succ, List.getElem_cons_zero, Act.put, List.setIfInBounds_toArray, List.set_cons_zero, List.set_cons_succ]
          have hHeld := hS2
          refine wpAnyH_ready (rs := [5, 17]) (by kernel_rfl) (by simp) ?_
          refine AllReadyH.cons rfl (fun K hK => ?_) (AllReadyH.cons rfl (fun K hK => ?_) AllReadyH.nil)
          · skip
            try simp only [List.getElem_toArray, List.getElem_cons_succ, List.getElem_cons_zero]
            go_simp
            refine (C3.out _ _ r2).mono ?_; rintro r wc3 ⟨rfl, r3, hg3⟩
            have hS3 := grown_transW hS2 hg3
            refine hK.out _ _ hS3 (fun _ => ?_)
            clear hK K hHeld
            try simp only [List.getElem_toArray, List.getElem_cons_succ, List.getElem_cons_zero, Act.put, List.setIfInBounds_toArray, List.set_cons_zero, List.set_cons_succ]
            have hHeld := hS3
            refine wpAnyH_ready (rs := [7, 17]) (by kernel_rfl) (by simp) ?_
            refine AllReadyH.cons rfl (fun K hK => ?_) (AllReadyH.cons rfl (fun K hK => ?_) AllReadyH.nil)
            · skip
              try simp only [List.getElem_toArray, List.getElem_cons_succ, List.getElem_cons_zero]
              go_simp
              refine (C4.out _ _ r3).mono ?_; rintro r wc4 ⟨rfl, r4, hg4⟩
              have hS4 := grown_transW hS3 hg4
              refine hK.out _ _ hS4 (fun _ => ?_)
              clear hK K hHeld
              try simp only [List.getElem_toArray, List.getElem_cons_succ, List.getElem_cons_zero, Act.put, List.setIfInBounds_toArray, List.set_cons_zero, List.set_cons_succ]
              have hHeld := hS4
              refine wpAnyH_ready (rs := [9, 17]) (by kernel_rfl) (by simp) ?_
              refine AllReadyH.cons rfl (fun K hK => ?_) (AllReadyH.cons rfl (fun K hK => ?_) AllReadyH.nil)
              · skip
                try simp only [List.getElem_toArray, List.getElem_cons_succ, List.getElem_cons_zero]
                go_simp
                refine (C5.out _ _ r4).mono ?_; rintro r wc5 ⟨rfl, r5, hg5⟩
                have hS5 := grown_transW hS4 hg5
                refine hK.out _ _ hS5 (fun _ => ?_)
                clear hK K hHeld
                try simp only [List.getElem_toArray, List.getElem_cons_succ, List.getElem_cons_zero, Act.put, List.setIfInBounds_toArray, List.set_cons_zero, List.set_cons_succ]
                have hHeld := hS5
                refine wpAnyH_ready (rs := [11, 17]) (by kernel_rfl) (by simp) ?_
                refine AllReadyH.cons rfl (fun K hK => ?_) (AllReadyH.cons rfl (fun K hK => ?_) AllReadyH.nil)
                · skip
                  try simp only [List.getElem_toArray, List.getElem_cons_succ, List.getElem_cons_zero]
                  go_simp
                  refine (C6.out _ _ r5).mono ?_; rintro r wc6 ⟨rfl, r6, hg6⟩
                  have hS6 := grown_transW hS5 hg6
                  refine hK.out _ _ hS6 (fun _ => ?_)
                  clear hK K hHeld
                  try simp only [List.getElem_toArray, List.getElem_cons_succ, List.getElem_cons_zero, Act.put, List.setIfInBounds_toArray, List.set_cons_zero, List.set_cons_succ]
                  have hHeld := hS6
                  refine wpAnyH_ready (rs := [13, 17]) (by kernel_rfl) (by simp) ?_
                  refine AllReadyH.cons rfl (fun K hK => ?_) (AllReadyH.cons rfl (fun K hK => ?_) AllReadyH.nil)
                  · skip
                    try simp only [List.getElem_toArray, List.getElem_cons_succ, List.getElem_cons_zero]
                    go_simp
                    refine (C7.out _ _ r6).mono ?_; rintro r wc7 ⟨rfl, r7, hg7⟩
                    have hS7 := grown_transW hS6 hg7
                    refine hK.out _ _ hS7 (fun _ => ?_)
                    clear hK K hHeld
                    try simp only [List.getElem_toArray, List.getElem_cons_succ, List.getElem_cons_zero, Act.put, List.setIfInBounds_toArray, List.set_cons_zero, List.set_cons_succ]
                    have hHeld := hS7
                    refine wpAnyH_ready (rs := [15, 17]) (by kernel_rfl) (by simp) ?_
                    refine AllReadyH.cons rfl (fun K hK => ?_) (AllReadyH.cons rfl (fun K hK => ?_) AllReadyH.nil)
                    · skip
                      try simp only [List.getElem_toArray, List.getElem_cons_succ, List.getElem_cons_zero]
                      go_simp
                      refine (C8.out _ _ r7).mono ?_; rintro r wc8 ⟨rfl, r8, hg8⟩
                      have hS8 := grown_transW hS7 hg8
                      refine hK.out _ _ hS8 (fun _ => ?_)
                      clear hK K hHeld
                      try simp only [List.getElem_toArray, List.getElem_cons_succ, List.getElem_cons_zero, Act.put, List.setIfInBounds_toArray, List.set_cons_zero, List.set_cons_succ]
                      have hHeld := hS8
                      refine wpAnyH_take (i := 16) (v := ?_) rfl (by kernel_rfl) (by kernel_rfl) (by kernel_rfl) (fun _ _ _ h => h) (Or.inl ⟨by rfl, ?_⟩) hHeld ?_
                      rotate_left
                      · (intro wz hSw; (try dsimp only at hSw); (try simp only [List.getElem_toArray, List.getElem_cons_succ, List.getElem_cons_zero]); go_simp; try with_reducible rfl)
                      try simp only [List.getElem_toArray, List.getElem_cons_succ, List.getElem_cons_zero, Act.put, List.setIfInBounds_toArray, List.set_cons_zero, List.set_cons_succ]
                      refine wpAnyH_ready (rs := [17]) (by kernel_rfl) (by simp) ?_
                      refine AllReadyH.cons rfl (fun K hK => ?_) AllReadyH.nil
                      try simp only [List.getElem_toArray, List.getElem_cons_succ, List.getElem_cons_zero]
                      go_simp
                      obtain ⟨wa9, hw9⟩ : ∃ x : World, wc8.alloc (.cells #[.int .i64 0, .int .i64 0, .int .i64 0, .int .i64 0, .int .i64 0, .int .i64 0, .int .i64 0, .int .i64 0, .int .i64 0, .int .i64 0, .int .i64 0, .bool false, .slice none 0 0, .slice none 0 0] 29) = x := ⟨_, rfl⟩
                      have hb9 : Below wc8.heap.size wc8 wa9 := by rw [← hw9]; exact (Below.refl _ _).alloc (Nat.le_refl _) _
                      have hS9 : w1.grownBy wa9 (some R) := by rw [← hw9]; exact grown_transW hS8 (World.grownBy_alloc _ _ _)
                      have r9 := r8.keep hb9 (Nat.le_refl _)
                      have hq9 : wa9.heap[wc8.heap.size]? = some (.cells #[.int .i64 0, .int .i64 0, .int .i64 0, .int .i64 0, .int .i64 0, .int .i64 0, .int .i64 0, .int .i64 0, .int .i64 0, .int .i64 0, .int .i64 0, .bool false, .slice none 0 0, .slice none 0 0] 29 (0, 0)) := by rw [← hw9]; exact heap_last wc8 _
                      have hgs9 := hS8.size
                      obtain ⟨g, eg9⟩ : ∃ n, wc8.heap.size = n := ⟨_, rfl⟩
                      rw [hw9]
                      try rw [eg9]
                      rw [eg9] at hq9 hgs9
                      clear hw9
                      refine hK.out _ _ hS9 (fun _ => ?_)
                      clear hK K hHeld
                      try simp only [List.getElem_toArray, List.getElem_cons_succ, List.getElem_cons_zero, Act.put, List.setIfInBounds_toArray, List.set_cons_zero, List.set_cons_succ]
                      have hHeld := hS9
                      exact hcut2 g wa9 ⟨hS9, r9, hq9, hgs9⟩
                    · skip
                      try simp only [List.getElem_toArray, List.getElem_cons_succ, List.getElem_cons_zero]
                      go_simp
                      obtain ⟨wa10, hw10⟩ : ∃ x : World, wc7.alloc (.cells #[.int .i64 0, .int .i64 0, .int .i64 0, .int .i64 0, .int .i64 0, .int .i64 0, .int .i64 0, .int .i64 0, .int .i64 0, .int .i64 0, .int .i64 0, .bool false, .slice none 0 0, .slice none 0 0] 29) = x := ⟨_, rfl⟩
                      have hb10 : Below wc7.heap.size wc7 wa10 := by rw [← hw10]; exact (Below.refl _ _).alloc (Nat.le_refl _) _
                      have hS10 : w1.grownBy wa10 (some R) := by rw [← hw10]; exact grown_transW hS7 (World.grownBy_alloc _ _ _)
                      have r10 := r7.keep hb10 (Nat.le_refl _)
                      have hq10 : wa10.heap[wc7.heap.size]? = some (.cells #[.int .i64 0, .int .i64 0, .int .i64 0, .int .i64 0, .int .i64 0, .int .i64 0, .int .i64 0, .int .i64 0, .int .i64 0, .int .i64 0, .int .i64 0, .bool false, .slice none 0 0, .slice none 0 0] 29 (0, 0)) := by rw [← hw10]; exact heap_last wc7 _
                      have hgs10 := hS7.size
                      obtain ⟨g, eg10⟩ : ∃ n, wc7.heap.size = n := ⟨_, rfl⟩
                      rw [hw10]
                      try rw [eg10]
                      rw [eg10] at hq10 hgs10
                      clear hw10
                      refine hK.out _ _ hS10 (fun _ => ?_)
                      clear hK K hHeld
                      try simp only [List.getElem_toArray, List.getElem_cons_succ, List.getElem_cons_zero, Act.put, List.setIfInBounds_toArray, List.set_cons_zero, List.set_cons_succ]
                      have hHeld := hS10
                      refine wpAnyH_ready (rs := [15]) (by kernel_rfl) (by simp) ?_
                      refine AllReadyH.cons rfl (fun K hK => ?_) AllReadyH.nil
                      try simp only [List.getElem_toArray, List.getElem_cons_succ, List.getElem_cons_zero]
                      go_simp
                      refine (C8.out _ _ r10).mono ?_; rintro r wc11 ⟨rfl, r11, hg11⟩
                      have hS11 := grown_transW hS10 hg11
                      have hq11 := (hg11.block g (block_lt hq10) (by have := RdS.lt H1.out; have := hgs10; simp; omega)).trans hq10
                      refine hK.out _ _ hS11 (fun _ => ?_)
                      clear hK K hHeld
                      try simp only [List.getElem_toArray, List.getElem_cons_succ, List.getElem_cons_zero, Act.put, List.setIfInBounds_toArray, List.set_cons_zero, List.set_cons_succ]
                      have hHeld := hS11
                      refine wpAnyH_take (i := 16) (v := ?_) rfl (by kernel_rfl) (by kernel_rfl) (by kernel_rfl) (fun _ _ _ h => h) (Or.inl ⟨by rfl, ?_⟩) hHeld ?_
                      rotate_left
                      · (intro wz hSw; (try dsimp only at hSw); (try simp only [List.getElem_toArray, List.getElem_cons_succ, List.getElem_cons_zero]); go_simp; try with_reducible rfl)
                      try simp only [List.getElem_toArray, List.getElem_cons_succ, List.getElem_cons_zero, Act.put, List.setIfInBounds_toArray, List.set_cons_zero, List.set_cons_succ]
                      exact hcut2 g wc11 ⟨hS11, r11, hq11, hgs10⟩
                  · skip
                    try simp only [List.getElem_toArray, List.getElem_cons_succ, List.getElem_cons_zero]
                    go_simp
                    obtain ⟨wa12, hw12⟩ : ∃ x : World, wc6.alloc (.cells #[.int .i64 0, .int .i64 0, .int .i64 0, .int .i64 0, .int .i64 0, .int .i64 0, .int .i64 0, .int .i64 0, .int .i64 0, .int .i64 0, .int .i64 0, .bool false, .slice none 0 0, .slice none 0 0] 29) = x := ⟨_, rfl⟩
                    have hb12 : Below wc6.heap.size wc6 wa12 := by rw [← hw12]; exact (Below.refl _ _).alloc (Nat.le_refl _) _
                    have hS12 : w1.grownBy wa12 (some R) := by rw [← hw12]; exact grown_transW hS6 (World.grownBy_alloc _ _ _)
                    have r12 := r6.keep hb12 (Nat.le_refl _)
                    have hq12 : wa12.heap[wc6.heap.size]? = some (.cells #[.int .i64 0, .int .i64 0, .int .i64 0, .int .i64 0, .int .i64 0, .int .i64 0, .int .i64 0, .int .i64 0, .int .i64 0, .int .i64 0, .int .i64 0, .bool false, .slice none 0 0, .slice none 0 0] 29 (0, 0)) := by rw [← hw12]; exact heap_last wc6 _
                    have hgs12 := hS6.size
                    obtain ⟨g, eg12⟩ : ∃ n, wc6.heap.size = n := ⟨_, rfl⟩
                    rw [hw12]
                    try rw [eg12]
                    rw [eg12] at hq12 hgs12
                    clear hw12
                    refine hK.out _ _ hS12 (fun _ => ?_)
                    clear hK K hHeld
                    try simp only [List.getElem_toArray, List.getElem_cons_succ, List.getElem_cons_zero, Act.put, List.setIfInBounds_toArray, List.set_cons_zero, List.set_cons_succ]
                    have hHeld := hS12
                    refine wpAnyH_ready (rs := [13]) (by kernel_rfl) (by simp) ?_
                    refine AllReadyH.cons rfl (fun K hK => ?_) AllReadyH.nil
                    try simp only [List.getElem_toArray, List.getElem_cons_succ, List.getElem_cons_zero]
                    go_simp
                    refine (C7.out _ _ r12).mono ?_; rintro r wc13 ⟨rfl, r13, hg13⟩
                    have hS13 := grown_transW hS12 hg13
                    have hq13 := (hg13.block g (block_lt hq12) (by have := RdS.lt H1.out; have := hgs12; simp; omega)).trans hq12
                    refine hK.out _ _ hS13 (fun _ => ?_)
                    clear hK K hHeld
                    try simp only [List.getElem_toArray, List.getElem_cons_succ, List.getElem_cons_zero, Act.put, List.setIfInBounds_toArray, List.set_cons_zero, List.set_cons_succ]
                    have hHeld := hS13
                    refine wpAnyH_ready (rs := [15]) (by kernel_rfl) (by simp) ?_
                    refine AllReadyH.cons rfl (fun K hK => ?_) AllReadyH.nil
                    try simp only [List.getElem_toArray, List.getElem_cons_succ, List.getElem_cons_zero]
                    go_simp
                    refine (C8.out _ _ r13).mono ?_; rintro r wc14 ⟨rfl, r14, hg14⟩
                    have hS14 := grown_transW hS13 hg14
                    have hq14 := (hg14.block g (block_lt hq13) (by have := RdS.lt H1.out; have := hgs12; simp; omega)).trans hq13
                    refine hK.out _ _ hS14 (fun _ => ?_)
                    clear hK K hHeld
                    try simp only [List.getElem_toArray, List.getElem_cons_succ, List.getElem_cons_zero, Act.put, List.setIfInBounds_toArray, List.set_cons_zero, List.set_cons_succ]
                    have hHeld := hS14
                    refine wpAnyH_take (i := 16) (v := ?_) rfl (by kernel_rfl) (by kernel_rfl) (by kernel_rfl) (fun _ _ _ h => h) (Or.inl ⟨by rfl, ?_⟩) hHeld ?_
                    rotate_left
                    · (intro wz hSw; (try dsimp only at hSw); (try simp only [List.getElem_toArray, List.getElem_cons_succ, List.getElem_cons_zero]); go_simp; try with_reducible rfl)
                    try simp only [List.getElem_toArray, List.getElem_cons_succ, List.getElem_cons_zero, Act.put, List.setIfInBounds_toArray, List.set_cons_zero, List.set_cons_succ]
                    exact hcut2 g wc14 ⟨hS14, r14, hq14, hgs12⟩
                · skip
                  try simp only [List.getElem_toArray, List.getElem_cons_succ, List.getElem_cons_zero]
                  go_simp
                  obtain ⟨wa15, hw15⟩ : ∃ x : World, wc5.alloc (.cells #[.int .i64 0, .int .i64 0, .int .i64 0, .int .i64 0, .int .i64 0, .int .i64 0, .int .i64 0, .int .i64 0, .int .i64 0, .int .i64 0, .int .i64 0, .bool false, .slice none 0 0, .slice none 0 0] 29) = x := ⟨_, rfl⟩
                  have hb15 : Below wc5.heap.size wc5 wa15 := by rw [← hw15]; exact (Below.refl _ _).alloc (Nat.le_refl _) _
                  have hS15 : w1.grownBy wa15 (some R) := by rw [← hw15]; exact grown_transW hS5 (World.grownBy_alloc _ _ _)
                  have r15 := r5.keep hb15 (Nat.le_refl _)
                  have hq15 : wa15.heap[wc5.heap.size]? = some (.cells #[.int .i64 0, .int .i64 0, .int .i64 0, .int .i64 0, .int .i64 0, .int .i64 0, .int .i64 0, .int .i64 0, .int .i64 0, .int .i64 0, .int .i64 0, .bool false, .slice none 0 0, .slice none 0 0] 29 (0, 0)) := by rw [← hw15]; exact heap_last wc5 _
                  have hgs15 := hS5.size
                  obtain ⟨g, eg15⟩ : ∃ n, wc5.heap.size = n := ⟨_, rfl⟩
                  rw [hw15]
                  try rw [eg15]
                  rw [eg15] at hq15 hgs15
                  clear hw15
                  refine hK.out _ _ hS15 (fun _ => ?_)
                  clear hK K hHeld
                  try simp only [List.getElem_toArray, List.getElem_cons_succ, List.getElem_cons_zero, Act.put, List.setIfInBounds_toArray, List.set_cons_zero, List.set_cons_succ]
                  have hHeld := hS15
                  refine wpAnyH_ready (rs := [11]) (by kernel_rfl) (by simp) ?_
                  refine AllReadyH.cons rfl (fun K hK => ?_) AllReadyH.nil
                  try simp only [List.getElem_toArray, List.getElem_cons_succ, List.getElem_cons_zero]
                  go_simp
                  refine (C6.out _ _ r15).mono ?_; rintro r wc16 ⟨rfl, r16, hg16⟩
                  have hS16 := grown_transW hS15 hg16
                  have hq16 := (hg16.block g (block_lt hq15) (by have := RdS.lt H1.out; have := hgs15; simp; omega)).trans hq15
                  refine hK.out _ _ hS16 (fun _ => ?_)
                  clear hK K hHeld
                  try simp only [List.getElem_toArray, List.getElem_cons_succ, List.getElem_cons_zero, Act.put, List.setIfInBounds_toArray, List.set_cons_zero, List.set_cons_succ]
                  have hHeld := hS16
                  refine wpAnyH_ready (rs := [13]) (by kernel_rfl) (by simp) ?_
                  refine AllReadyH.cons rfl (fun K hK => ?_) AllReadyH.nil
                  try simp only [List.getElem_toArray, List.getElem_cons_succ, List.getElem_cons_zero]
                  go_simp
                  refine (C7.out _ _ r16).mono ?_; rintro r wc17 ⟨rfl, r17, hg17⟩
                  have hS17 := grown_transW hS16 hg17
                  have hq17 := (hg17.block g (block_lt hq16) (by have := RdS.lt H1.out; have := hgs15; simp; omega)).trans hq16
                  refine hK.out _ _ hS17 (fun _ => ?_)
                  clear hK K hHeld
                  try simp only [List.getElem_toArray, List.getElem_cons_succ, List.getElem_cons_zero, Act.put, List.setIfInBounds_toArray, List.set_cons_zero, List.set_cons_succ]
                  have hHeld := hS17
                  refine wpAnyH_ready (rs := [15]) (by kernel_rfl) (by simp) ?_
                  refine AllReadyH.cons rfl (fun K hK => ?_) AllReadyH.nil
                  try simp only [List.getElem_toArray, List.getElem_cons_succ, List.getElem_cons_zero]
                  go_simp
                  refine (C8.out _ _ r17).mono ?_; rintro r wc18 ⟨rfl, r18, hg18⟩
                  have hS18 := grown_transW hS17 hg18
                  have hq18 := (hg18.block g (block_lt hq17) (by have := RdS.lt H1.out; have := hgs15; simp; omega)).trans hq17
                  refine hK.out _ _ hS18 (fun _ => ?_)
                  clear hK K hHeld
                  try simp only [List.getElem_toArray, List.getElem_cons_succ, List.getElem_cons_zero, Act.put, List.setIfInBounds_toArray, List.set_cons_zero, List.set_cons_succ]
                  have hHeld := hS18
                  refine wpAnyH_take (i := 16) (v := ?_) rfl (by kernel_rfl) (by kernel_rfl) (by kernel_rfl) (fun _ _ _ h => h) (Or.inl ⟨by rfl, ?_⟩) hHeld ?_
                  rotate_left
                  · (intro wz hSw; (try dsimp only at hSw); (try simp only [List.getElem_toArray, List.getElem_cons_succ, List.getElem_cons_zero]); go_simp; try with_reducible rfl)
                  try simp only [List.getElem_toArray, List.getElem_cons_succ, List.getElem_cons_zero, Act.put, List.setIfInBounds_toArray, List.set_cons_zero, List.set_cons_succ]
                  exact hcut2 g wc18 ⟨hS18, r18, hq18, hgs15⟩
              · skip
                try simp only [List.getElem_toArray, List.getElem_cons_succ, List.getElem_cons_zero]
                go_simp
                obtain ⟨wa19, hw19⟩ : ∃ x : World, wc4.alloc (.cells #[.int .i64 0, .int .i64 0, .int .i64 0, .int .i64 0, .int .i64 0, .int .i64 0, .int .i64 0, .int .i64 0, .int .i64 0, .int .i64 0, .int .i64 0, .bool false, .slice none 0 0, .slice none 0 0] 29) = x := ⟨_, rfl⟩
                have hb19 : Below wc4.heap.size wc4 wa19 := by rw [← hw19]; exact (Below.refl _ _).alloc (Nat.le_refl _) _
                have hS19 : w1.grownBy wa19 (some R) := by rw [← hw19]; exact grown_transW hS4 (World.grownBy_alloc _ _ _)
                have r19 := r4.keep hb19 (Nat.le_refl _)
                have hq19 : wa19.heap[wc4.heap.size]? = some (.cells #[.int .i64 0, .int .i64 0, .int .i64 0, .int .i64 0, .int .i64 0, .int .i64 0, .int .i64 0, .int .i64 0, .int .i64 0, .int .i64 0, .int .i64 0, .bool false, .slice none 0 0, .slice none 0 0] 29 (0, 0)) := by rw [← hw19]; exact heap_last wc4 _
                have hgs19 := hS4.size
                obtain ⟨g, eg19⟩ : ∃ n, wc4.heap.size = n := ⟨_, rfl⟩
                rw [hw19]
                try rw [eg19]
                rw [eg19] at hq19 hgs19
                clear hw19
                refine hK.out _ _ hS19 (fun _ => ?_)
                clear hK K hHeld
                try simp only [List.getElem_toArray, List.getElem_cons_succ, List.getElem_cons_zero, Act.put, List.setIfInBounds_toArray, List.set_cons_zero, List.set_cons_succ]
                have hHeld := hS19
                refine wpAnyH_ready (rs := [9]) (by kernel_rfl) (by simp) ?_
                refine AllReadyH.cons rfl (fun K hK => ?_) AllReadyH.nil
                try simp only [List.getElem_toArray, List.getElem_cons_succ, List.getElem_cons_zero]
                go_simp
                refine (C5.out _ _ r19).mono ?_; rintro r wc20 ⟨rfl, r20, hg20⟩
                have hS20 := grown_transW hS19 hg20
                have hq20 := (hg20.block g (block_lt hq19) (by have := RdS.lt H1.out; have := hgs19; simp; omega)).trans hq19
                refine hK.out _ _ hS20 (fun _ => ?_)
                clear hK K hHeld
                try simp only [List.getElem_toArray, List.getElem_cons_succ, List.getElem_cons_zero, Act.put, List.setIfInBounds_toArray, List.set_cons_zero, List.set_cons_succ]
                have hHeld := hS20
                refine wpAnyH_ready (rs := [11]) (by kernel_rfl) (by simp) ?_
                refine AllReadyH.cons rfl (fun K hK => ?_) AllReadyH.nil
                try simp only [List.getElem_toArray, List.getElem_cons_succ, List.getElem_cons_zero]
                go_simp
                refine (C6.out _ _ r20).mono ?_; rintro r wc21 ⟨rfl, r21, hg21⟩
                have hS21 := grown_transW hS20 hg21
                have hq21 := (hg21.block g (block_lt hq20) (by have := RdS.lt H1.out; have := hgs19; simp; omega)).trans hq20
                refine hK.out _ _ hS21 (fun _ => ?_)
                clear hK K hHeld
                try simp only [List.getElem_toArray, List.getElem_cons_succ, List.getElem_cons_zero, Act.put, List.setIfInBounds_toArray, List.set_cons_zero, List.set_cons_succ]
                have hHeld := hS21
                refine wpAnyH_ready (rs := [13]) (by kernel_rfl) (by simp) ?_
                refine AllReadyH.cons rfl (fun K hK => ?_) AllReadyH.nil
                try simp only [List.getElem_toArray, List.getElem_cons_succ, List.getElem_cons_zero]
                go_simp
                refine (C7.out _ _ r21).mono ?_; rintro r wc22 ⟨rfl, r22, hg22⟩
                have hS22 := grown_transW hS21 hg22
                have hq22 := (hg22.block g (block_lt hq21) (by have := RdS.lt H1.out; have := hgs19; simp; omega)).trans hq21
                refine hK.out _ _ hS22 (fun _ => ?_)
                clear hK K hHeld
                try simp only [List.getElem_toArray, List.getElem_cons_succ, List.getElem_cons_zero, Act.put, List.setIfInBounds_toArray, List.set_cons_zero, List.set_cons_succ]
                have hHeld := hS22
                refine wpAnyH_ready (rs := [15]) (by kernel_rfl) (by simp) ?_
                refine AllReadyH.cons rfl (fun K hK => ?_) AllReadyH.nil
                try simp only [List.getElem_toArray, List.getElem_cons_succ, List.getElem_cons_zero]
                go_simp
                refine (C8.out _ _ r22).mono ?_; rintro r wc23 ⟨rfl, r23, hg23⟩
                have hS23 := grown_transW hS22 hg23
                have hq23 := (hg23.block g (block_lt hq22) (by have := RdS.lt H1.out; have := hgs19; simp; omega)).trans hq22
                refine hK.out _ _ hS23 (fun _ => ?_)
                clear hK K hHeld
                try simp only [List.getElem_toArray, List.getElem_cons_succ, List.getElem_cons_zero, Act.put, List.setIfInBounds_toArray, List.set_cons_zero, List.set_cons_succ]
                have hHeld := hS23
                refine wpAnyH_take (i := 16) (v := ?_) rfl (by kernel_rfl) (by kernel_rfl) (by kernel_rfl) (fun _ _ _ h => h) (Or.inl ⟨by rfl, ?_⟩) hHeld ?_
                rotate_left
                · (intro wz hSw; (try dsimp only at hSw); (try simp only [List.getElem_toArray, List.getElem_cons_succ, List.getElem_cons_zero]); go_simp; try with_reducible rfl)
                try simp only [List.getElem_toArray, List.getElem_cons_succ, List.getElem_cons_zero, Act.put, List.setIfInBounds_toArray, List.set_cons_zero, List.set_cons_succ]
                exact hcut2 g wc23 ⟨hS23, r23, hq23, hgs19⟩
            · skip
              try simp only [List.getElem_toArray, List.getElem_cons_succ, List.getElem_cons_zero]
              go_simp
              obtain ⟨wa24, hw24⟩ : ∃ x : World, wc3.alloc (.cells #[.int .i64 0, .int .i64 0, .int .i64 0, .int .i64 0, .int .i64 0, .int .i64 0, .int .i64 0, .int .i64 0, .int .i64 0, .int .i64 0, .int .i64 0, .bool false, .slice none 0 0, .slice none 0 0] 29) = x := ⟨_, rfl⟩
              have hb24 : Below wc3.heap.size wc3 wa24 := by rw [← hw24]; exact (Below.refl _ _).alloc (Nat.le_refl _) _
              have hS24 : w1.grownBy wa24 (some R) := by rw [← hw24]; exact grown_transW hS3 (World.grownBy_alloc _ _ _)
              have r24 := r3.keep hb24 (Nat.le_refl _)
              have hq24 : wa24.heap[wc3.heap.size]? = some (.cells #[.int .i64 0, .int .i64 0, .int .i64 0, .int .i64 0, .int .i64 0, .int .i64 0, .int .i64 0, .int .i64 0, .int .i64 0, .int .i64 0, .int .i64 0, .bool false, .slice none 0 0, .slice none 0 0] 29 (0, 0)) := by rw [← hw24]; exact heap_last wc3 _
              have hgs24 := hS3.size
              obtain ⟨g, eg24⟩ : ∃ n, wc3.heap.size = n := ⟨_, rfl⟩
              rw [hw24]
              try rw [eg24]
              rw [eg24] at hq24 hgs24
              clear hw24
              refine hK.out _ _ hS24 (fun _ => ?_)
              clear hK K hHeld
              try simp only [List.getElem_toArray, List.getElem_cons_succ, List.getElem_cons_zero, Act.put, List.setIfInBounds_toArray, List.set_cons_zero, List.set_cons_succ]
              have hHeld := hS24
              refine wpAnyH_ready (rs := [7]) (by kernel_rfl) (by simp) ?_
              refine AllReadyH.cons rfl (fun K hK => ?_) AllReadyH.nil
              try simp only [List.getElem_toArray, List.getElem_cons_succ, List.getElem_cons_zero]
              go_simp
              refine (C4.out _ _ r24).mono ?_; rintro r wc25 ⟨rfl, r25, hg25⟩
              have hS25 := grown_transW hS24 hg25
              have hq25 := (hg25.block g (block_lt hq24) (by have := RdS.lt H1.out; have := hgs24; simp; omega)).trans hq24
              refine hK.out _ _ hS25 (fun _ => ?_)
              clear hK K hHeld
              try simp only [List.getElem_toArray, List.getElem_cons_succ, List.getElem_cons_zero, Act.put, List.setIfInBounds_toArray, List.set_cons_zero, List.set_cons_succ]
              have hHeld := hS25
              refine wpAnyH_ready (rs := [9]) (by kernel_rfl) (by simp) ?_
              refine AllReadyH.cons rfl (fun K hK => ?_) AllReadyH.nil
              try simp only [List.getElem_toArray, List.getElem_cons_succ, List.getElem_cons_zero]
              go_simp
              refine (C5.out _ _ r25).mono ?_; rintro r wc26 ⟨rfl, r26, hg26⟩
              have hS26 := grown_transW hS25 hg26
              have hq26 := (hg26.block g (block_lt hq25) (by have := RdS.lt H1.out; have := hgs24; simp; omega)).trans hq25
              refine hK.out _ _ hS26 (fun _ => ?_)
              clear hK K hHeld
              try simp only [List.getElem_toArray, List.getElem_cons_succ, List.getElem_cons_zero, Act.put, List.setIfInBounds_toArray, List.set_cons_zero, List.set_cons_succ]
              have hHeld := hS26
              refine wpAnyH_ready (rs := [11]) (by kernel_rfl) (by simp) ?_
              refine AllReadyH.cons rfl (fun K hK => ?_) AllReadyH.nil
              try simp only [List.getElem_toArray, List.getElem_cons_succ, List.getElem_cons_zero]
              go_simp
              refine (C6.out _ _ r26).mono ?_; rintro r wc27 ⟨rfl, r27, hg27⟩
              have hS27 := grown_transW hS26 hg27
              have hq27 := (hg27.block g (block_lt hq26) (by have := RdS.lt H1.out; have := hgs24; simp; omega)).trans hq26
              refine hK.out _ _ hS27 (fun _ => ?_)
              clear hK K hHeld
              try simp only [List.getElem_toArray, List.getElem_cons_succ, List.getElem_cons_zero, Act.put, List.setIfInBounds_toArray, List.set_cons_zero, List.set_cons_succ]
              have hHeld := hS27
              refine wpAnyH_ready (rs := [13]) (by kernel_rfl) (by simp) ?_
              refine AllReadyH.cons rfl (fun K hK => ?_) AllReadyH.nil
              try simp only [List.getElem_toArray, List.getElem_cons_succ, List.getElem_cons_zero]
              go_simp
              refine (C7.out _ _ r27).mono ?_; rintro r wc28 ⟨rfl, r28, hg28⟩
              have hS28 := grown_transW hS27 hg28
              have hq28 := (hg28.block g (block_lt hq27) (by have := RdS.lt H1.out; have := hgs24; simp; omega)).trans hq27
              refine hK.out _ _ hS28 (fun _ => ?_)
              clear hK K hHeld
              try simp only [List.getElem_toArray, List.getElem_cons_succ, List.getElem_cons_zero, Act.put, List.setIfInBounds_toArray, List.set_cons_zero, List.set_cons_succ]
              have hHeld := hS28
              refine wpAnyH_ready (rs := [15]) (by kernel_rfl) (by simp) ?_
              refine AllReadyH.cons rfl (fun K hK => ?_) AllReadyH.nil
              try simp only [List.getElem_toArray, List.getElem_cons_succ, List.getElem_cons_zero]
              go_simp
              refine (C8.out _ _ r28).mono ?_; rintro r wc29 ⟨rfl, r29, hg29⟩
              have hS29 := grown_transW hS28 hg29
              have hq29 := (hg29.block g (block_lt hq28) (by have := RdS.lt H1.out; have := hgs24; simp; omega)).trans hq28
              refine hK.out _ _ hS29 (fun _ => ?_)
              clear hK K hHeld
              try simp only [List.getElem_toArray, List.getElem_cons_succ, List.getElem_cons_zero, Act.put, List.setIfInBounds_toArray, List.set_cons_zero, List.set_cons_succ]
              have hHeld := hS29
              refine wpAnyH_take (i := 16) (v := ?_) rfl (by kernel_rfl) (by kernel_rfl) (by kernel_rfl) (fun _ _ _ h => h) (Or.inl ⟨by rfl, ?_⟩) hHeld ?_
              rotate_left
              · (intro wz hSw; (try dsimp only at hSw); (try simp only [List.getElem_toArray, List.getElem_cons_succ, List.getElem_cons_zero]); go_simp; try with_reducible rfl)
              try simp only [List.getElem_toArray, List.getElem_cons_succ, List.getElem_cons_zero, Act.put, List.setIfInBounds_toArray, List.set_cons_zero, List.set_cons_succ]
              exact hcut2 g wc29 ⟨hS29, r29, hq29, hgs24⟩
          · skip
            try simp only [List.getElem_toArray, List.getElem_cons_succ, List.getElem_cons_zero]
            go_simp
            obtain ⟨wa30, hw30⟩ : ∃ x : World, wc2.alloc (.cells #[.int .i64 0, .int .i64 0, .int .i64 0, .int .i64 0, .int .i64 0, .int .i64 0, .int .i64 0, .int .i64 0, .int .i64 0, .int .i64 0, .int .i64 0, .bool false, .slice none 0 0, .slice none 0 0] 29) = x := ⟨_, rfl⟩
            have hb30 : Below wc2.heap.size wc2 wa30 := by rw [← hw30]; exact (Below.refl _ _).alloc (Nat.le_refl _) _
            have hS30 : w1.grownBy wa30 (some R) := by rw [← hw30]; exact grown_transW hS2 (World.grownBy_alloc _ _ _)
            have r30 := r2.keep hb30 (Nat.le_refl _)
            have hq30 : wa30.heap[wc2.heap.size]? = some (.cells #[.int .i64 0, .int .i64 0, .int .i64 0, .int .i64 0, .int .i64 0, .int .i64 0, .int .i64 0, .int .i64 0, .int .i64 0, .int .i64 0, .int .i64 0, .bool false, .slice none 0 0, .slice none 0 0] 29 (0, 0)) := by rw [← hw30]; exact heap_last wc2 _
            have hgs30 := hS2.size
            obtain ⟨g, eg30⟩ : ∃ n, wc2.heap.size = n := ⟨_, rfl⟩
            rw [hw30]
            try rw [eg30]
            rw [eg30] at hq30 hgs30
            clear hw30
            refine hK.out _ _ hS30 (fun _ => ?_)
            clear hK K hHeld
            try simp only [List.getElem_toArray, List.getElem_cons_succ, List.getElem_cons_zero, Act.put, List.setIfInBounds_toArray, List.set_cons_zero, List.set_cons_succ]
            have hHeld := hS30
            refine wpAnyH_ready (rs := [5]) (by kernel_rfl) (by simp) ?_
            refine AllReadyH.cons rfl (fun K hK => ?_) AllReadyH.nil
            try simp only [List.getElem_toArray, List.getElem_cons_succ, List.getElem_cons_zero]
            go_simp
            refine (C3.out _ _ r30).mono ?_; rintro r wc31 ⟨rfl, r31, hg31⟩
            have hS31 := grown_transW hS30 hg31
            have hq31 := (hg31.block g (block_lt hq30) (by have := RdS.lt H1.out; have := hgs30; simp; omega)).trans hq30
            refine hK.out _ _ hS31 (fun _ => ?_)
            clear hK K hHeld
            try simp only [List.getElem_toArray, List.getElem_cons_succ, List.getElem_cons_zero, Act.put, List.setIfInBounds_toArray, List.set_cons_zero, List.set_cons_succ]
            have hHeld := hS31
            refine wpAnyH_ready (rs := [7]) (by kernel_rfl) (by simp) ?_
            refine AllReadyH.cons rfl (fun K hK => ?_) AllReadyH.nil
            try simp only [List.getElem_toArray, List.getElem_cons_succ, List.getElem_cons_zero]
            go_simp
            refine (C4.out _ _ r31).mono ?_; rintro r wc32 ⟨rfl, r32, hg32⟩
            have hS32 := grown_transW hS31 hg32
            have hq32 := (hg32.block g (block_lt hq31) (by have := RdS.lt H1.out; have := hgs30; simp; omega)).trans hq31
            refine hK.out _ _ hS32 (fun _ => ?_)
            clear hK K hHeld
            try simp only [List.getElem_toArray, List.getElem_cons_succ, List.getElem_cons_zero, Act.put, List.setIfInBounds_toArray, List.set_cons_zero, List.set_cons_succ]
            have hHeld := hS32
            refine wpAnyH_ready (rs := [9]) (by kernel_rfl) (by simp) ?_
            refine AllReadyH.cons rfl (fun K hK => ?_) AllReadyH.nil
            try simp only [List.getElem_toArray, List.getElem_cons_succ, List.getElem_cons_zero]
            go_simp
            refine (C5.out _ _ r32).mono ?_; rintro r wc33 ⟨rfl, r33, hg33⟩
            have hS33 := grown_transW hS32 hg33
            have hq33 := (hg33.block g (block_lt hq32) (by have := RdS.lt H1.out; have := hgs30; simp; omega)).trans hq32
            refine hK.out _ _ hS33 (fun _ => ?_)
            clear hK K hHeld
            try simp only [List.getElem_toArray, List.getElem_cons_succ, List.getElem_cons_zero, Act.put, List.setIfInBounds_toArray, List.set_cons_zero, List.set_cons_succ]
            have hHeld := hS33
            refine wpAnyH_ready (rs := [11]) (by kernel_rfl) (by simp) ?_
            refine AllReadyH.cons rfl (fun K hK => ?_) AllReadyH.nil
            try simp only [List.getElem_toArray, List.getElem_cons_succ, List.getElem_cons_zero]
            go_simp
            refine (C6.out _ _ r33).mono ?_; rintro r wc34 ⟨rfl, r34, hg34⟩
            have hS34 := grown_transW hS33 hg34
            have hq34 := (hg34.block g (block_lt hq33) (by have := RdS.lt H1.out; have := hgs30; simp; omega)).trans hq33
            refine hK.out _ _ hS34 (fun _ => ?_)
            clear hK K hHeld
            try simp only [List.getElem_toArray, List.getElem_cons_succ, List.getElem_cons_zero, Act.put, List.setIfInBounds_toArray, List.set_cons_zero, List.set_cons_succ]
            have hHeld := hS34
            refine wpAnyH_ready (rs := [13]) (by kernel_rfl) (by simp) ?_
            refine AllReadyH.cons rfl (fun K hK => ?_) AllReadyH.nil
            try simp only [List.getElem_toArray, List.getElem_cons_succ, List.getElem_cons_zero]
            go_simp
            refine (C7.out _ _ r34).mono ?_; rintro r wc35 ⟨rfl, r35, hg35⟩
            have hS35 := grown_transW hS34 hg35
            have hq35 := (hg35.block g (block_lt hq34) (by have := RdS.lt H1.out; have := hgs30; simp; omega)).trans hq34
            refine hK.out _ _ hS35 (fun _ => ?_)
            clear hK K hHeld
            try simp only [List.getElem_toArray, List.getElem_cons_succ, List.getElem_cons_zero, Act.put, List.setIfInBounds_toArray, List.set_cons_zero, List.set_cons_succ]
            have hHeld := hS35
            refine wpAnyH_ready (rs := [15]) (by kernel_rfl) (by simp) ?_
            refine AllReadyH.cons rfl (fun K hK => ?_) AllReadyH.nil
            try simp only [List.getElem_toArray, List.getElem_cons_succ, List.getElem_cons_zero]
            go_simp
            refine (C8.out _ _ r35).mono ?_; rintro r wc36 ⟨rfl, r36, hg36⟩
            have hS36 := grown_transW hS35 hg36
            have hq36 := (hg36.block g (block_lt hq35) (by have := RdS.lt H1.out; have := hgs30; simp; omega)).trans hq35
            refine hK.out _ _ hS36 (fun _ => ?_)
            clear hK K hHeld
            try simp only [List.getElem_toArray, List.getElem_cons_succ, List.getElem_cons_zero, Act.put, List.setIfInBounds_toArray, List.set_cons_zero, List.set_cons_succ]
            have hHeld := hS36
            refine wpAnyH_take (i := 16) (v := ?_) rfl (by kernel_rfl) (by kernel_rfl) (by kernel_rfl) (fun _ _ _ h => h) (Or.inl ⟨by rfl, ?_⟩) hHeld ?_
            rotate_left
            · (intro wz hSw; (try dsimp only at hSw); (try simp only [List.getElem_toArray, List.getElem_cons_succ, List.getElem_cons_zero]); go_simp; try with_reducible rfl)
            try simp only [List.getElem_toArray, List.getElem_cons_succ, List.getElem_cons_zero, Act.put, List.setIfInBounds_toArray, List.set_cons_zero, List.set_cons_succ]
            exact hcut2 g wc36 ⟨hS36, r36, hq36, hgs30⟩
        · skip
          try simp only [List.getElem_toArray, List.getElem_cons_succ, List.getElem_cons_zero]
          go_simp
          obtain ⟨wa37, hw37⟩ : ∃ x : World, wc1.alloc (.cells #[.int .i64 0, .int .i64 0, .int .i64 0, .int .i64 0, .int .i64 0, .int .i64 0, .int .i64 0, .int .i64 0, .int .i64 0, .int .i64 0, .int .i64 0, .bool false, .slice none 0 0, .slice none 0 0] 29) = x := ⟨_, rfl⟩
          have hb37 : Below wc1.heap.size wc1 wa37 := by rw [← hw37]; exact (Below.refl _ _).alloc (Nat.le_refl _) _
          have hS37 : w1.grownBy wa37 (some R) := by rw [← hw37]; exact grown_transW hS1 (World.grownBy_alloc _ _ _)
          have r37 := r1.keep hb37 (Nat.le_refl _)
          have hq37 : wa37.heap[wc1.heap.size]? = some (.cells #[.int .i64 0, .int .i64 0, .int .i64 0, .int .i64 0, .int .i64 0, .int .i64 0, .int .i64 0, .int .i64 0, .int .i64 0, .int .i64 0, .int .i64 0, .bool false, .slice none 0 0, .slice none 0 0] 29 (0, 0)) := by rw [← hw37]; exact heap_last wc1 _
          have hgs37 := hS1.size
          obtain ⟨g, eg37⟩ : ∃ n, wc1.heap.size = n := ⟨_, rfl⟩
          rw [hw37]
          try rw [eg37]
          rw [eg37] at hq37 hgs37
          clear hw37
          refine hK.out _ _ hS37 (fun _ => ?_)
          clear hK K hHeld
          try simp only [List.getElem_toArray, List.getElem_cons_succ, List.getElem_cons_zero, Act.put, List.setIfInBounds_toArray, List.set_cons_zero, List.set_cons_succ]
          have hHeld := hS37
          refine wpAnyH_ready (rs := [3]) (by kernel_rfl) (by simp) ?_
          refine AllReadyH.cons rfl (fun K hK => ?_) AllReadyH.nil
          try simp only [List.getElem_toArray, List.getElem_cons_succ, List.getElem_cons_zero]
          go_simp
          refine (C2.out _ _ r37).mono ?_; rintro r wc38 ⟨rfl, r38, hg38⟩
          have hS38 := grown_transW hS37 hg38
          have hq38 := (hg38.block g (block_lt hq37) (by have := RdS.lt H1.out; have := hgs37; simp; omega)).trans hq37
          refine hK.out _ _ hS38 (fun _ => ?_)
          clear hK K hHeld
          try simp only [List.getElem_toArray, List.getElem_cons_succ, List.getElem_cons_zero, Act.put, List.setIfInBounds_toArray, List.set_cons_zero, List.set_cons_succ]
          have hHeld := hS38
          refine wpAnyH_ready (rs := [5]) (by kernel_rfl) (by simp) ?_
          refine AllReadyH.cons rfl (fun K hK => ?_) AllReadyH.nil
          try simp only [List.getElem_toArray, List.getElem_cons_succ, List.getElem_cons_zero]
          go_simp
          refine (C3.out _ _ r38).mono ?_; rintro r wc39 ⟨rfl, r39, hg39⟩
          have hS39 := grown_transW hS38 hg39
          have hq39 := (hg39.block g (block_lt hq38) (by have := RdS.lt H1.out; have := hgs37; simp; omega)).trans hq38
          refine hK.out _ _ hS39 (fun _ => ?_)
          clear hK K hHeld
          try simp only [List.getElem_toArray, List.getElem_cons_succ, List.getElem_cons_zero, Act.put, List.setIfInBounds_toArray, List.set_cons_zero, List.set_cons_succ]
          have hHeld := hS39
          refine wpAnyH_ready (rs := [7]) (by kernel_rfl) (by simp) ?_
          refine AllReadyH.cons rfl (fun K hK => ?_) AllReadyH.nil
          try simp only [List.getElem_toArray, List.getElem_cons_succ, List.getElem_cons_zero]
          go_simp
          refine (C4.out _ _ r39).mono ?_; rintro r wc40 ⟨rfl, r40, hg40⟩
          have hS40 := grown_transW hS39 hg40
          have hq40 := (hg40.block g (block_lt hq39) (by have := RdS.lt H1.out; have := hgs37; simp; omega)).trans hq39
          refine hK.out _ _ hS40 (fun _ => ?_)
          clear hK K hHeld
          try simp only [List.getElem_toArray, List.getElem_cons_succ, List.getElem_cons_zero, Act.put, List.setIfInBounds_toArray, List.set_cons_zero, List.set_cons_succ]
          have hHeld := hS40
          refine wpAnyH_ready (rs := [9]) (by kernel_rfl) (by simp) ?_
          refine AllReadyH.cons rfl (fun K hK => ?_) AllReadyH.nil
          try simp only [List.getElem_toArray, List.getElem_cons_succ, List.getElem_cons_zero]
          go_simp
          refine (C5.out _ _ r40).mono ?_; rintro r wc41 ⟨rfl, r41, hg41⟩
          have hS41 := grown_transW hS40 hg41
          have hq41 := (hg41.block g (block_lt hq40) (by have := RdS.lt H1.out; have := hgs37; simp; omega)).trans hq40
          refine hK.out _ _ hS41 (fun _ => ?_)
          clear hK K hHeld
          try simp only [List.getElem_toArray, List.getElem_cons_succ, List.getElem_cons_zero, Act.put, List.setIfInBounds_toArray, List.set_cons_zero, List.set_cons_succ]
          have hHeld := hS41
          refine wpAnyH_ready (rs := [11]) (by kernel_rfl) (by simp) ?_
          refine AllReadyH.cons rfl (fun K hK => ?_) AllReadyH.nil
          try simp only [List.getElem_toArray, List.getElem_cons_succ, List.getElem_cons_zero]
          go_simp
          refine (C6.out _ _ r41).mono ?_; rintro r wc42 ⟨rfl, r42, hg42⟩
          have hS42 := grown_transW hS41 hg42
          have hq42 := (hg42.block g (block_lt hq41) (by have := RdS.lt H1.out; have := hgs37; simp; omega)).trans hq41
          refine hK.out _ _ hS42 (fun _ => ?_)
          clear hK K hHeld
          try simp only [List.getElem_toArray, List.getElem_cons_succ, List.getElem_cons_zero, Act.put, List.setIfInBounds_toArray, List.set_cons_zero, List.set_cons_succ]
          have hHeld := hS42
          refine wpAnyH_ready (rs := [13]) (by kernel_rfl) (by simp) ?_
          refine AllReadyH.cons rfl (fun K hK => ?_) AllReadyH.nil
          try simp only [List.getElem_toArray, List.getElem_cons_succ, List.getElem_cons_zero]
          go_simp
          refine (C7.out _ _ r42).mono ?_; rintro r wc43 ⟨rfl, r43, hg43⟩
          have hS43 := grown_transW hS42 hg43
          have hq43 := (hg43.block g (block_lt hq42) (by have := RdS.lt H1.out; have := hgs37; simp; omega)).trans hq42
          refine hK.out _ _ hS43 (fun _ => ?_)
          clear hK K hHeld
          try simp only [List.getElem_toArray, List.getElem_cons_succ, List.getElem_cons_zero, Act.put, List.setIfInBounds_toArray, List.set_cons_zero, List.set_cons_succ]
          have hHeld := hS43
          refine wpAnyH_ready (rs := [15]) (by kernel_rfl) (by simp) ?_
          refine AllReadyH.cons rfl (fun K hK => ?_) AllReadyH.nil
          try simp only [List.getElem_toArray, List.getElem_cons_succ, List.getElem_cons_zero]
          go_simp
          refine (C8.out _ _ r43).mono ?_; rintro r wc44 ⟨rfl, r44, hg44⟩
          have hS44 := grown_transW hS43 hg44
          have hq44 := (hg44.block g (block_lt hq43) (by have := RdS.lt H1.out; have := hgs37; simp; omega)).trans hq43
          refine hK.out _ _ hS44 (fun _ => ?_)
          clear hK K hHeld
          try simp only [List.getElem_toArray, List.getElem_cons_succ, List.getElem_cons_zero, Act.put, List.setIfInBounds_toArray, List.set_cons_zero, List.set_cons_succ]
          have hHeld := hS44
          refine wpAnyH_take (i := 16) (v := ?_) rfl (by kernel_rfl) (by kernel_rfl) (by kernel_rfl) (fun _ _ _ h => h) (Or.inl ⟨by rfl, ?_⟩) hHeld ?_
          rotate_left
          · (intro wz hSw; (try dsimp only at hSw); (try simp only [List.getElem_toArray, List.getElem_cons_succ, List.getElem_cons_zero]); go_simp; try with_reducible rfl)
          try simp only [List.getElem_toArray, List.getElem_cons_succ, List.getElem_cons_zero, Act.put, List.setIfInBounds_toArray, List.set_cons_zero, List.set_cons_succ]
          exact hcut2 g wc44 ⟨hS44, r44, hq44, hgs37⟩
      · skip
        try simp only [List.getElem_toArray, List.getElem_cons_succ, List.getElem_cons_zero]
        go_simp
        obtain ⟨wa45, hw45⟩ : ∃ x : World, wd.alloc (.cells #[.int .i64 0, .int .i64 0, .int .i64 0, .int .i64 0, .int .i64 0, .int .i64 0, .int .i64 0, .int .i64 0, .int .i64 0, .int .i64 0, .int .i64 0, .bool false, .slice none 0 0, .slice none 0 0] 29) = x := ⟨_, rfl⟩
        have hb45 : Below wd.heap.size wd wa45 := by rw [← hw45]; exact (Below.refl _ _).alloc (Nat.le_refl _) _
        have hS45 : w1.grownBy wa45 (some R) := by rw [← hw45]; exact grown_transW h0 (World.grownBy_alloc _ _ _)
        have r45 := r0.keep hb45 (Nat.le_refl _)
        have hq45 : wa45.heap[wd.heap.size]? = some (.cells #[.int .i64 0, .int .i64 0, .int .i64 0, .int .i64 0, .int .i64 0, .int .i64 0, .int .i64 0, .int .i64 0, .int .i64 0, .int .i64 0, .int .i64 0, .bool false, .slice none 0 0, .slice none 0 0] 29 (0, 0)) := by rw [← hw45]; exact heap_last wd _
        have hgs45 := h0.size
        obtain ⟨g, eg45⟩ : ∃ n, wd.heap.size = n := ⟨_, rfl⟩
        rw [hw45]
        try rw [eg45]
        rw [eg45] at hq45 hgs45
        clear hw45
        refine hK.out _ _ hS45 (fun _ => ?_)
        clear hK K hHeld
        try simp only [List.getElem_toArray, List.getElem_cons_succ, List.getElem_cons_zero, Act.put, List.setIfInBounds_toArray, List.set_cons_zero, List.set_cons_succ]
        have hHeld := hS45
        refine wpAnyH_ready (rs := [1]) (by kernel_rfl) (by simp) ?_
        refine AllReadyH.cons rfl (fun K hK => ?_) AllReadyH.nil
        try simp only [List.getElem_toArray, List.getElem_cons_succ, List.getElem_cons_zero]
        go_simp
        refine (C1.out _ _ r45).mono ?_; rintro r wc46 ⟨rfl, r46, hg46⟩
        have hS46 := grown_transW hS45 hg46
        have hq46 := (hg46.block g (block_lt hq45) (by have := RdS.lt H1.out; have := hgs45; simp; omega)).trans hq45
        refine hK.out _ _ hS46 (fun _ => ?_)
        clear hK K hHeld
        try simp only [List.getElem_toArray, List.getElem_cons_succ, List.getElem_cons_zero, Act.put, List.setIfInBounds_toArray, List.set_cons_zero, List.set_cons_succ]
        have hHeld := hS46
        refine wpAnyH_ready (rs := [3]) (by kernel_rfl) (by simp) ?_
        refine AllReadyH.cons rfl (fun K hK => ?_) AllReadyH.nil
        try simp only [List.getElem_toArray, List.getElem_cons_succ, List.getElem_cons_zero]
        go_simp
        refine (C2.out _ _ r46).mono ?_; rintro r wc47 ⟨rfl, r47, hg47⟩
        have hS47 := grown_transW hS46 hg47
        have hq47 := (hg47.block g (block_lt hq46) (by have := RdS.lt H1.out; have := hgs45; simp; omega)).trans hq46
        refine hK.out _ _ hS47 (fun _ => ?_)
        clear hK K hHeld
        try simp only [List.getElem_toArray, List.getElem_cons_succ, List.getElem_cons_zero, Act.put, List.setIfInBounds_toArray, List.set_cons_zero, List.set_cons_succ]
        have hHeld := hS47
        refine wpAnyH_ready (rs := [5]) (by kernel_rfl) (by simp) ?_
        refine AllReadyH.cons rfl (fun K hK => ?_) AllReadyH.nil
        try simp only [List.getElem_toArray, List.getElem_cons_succ, List.getElem_cons_zero]
        go_simp
        refine (C3.out _ _ r47).mono ?_; rintro r wc48 ⟨rfl, r48, hg48⟩
        have hS48 := grown_transW hS47 hg48
        have hq48 := (hg48.block g (block_lt hq47) (by have := RdS.lt H1.out; have := hgs45; simp; omega)).trans hq47
        refine hK.out _ _ hS48 (fun _ => ?_)
        clear hK K hHeld
        try simp only [List.getElem_toArray, List.getElem_cons_succ, List.getElem_cons_zero, Act.put, List.setIfInBounds_toArray, List.set_cons_zero, List.set_cons_succ]
        have hHeld := hS48
        refine wpAnyH_ready (rs := [7]) (by kernel_rfl) (by simp) ?_
        refine AllReadyH.cons rfl (fun K hK => ?_) AllReadyH.nil
        try simp only [List.getElem_toArray, List.getElem_cons_succ, List.getElem_cons_zero]
        go_simp
        refine (C4.out _ _ r48).mono ?_; rintro r wc49 ⟨rfl, r49, hg49⟩
        have hS49 := grown_transW hS48 hg49
        have hq49 := (hg49.block g (block_lt hq48) (by have := RdS.lt H1.out; have := hgs45; simp; omega)).trans hq48
        refine hK.out _ _ hS49 (fun _ => ?_)
        clear hK K hHeld
        try simp only [List.getElem_toArray, List.getElem_cons_succ, List.getElem_cons_zero, Act.put, List.setIfInBounds_toArray, List.set_cons_zero, List.set_cons_succ]
        have hHeld := hS49
        refine wpAnyH_ready (rs := [9]) (by kernel_rfl) (by simp) ?_
        refine AllReadyH.cons rfl (fun K hK => ?_) AllReadyH.nil
        try simp only [List.getElem_toArray, List.getElem_cons_succ, List.getElem_cons_zero]
        go_simp
        refine (C5.out _ _ r49).mono ?_; rintro r wc50 ⟨rfl, r50, hg50⟩
        have hS50 := grown_transW hS49 hg50
        have hq50 := (hg50.block g (block_lt hq49) (by have := RdS.lt H1.out; have := hgs45; simp; omega)).trans hq49
        refine hK.out _ _ hS50 (fun _ => ?_)
        clear hK K hHeld
        try simp only [List.getElem_toArray, List.getElem_cons_succ, List.getElem_cons_zero, Act.put, List.setIfInBounds_toArray, List.set_cons_zero, List.set_cons_succ]
        have hHeld := hS50
        refine wpAnyH_ready (rs := [11]) (by kernel_rfl) (by simp) ?_
        refine AllReadyH.cons rfl (fun K hK => ?_) AllReadyH.nil
        try simp only [List.getElem_toArray, List.getElem_cons_succ, List.getElem_cons_zero]
        go_simp
        refine (C6.out _ _ r50).mono ?_; rintro r wc51 ⟨rfl, r51, hg51⟩
        have hS51 := grown_transW hS50 hg51
        have hq51 := (hg51.block g (block_lt hq50) (by have := RdS.lt H1.out; have := hgs45; simp; omega)).trans hq50
        refine hK.out _ _ hS51 (fun _ => ?_)
        clear hK K hHeld
        try simp only [List.getElem_toArray, List.getElem_cons_succ, List.getElem_cons_zero, Act.put, List.setIfInBounds_toArray, List.set_cons_zero, List.set_cons_succ]
        have hHeld := hS51
        refine wpAnyH_ready (rs := [13]) (by kernel_rfl) (by simp) ?_
        refine AllReadyH.cons rfl (fun K hK => ?_) AllReadyH.nil
        try simp only [List.getElem_toArray, List.getElem_cons_succ, List.getElem_cons_zero]
        go_simp
        refine (C7.out _ _ r51).mono ?_; rintro r wc52 ⟨rfl, r52, hg52⟩
        have hS52 := grown_transW hS51 hg52
        have hq52 := (hg52.block g (block_lt hq51) (by have := RdS.lt H1.out; have := hgs45; simp; omega)).trans hq51
        refine hK.out _ _ hS52 (fun _ => ?_)
        clear hK K hHeld
        try simp only [List.getElem_toArray, List.getElem_cons_succ, List.getElem_cons_zero, Act.put, List.setIfInBounds_toArray, List.set_cons_zero, List.set_cons_succ]
        have hHeld := hS52
        refine wpAnyH_ready (rs := [15]) (by kernel_rfl) (by simp) ?_
        refine AllReadyH.cons rfl (fun K hK => ?_) AllReadyH.nil
        try simp only [List.getElem_toArray, List.getElem_cons_succ, List.getElem_cons_zero]
        go_simp
        refine (C8.out _ _ r52).mono ?_; rintro r wc53 ⟨rfl, r53, hg53⟩
        have hS53 := grown_transW hS52 hg53
        have hq53 := (hg53.block g (block_lt hq52) (by have := RdS.lt H1.out; have := hgs45; simp; omega)).trans hq52
        refine hK.out _ _ hS53 (fun _ => ?_)
        clear hK K hHeld
        try simp only [List.getElem_toArray, List.getElem_cons_succ, List.getElem_cons_zero, Act.put, List.setIfInBounds_toArray, List.set_cons_zero, List.set_cons_succ]
        have hHeld := hS53
        refine wpAnyH_take (i := 16) (v := ?_) rfl (by kernel_rfl) (by kernel_rfl) (by kernel_rfl) (fun _ _ _ h => h) (Or.inl ⟨by rfl, ?_⟩) hHeld ?_
        rotate_left
        · (intro wz hSw; (try dsimp only at hSw); (try simp only [List.getElem_toArray, List.getElem_cons_succ, List.getElem_cons_zero]); go_simp; try with_reducible rfl)
        try simp only [List.getElem_toArray, List.getElem_cons_succ, List.getElem_cons_zero, Act.put, List.setIfInBounds_toArray, List.set_cons_zero, List.set_cons_succ]
        exact hcut2 g wc53 ⟨hS53, r53, hq53, hgs45⟩
    intro g w3 hR3
    obtain ⟨hS, hr3, hq3, hgs⟩ := hR3
    have hHeld := hS
    have kg := block_cells hq3
    have fg := block_free hq3
    refine wpAnyH_ready (rs := [18]) (by kernel_rfl) (by simp) ?_; refine AllReadyH.cons rfl (fun K hK => ?_) AllReadyH.nil; (try simp only [List.getElem_toArray, List.getElem_cons_succ, List.getElem_cons_zero]); go_simp
    have hRg : R < g := Nat.lt_of_lt_of_le (RdS.lt H1.out) hgs
    have hS9 := put14W_gr hS hgs (.int .i64 c.k) (.int .i64 c.e) (.int .i64 c.n) (.int .i64 c.h) (.int .i64 c.yn) (.int .i64 c.yl) (.int .i64 c.ys) (.int .i64 c.ya) (.int .i64 c.sw) (.int .i64 c.st) (.int .i64 c.w) (.bool c.yes) (.slice none 0 0) (.slice none 0 0)
    have r9 := put14W_rd hr3 hRg (.int .i64 c.k) (.int .i64 c.e) (.int .i64 c.n) (.int .i64 c.h) (.int .i64 c.yn) (.int .i64 c.yl) (.int .i64 c.ys) (.int .i64 c.ya) (.int .i64 c.sw) (.int .i64 c.st) (.int .i64 c.w) (.bool c.yes) (.slice none 0 0) (.slice none 0 0)
    have hq9 := put14W_at hq3 (.int .i64 c.k) (.int .i64 c.e) (.int .i64 c.n) (.int .i64 c.h) (.int .i64 c.yn) (.int .i64 c.yl) (.int .i64 c.ys) (.int .i64 c.ya) (.int .i64 c.sw) (.int .i64 c.st) (.int .i64 c.w) (.bool c.yes) (.slice none 0 0) (.slice none 0 0)
    unfold put14W at hS9 r9 hq9
    refine hK.out _ _ hS9 (fun _ => ?_)
    refine wpAnyH_done (by kernel_rfl) ?_ _
    exact hcut g _ ⟨hS9, r9, hq9, hgs⟩
  intro g w2 hR2
  obtain ⟨g2, h2, hq2, hgs⟩ := hR2
  have H2 := Lib.hid h2; have HQ2 := Lib.hid hq2; have G2 := Lib.hid (grown_transW G1.out g2)
  have hT2 := (g2.block (R + 1) (block_lt HT1.out) (by simp)).trans HT1.out
  have hgR : R < g := Nat.lt_of_lt_of_le (RdS.lt H1.out) hgs
  have kT2 := block_cells hT2
  have HT2 := Lib.hid hT2
  clear g2 h2 hq2 hgs hT2 kT H1 HT1 G1 C1 C2 C3 C4 C5 C6 C7 C8
  go_wp2_with fail
  refine (C9.out _ _ _ H2.out).mono ?_; rintro e w3 ⟨rfl, h3, g3⟩
  have H3 := Lib.hid h3; have G3 := Lib.hid (grown_transW G2.out g3)
  have hT3 := (g3.block (R + 1) (block_lt HT2.out) (by simp)).trans HT2.out
  have HQ3 := Lib.hid ((g3.block g (block_lt HQ2.out) (by simp; omega)).trans HQ2.out)
  have kT3 := block_cells hT3
  have HT3 := Lib.hid hT3
  clear h3 g3 hT3 kT2 HT2 H2 G2 HQ2 C9
  go_wp2_with fail
  refine (C10.out _ _ _ H3.out).mono ?_; rintro e w4 ⟨rfl, h4, g4⟩
  have G4 := Lib.hid (grown_transW G3.out g4)
  have hT4 := (g4.block (R + 1) (block_lt HT3.out) (by simp)).trans HT3.out
  have hQ4 := (g4.block g (block_lt HQ3.out) (by simp; omega)).trans HQ3.out
  have hZ4 := (G4.out.block B (block_lt HZ.out) (by simp; omega)).trans HZ.out
  rw [← HX11.out] at h4
  obtain ⟨-, p4, c4, hR4, -⟩ := h4
  have kT4 := block_cells hT4
  have kR4 := block_cells hR4
  have kQ4 := block_cells hQ4
  have kZ4 := block_cells hZ4
  have fZ4 := block_free hZ4
  have HZ4 := Lib.hid hZ4
  clear g4 hT4 hQ4 hZ4 hR4 kT3 HT3 H3 G3 HQ3 C10
  go_wp2_with fail
  have hf := put14W_at HZ4.out (.int .i64 c.k) (.int .i64 c.e) (.int .i64 c.n) (.int .i64 c.h) (.int .i64 c.yn) (.int .i64 c.yl) (.int .i64 c.ys) (.int .i64 c.ya) (.int .i64 c.sw) (.int .i64 c.st) (.int .i64 c.w) (.bool c.yes) (.slice none 0 0) (.slice none 0 0)
  have hbF := put14W_bel (HB1.out.grown G4.out (by have := HB1.out.size; have := HEB.out; omega) (fun k hk => by cases hk; omega)) (Nat.le_refl B) (.int .i64 c.k) (.int .i64 c.e) (.int .i64 c.n) (.int .i64 c.h) (.int .i64 c.yn) (.int .i64 c.yl) (.int .i64 c.ys) (.int .i64 c.ya) (.int .i64 c.sw) (.int .i64 c.st) (.int .i64 c.w) (.bool c.yes) (.slice none 0 0) (.slice none 0 0)
  unfold put14W at hf hbF
  have kF := block_cells hf
  rw [HEB.out]
  refine bodyPost_ret (v := .tuple #[.agg #[.int .i64 c.k, .int .i64 c.e, .int .i64 c.n, .int .i64 c.h, .int .i64 c.yn, .int .i64 c.yl, .int .i64 c.ys, .int .i64 c.ya, .int .i64 c.sw, .int .i64 c.st, .int .i64 c.w, .bool c.yes, .slice none 0 0, .slice none 0 0], .int .i64 0]) ?_ rfl ⟨rfl, hbF⟩
  simp [results, Try.results22, go_sem, kF]
end Go.Proofs.Ytmhmlpfkdpjlaaa
