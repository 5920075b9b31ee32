/- script: a reader's bytes, numbers and texts. -/
import Derived.Test.YtihkkoldjllifaaPlainScript
import Derived.Test.YtihkkoldjllifaaSpoil
import Derived.Test.YtihkkoldjllifaaCalm
namespace Go.Proofs.Ytihkkoldjllifaa
open Go.ChangeShapes Go.WideShapes Go.ChangeAt Go.RowKit

theorem ret_intS {k : IntKind} {a b : Int} (h : a = b) : Ending.returned (.int k a) = .returned (.int k b) := by rw [h]
/-- A reader's block: what it has still to read, of how many nodes, whether it was too short. -/
def RdAt (B : Nat) (w : World) (R : Nat) (s : List Int × Bool) (nodes : Int) : Prop :=
  B ≤ R ∧ ∃ p cap, w.heap[R]? = some (.cells #[.slice p s.1.length cap, .int .i64 nodes, .bool s.2] 64 (0, 0)) ∧ Sl B w (.slice p s.1.length cap) 1 s.1.length (byt s.1)
theorem sl_set {B : Nat} {w : World} {v : Value} {size n : Nat} {xs : List Value} (h : Sl B w v size n xs) {R j : Nat} (hB : B ≤ R) (u : Value) : Sl B (w.setCell ⟨R, j, none⟩ u) v size n xs :=
  h.keep ((Below.refl _ _).setCell hB u)
theorem sl_tail {B : Nat} {w : World} {g o cap : Nat} {x : Int} {t : List Int} (h : Sl B w (.slice (some ⟨g, o, none⟩) (t.length + 1) cap) 1 (t.length + 1) (byt (x :: t))) : Sl B w (.slice (some ⟨g, o + 1, none⟩) t.length (cap - 1)) 1 t.length (byt t) := by
  have := Sl.partA (xs := x :: t) (m := 1) (q := t.length) (q' := t.length) h (by simp; omega) rfl
  simpa using this
theorem sl_tail0 {B : Nat} {w : World} {g o cap c' : Nat} {x : Int} {t : List Int} (h : Sl B w (.slice (some ⟨g, o, none⟩) (t.length + 1) cap) 1 (t.length + 1) (byt (x :: t))) (hc : cap ≤ 1) (hc' : c' = 0) : Sl B w (.slice (some ⟨g, o, none⟩) t.length c') 1 t.length (byt t) := by
  have := Sl.part0 (xs := x :: t) (m := 1) (q := t.length) (q' := t.length) h (by simp; omega) hc rfl hc'
  simpa using this
set_option maxRecDepth 100000 in
set_option maxHeartbeats 1000000 in
theorem rbyte_any (B R : Nat) (s : List Int × Bool) (nodes : Int) (w : World) (hx : Oct s.1) (h : RdAt B w R s nodes) :
    Calls Try.prog 62 #[.pointer (some ⟨R, 0, none⟩)] w fun e w' => e = .returned (.int .i64 (rdB s).1) ∧ RdAt B w' R (rdB s).2 nodes ∧ w.grownBy w' (some R) := by
  obtain ⟨hBR, p, cap, hR, hS⟩ := h
  obtain ⟨xs, sh⟩ := s
  have HS := Lib.hid hS
  have HR := Lib.hid hR
  have kR := block_cells hR
  have fR := block_free hR
  cases xs with
  | nil =>
    clear hR hS hx
    go_enter Try.func62, Try.ntmps62
    go_wp2_with fail
    go_ret
    refine ⟨rfl, ⟨hBR, p, cap, ?_, sl_set HS.out hBR _⟩, grown_set _ _ _ _⟩
    exact (cells_set HR.out 2 _).trans rfl
  | cons x t =>
    obtain ⟨x0, x1⟩ := hx x (by simp)
    obtain ⟨pa, ca, hv, h1, h2, -, h3⟩ := hS.form
    obtain ⟨rfl, -, rfl⟩ : pa = p ∧ _ ∧ ca = cap := by simp only [Value.slice.injEq] at hv; exact ⟨hv.1.symm, hv.2.1, hv.2.2.symm⟩
    obtain ⟨g, o, rfl, hg, hcell⟩ := h3 0 (by simp)
    have hc : w.cell? ⟨g, o, none⟩ = some (.int .u8 x) := by simpa [byt] using hcell
    unfold maxLen at h2
    simp only [List.length_cons] at h1 HS HR kR fR ⊢
    clear hR hS hx hv h3 hcell
    go_enter Try.func62, Try.ntmps62
    go_wp2_with fail
    all_goals
      go_ret
      refine ⟨rfl, ⟨hBR, _, _, (cells_set HR.out 0 _).trans rfl, ?_⟩, grown_set _ _ _ _⟩
      first
      | exact sl_set (sl_tail HS.out) hBR _
      | exact sl_set (sl_tail0 HS.out (by omega) rfl) hBR _
theorem RdAt.drew {B R : Nat} {w : World} {s : List Int × Bool} {n : Int} (h : RdAt B w R s n) : RdAt B w.drew R s n := by
  obtain ⟨hBR, p, cap, hR, hS⟩ := h
  exact ⟨hBR, p, cap, hR, hS.keep (Below.refl _ _).drew⟩
theorem RdAt.cell1 {B R : Nat} {w : World} {s : List Int × Bool} {n : Int} (h : RdAt B w R s n) : w.cell? ⟨R, 1, none⟩ = some (.int .i64 n) := by
  obtain ⟨hBR, p, cap, hR, hS⟩ := h
  exact (block_cells hR 1).trans rfl
theorem grown_drew {w w' : World} {row : Option Nat} (h : w.drew.grownBy w' row) : w.grownBy w' row := ⟨h.os, h.tape, h.output, h.size, h.block⟩
theorem grown_drew' {w w' : World} {row : Option Nat} (h : w.grownBy w' row) : w.grownBy w'.drew row := ⟨h.os, h.tape, h.output, h.size, h.block⟩
set_option maxRecDepth 100000 in
set_option maxHeartbeats 1000000 in
theorem rnode_any (B R : Nat) (s : List Int × Bool) (nodes : Int) (w : World) (hx : Oct s.1) (hn : 1 ≤ nodes ∧ nodes ≤ 9) (h : RdAt B w R s nodes) :
    Calls Try.prog 63 #[.pointer (some ⟨R, 0, none⟩)] w fun e w' => e = .returned (.int .i64 (rdN nodes s).1) ∧ RdAt B w' R (rdN nodes s).2 nodes ∧ w.grownBy w' (some R) := by
  obtain ⟨hn1, hn2⟩ := hn
  obtain ⟨f0, f1⟩ := rdB_fit hx
  have HC := Lib.hid (fun W hW => rbyte_any B R s nodes W hx hW)
  have HS := Lib.hid h
  have kc := h.cell1
  have HN : Hid (rdN nodes s = ((rdB s).1 % nodes + 1, (rdB s).2)) := rfl
  obtain ⟨⟨x, s'⟩, hr⟩ : ∃ r, rdB s = r := ⟨_, rfl⟩
  rw [hr] at HC HN f0 f1
  simp only [] at f0 f1
  clear hr h hx
  have h0 : 0 ≤ x % nodes := Int.emod_nonneg _ (by omega)
  have h1 : x % nodes < nodes := Int.emod_lt_of_pos _ (by omega)
  go_enter Try.func63, Try.ntmps63
  go_wp2_with fail
  go_region_with ((go_at_call 62; refine (HC.out _ ?_).mono ?_; exact HS.out.drew; rintro e w' ⟨rfl, h', hg⟩; have kc' := h'.cell1; have H' := Lib.hid h'; have HG := Lib.hid hg; clear h' hg))
  all_goals
    go_wp2_with fail
    go_ret
    rw [HN.out]
    exact ⟨ret_intS (by simp only [IntWalk.i64_in _ (show -9223372036854775808 ≤ x % nodes + 1 ∧ x % nodes + 1 ≤ 9223372036854775807 by omega)]), H'.out, grown_drew HG.out⟩
set_option maxRecDepth 100000 in
set_option maxHeartbeats 1000000 in
theorem rwall_any (B R : Nat) (s : List Int × Bool) (nodes : Int) (w : World) (hx : Oct s.1) (h : RdAt B w R s nodes) :
    Calls Try.prog 64 #[.pointer (some ⟨R, 0, none⟩)] w fun e w' => e = .returned (.int .i64 (rdW s).1) ∧ RdAt B w' R (rdW s).2 nodes ∧ w.grownBy w' (some R) := by
  obtain ⟨f0, f1⟩ := rdB_fit hx
  have hx2 := rdB_oct hx
  obtain ⟨g0, g1⟩ := rdB_fit hx2
  have HC := Lib.hid (rbyte_any B R s nodes w hx h)
  have HD := Lib.hid (fun W hW => rbyte_any B R (rdB s).2 nodes W hx2 hW)
  have HN : Hid (rdW s = ((rdB s).1 * 256 + (rdB (rdB s).2).1, (rdB (rdB s).2).2)) := rfl
  obtain ⟨⟨x, s'⟩, hr⟩ : ∃ r, rdB s = r := ⟨_, rfl⟩
  rw [hr] at HC HD HN f0 f1 g0 g1
  simp only [] at HC HD HN f0 f1 g0 g1
  obtain ⟨⟨y, s2⟩, hr2⟩ : ∃ r, rdB s' = r := ⟨_, rfl⟩
  rw [hr2] at HD HN g0 g1
  simp only [] at HD HN g0 g1
  clear hr hr2 h hx hx2
  go_enter Try.func64, Try.ntmps64
  go_wp2_with fail
  refine HC.out.mono ?_; rintro e w1 ⟨rfl, h1, g1⟩
  have H1 := Lib.hid h1; have G1 := Lib.hid g1
  clear h1 g1
  go_wp2_with fail
  refine (HD.out _ H1.out).mono ?_; rintro e w2 ⟨rfl, h2, g2⟩
  have H2 := Lib.hid h2; have G2 := Lib.hid g2
  clear h2 g2
  go_wp2_with fail
  go_ret
  rw [HN.out]
  exact ⟨rfl, H2.out, grown_trans G1.out G2.out⟩
theorem sl_take {B : Nat} {w : World} {p : Option Addr} {cap q : Nat} {xs : List Int} (h : Sl B w (.slice p xs.length cap) 1 xs.length (byt xs)) (hq : q ≤ xs.length) : Sl B w (.slice p q cap) 1 q (byt (xs.take q)) := by
  refine ⟨by rw [byt_len, List.length_take]; omega, ?_⟩
  rcases h.2 with ⟨h2, h3⟩ | ⟨ad, cap', h2, h3, h4, h5⟩
  · simp only [Value.slice.injEq] at h2
    obtain ⟨rfl, h2, rfl⟩ := h2
    obtain rfl : q = 0 := by omega
    exact .inl ⟨rfl, rfl⟩
  · simp only [Value.slice.injEq] at h2
    obtain ⟨rfl, -, rfl⟩ := h2
    refine .inr ⟨ad, cap, rfl, by omega, h4, fun hq0 => ?_⟩
    obtain ⟨g, o, rfl, h6, h7⟩ := h5 (by omega)
    exact ⟨g, o, rfl, h6, fun j hj => by rw [h7 j (by omega), byt, byt, List.getElem?_map, List.getElem?_map, List.getElem?_take, if_pos (by omega)]⟩
theorem RdAt.put {B R : Nat} {w : World} {v : Value} {nodes : Int} {sh : Bool} {q : Option Addr} {n c : Nat} {ys : List Int} (hBR : B ≤ R) (h : w.heap[R]? = some (.cells #[v, .int .i64 nodes, .bool sh] 64 (0, 0))) (hn : n = ys.length)
    (hS : Sl B w (.slice q n c) 1 ys.length (byt ys)) : RdAt B (w.setCell ⟨R, 0, none⟩ (.slice q n c)) R (ys, sh) nodes := by
  subst hn
  exact ⟨hBR, q, c, (cells_set h 0 _).trans rfl, sl_set hS hBR _⟩
theorem rdT_long {s : List Int × Bool} {x : Int} {ys : List Int} {b : Bool} (h : rdB s = (x, ys, b)) (hl : (ys.length : Int) < x) : rdT s = (⟨#[]⟩, ys, true) := by
  unfold rdT; rw [h]; simp only []; rw [if_pos hl]
theorem rdT_fine {s : List Int × Bool} {x : Nat} {ys : List Int} {b : Bool} (h : rdB s = ((x : Int), ys, b)) (hl : ¬ (ys.length : Int) < x) : rdT s = (strOfNums (ys.take x), ys.drop x, b) := by
  unfold rdT; rw [h]; simp only []; rw [if_neg hl, Int.toNat_natCast]
set_option maxRecDepth 100000 in
set_option maxHeartbeats 1000000 in
theorem rtext_any (B R : Nat) (s : List Int × Bool) (nodes : Int) (w : World) (hx : Oct s.1) (h : RdAt B w R s nodes) :
    Calls Try.prog 65 #[.pointer (some ⟨R, 0, none⟩)] w fun e w' => e = .returned (.string (rdT s).1) ∧ RdAt B w' R (rdT s).2 nodes ∧ w.grownBy w' (some R) := by
  obtain ⟨f0, f1⟩ := rdB_fit hx
  have HC := Lib.hid (rbyte_any B R s nodes w hx h)
  obtain ⟨⟨x, ys, b⟩, hr⟩ : ∃ r, rdB s = r := ⟨_, rfl⟩
  have HF := Lib.hid hr
  rw [hr] at HC f0 f1
  simp only [] at f0 f1
  obtain ⟨x, rfl⟩ := Int.eq_ofNat_of_zero_le f0
  clear hr h hx
  by_cases hl : (ys.length : Int) < x
  · have HN := Lib.hid (rdT_long HF.out hl)
    go_enter Try.func65, Try.ntmps65
    go_wp2_with fail
    refine HC.out.mono ?_; rintro e w1 ⟨rfl, h1, g1⟩
    obtain ⟨hBR, p, cap, hR, hS⟩ := h1
    have HR := Lib.hid hR; have HS := Lib.hid hS; have G1 := Lib.hid g1
    have kR := block_cells hR
    have fR := block_free hR
    simp only [] at kR
    clear hR hS g1
    go_wp2_with fail
    go_ret
    rw [HN.out]
    exact ⟨rfl, ⟨hBR, p, cap, (cells_set HR.out 2 _).trans rfl, sl_set HS.out hBR _⟩, grown_trans G1.out (grown_set _ _ _ _)⟩
  · have HN := Lib.hid (rdT_fine HF.out hl)
    go_enter Try.func65, Try.ntmps65
    go_wp2_with fail
    refine HC.out.mono ?_; rintro e w1 ⟨rfl, h1, g1⟩
    obtain ⟨hBR, p, cap, hR, hS⟩ := h1
    obtain ⟨pa, ca, hv, h1, h2, -, h3⟩ := hS.form
    obtain ⟨rfl, -, rfl⟩ : pa = p ∧ _ ∧ ca = cap := by simp only [Value.slice.injEq] at hv; exact ⟨hv.1.symm, hv.2.1, hv.2.2.symm⟩
    have HR := Lib.hid hR; have HS := Lib.hid hS; have G1 := Lib.hid g1
    have kR := block_cells hR
    have fR := block_free hR
    simp only [] at kR h1
    unfold maxLen at h2
    have kc : (convert 22 9 (.slice pa x ca)).run Try.prog w1 = .ok (.string (strOfNums (ys.take x))) w1 := by
      have hlx : (ys.take x).length = x := by rw [List.length_take]; omega
      have h0 : Sl B w1 (.slice pa x ca) 1 (ys.take x).length (byt (ys.take x)) := by rw [hlx]; exact sl_take hS (by omega)
      have := run_convert_sl (P := Try.prog) h0 22 5 Try.underlying22 Try.underlying5 9 Try.underlying9
      exact this
    have hlx : (ys.drop x).length = ys.length - x := by rw [List.length_drop]
    have hdt : (ys.drop x).take (ys.length - x) = ys.drop x := List.take_of_length_le (by rw [hlx]; exact Nat.le_refl _)
    have HLX := Lib.hid hlx; have HDT := Lib.hid hdt
    clear hR hS g1 hv h3 hlx hdt
    go_wp2_with fail
    all_goals
      go_ret
      rw [HN.out]
      refine ⟨rfl, RdAt.put hBR HR.out HLX.out.symm ?_, grown_trans G1.out (grown_set _ _ _ _)⟩
      rw [HLX.out, ← HDT.out]
      first
      | (have := HS.out.part (m := x) (q := ys.length - x) (q' := ys.length - x) (by omega) rfl; rw [part_len (by omega)] at this; exact this)
      | (have := HS.out.part0 (m := x) (q := ys.length - x) (q' := ys.length - x) (c' := 0) (by omega) (by omega) rfl rfl; rw [part_len (by omega)] at this; exact this)
end Go.Proofs.Ytihkkoldjllifaa
