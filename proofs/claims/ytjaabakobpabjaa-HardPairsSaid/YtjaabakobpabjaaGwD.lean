import Derived.Test.YtjaabakobpabjaaGwA
import Derived.Test.YtjaabakobpabjaaLogD
import Derived.Test.YtjaabakobpabjaaStampTk
import Derived.Test.YtjaabakobpabjaaTakeT
import Derived.Lib.MinMax
import Derived.Deep.RegionHeld3
/- Wire: package wire's reader: its steps. -/
namespace Go.Proofs.Ytjaabakobpabjaa
open Go.ChangeShapes Go.WideShapes Go.ChangeAt Go.RowKit

theorem cut2W {P Q : Prop} (h : P → Q) (p : P) : Q := h p
/-- A reader's block: what it has still to read, and whether it could not. -/
def RdS (B : Nat) (w : World) (R : Nat) (xs : List Int) (bad : Bool) : Prop :=
  B ≤ R ∧ ∃ p cap, w.heap[R]? = some (.cells #[.slice p xs.length cap, .bool bad] 134 (0, 0)) ∧ Sl B w (.slice p xs.length cap) 1 xs.length (byt xs)
theorem sl_setW {B : Nat} {w : World} {v : Value} {size n : Nat} {xs : List Value} (h : Sl B w v size n xs) {R j : Nat} (hB : B ≤ R) (u : Value) : Sl B (w.setCell ⟨R, j, none⟩ u) v size n xs :=
  h.keep ((Below.refl _ _).setCell hB u)
theorem cells_setW {w : World} {g : Nat} {cur : Array Value} {t : TypeId} (h : w.heap[g]? = some (.cells cur t (0, 0))) (j : Nat) (v : Value) : (w.setCell ⟨g, j, none⟩ v).heap[g]? = some (.cells (cur.setIfInBounds j v) t (0, 0)) := by
  simp [World.setCell, h, Array.getElem?_modify]
theorem RdS.setBad {B R : Nat} {w : World} {xs : List Int} {bad : Bool} (h : RdS B w R xs bad) (b : Bool) : RdS B (w.setCell ⟨R, 1, none⟩ (.bool b)) R xs b := by
  obtain ⟨hB, p, cap, hR, hS⟩ := h
  exact ⟨hB, p, cap, (cells_setW hR 1 _).trans rfl, sl_setW hS hB _⟩
theorem RdS.setB {B R : Nat} {w : World} {xs ys : List Int} {bad : Bool} {p : Option Addr} {c : Nat} (h : RdS B w R xs bad) (hs : Sl B w (.slice p ys.length c) 1 ys.length (byt ys)) : RdS B (w.setCell ⟨R, 0, none⟩ (.slice p ys.length c)) R ys bad := by
  obtain ⟨hB, p', cap, hR, hS⟩ := h
  exact ⟨hB, p, c, (cells_setW hR 0 _).trans rfl, sl_setW hs hB _⟩
theorem grown_setW (w : World) (g j : Nat) (v : Value) : w.grownBy (w.setCell ⟨g, j, none⟩ v) (some g) :=
  grown_set w g j v
theorem RdS.drew {B R : Nat} {w : World} {xs : List Int} {bad : Bool} (h : RdS B w R xs bad) : RdS B w.drew R xs bad := by
  obtain ⟨hBR, p, cap, hR, hS⟩ := h
  exact ⟨hBR, p, cap, hR, hS.keep (Below.refl _ _).drew⟩
theorem grown_drewW {w w' : World} {row : Option Nat} (h : w.grownBy w' row) : w.grownBy w'.drew row := ⟨h.os, h.tape, h.output, h.size, h.block⟩
theorem grown_transW {a b c : World} {row : Option Nat} (h : a.grownBy b row) (k : b.grownBy c row) : a.grownBy c row :=
  ⟨k.os.trans h.os, k.tape.trans h.tape, k.output.trans h.output, Nat.le_trans h.size k.size, fun i hi hn => (k.block i (Nat.lt_of_lt_of_le hi h.size) hn).trans (h.block i hi hn)⟩
set_option maxRecDepth 100000 in
set_option maxHeartbeats 1000000 in
theorem rfails_any (B R : Nat) (xs : List Int) (bad : Bool) (er : Int) (w : World) (h : RdS B w R xs bad) :
    Calls Try.prog 106 #[.pointer (some ⟨R, 0, none⟩), .int .i64 er] w fun e w' => e = .returned (.tuple #[]) ∧ RdS B w' R xs (bad || decide (er ≠ 0)) ∧ w.grownBy w' (some R) := by
  have H := Lib.hid h
  obtain ⟨hB, p, cap, hR, hS⟩ := h
  have kR := block_cells hR
  have fR := block_free hR
  clear hR hS
  by_cases he : er = 0
  · subst he
    cases bad
    all_goals
      go_enter Try.func106, Try.ntmps106
      go_wp2_with fail
      first | go_end0 | go_ret
      exact ⟨rfl, H.out.setBad _, grown_setW _ _ _ _⟩
  · have h1 : (er != 0) = true := by simpa using he
    have h2 : (er == 0) = false := by simpa using he
    have h3 : decide (er ≠ 0) = true := by simpa using he
    cases bad
    all_goals
      rw [h3]
      go_enter Try.func106, Try.ntmps106
      go_wp2_with fail
      first | go_end0 | go_ret
      exact ⟨rfl, H.out.setBad _, grown_setW _ _ _ _⟩
set_option maxRecDepth 100000 in
set_option maxHeartbeats 2000000 in
theorem rskip_any (B R : Nat) (xs : List Int) (bad : Bool) (n : Nat) (w : World) (h : RdS B w R xs bad) :
    Calls Try.prog 107 #[.pointer (some ⟨R, 0, none⟩), .int .i64 n] w fun e w' => e = .returned (.tuple #[]) ∧ RdS B w' R (xs.drop n) bad ∧ w.grownBy w' (some R) := by
  have H := Lib.hid h
  obtain ⟨hB, p, cap, hR, hS⟩ := h
  obtain ⟨pa, ca, hv, h1, h2, -, -⟩ := hS.form
  obtain ⟨rfl, -, rfl⟩ : pa = p ∧ _ ∧ ca = cap := by simp only [Value.slice.injEq] at hv; exact ⟨hv.1.symm, hv.2.1, hv.2.2.symm⟩
  unfold maxLen at h2
  have HS := Lib.hid hS
  have kR := block_cells hR
  have fR := block_free hR
  obtain ⟨m, hm, hml⟩ : ∃ m : Nat, min (n : Int) (xs.length : Int) = (m : Int) ∧ m = min n xs.length := ⟨min n xs.length, by omega, rfl⟩
  have hmx : m ≤ xs.length := by omega
  have hmi : (m : Int) ≤ (xs.length : Int) := by omega
  have hD : Hid ((xs.drop m).take (xs.length - m) = xs.drop n) := by
    show _ = _
    rw [List.take_of_length_le (by rw [List.length_drop]; omega)]
    by_cases hn : n ≤ xs.length
    · rw [show m = n by omega]
    · rw [List.drop_of_length_le (by omega), List.drop_of_length_le (by omega)]
  have HLn : Hid ((xs.drop n).length = xs.length - m) := by show _ = _; rw [List.length_drop]; omega
  clear hR hS hv hml
  by_cases hc : ca = m
  · have HC := Lib.hid hc
    have hc' : ¬ m < ca := by omega
    go_enter Try.func107, Try.ntmps107
    go_upto_region 0 with fail
    apply cut2W
    · intro hcut
      go_region_law (fail)
      all_goals exact hcut
    go_wp2_with fail
    go_end0
    have hs := Sl.part0 (m := m) (q := xs.length - m) (q' := xs.length - m) (c' := 0) HS.out (by omega) (by have := HC.out; omega) rfl rfl
    rw [hD.out] at hs
    have hr := H.out.setB (p := pa) (c := 0) (ys := xs.drop n) (by rw [HLn.out]; rw [HLn.out] at hs; exact hs)
    rw [HLn.out] at hr
    exact ⟨rfl, hr.drew, grown_drewW (grown_setW _ _ _ _)⟩
  · go_enter Try.func107, Try.ntmps107
    go_upto_region 0 with fail
    apply cut2W
    · intro hcut
      go_region_law (fail)
      all_goals exact hcut
    go_wp2_with fail
    go_end0
    have hs := Sl.part (m := m) (q := xs.length - m) (q' := xs.length - m) HS.out (by omega) rfl
    rw [hD.out] at hs
    have hr := H.out.setB (p := Option.map (fun x => x.add m) pa) (c := ca - m) (ys := xs.drop n) (by rw [HLn.out]; rw [HLn.out] at hs; exact hs)
    rw [HLn.out] at hr
    exact ⟨rfl, hr.drew, grown_drewW (grown_setW _ _ _ _)⟩
/-- A number is read. -/
def rdNw (xs : List Int) (bad : Bool) : Int × List Int × Bool := (zagI (takeV xs).1, xs.drop (takeV xs).2.1.toNat, bad || decide ((takeV xs).2.2 ≠ 0))
set_option maxRecDepth 100000 in
set_option maxHeartbeats 2000000 in
theorem rnum_any (B R : Nat) (xs : List Int) (bad : Bool) (w : World) (hx : ∀ x ∈ xs, 0 ≤ x ∧ x ≤ 255) (h : RdS B w R xs bad) :
    Calls Try.prog 116 #[.pointer (some ⟨R, 0, none⟩)] w fun e w' => e = .returned (.int .i64 (rdNw xs bad).1) ∧ RdS B w' R (rdNw xs bad).2.1 (rdNw xs bad).2.2 ∧ w.grownBy w' (some R) := by
  have HN : Hid (rdNw xs bad = (zagI (takeV xs).1, xs.drop (takeV xs).2.1.toNat, bad || decide ((takeV xs).2.2 ≠ 0))) := rfl
  obtain ⟨⟨z, ys, b2⟩, hr⟩ : ∃ r, rdNw xs bad = r := ⟨_, rfl⟩
  rw [hr] at HN ⊢
  have hbd := takeGo_ok xs 0 0 1 (by omega) hx (by omega) (by omega) (by simp)
  have htv : takeGo xs 0 0 1 = takeV xs := rfl
  rw [htv] at hbd
  obtain ⟨hB, p, cap, hR, hS⟩ := h
  have HT := Lib.hid (takeVar_any B _ xs hx w hS)
  obtain ⟨⟨u, n, er⟩, ht⟩ : ∃ t, takeV xs = t := ⟨_, rfl⟩
  rw [ht] at HT HN hbd
  dsimp only at HT HN hbd
  obtain ⟨u0, u1, n0, n1, -, -⟩ := hbd
  obtain ⟨k, rfl⟩ := Int.eq_ofNat_of_zero_le n0
  have H := Lib.hid (show RdS B w R xs bad from ⟨hB, p, cap, hR, hS⟩)
  have HF := Lib.hid (rfails_any B R xs bad er w H.out)
  have HZ := Lib.hid (fun w => zag_any u w u0 u1)
  obtain ⟨b1, hb1⟩ : ∃ b, (bad || decide (er ≠ 0)) = b := ⟨_, rfl⟩
  rw [hb1] at HF HN
  simp only [Prod.mk.injEq, Int.toNat_natCast] at HN
  have HZ1 := Lib.hid HN.out.1
  have HN2 := Lib.hid HN.out.2
  have kR := block_cells hR
  clear hr ht htv hR hS hb1 n0 n1 HN u0 u1
  go_enter Try.func116, Try.ntmps116
  go_wp2_with fail
  refine HT.out.mono ?_; rintro e w' ⟨rfl, rfl⟩
  go_wp2_with fail
  refine HF.out.mono ?_; rintro e w1 ⟨rfl, h1, g1⟩
  have HS1 := Lib.hid (rskip_any B R xs b1 k w1 h1)
  have G1 := Lib.hid g1
  clear h1 g1 kR
  go_wp2_with fail
  refine HS1.out.mono ?_; rintro e w2 ⟨rfl, h2, g2⟩
  have H2 := Lib.hid h2; have G2 := Lib.hid (grown_transW G1.out g2)
  clear h2 g2
  go_wp2_with fail
  refine (HZ.out _).mono ?_; rintro e w3 ⟨rfl, rfl⟩
  go_wp2_with fail
  go_ret
  rw [HZ1.out]
  have h2 := H2.out
  rw [← HN2.out.1, ← HN2.out.2] at h2
  exact ⟨rfl, h2, G2.out⟩
set_option maxHeartbeats 1000000 in
theorem rint_any (B R : Nat) (xs : List Int) (bad : Bool) (w : World) (hx : ∀ x ∈ xs, 0 ≤ x ∧ x ≤ 255) (h : RdS B w R xs bad) :
    Calls Try.prog 108 #[.pointer (some ⟨R, 0, none⟩)] w fun e w' => e = .returned (.int .i64 (rdNw xs bad).1) ∧ RdS B w' R (rdNw xs bad).2.1 (rdNw xs bad).2.2 ∧ w.grownBy w' (some R) := by
  have HN := Lib.hid (rnum_any B R xs bad w hx h)
  obtain ⟨⟨z, ys, b2⟩, hr⟩ : ∃ r, rdNw xs bad = r := ⟨_, rfl⟩
  rw [hr] at HN ⊢
  dsimp only at HN ⊢
  clear hr h
  go_enter Try.func108, Try.ntmps108
  go_wp2_with fail
  refine HN.out.mono ?_; rintro e w1 ⟨rfl, h1, g1⟩
  have H1 := Lib.hid h1; have G1 := Lib.hid g1
  clear h1 g1
  go_wp2_with fail
  go_ret
  exact ⟨rfl, H1.out, G1.out⟩
/-- A byte is read. -/
def rdBw : List Int → Bool → Int × List Int × Bool
  | [], _ => (0, [], true)
  | x :: t, bad => (x, t, bad)
set_option maxRecDepth 100000 in
set_option maxHeartbeats 2000000 in
theorem rbyteW_any (B R : Nat) (xs : List Int) (bad : Bool) (w : World) (hx : ∀ x ∈ xs, 0 ≤ x ∧ x ≤ 255) (h : RdS B w R xs bad) :
    Calls Try.prog 109 #[.pointer (some ⟨R, 0, none⟩)] w fun e w' => e = .returned (.int .i64 (rdBw xs bad).1) ∧ RdS B w' R (rdBw xs bad).2.1 (rdBw xs bad).2.2 ∧ w.grownBy w' (some R) := by
  have H := Lib.hid h
  obtain ⟨hB, p, cap, hR, hS⟩ := h
  have hg : ∃ u er : Int, 0 ≤ u ∧ u ≤ 255 ∧ (u, xs.drop 1, (bad || decide (er ≠ 0))) = rdBw xs bad ∧ Calls Try.prog 105 #[.slice p xs.length cap, .int .i64 0, .int .i64 1] w fun e w' => e = .returned (.tuple #[.int .u64 u, .int .i64 er]) ∧ w = w' := by
    cases xs with
    | nil => exact ⟨0, 2, by omega, by omega, by simp [rdBw], get_short B _ [] 0 1 w hS (by omega) (by omega) (by omega) (by simp)⟩
    | cons x t =>
      have hb := hx x (by simp)
      refine ⟨x, 0, hb.1, hb.2, by simp [rdBw], ?_⟩
      have := get_ok B _ (x :: t) hx 0 1 w hS (by omega) (by omega) (by simp)
      have hv : beVal (((x :: t).drop 0).take 1) = x := by simp [beVal]
      rw [hv] at this
      exact this
  obtain ⟨u, er, u0, u1, hN, hG⟩ := hg
  have HG := Lib.hid hG
  have HF := Lib.hid (rfails_any B R xs bad er w H.out)
  obtain ⟨b1, hb1⟩ : ∃ b, (bad || decide (er ≠ 0)) = b := ⟨_, rfl⟩
  rw [hb1] at HF hN
  have HN := Lib.hid hN.symm
  have hw1 : IntKind.i64.wrap u = u := by rw [IntKind.wrap_i64]; omega
  have kR := block_cells hR
  clear hR hS hb1 hG hN
  go_enter Try.func109, Try.ntmps109
  go_wp2_with fail
  refine HG.out.mono ?_; rintro e w' ⟨rfl, rfl⟩
  go_wp2_with fail
  refine HF.out.mono ?_; rintro e w1 ⟨rfl, h1, g1⟩
  have HS1 := Lib.hid (rskip_any B R xs b1 1 w1 h1)
  have G1 := Lib.hid g1
  clear h1 g1 kR
  go_wp2_with fail
  refine HS1.out.mono ?_; rintro e w2 ⟨rfl, h2, g2⟩
  have H2 := Lib.hid h2; have G2 := Lib.hid (grown_transW G1.out g2)
  clear h2 g2
  go_wp2_with fail
  go_ret
  rw [HN.out]
  exact ⟨rfl, H2.out, G2.out⟩
/-- A truth is read. -/
def rdFw (xs : List Int) (bad : Bool) : Bool × List Int × Bool := (decide ((rdBw xs bad).1 = 1), (rdBw xs bad).2.1, (rdBw xs bad).2.2 || decide (1 < (rdBw xs bad).1))
set_option maxRecDepth 100000 in
set_option maxHeartbeats 2000000 in
theorem rflag_any (B R : Nat) (xs : List Int) (bad : Bool) (w : World) (hx : ∀ x ∈ xs, 0 ≤ x ∧ x ≤ 255) (h : RdS B w R xs bad) :
    Calls Try.prog 94 #[.pointer (some ⟨R, 0, none⟩)] w fun e w' => e = .returned (.bool (rdFw xs bad).1) ∧ RdS B w' R (rdFw xs bad).2.1 (rdFw xs bad).2.2 ∧ w.grownBy w' (some R) := by
  have HB := Lib.hid (rbyteW_any B R xs bad w hx h)
  have HN : Hid (rdFw xs bad = (decide ((rdBw xs bad).1 = 1), (rdBw xs bad).2.1, (rdBw xs bad).2.2 || decide (1 < (rdBw xs bad).1))) := rfl
  obtain ⟨⟨v, ys, b1⟩, hr⟩ : ∃ r, rdBw xs bad = r := ⟨_, rfl⟩
  rw [hr] at HB HN
  dsimp only at HB HN
  obtain ⟨d1, hd1⟩ : ∃ d, decide (v = 1) = d := ⟨_, rfl⟩
  obtain ⟨d2, hd2⟩ : ∃ d, decide (1 < v) = d := ⟨_, rfl⟩
  rw [hd1, hd2] at HN
  have he1 : (v == 1) = d1 := by rw [← hd1]; by_cases hv : v = 1 <;> simp [hv]
  clear hr h
  go_enter Try.func94, Try.ntmps94
  go_wp2_with fail
  refine HB.out.mono ?_; rintro e w1 ⟨rfl, h1, g1⟩
  have H1 := Lib.hid h1; have G1 := Lib.hid g1
  obtain ⟨hB, p, cap, hR, hS⟩ := h1
  have kR := block_cells hR
  have fR := block_free hR
  clear g1 hR hS
  cases b1
  all_goals
    cases d2
    all_goals
      go_wp2_with fail
      go_ret
      rw [HN.out]
      exact ⟨rfl, H1.out.setBad _, grown_transW G1.out (grown_setW _ _ _ _)⟩
end Go.Proofs.Ytjaabakobpabjaa
/- Wire: package wire's reader: stamps, attempts. -/
namespace Go.Proofs.Ytjaabakobpabjaa
open Go.ChangeShapes Go.WideShapes Go.ChangeAt Go.RowKit

theorem RdS.keep {B R : Nat} {w w' : World} {xs : List Int} {bad : Bool} (h : RdS B w R xs bad) {A : Nat} (hb : Below A w w') (hA : w.heap.size ≤ A) : RdS B w' R xs bad := by
  obtain ⟨hBR, p, cap, hR, hS⟩ := h
  have hRA : R < A := Nat.lt_of_lt_of_le (block_lt hR) hA
  exact ⟨hBR, p, cap, below_block hb hRA hR, hS.keep (hb.mono (by omega))⟩
theorem RdS.setFar {B R : Nat} {w : World} {xs : List Int} {bad : Bool} (h : RdS B w R xs bad) {Z j : Nat} (hZ : R < Z) (v : Value) : RdS B (w.setCell ⟨Z, j, none⟩ v) R xs bad := by
  obtain ⟨hBR, p, cap, hR, hS⟩ := h
  exact ⟨hBR, p, cap, (Below.heap_setCell _ _ _ _ (by show R ≠ Z; omega)).trans hR, sl_setW hS (by omega) v⟩
theorem grown_setFar {w w5 : World} {row : Option Nat} (h : w.grownBy w5 row) {Z j : Nat} {v : Value} (hZ : w.heap.size ≤ Z) : w.grownBy (w5.setCell ⟨Z, j, none⟩ v) row :=
  ⟨h.os, h.tape, h.output, by simpa [World.setCell] using h.size, fun k hk hn => (Below.heap_setCell _ _ _ _ (by show k ≠ Z; omega)).trans (h.block k hk hn)⟩
theorem grown_belowW {w w3 w5 : World} {row : Option Nat} (hb : Below w.heap.size w w3) (h : w3.grownBy w5 row) : w.grownBy w5 row :=
  ⟨h.os.trans hb.os, h.tape.trans hb.tape, h.output.trans hb.output, Nat.le_trans hb.size h.size, fun k hk hn => (h.block k (Nat.lt_of_lt_of_le hk hb.size) hn).trans (hb.block k hk)⟩
end Go.Proofs.Ytjaabakobpabjaa
/- A struct that is stored cell by cell: what the block holds then, whatever its size. -/
namespace Go.Proofs.Ytjaabakobpabjaa
open Go.ChangeShapes Go.WideShapes Go.ChangeAt Go.RowKit

def putL (g : Nat) : Nat → List Value → World → World
  | _, [], w => w
  | i, v :: vs, w => putL g (i + 1) vs (w.setCell ⟨g, i, none⟩ v)
theorem putL_bel {B g : Nat} {w0 : World} (hg : B ≤ g) : ∀ (vs : List Value) (i : Nat) {w : World}, Below B w0 w → Below B w0 (putL g i vs w)
  | [], _, _, h => h
  | v :: vs, i, _, h => putL_bel hg vs (i + 1) (h.setCell (p := ⟨g, i, none⟩) hg v)
theorem putL_gr {g : Nat} {w0 : World} {row : Option Nat} (hg : w0.heap.size ≤ g) : ∀ (vs : List Value) (i : Nat) {w : World}, w0.grownBy w row → w0.grownBy (putL g i vs w) row
  | [], _, _, h => h
  | v :: vs, i, _, h => putL_gr hg vs (i + 1) (grown_setFar (j := i) (v := v) h hg)
theorem putL_gr' (g : Nat) : ∀ (vs : List Value) (i : Nat) (w : World), w.grownBy (putL g i vs w) (some g)
  | [], _, w => grown_refl w _
  | v :: vs, i, w => grown_trans (grown_set w g i v) (putL_gr' g vs (i + 1) _)
theorem putL_rd {B R g : Nat} {xs : List Int} {bad : Bool} (hg : R < g) : ∀ (vs : List Value) (i : Nat) {w : World}, RdS B w R xs bad → RdS B (putL g i vs w) R xs bad
  | [], _, _, h => h
  | v :: vs, i, _, h => putL_rd hg vs (i + 1) (h.setFar hg v)
theorem putL_far {g k : Nat} (hg : k ≠ g) : ∀ (vs : List Value) (i : Nat) (w : World), (putL g i vs w).heap[k]? = w.heap[k]?
  | [], _, _ => rfl
  | _v :: vs, i, _w => (putL_far hg vs (i + 1) _).trans (Below.heap_setCell _ _ _ _ hg)
theorem putL_aux {g : Nat} {t : TypeId} : ∀ (vs cur pre : List Value) {w : World}, w.heap[g]? = some (.cells (pre ++ cur).toArray t (0, 0)) → vs.length = cur.length → (putL g pre.length vs w).heap[g]? = some (.cells (pre ++ vs).toArray t (0, 0))
  | [], cur, pre, w, h, e => by
    cases cur with
    | nil => exact h
    | cons a b => simp at e
  | v :: vs, [], pre, w, h, e => by simp at e
  | v :: vs, c :: cur, pre, w, h, e => by
    have h1 := cells_setW h pre.length v
    have e2 : (pre ++ c :: cur).toArray.setIfInBounds pre.length v = ((pre ++ [v]) ++ cur).toArray := by
      rw [List.setIfInBounds_toArray]; congr 1
      rw [List.set_append_right _ _ (Nat.le_refl _), Nat.sub_self, List.set_cons_zero, List.append_assoc]; rfl
    rw [e2] at h1
    have h2 := putL_aux vs cur (pre ++ [v]) h1 (by simpa using e)
    rw [List.length_append, List.append_assoc] at h2
    exact h2
theorem putL_at {g : Nat} {w : World} {t : TypeId} {cur : List Value} (h : w.heap[g]? = some (.cells cur.toArray t (0, 0))) (vs : List Value) (hl : vs.length = cur.length) : (putL g 0 vs w).heap[g]? = some (.cells vs.toArray t (0, 0)) :=
  putL_aux vs cur [] h hl
end Go.Proofs.Ytjaabakobpabjaa
/- Wire: a state's bytes: package wire's. -/
namespace Go.Proofs.Ytjaabakobpabjaa
open Go.ChangeShapes Go.WideShapes Go.ChangeAt Go.RowKit

end Go.Proofs.Ytjaabakobpabjaa
/- Wire: a state's bytes: the document's. -/
namespace Go.Proofs.Ytjaabakobpabjaa
open Go.ChangeShapes Go.WideShapes Go.ChangeAt Go.RowKit

end Go.Proofs.Ytjaabakobpabjaa
