import Derived.Test.YtmhmlpfkdpjlaaaWireM
import Derived.Test.YtmhmlpfkdpjlaaaPlainRd
/- A struct that is stored cell by cell: what the block holds then, whatever its size. -/
namespace Go.Proofs.Ytmhmlpfkdpjlaaa
open Go.ChangeShapes Go.WideShapes Go.ChangeAt Go.RowKit

def putL (g : Nat) : Nat → List Value → World → World
  | _, [], w => w
  | i, v :: vs, w => putL g (i + 1) vs (w.setCell ⟨g, i, none⟩ v)
theorem putL_bel {B g : Nat} {w0 : World} (hg : B ≤ g) : ∀ (vs : List Value) (i : Nat) {w : World}, Below B w0 w → Below B w0 (putL g i vs w)
  | [], _, _, h => h
  | v :: vs, i, _, h => putL_bel hg vs (i + 1) (h.setCell (p := ⟨g, i, none⟩) hg v)
theorem putL_gr {g : Nat} {w0 : World} {row : Option Nat} (hg : w0.heap.size ≤ g) : ∀ (vs : List Value) (i : Nat) {w : World}, w0.grownBy w row → w0.grownBy (putL g i vs w) row
  | [], _, _, h => h
  | v :: vs, i, _, h => putL_gr hg vs (i + 1) (grown_setFar (j := i) (v := v) h hg)
theorem putL_gr' (g : Nat) : ∀ (vs : List Value) (i : Nat) (w : World), w.grownBy (putL g i vs w) (some g)
  | [], _, w => grown_refl w _
  | v :: vs, i, w => grown_trans (grown_set w g i v) (putL_gr' g vs (i + 1) _)
theorem putL_rd {B R g : Nat} {xs : List Int} {bad : Bool} (hg : R < g) : ∀ (vs : List Value) (i : Nat) {w : World}, RdS B w R xs bad → RdS B (putL g i vs w) R xs bad
  | [], _, _, h => h
  | v :: vs, i, _, h => putL_rd hg vs (i + 1) (h.setFar hg v)
theorem putL_far {g k : Nat} (hg : k ≠ g) : ∀ (vs : List Value) (i : Nat) (w : World), (putL g i vs w).heap[k]? = w.heap[k]?
  | [], _, _ => rfl
  | _v :: vs, i, _w => (putL_far hg vs (i + 1) _).trans (Below.heap_setCell _ _ _ _ hg)
theorem putL_aux {g : Nat} {t : TypeId} : ∀ (vs cur pre : List Value) {w : World}, w.heap[g]? = some (.cells (pre ++ cur).toArray t (0, 0)) → vs.length = cur.length → (putL g pre.length vs w).heap[g]? = some (.cells (pre ++ vs).toArray t (0, 0))
  | [], cur, pre, w, h, e => by
    cases cur with
    | nil => exact h
    | cons a b => simp at e
  | v :: vs, [], pre, w, h, e => by simp at e
  | v :: vs, c :: cur, pre, w, h, e => by
    have h1 := cells_setW h pre.length v
    have e2 : (pre ++ c :: cur).toArray.setIfInBounds pre.length v = ((pre ++ [v]) ++ cur).toArray := by
      rw [List.setIfInBounds_toArray]; congr 1
      rw [List.set_append_right _ _ (Nat.le_refl _), Nat.sub_self, List.set_cons_zero, List.append_assoc]; rfl
    rw [e2] at h1
    have h2 := putL_aux vs cur (pre ++ [v]) h1 (by simpa using e)
    rw [List.length_append, List.append_assoc] at h2
    exact h2
theorem putL_at {g : Nat} {w : World} {t : TypeId} {cur : List Value} (h : w.heap[g]? = some (.cells cur.toArray t (0, 0))) (vs : List Value) (hl : vs.length = cur.length) : (putL g 0 vs w).heap[g]? = some (.cells vs.toArray t (0, 0)) :=
  putL_aux vs cur [] h hl
end Go.Proofs.Ytmhmlpfkdpjlaaa
/- Wire: package wire's reader: texts; a list by whatever closure. -/
namespace Go.Proofs.Ytmhmlpfkdpjlaaa
open Go.ChangeShapes Go.WideShapes Go.ChangeAt Go.RowKit

/-- A reader's block, of bytes. -/
structure RdW (B : Nat) (w : World) (R : Nat) (xs : List Int) (bad : Bool) : Prop where
  r : RdS B w R xs bad
  o : Oct xs
  l : (xs.length : Int) ≤ 140737488300000
theorem RdW.keep {B R : Nat} {w w' : World} {xs : List Int} {bad : Bool} (h : RdW B w R xs bad) {A : Nat} (hb : Below A w w') (hA : w.heap.size ≤ A) : RdW B w' R xs bad := ⟨h.r.keep hb hA, h.o, h.l⟩
theorem RdW.drew {B R : Nat} {w : World} {xs : List Int} {bad : Bool} (h : RdW B w R xs bad) : RdW B w.drew R xs bad := ⟨h.r.drew, h.o, h.l⟩
theorem RdW.setBad {B R : Nat} {w : World} {xs : List Int} {bad : Bool} (h : RdW B w R xs bad) (b : Bool) : RdW B (w.setCell ⟨R, 1, none⟩ (.bool b)) R xs b := ⟨h.r.setBad b, h.o, h.l⟩
theorem RdW.lt {B R : Nat} {w : World} {xs : List Int} {bad : Bool} (h : RdW B w R xs bad) : R < w.heap.size := by
  obtain ⟨_, p, cap, hR, _⟩ := h.r; exact block_lt hR
def RdE {α : Type} (B R : Nat) (w : World) (v : α → Value) (r : α × List Int × Bool) (e : Ending) (w' : World) : Prop := e = .returned (v r.1) ∧ RdW B w' R r.2.1 r.2.2 ∧ w.grownBy w' (some R)
theorem rdE_of {α : Type} {B R : Nat} {w w' : World} {v : α → Value} {xs : List Int} {b : Bool} {f : List Int → Bool → α × List Int × Bool} {e : α → List Int} {k : α → Prop} (hf : RdOk f e k) (hl : (f xs b).2.1.length ≤ xs.length) {en : Ending} (h : RdW B w R xs b) (hE : en = .returned (v (f xs b).1) ∧ RdS B w' R (f xs b).2.1 (f xs b).2.2 ∧ w.grownBy w' (some R)) : RdE B R w v (f xs b) en w' :=
  ⟨hE.1, ⟨hE.2.1, hf.oct xs b h.o, by have := h.l; omega⟩, hE.2.2⟩
theorem rdNw_len (xs : List Int) (b : Bool) : (rdNw xs b).2.1.length ≤ xs.length := by unfold rdNw; rw [List.length_drop]; omega
theorem rdSw_len (xs : List Int) (b : Bool) : (rdSw xs b).2.1.length ≤ xs.length := by unfold rdSw; rw [List.length_drop]; omega
theorem rdTw_len (xs : List Int) (b : Bool) : (rdTw xs b).2.1.length ≤ xs.length := by unfold rdTw; rw [List.length_drop]; omega
theorem rdBw_len (xs : List Int) (b : Bool) : (rdBw xs b).2.1.length ≤ xs.length := by cases xs <;> simp [rdBw]
theorem rdFw_len (xs : List Int) (b : Bool) : (rdFw xs b).2.1.length ≤ xs.length := rdBw_len xs b
theorem rdYw_len (xs : List Int) (b : Bool) : (rdYw xs b).2.1.length ≤ xs.length := by
  unfold rdYw; exact Nat.le_trans (rdNw_len _ _) (Nat.le_trans (rdNw_len _ _) (Nat.le_trans (rdNw_len _ _) (rdNw_len _ _)))
theorem rdYw_ok : RdOk rdYw (fun p => encY p.1 p.2.1 p.2.2.1 p.2.2.2) (fun p => In64 p.1 ∧ In64 p.2.1 ∧ In64 p.2.2.1 ∧ In64 p.2.2.2) := by
  have h := rd2_ok rdNw_ok (rd2_ok rdNw_ok (rd2_ok rdNw_ok rdNw_ok))
  have e : rdYw = rd2 rdNw (rd2 rdNw (rd2 rdNw rdNw)) := by funext xs b; rfl
  rw [e]
  refine ⟨fun xs a ys ho hh => ?_, fun a r hk => ?_, h.sticky, h.oct⟩
  · obtain ⟨h1, h2⟩ := h.sound xs a ys ho hh
    refine ⟨h1, ?_⟩
    rw [h2]; simp [encY]
  · have := h.compl a r hk
    rw [show encY a.1 a.2.1 a.2.2.1 a.2.2.2 ++ r = (encN a.1 ++ (encN a.2.1 ++ (encN a.2.2.1 ++ encN a.2.2.2))) ++ r by simp [encY]]
    exact this
set_option maxRecDepth 100000 in
set_option maxHeartbeats 2000000 in
theorem rtext_any (B R : Nat) (xs : List Int) (bad : Bool) (w : World) (h : RdW B w R xs bad) :
    Calls Try.prog 63 #[.pointer (some ⟨R, 0, none⟩)] w (RdE B R w Value.string (rdTw xs bad)) := by
  have HN : Hid (rdTw xs bad = (strOfNums (textR xs).1, xs.drop (textR xs).2.1.toNat, bad || decide ((textR xs).2.2 ≠ 0))) := rfl
  have hlen := rdTw_len xs bad
  have hoct := rdTw_ok.oct xs bad h.o
  obtain ⟨⟨z, ys, b2⟩, hr⟩ : ∃ r, rdTw xs bad = r := ⟨_, rfl⟩
  rw [hr] at HN hlen hoct ⊢
  obtain ⟨hB, p, cap, hR, hS⟩ := h.r
  have hRl := block_lt hR
  have HT := Lib.hid (takeText_any B _ xs h.o w hS (by omega) (by have := h.l; omega))
  have hn0 : 0 ≤ (textR xs).2.1 := by
    have hbd := takeGo_ok xs 0 0 1 (by omega) h.o (by omega) (by omega) (by simp)
    have htv : takeGo xs 0 0 1 = takeV xs := rfl
    rw [htv] at hbd
    unfold textR
    split
    · exact Int.le_refl _
    · split
      · exact Int.le_refl _
      · split
        · exact Int.le_refl _
        · dsimp only; omega
  obtain ⟨⟨tx, n, er⟩, ht⟩ : ∃ t, textR xs = t := ⟨_, rfl⟩
  rw [ht] at HT HN hn0
  dsimp only at HN hn0
  obtain ⟨k, rfl⟩ := Int.eq_ofNat_of_zero_le hn0
  have H := Lib.hid h.r
  obtain ⟨b1, hb1⟩ : ∃ b, (bad || decide (er ≠ 0)) = b := ⟨_, rfl⟩
  rw [hb1] at HN
  simp only [Prod.mk.injEq, Int.toNat_natCast] at HN
  have HB1 := Lib.hid hb1
  have HZ1 := Lib.hid HN.out.1
  have HN2 := Lib.hid HN.out.2
  have HL := Lib.hid (show (ys.length : Int) ≤ 140737488300000 by have := h.l; dsimp only at hlen; omega)
  have HOC := Lib.hid hoct
  have kR := block_cells hR
  clear hr ht hR hS hb1 hn0 HN hlen hoct h
  go_enter Try.func63, Try.ntmps63
  go_wp2_with fail
  refine HT.out.mono ?_; rintro e w0 ⟨v0, rfl, ho, hb0⟩
  dsimp only at ho ⊢
  have HO := Lib.hid ho; have HW0 := Lib.hid hb0
  have HF := Lib.hid (rfails_any B R xs bad er w0 (H.out.keep hb0 (Nat.le_refl _)))
  rw [HB1.out] at HF
  clear ho hb0 kR HB1
  go_wp2_with fail
  refine HF.out.mono ?_; rintro e w1 ⟨rfl, h1, g1⟩
  have HS1 := Lib.hid (rskip_any B R xs b1 k w1 h1)
  have G1 := Lib.hid g1
  clear h1 g1
  go_wp2_with fail
  refine HS1.out.mono ?_; rintro e w2 ⟨rfl, h2, g2⟩
  have H2 := Lib.hid h2; have G2 := Lib.hid (grown_transW G1.out g2)
  have hne : v0.ownBlock = none ∨ v0.ownBlock ≠ some R := by
    cases e : v0.ownBlock with
    | none => exact .inl rfl
    | some x => exact .inr fun h => by have := (HO.out.lt x e).1; simp only [Option.some.injEq] at h; omega
  have ho2 := HO.out.kept G2.out hne
  have hcv := run_convert_sl (P := Try.prog) (Sl.of_own ho2) 46 5 Try.underlying46 Try.underlying5 9 Try.underlying9
  rw [← HZ1.out] at hcv
  have HG := Lib.hid (show w.grownBy w2 (some R) from grown_belowW HW0.out G2.out)
  clear h2 g2 hne ho2 HO G1 G2 HF HS1 HT
  go_wp2_with fail
  go_ret
  have h2 := H2.out
  rw [← HN2.out.1, ← HN2.out.2] at h2
  exact ⟨rfl, ⟨h2, HOC.out, HL.out⟩, HG.out⟩
theorem itF_len {α : Type} (f : List Int → Bool → α × List Int × Bool) (xs : List Int) (b : Bool) : ∀ n, (itF f n xs b).1.length ≤ n
  | 0 => Nat.le_refl _
  | n + 1 => by
    have := itF_len f xs b n
    rw [itF]
    split
    · omega
    · simp only [List.length_append, List.length_cons, List.length_nil]; omega
set_option maxRecDepth 100000 in
set_option maxHeartbeats 2000000 in
theorem rlist_gen {α : Type} (B R : Nat) (n : FuncId) (caps : Array Value) (hn : ∀ w, (callFunc n caps).run Try.prog w = .ok (.enter n caps) w) (f : List Int → Bool → α × List Int × Bool) (hlen : ∀ ys b, (f ys b).2.1.length ≤ ys.length) (J : List α → World → Prop) (xs : List Int) (bad : Bool) (w : World) (h : RdW B w R xs bad)
    (hJ : ∀ w', w.grownBy w' (some R) → J [] w')
    (hone : ∀ acc ys b w', acc.length ≤ 65536 → RdW B w' R ys b → J acc w' → Calls Try.prog n caps w' (fun e w'' => e = .returned (.tuple #[]) ∧ RdW B w'' R (f ys b).2.1 (f ys b).2.2 ∧ J (acc ++ [(f ys b).1]) w'')) :
    Calls Try.prog 61 #[.pointer (some ⟨R, 0, none⟩), .func (.func n) #[] caps] w fun e w' => e = .returned (.tuple #[]) ∧ RdW B w' R (rdL f xs bad).2.1 (rdL f xs bad).2.2 ∧ J (rdL f xs bad).1 w' := by
  have HN := Lib.hid (rnum_any B R xs bad w h.o h.r)
  have HE : Hid (rdL f xs bad = if (rdNw xs bad).1 < 0 ∨ 65536 < (rdNw xs bad).1 then ([], (rdNw xs bad).2.1, true) else itF f (rdNw xs bad).1.toNat (rdNw xs bad).2.1 (rdNw xs bad).2.2) := rfl
  have hl := rdNw_len xs bad
  have ho := rdNw_ok.oct xs bad h.o
  obtain ⟨⟨v, ys, b⟩, hr⟩ : ∃ r, rdNw xs bad = r := ⟨_, rfl⟩
  rw [hr] at HN HE hl ho
  dsimp only at HN HE hl ho
  have HO : Hid (Oct ys ∧ (ys.length : Int) ≤ 140737488300000) := ⟨ho, by have := h.l; omega⟩
  have H1 := Lib.hid hone; have HJ := Lib.hid hJ; have HL := Lib.hid hlen
  have HCF := Lib.hid hn
  clear hone hJ hr h hl ho hlen hn
  go_enter Try.func61, Try.ntmps61
  go_wp2_with fail
  refine HN.out.mono ?_; rintro e w1 ⟨rfl, h1, g1⟩
  have HW : Hid (RdW B w1 R ys b) := ⟨h1, HO.out.1, HO.out.2⟩
  have HG := Lib.hid g1
  clear h1 g1 HN
  by_cases hv : v < 0 ∨ 65536 < v
  · have hE := HE.out
    rw [if_pos hv] at hE
    have HE2 := Lib.hid hE
    clear hE HE
    obtain ⟨_, p, cap, hR, _⟩ := HW.out.r
    have kR := block_cells hR
    have fR := block_free hR
    have kR2 := block_cells (cells_setW hR 1 (.bool true))
    rcases hv with hv | hv
    · have hd : decide (v < 0) = true := by simp; omega
      have hd2 : decide (0 < v) = false := by simp; omega
      have hu : undef = Value.tuple #[] := rfl
      go_wp2_with fail
      refine wp_loop_rounds 1 ?_
      rw [rounds_succ]
      go_wp2_with fail
      first | go_end0 | go_ret
      rw [HE2.out]
      exact ⟨rfl, HW.out.setBad true, HJ.out _ (grown_transW HG.out (grown_setW _ _ _ _))⟩
    · have hd : decide (v < 0) = false := by simp; omega
      have hd3 : decide (65536 < v) = true := by simp; omega
      have hd2 : decide (0 < v) = true := by simp; omega
      go_wp2_with fail
      refine wp_loop_rounds 1 ?_
      rw [rounds_succ]
      go_wp2_with fail
      first | go_end0 | go_ret
      rw [HE2.out]
      exact ⟨rfl, HW.out.setBad true, HJ.out _ (grown_transW HG.out (grown_setW _ _ _ _))⟩
  · have hE := HE.out
    rw [if_neg hv] at hE
    obtain ⟨N, rfl⟩ : ∃ N : Nat, v = N := ⟨v.toNat, by omega⟩
    rw [Int.toNat_natCast] at hE
    have HE2 := Lib.hid hE
    clear hE HE
    have hN : N ≤ 65536 := by omega
    have hd : decide ((N : Int) < 0) = false := by simp
    have hd3 : decide ((65536 : Int) < (N : Int)) = false := by simp; omega
    clear hv
    have HI : Hid (RdW B w1 R (itF f 0 ys b).2.1 (itF f 0 ys b).2.2 ∧ J (itF f 0 ys b).1 w1) := ⟨HW.out, HJ.out _ HG.out⟩
    clear HW HJ HG
    go_wp2_with fail
    go_loopw [4] (fun i wr => ∃ m : Nat, m ≤ N ∧ i = .int .i64 ((N : Int) - (m : Int)) ∧ Hid (RdW B wr R (itF f m ys b).2.1 (itF f m ys b).2.2 ∧ J (itF f m ys b).1 wr)) (fun i _ => (intOf i).toNat)
    case atStart => exact ⟨0, by omega, by simp, HI⟩
    case round =>
      clear HI
      obtain ⟨m, hm, rfl, HI⟩ := hrel
      obtain ⟨wk, rfl⟩ : ∃ wk : World, wk = wr := ⟨_, rfl⟩
      obtain ⟨⟨acc, zs, b2⟩, hi⟩ : ∃ r, itF f m ys b = r := ⟨_, rfl⟩
      rw [hi] at HI
      dsimp only at HI
      obtain ⟨_, p, cap, hR, _⟩ := HI.out.1.r
      have kR := block_cells hR
      by_cases hmN : m < N
      · have hd2 : decide (0 < (N : Int) - (m : Int)) = true := by simp; omega
        cases b2 with
        | true =>
          have HE3 : Hid (rdL f xs bad = (acc, zs, true)) := by
            show _ = _
            have := itF_stop (k := N - m) (by rw [hi] : (itF f m ys b).2.2 = true)
            rw [HE2.out, ← hi, ← this, show m + (N - m) = N by omega]
          clear hi hR
          go_wp2_with fail
          first | go_end0 | go_ret
          rw [HE3.out]
          exact ⟨rfl, HI.out.1, HI.out.2⟩
        | false =>
          have HC := Lib.hid (H1.out acc zs false wk (by have := itF_len f ys b m; rw [hi] at this; dsimp only at this; omega) HI.out.1 HI.out.2)
          have HNX : Hid (itF f (m + 1) ys b = (acc ++ [(f zs false).1], (f zs false).2.1, (f zs false).2.2)) := by
            show _ = _; rw [itF, hi]; rfl
          clear hi hR
          go_wp2_with fail
          rw [HCF.out wk, Oper.upon_enter]
          refine HC.out.mono ?_; rintro e w2 ⟨rfl, h2, j2⟩
          have HI2 : Hid (RdW B w2 R (itF f (m + 1) ys b).2.1 (itF f (m + 1) ys b).2.2 ∧ J (itF f (m + 1) ys b).1 w2) := by
            show _ ∧ _; rw [HNX.out]; exact ⟨h2, j2⟩
          clear h2 j2 HC HNX HI kR
          have hw : IntKind.i64.wrap ((N : Int) - (m : Int) - 1) = (N : Int) - (m : Int) - 1 := by rw [IntKind.wrap_i64]; omega
          go_wp2_with fail
          go_roundw
          case rel => exact ⟨m + 1, by omega, by (try push_cast); congr 1; omega, HI2⟩
          case measure => simp [intOf]; omega
      · obtain rfl : m = N := by omega
        have hd2 : decide (0 < (m : Int) - (m : Int)) = false := by simp
        have hu : undef = Value.tuple #[] := rfl
        have HE3 : Hid (rdL f xs bad = (acc, zs, b2)) := by show _ = _; rw [HE2.out, hi]
        clear hi hR
        go_wp2_with fail
        first | go_end0 | go_ret
        rw [HE3.out]
        exact ⟨rfl, HI.out.1, HI.out.2⟩
/-- Another row is written. -/
theorem RdW.row {B R : Nat} {w w' : World} {xs : List Int} {bad : Bool} {row : Option Nat} (h : RdW B w R xs bad) (hg : w.grownBy w' row) (hr : ∀ k, row = some k → R < k) : RdW B w' R xs bad := by
  obtain ⟨hBR, p, cap, hR, hS⟩ := h.r
  have hl := block_lt hR
  exact ⟨⟨hBR, p, cap, (hg.block R hl (fun e => by have := hr R e.symm; omega)).trans hR, hS.keep ⟨hg.os, hg.tape, hg.output, hg.size, fun k hk => hg.block k (by omega) (fun e => by have := hr k e.symm; omega)⟩⟩, h.o, h.l⟩
end Go.Proofs.Ytmhmlpfkdpjlaaa
