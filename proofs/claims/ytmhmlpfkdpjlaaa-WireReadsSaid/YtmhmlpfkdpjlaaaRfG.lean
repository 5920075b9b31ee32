import Derived.Test.YtmhmlpfkdpjlaaaRfC
import Derived.Test.YtmhmlpfkdpjlaaaRfB
/- Wire: the reference's reader: truths. -/
namespace Go.Proofs.Ytmhmlpfkdpjlaaa
open Go.ChangeShapes Go.WideShapes Go.ChangeAt Go.RowKit

set_option maxRecDepth 100000 in
set_option maxHeartbeats 4000000 in
theorem rff_any (B R : Nat) (xs : List Int) (bad : Bool) (w : World) (h : RfW B w R xs bad) :
    Calls Try.prog 69 #[.pointer (some ⟨R, 0, none⟩)] w (RfE B R w Value.bool (rfF xs bad)) := by
  have HB := Lib.hid (rfby1_any B R xs bad w h)
  have ho := rfBy_oct 1 xs bad h.o
  have hN : rfF xs bad = (decide ((rfBy 1 xs bad).1.headD 0 = 1), (rfBy 1 xs bad).2.1, (rfBy 1 xs bad).2.2 || decide (1 < (rfBy 1 xs bad).1.headD 0)) := rfl
  obtain ⟨⟨l, ys, b1⟩, hr⟩ : ∃ r, rfBy 1 xs bad = r := ⟨_, rfl⟩
  rw [hr] at HB hN ho
  dsimp only at HB hN ho
  obtain ⟨-, hoc, hl⟩ := ho
  obtain ⟨v, rfl⟩ : ∃ v, l = [v] := by
    match l, hl with
    | [v], _ => exact ⟨v, rfl⟩
  have hv := hoc v (by simp)
  rw [show ([v] : List Int).headD 0 = v from rfl] at hN
  obtain ⟨v0, v1⟩ := hv
  obtain ⟨d1, hd1⟩ : ∃ d, decide (v = 1) = d := ⟨_, rfl⟩
  obtain ⟨d2, hd2⟩ : ∃ d, decide (1 < v) = d := ⟨_, rfl⟩
  rw [hd1, hd2] at hN
  rw [hN]
  have he1 : (v == 1) = d1 := by rw [← hd1]; by_cases hv : v = 1 <;> simp [hv]
  clear hr h hN hoc hl
  go_enter Try.func69, Try.ntmps69
  go_wp2_with fail
  refine HB.out.mono ?_; rintro e w1 ⟨p, cap, rfl, hs, hcap, h1, g1⟩
  dsimp only at hs h1 ⊢
  have H1 := Lib.hid h1; have G1 := Lib.hid g1
  obtain ⟨hB, p', cap', hR, hS⟩ := h1.r
  have kR := block_cells hR
  have fR := block_free hR
  obtain ⟨pa, ca, hv, -, -, -, hc⟩ := hs.form
  obtain ⟨rfl, -, rfl⟩ : pa = p ∧ _ ∧ ca = cap := by simp only [Value.slice.injEq] at hv; exact ⟨hv.1.symm, hv.2.1, hv.2.2.symm⟩
  obtain ⟨g, o, rfl, -, hcell⟩ := hc 0 (by omega)
  have hcell' : w1.cell? ⟨g, o, none⟩ = some (.int .u8 v) := by rw [Nat.add_zero] at hcell; rw [hcell]; rfl
  clear g1 hR hS h1 hs hv hc hcell HB
  cases b1
  all_goals
    cases d2
    all_goals
      go_wp2_with fail
      go_ret
      first
        | exact ⟨rfl, H1.out, G1.out⟩
        | exact ⟨rfl, H1.out.setBad _, grown_transW G1.out (grown_setW _ _ _ _)⟩
end Go.Proofs.Ytmhmlpfkdpjlaaa
/- Wire: the reference's reader: stamps. -/
namespace Go.Proofs.Ytmhmlpfkdpjlaaa
open Go.ChangeShapes Go.WideShapes Go.ChangeAt Go.RowKit

set_option maxRecDepth 100000 in
set_option maxHeartbeats 4000000 in
theorem rfs_any (B R : Nat) (xs : List Int) (bad : Bool) (w : World) (h : RfW B w R xs bad) :
    Calls Try.prog 68 #[.pointer (some ⟨R, 0, none⟩)] w (RfE B R w (fun p => .agg #[.int .i64 p.1, .int .i64 p.2]) (rfS xs bad)) := by
  have HB := Lib.hid (fun w' => rfby16_any B R xs bad w')
  have ho := rfBy_oct 16 xs bad h.o
  have hN : rfS xs bad = ((takeW (rfBy 16 xs bad).1, takeT (rfBy 16 xs bad).1), (rfBy 16 xs bad).2.1, (rfBy 16 xs bad).2.2) := rfl
  obtain ⟨⟨l, ys, b1⟩, hr⟩ : ∃ r, rfBy 16 xs bad = r := ⟨_, rfl⟩
  rw [hr] at HB hN ho
  dsimp only at HB hN ho
  obtain ⟨-, hoc, hl⟩ := ho
  have HO := Lib.hid hoc; have HL := Lib.hid hl
  rw [hN]
  have H := Lib.hid h
  have hRl := h.lt
  obtain ⟨x1, hx1⟩ : ∃ x, takeW l = x := ⟨_, rfl⟩
  obtain ⟨x2, hx2⟩ : ∃ x, takeT l = x := ⟨_, rfl⟩
  rw [hx1, hx2]
  have HX1 := Lib.hid hx1; have HX2 := Lib.hid hx2
  clear hr h hN hoc hl hx1 hx2
  go_enter Try.func68, Try.ntmps68
  go_upto_region 1 with fail
  obtain ⟨W, hW⟩ : ∃ W, w.alloc (.cells #[.int .i64 0, .int .i64 0] 25) = W := ⟨_, rfl⟩
  have hQ : W.heap[w.heap.size]? = some (.cells #[.int .i64 0, .int .i64 0] 25 (0, 0)) := by rw [← hW]; exact heap_last w _
  have HB1 : Hid (Below w.heap.size w W) := by show Below _ _ _; rw [← hW]; exact (Below.refl _ _).alloc (Nat.le_refl _) _
  have H1 := Lib.hid (H.out.keep HB1.out (Nat.le_refl _))
  rw [hW]
  obtain ⟨Z, eZ⟩ : ∃ Z, w.heap.size = Z := ⟨_, rfl⟩
  have HEZ := Lib.hid eZ
  rw [eZ] at hQ hRl ⊢
  have HQ := Lib.hid hQ
  clear hW hQ eZ H
  go_wp2_with fail
  refine (HB.out _ H1.out).mono ?_; rintro e w1 ⟨p, cap, rfl, hs, hcap, h1, g1⟩
  dsimp only at hs h1 ⊢
  have HT := Lib.hid (refTake_any w1.heap.size (.slice p 16 cap) l HO.out w1 (by rw [HL.out]; exact hs) (Nat.le_refl _))
  rw [HX1.out, HX2.out] at HT
  have H2 := Lib.hid h1; have G1 := Lib.hid g1
  clear hs h1 g1 hcap HX1 HX2
  go_wp2_with fail
  refine HT.out.mono ?_; rintro e w2 ⟨rfl, hb2⟩
  have H3 := Lib.hid (H2.out.keep hb2 (Nat.le_refl _))
  have HB2 := Lib.hid hb2
  have hz1 := (G1.out.block Z (block_lt HQ.out) (by simp; omega)).trans HQ.out
  have hz2 := below_block hb2 (block_lt hz1) hz1
  have kz := block_cells hz2
  have fz := block_free hz2
  have HZ := Lib.hid hz2
  have hZl := block_lt hz2
  clear hb2 hz1 hz2 HT
  go_wp2_with fail
  have hf := cells_setW (cells_setW HZ.out 0 (.int .i64 x1)) 1 (.int .i64 x2)
  have hq := below_block (B := ((w2.setCell ⟨Z, 0, none⟩ (.int .i64 x1)).setCell ⟨Z, 1, none⟩ (.int .i64 x2)).heap.size) ((Below.refl _ _).alloc (Nat.le_refl _) (.cells #[.int .i64 x1, .int .i64 x2] 25)) (block_lt hf) hf
  have kF := block_cells hq
  have hle := Nat.le_of_eq HEZ.out
  refine bodyPost_ret (v := .agg #[.int .i64 x1, .int .i64 x2]) ?_ rfl ⟨rfl, ((H3.out.setFar hRl _).setFar hRl _).keep ((Below.refl _ _).alloc (Nat.le_refl _) _) (Nat.le_refl _), grown_transW (grown_setFar (grown_setFar (grown_belowW HB1.out (grown_transW G1.out (grown_belowW HB2.out (grown_refl _ _)))) hle) hle) (grown_belowW ((Below.refl _ _).alloc (Nat.le_refl _) _) (grown_refl _ _))⟩
  simp [results, Try.results68, go_sem, kF]
end Go.Proofs.Ytmhmlpfkdpjlaaa
/- Wire: the reference's reader: attempts. -/
namespace Go.Proofs.Ytmhmlpfkdpjlaaa
open Go.ChangeShapes Go.WideShapes Go.ChangeAt Go.RowKit

set_option maxRecDepth 100000 in
set_option maxHeartbeats 4000000 in
theorem rfy_any (B R : Nat) (xs : List Int) (bad : Bool) (w : World) (h : RfW B w R xs bad) :
    Calls Try.prog 67 #[.pointer (some ⟨R, 0, none⟩)] w (RfE B R w (fun p => .agg #[.int .i64 p.1, .int .i64 p.2.1, .int .i64 p.2.2.1, .int .i64 p.2.2.2]) (rfY xs bad)) := by
  have C := Lib.hid (fun xs bad w' => rfn_any B R xs bad w')
  obtain ⟨⟨a, ys, b1⟩, hr⟩ : ∃ r, rfN xs bad = r := ⟨_, rfl⟩
  obtain ⟨⟨b, zs, b2⟩, hr2⟩ : ∃ r, rfN ys b1 = r := ⟨_, rfl⟩
  obtain ⟨⟨c, us, b3⟩, hr3⟩ : ∃ r, rfN zs b2 = r := ⟨_, rfl⟩
  obtain ⟨⟨d, vs, b4⟩, hr4⟩ : ∃ r, rfN us b3 = r := ⟨_, rfl⟩
  rw [show rfY xs bad = ((a, b, c, d), vs, b4) from rd2_is hr (rd2_is hr2 (rd2_is hr3 hr4))]
  have C0 := Lib.hid (C.out xs bad); have C1 := Lib.hid (C.out ys b1); have C2 := Lib.hid (C.out zs b2); have C3 := Lib.hid (C.out us b3)
  rw [hr] at C0; rw [hr2] at C1; rw [hr3] at C2; rw [hr4] at C3
  have H := Lib.hid h
  have hRl := h.lt
  clear hr hr2 hr3 hr4 h C
  go_enter Try.func67, Try.ntmps67
  go_upto_region 1 with fail
  obtain ⟨W, hW⟩ : ∃ W, w.alloc (.cells #[.int .i64 0, .int .i64 0, .int .i64 0, .int .i64 0] 23) = W := ⟨_, rfl⟩
  have hQ : W.heap[w.heap.size]? = some (.cells #[.int .i64 0, .int .i64 0, .int .i64 0, .int .i64 0] 23 (0, 0)) := by rw [← hW]; exact heap_last w _
  have HB1 : Hid (Below w.heap.size w W) := by show Below _ _ _; rw [← hW]; exact (Below.refl _ _).alloc (Nat.le_refl _) _
  have H1 := Lib.hid (H.out.keep HB1.out (Nat.le_refl _))
  rw [hW]
  obtain ⟨Z, eZ⟩ : ∃ Z, w.heap.size = Z := ⟨_, rfl⟩
  have HEZ := Lib.hid eZ
  rw [eZ] at hQ hRl ⊢
  have HQ := Lib.hid hQ
  clear hW hQ eZ H
  go_wp2_with fail
  refine (C0.out _ H1.out).mono ?_; rintro e w1 ⟨rfl, h1, g1⟩
  dsimp only at h1 ⊢
  have H2 := Lib.hid h1; have G1 := Lib.hid (g1)
  clear h1 g1
  go_wp2_with fail
  refine (C1.out _ H2.out).mono ?_; rintro e w2 ⟨rfl, h1, g1⟩
  dsimp only at h1 ⊢
  have H3 := Lib.hid h1; have G2 := Lib.hid (grown_transW G1.out g1)
  clear h1 g1
  go_wp2_with fail
  refine (C2.out _ H3.out).mono ?_; rintro e w3 ⟨rfl, h1, g1⟩
  dsimp only at h1 ⊢
  have H4 := Lib.hid h1; have G3 := Lib.hid (grown_transW G2.out g1)
  clear h1 g1
  go_wp2_with fail
  refine (C3.out _ H4.out).mono ?_; rintro e w4 ⟨rfl, h1, g1⟩
  dsimp only at h1 ⊢
  have H5 := Lib.hid h1; have G4 := Lib.hid (grown_transW G3.out g1)
  clear h1 g1
  have hz := (G4.out.block Z (block_lt HQ.out) (by simp; omega)).trans HQ.out
  have kz := block_cells hz
  have fz := block_free hz
  have HZ := Lib.hid hz
  clear hz
  go_wp2_with fail
  have hf := cells_setW (cells_setW (cells_setW (cells_setW HZ.out 0 (.int .i64 a)) 1 (.int .i64 b)) 2 (.int .i64 c)) 3 (.int .i64 d)
  have kF := block_cells hf
  have hle := Nat.le_of_eq HEZ.out
  refine bodyPost_ret (v := .agg #[.int .i64 a, .int .i64 b, .int .i64 c, .int .i64 d]) ?_ rfl ⟨rfl, (((H5.out.setFar hRl _).setFar hRl _).setFar hRl _).setFar hRl _, grown_setFar (grown_setFar (grown_setFar (grown_setFar (grown_belowW HB1.out G4.out) hle) hle) hle) hle⟩
  simp [results, Try.results67, go_sem, kF]
end Go.Proofs.Ytmhmlpfkdpjlaaa
/- Wire: the reference's reader: outcomes. -/
namespace Go.Proofs.Ytmhmlpfkdpjlaaa
open Go.ChangeShapes Go.WideShapes Go.ChangeAt Go.RowKit

theorem RfW.keepR {B R A : Nat} {w w' : World} {xs : List Int} {bad : Bool} (h : RfW B w R xs bad) (hb : Below A w w') (hA : R < A) : RfW B w' R xs bad := by
  obtain ⟨⟨hBR, p, cap, hR, hS⟩, ho, hl⟩ := h
  exact ⟨⟨hBR, p, cap, below_block hb hA hR, hS.keep (hb.mono (by omega))⟩, ho, hl⟩
theorem sl_oneF {w : World} {g n : Nat} {cs : List Value} {t : TypeId} (h : w.heap[g]? = some (.cells cs.toArray t (0, 0))) (hn : cs.length = n) : Sl (g + 1) w (.slice (some ⟨g, 0, none⟩) 1 1) n 1 cs :=
  ⟨by omega, .inr ⟨_, 1, rfl, Nat.le_refl _, by unfold maxLen; decide, fun _ => ⟨g, 0, rfl, Nat.lt_succ_self _, fun j _ => by rw [Nat.zero_add, block_cells h]; simp⟩⟩⟩
theorem own_formF {w : World} {base : Nat} {e : TypeId} {size n : Nat} {v : Value} {xs : List Value} (h : w.ownsRow base e size v n xs) : ∃ p c, v = .slice p n c := by
  rcases h.2 with ⟨rfl, rfl⟩ | ⟨g, cap, cur, rfl, -⟩
  · exact ⟨_, _, rfl⟩
  · exact ⟨_, _, rfl⟩
theorem itF_next {α : Type} {f : List Int → Bool → α × List Int × Bool} {k : Nat} {xs ys zs : List Int} {b b2 : Bool} {acc : List α} {a : α} (h : itF f k xs b = (acc, ys, false)) (h2 : f ys false = (a, zs, b2)) : itF f (k + 1) xs b = (acc ++ [a], zs, b2) := by
  rw [itF, h, if_neg (by simp)]; simp only [h2]
set_option maxRecDepth 100000 in
set_option maxHeartbeats 8000000 in
theorem rfouts_any (B R : Nat) (xs : List Int) (b : Bool) (w : World) (h : RfW B w R xs b) :
    Calls Try.prog 76 #[.pointer (some ⟨R, 0, none⟩)] w fun e w' => ∃ v, e = .returned v ∧ w'.ownsRow w.heap.size 83 7 v (rfL rfOu xs b).1.length (ouR (rfL rfOu xs b).1) ∧ RfW B w' R (rfL rfOu xs b).2.1 (rfL rfOu xs b).2.2 ∧ w.grownBy w' (some R) := by
  have HC := Lib.hid (rfc_any B R xs b w h)
  have hn := rfC_range xs b
  have hL : rfL rfOu xs b = itF rfOu (rfC xs b).1.toNat (rfC xs b).2.1 (rfC xs b).2.2 := rfl
  obtain ⟨⟨N, Y, b0⟩, hr⟩ : ∃ r, rfC xs b = r := ⟨_, rfl⟩
  rw [hr] at HC hn hL
  dsimp only at HC hn hL
  obtain ⟨n, rfl⟩ := Int.eq_ofNat_of_zero_le hn.1
  rw [Int.toNat_natCast] at hL
  have hn2 : n ≤ 65536 := by omega
  obtain ⟨i0, hi, hz0, hz1, hz2⟩ := info_parts Try.infoOu
  rw [hL]
  have hRl := h.lt
  clear hr hn hL h
  go_enter Try.func76, Try.ntmps76
  go_wp2_with fail
  refine HC.out.mono ?_; rintro e w1 ⟨rfl, h1, g1⟩
  dsimp only at h1 ⊢
  have HO : Hid (w1.ownsRow w.heap.size 83 7 (.slice none 0 0) (itF rfOu 0 Y b0).1.length (ouR (itF rfOu 0 Y b0).1) ∧ RfW B w1 R (itF rfOu 0 Y b0).2.1 (itF rfOu 0 Y b0).2.2 ∧ w.grownBy w1 (some R)) := ⟨⟨rfl, .inl ⟨rfl, rfl⟩⟩, h1, g1⟩
  clear h1 g1 HC
  go_wp2_with fail
  go_loopw [3, 4] (fun u i wr => ∃ m k : Nat, k + m = n ∧ i = .int .i64 m ∧ Hid (wr.ownsRow w.heap.size 83 7 u (itF rfOu k Y b0).1.length (ouR (itF rfOu k Y b0).1) ∧ RfW B wr R (itF rfOu k Y b0).2.1 (itF rfOu k Y b0).2.2 ∧ w.grownBy wr (some R))) (fun _ i _ => (intOf i).toNat)
  case atStart => exact ⟨n, 0, by omega, rfl, HO⟩
  case round =>
    clear HO
    obtain ⟨m, k, hkm, rfl, HO⟩ := hrel
    obtain ⟨wk, rfl⟩ : ∃ wk : World, wk = wr := ⟨_, rfl⟩
    obtain ⟨vk, rfl⟩ : ∃ vk : Value, vk = u3 := ⟨_, rfl⟩
    have hil := itF_len rfOu Y b0 k
    obtain ⟨⟨acc, ys, bb⟩, hr⟩ : ∃ r, itF rfOu k Y b0 = r := ⟨_, rfl⟩
    rw [hr] at HO hil
    dsimp only at HO hil
    have HRR := Lib.hid hr
    obtain ⟨ho, hw, hg⟩ := HO.out
    have hB0 := hw.r
    obtain ⟨hBR, p, cap, hR, hS⟩ := hB0
    have kR := block_cells hR
    obtain ⟨q, c, rfl⟩ := own_formF ho
    have HOW := Lib.hid ho; have HRW := Lib.hid hw; have HG := Lib.hid hg
    clear hr hBR hR hS HO ho hw hg
    by_cases hm : m = 0
    · subst hm
      have hd : decide ((0 : Int) < ((0 : Nat) : Int)) = false := by simp
      have e : itF rfOu n Y b0 = (acc, ys, bb) := by rw [show n = k by omega]; exact HRR.out
      have HE := Lib.hid e
      clear e
      go_wp2_with fail
      go_ret
      rw [HE.out]
      exact ⟨_, rfl, HOW.out, HRW.out, HG.out⟩
    have hd : decide ((0 : Int) < (m : Int)) = true := by simp; omega
    cases bb with
    | true =>
      have e : itF rfOu n Y b0 = (acc, ys, true) := by rw [← hkm, itF_stop (by rw [HRR.out]) m]; exact HRR.out
      have HE := Lib.hid e
      clear e
      go_wp2_with fail
      go_ret
      rw [HE.out]
      exact ⟨_, rfl, HOW.out, HRW.out, HG.out⟩
    | false =>
      obtain ⟨⟨⟨y1, y2, y3, y4⟩, X1, b1⟩, hr1⟩ : ∃ r, rfY ys false = r := ⟨_, rfl⟩
      obtain ⟨⟨⟨s1, s2⟩, X2, b2⟩, hr2⟩ : ∃ r, rfS X1 b1 = r := ⟨_, rfl⟩
      obtain ⟨⟨f1, X3, b3⟩, hr3⟩ : ∃ r, rfF X2 b2 = r := ⟨_, rfl⟩
      have hx : rfOu ys false = (⟨y1, y2, y3, y4, s1, s2, f1⟩, X3, b3) := rdMap_is (rd2_is hr1 (rd2_is hr2 hr3))
      have HNX := Lib.hid (itF_next HRR.out hx)
      have C1 := Lib.hid (rfy_any B R ys false wk HRW.out)
      have C2 := Lib.hid (fun w' => rfs_any B R X1 b1 w')
      have C3 := Lib.hid (fun w' => rff_any B R X2 b2 w')
      rw [hr1] at C1; rw [hr2] at C2; rw [hr3] at C3
      clear hr1 hr2 hr3 hx
      go_wp2_with fail
      refine C1.out.mono ?_; rintro e wa ⟨rfl, ha, ga⟩
      dsimp only at ha ⊢
      have HA := Lib.hid ha; have GA := Lib.hid ga
      clear ha ga kR
      go_wp2_with fail
      refine (C2.out _ HA.out).mono ?_; rintro e wb ⟨rfl, ha, ga⟩
      dsimp only at ha ⊢
      have HB := Lib.hid ha; have GB := Lib.hid (grown_transW GA.out ga)
      clear ha ga
      go_wp2_with fail
      refine (C3.out _ HB.out).mono ?_; rintro e wc ⟨rfl, ha, ga⟩
      dsimp only at ha ⊢
      have HCc := Lib.hid ha
      have gc := grown_transW GB.out ga
      have hne : (Value.slice q acc.length c).ownBlock = none ∨ (Value.slice q acc.length c).ownBlock ≠ some R := by
        cases e : (Value.slice q acc.length c).ownBlock with
        | none => exact .inl rfl
        | some x => exact .inr fun h => by have := (HOW.out.lt x e).1; simp only [Option.some.injEq] at h; omega
      have HOC := Lib.hid (HOW.out.kept gc hne)
      have GC := Lib.hid (grown_transW HG.out gc)
      have hzc : w.heap.size ≤ wc.heap.size := GC.out.size
      clear ha ga gc hne C1 C2 C3
      go_wp2_with (at_builtin; refine wpList_append_sl rfl _ _ 31 rfl w.heap.size 83 i0 _ 7 56 Try.underlying31 hi hz0 hz1 hz2 rfl (by decide) _ acc.length (ouR acc) rfl (HOC.out.alloc _) (wc.heap.size + 1) _ 1 [.int .i64 y1, .int .i64 y2, .int .i64 y3, .int .i64 y4, .int .i64 s1, .int .i64 s2, .bool f1] rfl (sl_oneF (cs := [.int .i64 y1, .int .i64 y2, .int .i64 y3, .int .i64 y4, .int .i64 s1, .int .i64 s2, .bool f1]) (heap_last wc _) rfl) (by intro u hu; simp only [List.mem_cons, List.not_mem_nil, or_false] at hu; rcases hu with rfl | rfl | rfl | rfl | rfl | rfl | rfl <;> rfl) ?d1 ?d2 ?d3 ?_)
      case d1 => unfold maxLen; omega
      case d2 => omega
      case d3 => simp; omega
      intro v' w' ho' hg'
      have hbe : Below w.heap.size wc w' := ((Below.refl _ _).alloc hzc _).grown hg' (by simp; omega) (fun k hk => (HOC.out.lt k hk).1)
      have hgr := grown_row (w0 := w) (grown_transW GC.out (grown_belowW ((Below.refl _ _).alloc (Nat.le_refl _) _) (grown_refl _ _))) hg' (fun k hk => (HOC.out.lt k hk).1)
      have HO2 : Hid (w'.ownsRow w.heap.size 83 7 v' (itF rfOu (k + 1) Y b0).1.length (ouR (itF rfOu (k + 1) Y b0).1) ∧ RfW B w' R (itF rfOu (k + 1) Y b0).2.1 (itF rfOu (k + 1) Y b0).2.2 ∧ w.grownBy w' (some R)) := by
        show _ ∧ _ ∧ _
        rw [HNX.out]
        refine ⟨?_, HCc.out.keepR hbe hRl, hgr⟩
        rw [List.length_append, List.length_singleton]
        have : ouR (acc ++ [⟨y1, y2, y3, y4, s1, s2, f1⟩]) = ouR acc ++ [.int .i64 y1, .int .i64 y2, .int .i64 y3, .int .i64 y4, .int .i64 s1, .int .i64 s2, .bool f1] := by unfold ouR; rw [List.flatMap_append]; rfl
        rw [this]; exact ho'
      clear ho' hg' hbe hgr HOC GC HCc HNX HOW HRW HG HRR
      go_wp2_with fail
      go_roundw
      case rel => exact ⟨m - 1, k + 1, by omega, by go_num, HO2⟩
      case measure => simp [intOf]; omega
end Go.Proofs.Ytmhmlpfkdpjlaaa
