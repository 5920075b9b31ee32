/- Wire: how numbers, texts, truths, stamps and attempts are laid behind bytes: package wire's and the reference's. -/
import Derived.Test.YtmhmlpfkdpjlaaaHeld
import Derived.Deep.RegionHeld3
namespace Go.Proofs.Ytmhmlpfkdpjlaaa
open Go.ChangeShapes Go.WideShapes Go.ChangeAt Go.RowKit

theorem flat_le {α : Type} {f : α → List Int} (l : List α) (k : Nat) : ((l.take k).flatMap f).length ≤ (l.flatMap f).length := by
  have h : l.flatMap f = (l.take k).flatMap f ++ (l.drop k).flatMap f := by rw [← List.flatMap_append, List.take_append_drop]
  rw [h, List.length_append]; omega
def TxtsAt (w : World) (p : Option Addr) (ss : List ByteArray) : Prop := ∀ j, (hj : j < ss.length) → ∃ g o, p = some ⟨g, o, none⟩ ∧ g < w.heap.size ∧ w.cell? ⟨g, o + j, none⟩ = some (.string ss[j])
theorem TxtsAt.keep {w w' : World} {p : Option Addr} {ss : List ByteArray} (h : TxtsAt w p ss) {B : Nat} (hb : Below B w w') (hB : w.heap.size ≤ B) : TxtsAt w' p ss := fun j hj => by
  obtain ⟨g, o, e, hg, h1⟩ := h j hj
  exact ⟨g, o, e, Nat.lt_of_lt_of_le hg hb.size, (hb.cell (p := ⟨g, o + j, none⟩) (by show g < B; omega)).trans h1⟩
/-- An append in place: what is below the row's base stays. -/
theorem wend_grown {base : Nat} {w w1 w2 : World} {v v2 : Value} {xs ys : List Int} (hb1 : Below w.heap.size w w1) (_ho1 : w1.ownsRow base 5 1 v xs.length (byt xs)) (hg : w1.grownBy w2 v.ownBlock) (ho2 : w2.ownsRow base 5 1 v2 (xs.length + ys.length) (byt xs ++ byt ys)) :
    w2.ownsRow base 5 1 v2 (xs ++ ys).length (byt (xs ++ ys)) ∧ w.grownBy w2 v.ownBlock := by
  refine ⟨by rw [List.length_append, ← byt_app]; exact ho2, ?_⟩
  exact ⟨hg.os.trans hb1.os, hg.tape.trans hb1.tape, hg.output.trans hb1.output, Nat.le_trans hb1.size hg.size, fun k hk hn => (hg.block k (Nat.lt_of_lt_of_le hk hb1.size) hn).trans (hb1.block k hk)⟩
theorem sl_oneW {w : World} {g : Nat} {x : Int} {t : TypeId} (h : w.heap[g]? = some (.cells #[.int .u8 x] t (0, 0))) : Sl (g + 1) w (.slice (some ⟨g, 0, none⟩) 1 1) 1 [x].length (byt [x]) :=
  ⟨rfl, .inr ⟨_, 1, rfl, Nat.le_refl _, by unfold maxLen; decide, fun _ => ⟨g, 0, rfl, Nat.lt_succ_self _, fun j hj => by
    obtain rfl : j = 0 := by simp at hj; omega
    rw [block_cells h]; rfl⟩⟩⟩
set_option maxRecDepth 100000 in
set_option maxHeartbeats 2000000 in
theorem flag_any (base : Nat) (v : Value) (xs : List Int) (b : Bool) (w : World) (ho : w.ownsRow base 5 1 v xs.length (byt xs)) (hB : base ≤ w.heap.size) (hb : (xs.length : Int) ≤ 140737488350000) :
    Calls Try.prog 44 #[v, .bool b] w (WGr base v w (xs ++ encF b)) := by
  obtain ⟨i0, hi, hz0, hz1, hz2⟩ := info_parts Try.infoU8
  have HO := Lib.hid ho
  clear ho
  cases b
  · go_enter Try.func44, Try.ntmps44
    go_wp2_with (at_builtin; refine wpList_append_sl rfl _ _ 46 rfl base 5 i0 (.int .u8 0) 1 1 Try.underlying46 hi hz0 hz1 hz2 rfl (by decide) v xs.length (byt xs) rfl (HO.out.alloc _) (w.heap.size + 1) _ 1 (byt [0]) rfl (sl_oneW (heap_last w _)) (byt_one _) ?d1 ?d2 ?d3 ?_)
    case d1 => unfold maxLen; omega
    case d2 => omega
    case d3 => simp; omega
    intro v2 w2 ho2 hg2
    have HE := Lib.hid (wend_grown (ys := [0]) ((Below.refl w.heap.size w).alloc (Nat.le_refl _) _) (HO.out.alloc _) hg2 ho2)
    clear ho2 hg2
    go_wp2_with fail
    go_ret
    exact ⟨_, rfl, HE.out.1, HE.out.2⟩
  · go_enter Try.func44, Try.ntmps44
    go_wp2_with (at_builtin; refine wpList_append_sl rfl _ _ 46 rfl base 5 i0 (.int .u8 0) 1 1 Try.underlying46 hi hz0 hz1 hz2 rfl (by decide) v xs.length (byt xs) rfl (HO.out.alloc _) (w.heap.size + 1) _ 1 (byt [1]) rfl (sl_oneW (heap_last w _)) (byt_one _) ?d1 ?d2 ?d3 ?_)
    case d1 => unfold maxLen; omega
    case d2 => omega
    case d3 => simp; omega
    intro v2 w2 ho2 hg2
    have HE := Lib.hid (wend_grown (ys := [1]) ((Below.refl w.heap.size w).alloc (Nat.le_refl _) _) (HO.out.alloc _) hg2 ho2)
    clear ho2 hg2
    go_wp2_with fail
    go_ret
    exact ⟨_, rfl, HE.out.1, HE.out.2⟩
set_option maxRecDepth 100000 in
set_option maxHeartbeats 2000000 in
theorem rf_any (base : Nat) (v : Value) (xs : List Int) (b : Bool) (w : World) (ho : w.ownsRow base 5 1 v xs.length (byt xs)) (hB : base ≤ w.heap.size) (hb : (xs.length : Int) ≤ 140737488350000) :
    Calls Try.prog 49 #[v, .bool b] w (WGr base v w (xs ++ encF b)) := by
  obtain ⟨i0, hi, hz0, hz1, hz2⟩ := info_parts Try.infoU8
  have HO := Lib.hid ho
  clear ho
  cases b
  · go_enter Try.func49, Try.ntmps49
    go_wp2_with (at_builtin; refine wpList_append_sl rfl _ _ 46 rfl base 5 i0 (.int .u8 0) 1 1 Try.underlying46 hi hz0 hz1 hz2 rfl (by decide) v xs.length (byt xs) rfl (HO.out.alloc _) (w.heap.size + 1) _ 1 (byt [0]) rfl (sl_oneW (heap_last w _)) (byt_one _) ?d1 ?d2 ?d3 ?_)
    case d1 => unfold maxLen; omega
    case d2 => omega
    case d3 => simp; omega
    intro v2 w2 ho2 hg2
    have HE := Lib.hid (wend_grown (ys := [0]) ((Below.refl w.heap.size w).alloc (Nat.le_refl _) _) (HO.out.alloc _) hg2 ho2)
    clear ho2 hg2
    go_wp2_with fail
    go_ret
    exact ⟨_, rfl, HE.out.1, HE.out.2⟩
  · go_enter Try.func49, Try.ntmps49
    go_wp2_with (at_builtin; refine wpList_append_sl rfl _ _ 46 rfl base 5 i0 (.int .u8 0) 1 1 Try.underlying46 hi hz0 hz1 hz2 rfl (by decide) v xs.length (byt xs) rfl (HO.out.alloc _) (w.heap.size + 1) _ 1 (byt [1]) rfl (sl_oneW (heap_last w _)) (byt_one _) ?d1 ?d2 ?d3 ?_)
    case d1 => unfold maxLen; omega
    case d2 => omega
    case d3 => simp; omega
    intro v2 w2 ho2 hg2
    have HE := Lib.hid (wend_grown (ys := [1]) ((Below.refl w.heap.size w).alloc (Nat.le_refl _) _) (HO.out.alloc _) hg2 ho2)
    clear ho2 hg2
    go_wp2_with fail
    go_ret
    exact ⟨_, rfl, HE.out.1, HE.out.2⟩
set_option maxRecDepth 100000 in
set_option maxHeartbeats 2000000 in
theorem moment_any (base : Nat) (v : Value) (xs : List Int) (a b : Int) (w : World) (ho : w.ownsRow base 5 1 v xs.length (byt xs)) (hB : base ≤ w.heap.size) (ha : In64 a) (hb' : In64 b) (hb : (xs.length : Int) ≤ 140737488350000) :
    Calls Try.prog 42 #[v, .agg #[.int .i64 a, .int .i64 b]] w (WGr base v w (xs ++ stampB a b)) := by
  obtain ⟨i0, hi, hz0, hz1, hz2⟩ := info_parts Try.infoU8
  have HO := Lib.hid ho
  have HL := Lib.hid (stampB_len a b)
  clear ho
  go_enter Try.func42, Try.ntmps42
  go_upto_region 1 with fail
  obtain ⟨W, hW⟩ : ∃ W, w.alloc (.cells #[.int .i64 a, .int .i64 b] 25) = W := ⟨_, rfl⟩
  have kA : ∀ j, W.cell? ⟨w.heap.size, j, none⟩ = #[.int .i64 a, .int .i64 b][j]? := by rw [← hW]; exact block_cells (heap_last w _)
  have HB1 : Hid (Below w.heap.size w W) := by show Below _ _ _; rw [← hW]; exact (Below.refl _ _).alloc (Nat.le_refl _) _
  have HC := Lib.hid (bytes_any a b W ha.1 ha.2 hb'.1 hb'.2)
  rw [hW]
  clear hW
  go_wp2_with fail
  refine HC.out.mono ?_; rintro e w1 ⟨v1, rfl, ho1, hb1⟩
  have HB2 := Lib.hid (HB1.out.trans (hb1.mono HB1.out.size))
  have HO2 := Lib.hid (own_less HO.out HB2.out)
  have HS := Lib.hid (Sl.of_own ho1)
  have hz := HB2.out.size
  clear ho1 hb1 kA HC
  go_wp2_with (at_builtin; refine wpList_append_sl rfl _ _ 46 rfl base 5 i0 (.int .u8 0) 1 1 Try.underlying46 hi hz0 hz1 hz2 rfl (by decide) v xs.length (byt xs) rfl HO2.out w1.heap.size _ (stampB a b).length (byt (stampB a b)) rfl HS.out (byt_one _) ?d1 ?d2 ?d3 ?_)
  case d1 => rw [HL.out]; unfold maxLen; omega
  case d2 => rw [HL.out]; omega
  case d3 => omega
  intro v2 w2 ho2 hg2
  have HE := Lib.hid (wend_grown HB2.out HO2.out hg2 ho2)
  clear ho2 hg2
  go_wp2_with fail
  go_ret
  exact ⟨_, rfl, HE.out.1, HE.out.2⟩
set_option maxRecDepth 100000 in
set_option maxHeartbeats 2000000 in
theorem rs_any (base : Nat) (v : Value) (xs : List Int) (a b : Int) (w : World) (ho : w.ownsRow base 5 1 v xs.length (byt xs)) (hB : base ≤ w.heap.size) (ha : In64 a) (hb' : In64 b) (hb : (xs.length : Int) ≤ 140737488350000) :
    Calls Try.prog 50 #[v, .agg #[.int .i64 a, .int .i64 b]] w (WGr base v w (xs ++ stampB a b)) := by
  obtain ⟨i0, hi, hz0, hz1, hz2⟩ := info_parts Try.infoU8
  have HO := Lib.hid ho
  have HL := Lib.hid (stampB_len a b)
  clear ho
  go_enter Try.func50, Try.ntmps50
  go_upto_region 1 with fail
  obtain ⟨W, hW⟩ : ∃ W, w.alloc (.cells #[.int .i64 a, .int .i64 b] 25) = W := ⟨_, rfl⟩
  have kA : ∀ j, W.cell? ⟨w.heap.size, j, none⟩ = #[.int .i64 a, .int .i64 b][j]? := by rw [← hW]; exact block_cells (heap_last w _)
  have HB1 : Hid (Below w.heap.size w W) := by show Below _ _ _; rw [← hW]; exact (Below.refl _ _).alloc (Nat.le_refl _) _
  have HC := Lib.hid (refBytes_any a b W ha.1 ha.2 hb'.1 hb'.2)
  rw [hW]
  clear hW
  go_wp2_with fail
  refine HC.out.mono ?_; rintro e w1 ⟨v1, rfl, ho1, hb1⟩
  have HB2 := Lib.hid (HB1.out.trans (hb1.mono HB1.out.size))
  have HO2 := Lib.hid (own_less HO.out HB2.out)
  have HS := Lib.hid (Sl.of_own ho1)
  have hz := HB2.out.size
  clear ho1 hb1 kA HC
  go_wp2_with (at_builtin; refine wpList_append_sl rfl _ _ 46 rfl base 5 i0 (.int .u8 0) 1 1 Try.underlying46 hi hz0 hz1 hz2 rfl (by decide) v xs.length (byt xs) rfl HO2.out w1.heap.size _ (stampB a b).length (byt (stampB a b)) rfl HS.out (byt_one _) ?d1 ?d2 ?d3 ?_)
  case d1 => rw [HL.out]; unfold maxLen; omega
  case d2 => rw [HL.out]; omega
  case d3 => omega
  intro v2 w2 ho2 hg2
  have HE := Lib.hid (wend_grown HB2.out HO2.out hg2 ho2)
  clear ho2 hg2
  go_wp2_with fail
  go_ret
  exact ⟨_, rfl, HE.out.1, HE.out.2⟩
set_option maxRecDepth 100000 in
set_option maxHeartbeats 4000000 in
theorem text_anyW (base : Nat) (v : Value) (xs : List Int) (p : Option Addr) (c : Nat) (ss : List ByteArray) (w : World) (ho : w.ownsRow base 5 1 v xs.length (byt xs)) (_hB : base ≤ w.heap.size) (hn : TxtsAt w p ss) (hs : ∀ s ∈ ss, (s.size : Int) ≤ 140737488300000) (hl : ss.length ≤ 100) (hb : ((xs ++ ss.flatMap encT).length : Int) ≤ 140737488350000) :
    Calls Try.prog 45 #[v, .slice p ss.length c] w (WEnd (bsW base w.heap.size ss.length) w.heap.size w (xs ++ ss.flatMap encT)) := by
  have HN := Lib.hid hn; have HV := Lib.hid hs
  have HLN := Lib.hid hb
  have HO : Hid (w.ownsRow (bsW base w.heap.size 0) 5 1 v (xs ++ (ss.take 0).flatMap encT).length (byt (xs ++ (ss.take 0).flatMap encT)) ∧ Below w.heap.size w w) := by show _ ∧ _; simp only [List.take_zero, List.flatMap_nil, List.append_nil]; exact ⟨ho, Below.refl _ _⟩
  clear hn hs ho hb
  go_enter Try.func45, Try.ntmps45
  go_wp2_with fail
  go_loopw [0, 9] (fun u i wr => ∃ k : Nat, k ≤ ss.length ∧ i = .int .i64 k ∧ Hid (wr.ownsRow (bsW base w.heap.size k) 5 1 u (xs ++ (ss.take k).flatMap encT).length (byt (xs ++ (ss.take k).flatMap encT)) ∧ Below w.heap.size w wr)) (fun _ i _ => ss.length - (intOf i).toNat)
  case atStart => exact ⟨0, Nat.zero_le _, rfl, HO⟩
  case round =>
    clear HO
    obtain ⟨k, hk, rfl, HO⟩ := hrel
    obtain ⟨wk, rfl⟩ : ∃ wk : World, wk = wr := ⟨_, rfl⟩
    by_cases hlt : k < ss.length
    · have hd : decide ((k : Int) < (ss.length : Int)) = true := by simp; omega
      obtain ⟨g, o, hpe, hg, hc⟩ := (HN.out.keep HO.out.2 (Nat.le_refl _)) k hlt
      obtain ⟨s, hx⟩ : ∃ x, ss[k] = x := ⟨_, rfl⟩
      have hsz := HV.out s (by rw [← hx]; exact List.getElem_mem hlt)
      rw [hx] at hc
      subst hpe
      have hfl : (xs ++ (ss.take (k + 1)).flatMap encT).length ≤ (xs ++ ss.flatMap encT).length := by
        rw [List.length_append, List.length_append]; have := flat_le (f := encT) ss (k + 1); omega
      rw [flat_next hlt, hx, ← List.append_assoc, List.length_append] at hfl
      have hen : (encT s).length = (varN s.size).length + s.size := by unfold encT; rw [List.length_append, txW_len]
      have hbb := HLN.out
      obtain ⟨cap, w1, hrun, hsl, hbl⟩ := conv_bytes s wk (by unfold maxLen; omega)
      have HBL := Lib.hid hbl
      have HTX := Lib.hid (text_any w1.heap.size _ _ (xs ++ (ss.take k).flatMap encT) (txW s) w1 (Sl.of_own (own_less HO.out.1 hbl)) hsl (Nat.le_refl _) (by rw [txW_len]; omega))
      have HNX : Hid ((xs ++ (ss.take k).flatMap encT) ++ varN (txW s).length ++ txW s = xs ++ (ss.take (k + 1)).flatMap encT) := by show _ = _; rw [flat_next hlt, hx, txW_len]; simp [encT]
      clear hx hg hfl hsl hbl hen hbb
      go_wp2_with fail
      refine HTX.out.mono ?_; rintro e w2 ⟨v2, rfl, ho2, hb2⟩
      rw [HNX.out] at ho2
      have HO2 : Hid (w2.ownsRow (bsW base w.heap.size (k + 1)) 5 1 v2 (xs ++ (ss.take (k + 1)).flatMap encT).length (byt (xs ++ (ss.take (k + 1)).flatMap encT)) ∧ Below w.heap.size w w2) := ⟨own_baseW ho2 (by rw [bsW_next]; exact Nat.le_trans HO.out.2.size HBL.out.size), HO.out.2.trans ((HBL.out.trans (hb2.mono HBL.out.size)).mono HO.out.2.size)⟩
      clear ho2 hb2 hc HO HTX HNX HBL hrun
      go_wp2_with fail
      go_roundw
      case rel => exact ⟨k + 1, by omega, by go_num, HO2⟩
      case measure => simp [intOf]; omega
    · obtain rfl : k = ss.length := by omega
      have hd : decide ((ss.length : Int) < (ss.length : Int)) = false := by simp
      go_wp2_with fail
      have h := HO.out
      rw [flat_all] at h
      go_ret
      exact ⟨_, rfl, h.1, h.2⟩
set_option maxHeartbeats 1000000 in
theorem rn_any (base : Nat) (v : Value) (xs : List Int) (x : Int) (w : World) (ho : w.ownsRow base 5 1 v xs.length (byt xs)) (_hB : base ≤ w.heap.size) (hx : In64 x) (hb : (xs.length : Int) ≤ 140737488350000) :
    Calls Try.prog 48 #[v, .int .i64 x] w (WEnd w.heap.size w.heap.size w (xs ++ encN x)) := by
  have HVA := Lib.hid (refVar_any w.heap.size _ xs (zigI x) w (Sl.of_own ho) (Nat.le_refl _) (by omega) (zigI_fit hx).1 (zigI_fit hx).2)
  have HZ := Lib.hid (refZig_any x w hx.1 hx.2)
  go_enter Try.func48, Try.ntmps48
  go_wp2_with fail
  refine HZ.out.mono ?_; rintro e w' ⟨rfl, rfl⟩
  go_wp2_with fail
  refine HVA.out.mono ?_; rintro e w2 ⟨v2, rfl, ho2, hb2⟩
  have HO2 := Lib.hid ho2
  clear ho2
  go_wp2_with fail
  go_ret
  exact ⟨_, rfl, HO2.out, hb2⟩
set_option maxHeartbeats 1000000 in
theorem rt_any (base : Nat) (v : Value) (xs : List Int) (s : ByteArray) (w : World) (ho : w.ownsRow base 5 1 v xs.length (byt xs)) (_hB : base ≤ w.heap.size) (hb : (xs.length : Int) + s.size ≤ 140737488350000) :
    Calls Try.prog 52 #[v, .string s] w (WEnd w.heap.size w.heap.size w (xs ++ encT s)) := by
  obtain ⟨cap, w1, hrun, hsl, hbl⟩ := conv_bytes s w (by unfold maxLen; omega)
  have HBL := Lib.hid hbl
  have HTX := Lib.hid (refText_any w1.heap.size _ _ xs (txW s) w1 (Sl.of_own (own_less ho hbl)) hsl (Nat.le_refl _) (by rw [txW_len]; omega))
  have HNX : Hid (xs ++ varN (txW s).length ++ txW s = xs ++ encT s) := by show _ = _; rw [txW_len]; simp [encT]
  clear ho hsl hbl
  go_enter Try.func52, Try.ntmps52
  go_wp2_with fail
  refine HTX.out.mono ?_; rintro e w2 ⟨v2, rfl, ho2, hb2⟩
  rw [HNX.out] at ho2
  have HO2 := Lib.hid ho2
  have HB2 := Lib.hid (HBL.out.trans (hb2.mono HBL.out.size))
  clear ho2 hb2 hrun
  go_wp2_with fail
  go_ret
  exact ⟨_, rfl, own_baseW HO2.out HBL.out.size, HB2.out⟩
set_option maxRecDepth 100000 in
set_option maxHeartbeats 4000000 in
theorem try_any (base : Nat) (v : Value) (xs : List Int) (n l s a : Int) (w : World) (ho : w.ownsRow base 5 1 v xs.length (byt xs)) (hB : base ≤ w.heap.size) (hn : In64 n) (hl : In64 l) (hs : In64 s) (ha : In64 a) (hb : (xs.length : Int) ≤ 140737488330000) :
    Calls Try.prog 43 #[v, .agg #[.int .i64 n, .int .i64 l, .int .i64 s, .int .i64 a]] w (WEnd w.heap.size w.heap.size w (xs ++ encY n l s a)) := by
  have hW1 : Below w.heap.size w (w.alloc (.cells #[.int .i64 n, .int .i64 l, .int .i64 s, .int .i64 a] 23)) := (Below.refl _ _).alloc (Nat.le_refl _) _
  have hW : Below w.heap.size w ((w.alloc (.cells #[.int .i64 n, .int .i64 l, .int .i64 s, .int .i64 a] 23)).alloc (.cells #[.int .i64 n, .int .i64 l, .int .i64 s, .int .i64 a] 3)) := hW1.alloc hW1.size _
  have HIN := Lib.hid (ints_any base v xs (some ⟨w.heap.size + 1, 0, none⟩) 4 [n, l, s, a] ((w.alloc (.cells #[.int .i64 n, .int .i64 l, .int .i64 s, .int .i64 a] 23)).alloc (.cells #[.int .i64 n, .int .i64 l, .int .i64 s, .int .i64 a] 3)) (own_less ho hW) (Nat.le_trans hB hW.size) (NumsAt.of_cells (by have := heap_last (w.alloc (.cells #[.int .i64 n, .int .i64 l, .int .i64 s, .int .i64 a] 23)) (.cells #[.int .i64 n, .int .i64 l, .int .i64 s, .int .i64 a] 3); simpa using this) (by
      intro j hj
      have : j = 0 ∨ j = 1 ∨ j = 2 ∨ j = 3 := by simp at hj; omega
      rcases this with rfl | rfl | rfl | rfl <;> rfl)) (by
      intro x hx
      simp only [List.mem_cons, List.not_mem_nil, or_false] at hx
      rcases hx with rfl | rfl | rfl | rfl
      · exact hn
      · exact hl
      · exact hs
      · exact ha) (by simp) (by omega))
  have HW := Lib.hid hW
  have HY : Hid (xs ++ [n, l, s, a].flatMap encN = xs ++ encY n l s a) := by show _ = _; simp [encY]
  clear hW hW1 ho
  go_enter Try.func43, Try.ntmps43
  go_wp2_with fail
  refine HIN.out.mono ?_; rintro e w2 ⟨v2, rfl, ho2, hb2⟩
  rw [HY.out] at ho2
  have HO2 := Lib.hid (own_baseW ho2 (by show w.heap.size ≤ bsW _ _ (3 + 1); rw [bsW_next]; exact HW.out.size))
  have HB2 := Lib.hid (HW.out.trans (hb2.mono HW.out.size))
  clear ho2 hb2
  go_wp2_with fail
  go_ret
  exact ⟨_, rfl, HO2.out, HB2.out⟩
set_option maxRecDepth 100000 in
set_option maxHeartbeats 4000000 in
theorem ry_any (base : Nat) (v : Value) (xs : List Int) (n l s a : Int) (w : World) (ho : w.ownsRow base 5 1 v xs.length (byt xs)) (hB : base ≤ w.heap.size) (hn : In64 n) (hl : In64 l) (hs : In64 s) (ha : In64 a) (hb : (xs.length : Int) ≤ 140737488340000) :
    Calls Try.prog 51 #[v, .agg #[.int .i64 n, .int .i64 l, .int .i64 s, .int .i64 a]] w (WEnd w.heap.size w.heap.size w (xs ++ encY n l s a)) := by
  have HO := Lib.hid ho
  have ln1 := (encN_len hn).2; have ln2 := (encN_len hl).2; have ln3 := (encN_len hs).2
  clear ho
  go_enter Try.func51, Try.ntmps51
  go_upto_region 1 with fail
  obtain ⟨W, hW⟩ : ∃ W, w.alloc (.cells #[.int .i64 n, .int .i64 l, .int .i64 s, .int .i64 a] 23) = W := ⟨_, rfl⟩
  have hA : W.heap[w.heap.size]? = some (.cells #[.int .i64 n, .int .i64 l, .int .i64 s, .int .i64 a] 23 (0, 0)) := by rw [← hW]; exact heap_last w _
  have HB1 : Hid (Below w.heap.size w W) := by show Below _ _ _; rw [← hW]; exact (Below.refl _ _).alloc (Nat.le_refl _) _
  have HA := Lib.hid hA
  rw [hW]
  obtain ⟨A, eA⟩ : ∃ A, w.heap.size = A := ⟨_, rfl⟩
  have HEA := Lib.hid eA
  rw [eA] at HA ⊢
  clear hW hA eA
  have h0 : Below W.heap.size W W.drew := (Below.refl _ _).drew
  have kA : ∀ w', Below W.heap.size W w' → ∀ j, w'.cell? ⟨A, j, none⟩ = #[.int .i64 n, .int .i64 l, .int .i64 s, .int .i64 a][j]? := fun w' h => block_cells (below_block h (block_lt HA.out) HA.out)
  refine wp_region_held_drew (S := fun w' => Below W.heap.size W w') (by kernel_rfl) h0 (fun hHeld => ?_)
  refine wpAnyH_take (i := 0) (v := ?_) rfl (by kernel_rfl) (by kernel_rfl) (by kernel_rfl) (fun _ _ _ h => h) (Or.inl ⟨by rfl, ?_⟩) hHeld ?_
  rotate_left
  · (intro wz hSw; (try dsimp only at hSw); (try simp only [List.getElem_toArray, List.getElem_cons_zero]); go_simp; try with_reducible rfl)
  try simp only [List.getElem_toArray, List.getElem_cons_zero, Act.put, List.setIfInBounds_toArray, List.set_cons_zero, List.set_cons_succ]
  refine wpAnyH_take (i := 1) (v := ?_) rfl (by kernel_rfl) (by kernel_rfl) (by kernel_rfl) (fun _ _ _ h => h) (Or.inl ⟨by rfl, ?_⟩) hHeld ?_
  rotate_left
  · (intro wz hSw; (try dsimp only at hSw); (try simp only [List.getElem_toArray, List.getElem_cons_succ, List.getElem_cons_zero]); go_simp; try with_reducible rfl)
  try simp only [List.getElem_toArray, List.getElem_cons_succ, List.getElem_cons_zero, Act.put, List.setIfInBounds_toArray, List.set_cons_zero, List.set_cons_succ]
  refine wpAnyH_take (i := 2) (v := ?_) rfl (by kernel_rfl) (by kernel_rfl) (by kernel_rfl) (fun _ _ _ h => h) (Or.inl ⟨by rfl, ?_⟩) hHeld ?_
  rotate_left
  · (intro wz hSw; (try dsimp only at hSw); (try simp only [List.getElem_toArray, List.getElem_cons_succ, List.getElem_cons_zero]); go_simp; try with_reducible rfl)
  try simp only [List.getElem_toArray, List.getElem_cons_succ, List.getElem_cons_zero, Act.put, List.setIfInBounds_toArray, List.set_cons_zero, List.set_cons_succ]
  refine wpAnyH_take (i := 4) (v := ?_) rfl (by kernel_rfl) (by kernel_rfl) (by kernel_rfl) (fun _ _ _ h => h) (Or.inl ⟨by rfl, ?_⟩) hHeld ?_
  rotate_left
  · (intro wz hSw; (try dsimp only at hSw); (try simp only [List.getElem_toArray, List.getElem_cons_succ, List.getElem_cons_zero]); go_simp; try with_reducible rfl)
  try simp only [List.getElem_toArray, List.getElem_cons_succ, List.getElem_cons_zero, Act.put, List.setIfInBounds_toArray, List.set_cons_zero, List.set_cons_succ]
  refine wpAnyH_take (i := 5) (v := ?_) rfl (by kernel_rfl) (by kernel_rfl) (by kernel_rfl) (fun _ _ _ h => h) (Or.inl ⟨by rfl, ?_⟩) hHeld ?_
  rotate_left
  · (intro wz hSw; (try dsimp only at hSw); (try simp only [List.getElem_toArray, List.getElem_cons_succ, List.getElem_cons_zero]); go_simp; try with_reducible rfl)
  try simp only [List.getElem_toArray, List.getElem_cons_succ, List.getElem_cons_zero, Act.put, List.setIfInBounds_toArray, List.set_cons_zero, List.set_cons_succ]
  refine wpAnyH_take (i := 7) (v := ?_) rfl (by kernel_rfl) (by kernel_rfl) (by kernel_rfl) (fun _ _ _ h => h) (Or.inl ⟨by rfl, ?_⟩) hHeld ?_
  rotate_left
  · (intro wz hSw; (try dsimp only at hSw); (try simp only [List.getElem_toArray, List.getElem_cons_succ, List.getElem_cons_zero]); go_simp; try with_reducible rfl)
  try simp only [List.getElem_toArray, List.getElem_cons_succ, List.getElem_cons_zero, Act.put, List.setIfInBounds_toArray, List.set_cons_zero, List.set_cons_succ]
  refine wpAnyH_take (i := 8) (v := ?_) rfl (by kernel_rfl) (by kernel_rfl) (by kernel_rfl) (fun _ _ _ h => h) (Or.inl ⟨by rfl, ?_⟩) hHeld ?_
  rotate_left
  · (intro wz hSw; (try dsimp only at hSw); (try simp only [List.getElem_toArray, List.getElem_cons_succ, List.getElem_cons_zero]); go_simp; try with_reducible rfl)
  try simp only [List.getElem_toArray, List.getElem_cons_succ, List.getElem_cons_zero, Act.put, List.setIfInBounds_toArray, List.set_cons_zero, List.set_cons_succ]
  refine wpAnyH_take (i := 10) (v := ?_) rfl (by kernel_rfl) (by kernel_rfl) (by kernel_rfl) (fun _ _ _ h => h) (Or.inl ⟨by rfl, ?_⟩) hHeld ?_
  rotate_left
  · (intro wz hSw; (try dsimp only at hSw); (try simp only [List.getElem_toArray, List.getElem_cons_succ, List.getElem_cons_zero]); go_simp; try with_reducible rfl)
  try simp only [List.getElem_toArray, List.getElem_cons_succ, List.getElem_cons_zero, Act.put, List.setIfInBounds_toArray, List.set_cons_zero, List.set_cons_succ]
  refine wpAnyH_take (i := 11) (v := ?_) rfl (by kernel_rfl) (by kernel_rfl) (by kernel_rfl) (fun _ _ _ h => h) (Or.inl ⟨by rfl, ?_⟩) hHeld ?_
  rotate_left
  · (intro wz hSw; (try dsimp only at hSw); (try simp only [List.getElem_toArray, List.getElem_cons_succ, List.getElem_cons_zero]); go_simp; try with_reducible rfl)
  try simp only [List.getElem_toArray, List.getElem_cons_succ, List.getElem_cons_zero, Act.put, List.setIfInBounds_toArray, List.set_cons_zero, List.set_cons_succ]
  have ho0 : W.drew.ownsRow base 5 1 v xs.length (byt xs) := own_less HO.out (HB1.out.trans (h0.mono HB1.out.size))
  have hz0 : base ≤ W.drew.heap.size := Nat.le_trans hB (Nat.le_trans HB1.out.size h0.size)
  refine wpAnyH_ready (rs := [3]) (by kernel_rfl) (by simp) ?_; refine AllReadyH.cons rfl (fun K hK => ?_) AllReadyH.nil; (try simp only [List.getElem_toArray, List.getElem_cons_succ, List.getElem_cons_zero]); go_simp
  refine (rn_any base v xs n _ ho0 hz0 hn (by omega)).mono ?_; rintro r w1 ⟨v1, rfl, ho1, hb⟩
  have h1 := h0.trans (hb.mono h0.size)
  have hz1 := hb.size
  refine hK.out _ _ h1 (fun _ => ?_)
  clear hK K hHeld hb
  try simp only [List.getElem_toArray, List.getElem_cons_succ, List.getElem_cons_zero, Act.put, List.setIfInBounds_toArray, List.set_cons_zero, List.set_cons_succ]
  have hHeld := h1
  refine wpAnyH_ready (rs := [6]) (by kernel_rfl) (by simp) ?_; refine AllReadyH.cons rfl (fun K hK => ?_) AllReadyH.nil; (try simp only [List.getElem_toArray, List.getElem_cons_succ, List.getElem_cons_zero]); go_simp
  refine (rn_any _ v1 _ l _ ho1 hz1 hl (by rw [List.length_append]; omega)).mono ?_; rintro r w2 ⟨v2, rfl, ho2, hb⟩
  have h2 := h1.trans (hb.mono h1.size)
  have hz2 := hb.size
  refine hK.out _ _ h2 (fun _ => ?_)
  clear hK K hHeld hb ho1
  try simp only [List.getElem_toArray, List.getElem_cons_succ, List.getElem_cons_zero, Act.put, List.setIfInBounds_toArray, List.set_cons_zero, List.set_cons_succ]
  have hHeld := h2
  refine wpAnyH_ready (rs := [9]) (by kernel_rfl) (by simp) ?_; refine AllReadyH.cons rfl (fun K hK => ?_) AllReadyH.nil; (try simp only [List.getElem_toArray, List.getElem_cons_succ, List.getElem_cons_zero]); go_simp
  refine (rn_any _ v2 _ s _ ho2 hz2 hs (by simp only [List.length_append]; omega)).mono ?_; rintro r w3 ⟨v3, rfl, ho3, hb⟩
  have h3 := h2.trans (hb.mono h2.size)
  have hz3 := hb.size
  refine hK.out _ _ h3 (fun _ => ?_)
  clear hK K hHeld hb ho2
  try simp only [List.getElem_toArray, List.getElem_cons_succ, List.getElem_cons_zero, Act.put, List.setIfInBounds_toArray, List.set_cons_zero, List.set_cons_succ]
  have hHeld := h3
  refine wpAnyH_ready (rs := [12]) (by kernel_rfl) (by simp) ?_; refine AllReadyH.cons rfl (fun K hK => ?_) AllReadyH.nil; (try simp only [List.getElem_toArray, List.getElem_cons_succ, List.getElem_cons_zero]); go_simp
  refine (rn_any _ v3 _ a _ ho3 hz3 ha (by simp only [List.length_append]; omega)).mono ?_; rintro r w4 ⟨v4, rfl, ho4, hb⟩
  have h4 := h3.trans (hb.mono h3.size)
  refine hK.out _ _ h4 (fun _ => ?_)
  clear hK K hHeld hb ho3
  try simp only [List.getElem_toArray, List.getElem_cons_succ, List.getElem_cons_zero, Act.put, List.setIfInBounds_toArray, List.set_cons_zero, List.set_cons_succ]
  have hHeld := h4
  refine wpAnyH_take (i := 13) (v := ?_) rfl (by kernel_rfl) (by kernel_rfl) (by kernel_rfl) (fun _ _ _ h => h) (Or.inl ⟨by rfl, ?_⟩) hHeld ?_
  rotate_left
  · (intro wz hSw; (try dsimp only at hSw); (try simp only [List.getElem_toArray, List.getElem_cons_succ, List.getElem_cons_zero]); go_simp; try with_reducible rfl)
  try simp only [List.getElem_toArray, List.getElem_cons_succ, List.getElem_cons_zero, Act.put, List.setIfInBounds_toArray, List.set_cons_zero, List.set_cons_succ]
  refine wpAnyH_done (by kernel_rfl) ?_ _
  have HO4 : Hid (w4.ownsRow w.heap.size 5 1 v4 (xs ++ encY n l s a).length (byt (xs ++ encY n l s a))) := by
    show World.ownsRow _ _ _ _ _ _ _
    have : xs ++ encY n l s a = xs ++ encN n ++ encN l ++ encN s ++ encN a := by simp [encY]
    rw [this]; exact own_baseW ho4 (Nat.le_trans HB1.out.size (Nat.le_trans h3.size (Nat.le_refl _)))
  have HB4 := Lib.hid (HB1.out.trans (h4.mono HB1.out.size))
  clear ho4 kA
  go_wp2_with fail
  go_ret
  exact ⟨_, rfl, HO4.out, HB4.out⟩
end Go.Proofs.Ytmhmlpfkdpjlaaa
