/- The law's own logs. -/
import Derived.Test.YtabiccpodnjieaaLogC
import Derived.Test.YtabiccpodnjieaaPlainMade
import Derived.Test.YtabiccpodnjieaaKept
import Derived.Deep.RegionLaw
import Derived.Deep.AppendLies
import Derived.Deep.Onto
namespace Go.Proofs.Ytabiccpodnjieaa
open Go.ChangeShapes Go.WideShapes Go.ChangeAt Go.RowKit

theorem Try.infoEn : (Try.prog.info? 47).map (fun i => (i.zero, i.size, i.bytes)) = some (some (.agg #[.int .i64 0, .int .i64 0, .string ⟨#[]⟩, .int .u16 0, .int .u16 0, .int .u16 0, .int .i64 0, .int .i64 0, .int .u16 0, .int .u16 0, .int .u16 0, .int .i64 0, .int .i64 0, .bool false]), 14, 88) := by kernel_rfl
theorem own_belowL {B : Nat} {w w' : World} {base : Nat} {e : TypeId} {size : Nat} {v : Value} {n : Nat} {xs : List Value} (h : w.ownsRow base e size v n xs) (hb : Below B w w') (hB : w.heap.size ≤ B) : w'.ownsRow base e size v n xs :=
  h.kept (row := none) ⟨hb.os, hb.tape, hb.output, hb.size, fun k hk _ => hb.block k (by omega)⟩ (by cases v.ownBlock <;> simp)
theorem own_geL {w : World} {base : Nat} {e : TypeId} {size : Nat} {v : Value} {n : Nat} {xs : List Value} (h : w.ownsRow base e size v n xs) : ∀ k, v.ownBlock = some k → base ≤ k ∧ k < w.heap.size := by
  intro k hk
  rcases h.2 with ⟨h3, h4⟩ | ⟨g, cap, cur, hv, hb, hg, -⟩
  · subst h3; simp [Value.ownBlock] at hk
  · subst hv
    have hkg : g = k := by simpa [Value.ownBlock] using hk
    subst hkg
    exact ⟨hb, block_lt hg⟩
theorem entC_oneL {e : Ent} : ∀ u ∈ entC e, u.oneCell' = true := fun u hu => entC_one [e] u (by simpa [entRow] using hu)
theorem grown_setL {a w : World} {C : Nat} (h : a.grownBy w (some C)) (j : Nat) (v : Value) : a.grownBy (w.setCell ⟨C, j, none⟩ v) (some C) :=
  ⟨h.os, h.tape, h.output, by simpa [World.setCell] using h.size, fun k hk hne => (Below.heap_setCell _ _ _ _ (fun e => hne (by rw [e]))).trans (h.block k hk hne)⟩
theorem grown_reflL (w : World) (row : Option Nat) : w.grownBy w row := ⟨rfl, rfl, rfl, Nat.le_refl _, fun _ _ _ => rfl⟩
theorem put14_grown (w : World) (C : Nat) (x0 x1 x2 x3 x4 x5 x6 x7 x8 x9 x10 x11 x12 x13 : Value) : w.grownBy (put14 w C x0 x1 x2 x3 x4 x5 x6 x7 x8 x9 x10 x11 x12 x13) (some C) :=
  grown_setL (grown_setL (grown_setL (grown_setL (grown_setL (grown_setL (grown_setL (grown_setL (grown_setL (grown_setL (grown_setL (grown_setL (grown_setL (grown_setL (grown_reflL w _) 0 x0) 1 x1) 2 x2) 3 x3) 4 x4) 5 x5) 6 x6) 7 x7) 8 x8) 9 x9) 10 x10) 11 x11) 12 x12) 13 x13
theorem own_farL {w w' : World} {base : Nat} {e : TypeId} {size : Nat} {v : Value} {n : Nat} {xs : List Value} {C : Nat} (h : w.ownsRow base e size v n xs) (hg : w.grownBy w' (some C)) (hC : C < base) : w'.ownsRow base e size v n xs := by
  refine h.kept hg ?_
  cases hv : v.ownBlock with
  | none => exact .inl rfl
  | some g => right; intro he; have := (own_geL h g hv).1; simp only [Option.some.injEq] at he; omega
/-- A log's entries are one more: the block of the log, the row behind it. -/
theorem grow14 {A : Nat} {W w2 : World} {E : List Ent} {e : Ent} {k g2 cap2 : Nat} {t : TypeId} {a0 a1 a2 a3 a4 a5 a6 a7 a8 a9 a10 a11 a12 a13 : Value} (hA : w2.heap[A]? = some (.cells #[a0, a1, a2, a3, a4, a5, a6, a7, a8, a9, a10, a11, a12, a13] t (0, 0))) (hO : w2.ownsRow (A + 1) 47 14 (.slice (some ⟨g2, 0, none⟩) (k + 1) cap2) (k + 1) (entRow E ++ entC e)) (hB : Below A W w2) (hl : A < W.heap.size) :
    Hid ((w2.setCell ⟨A, 13, none⟩ (.slice (some ⟨g2, 0, none⟩) (k + 1) cap2)).heap[A]? = some (.cells #[a0, a1, a2, a3, a4, a5, a6, a7, a8, a9, a10, a11, a12, (.slice (some ⟨g2, 0, none⟩) (k + 1) cap2)] t (0, 0))) ∧ Hid ((w2.setCell ⟨A, 13, none⟩ (.slice (some ⟨g2, 0, none⟩) (k + 1) cap2)).ownsRow (A + 1) 47 14 (.slice (some ⟨g2, 0, none⟩) (k + 1) cap2) (k + 1) (entRow (E ++ [e]))) ∧ Hid (Below A W (w2.setCell ⟨A, 13, none⟩ (.slice (some ⟨g2, 0, none⟩) (k + 1) cap2))) ∧ A < (w2.setCell ⟨A, 13, none⟩ (.slice (some ⟨g2, 0, none⟩) (k + 1) cap2)).heap.size := by
  have h1 := cells_setL hA 13 (.slice (some ⟨g2, 0, none⟩) (k + 1) cap2)
  simp only [List.setIfInBounds_toArray, List.set_cons_zero, List.set_cons_succ] at h1
  refine ⟨h1, ?_, hB.setCell (Nat.le_refl _) _, Nat.lt_of_lt_of_le hl (hB.setCell (p := ⟨A, 13, none⟩) (Nat.le_refl _) _).size⟩
  have h2 : entRow (E ++ [e]) = entRow E ++ entC e := by simp [entRow]
  rw [h2]
  exact own_farL hO (grown_setL (grown_reflL w2 _) 13 _) (Nat.lt_succ_self _)
/-- Bytes just laid, as a text. -/
theorem conv_one (w : World) (s : Int) : (convert 22 9 (.slice (some ⟨w.heap.size, 0, none⟩) 1 1)).run Try.prog (w.alloc (.cells #[.int .u8 s] 5)).drew = .ok (.string (strOfNums [s])) (w.alloc (.cells #[.int .u8 s] 5)).drew :=
  run_convert_sl (P := Try.prog) (xs := [s]) (B := (w.alloc (.cells #[.int .u8 s] 5)).heap.size) (w := (w.alloc (.cells #[.int .u8 s] 5)).drew) (sl_row (L := byt [s]) (heap_last w _) rfl (Nat.le_refl _) (Nat.le_refl _) (by show (1 : Nat) ≤ maxLen; unfold maxLen; omega)) 22 5 Try.underlying22 Try.underlying5 9 Try.underlying9
theorem sl_cellL {B : Nat} {w : World} {g o n cap : Nat} {xs : List Int} (h : Sl B w (.slice (some ⟨g, o, none⟩) n cap) 1 n (byt xs)) (j : Nat) (hj : j < n) : w.cell? ⟨g, o + j, none⟩ = some (.int .u8 (xs.getD j 0)) := by
  have hl := h.1
  rcases h.2 with ⟨h2, h3⟩ | ⟨ad, cap', h2, h3, h4, h5⟩
  · simp at h2
  · obtain ⟨g', o', rfl, h6, h7⟩ := h5 (by omega)
    simp only [Value.slice.injEq, Option.some.injEq, Addr.mk.injEq, and_true, true_and] at h2
    obtain ⟨⟨rfl, rfl⟩, -⟩ := h2
    rw [h7 j (by omega)]
    rw [byt_len] at hl
    simp [byt, List.getElem?_eq_getElem (show j < xs.length by omega)]
theorem sl_headL {B : Nat} {w : World} {v : Value} {n : Nat} {xs : List Int} (h : Sl B w v 1 n (byt xs)) (hn : 0 < n) : ∃ g o cap, v = .slice (some ⟨g, o, none⟩) n cap ∧ n ≤ cap ∧ cap ≤ maxLen ∧ g < B := by
  rcases h.2 with ⟨h2, h3⟩ | ⟨ad, cap', h2, h3, h4, h5⟩
  · omega
  · obtain ⟨g', o', rfl, h6, h7⟩ := h5 hn
    exact ⟨g', o', cap', h2, h3, h4, h6⟩
/-- A log in a memory of its own. -/
def LgEnd (B : Nat) (w : World) (m : Lg) (r : Ending) (w' : World) : Prop :=
  ∃ p c, r = .returned (.agg #[.int .i64 m.b, .int .i64 m.bt, .int .u16 m.j.ov, .int .u16 m.j.ox, .int .u16 m.j.ol, .int .i64 m.j.oe, .int .i64 m.j.ok, .int .u16 m.j.nv, .int .u16 m.j.nx, .int .u16 m.j.nl, .int .i64 m.j.ne, .int .i64 m.j.nk, .bool m.j.two, .slice p m.es.length c]) ∧ w'.ownsRow B 47 14 (.slice p m.es.length c) m.es.length (entRow m.es) ∧ Below w.heap.size w w'
set_option maxRecDepth 100000 in
set_option maxHeartbeats 16000000 in
theorem made_any (v : Value) (ss : List Int) (b bt : Int) (w : World) (hx : Oct ss) (hs : Sl w.heap.size w v 1 ss.length (byt ss)) (hl : ss.length ≤ 1000) (h0 : 0 ≤ bt ∧ bt ≤ 4398046511104) :
    Calls Try.prog 10 #[v, .int .i64 b, .int .i64 bt] w (LgEnd w.heap.size w (madeL ss b bt)) := by
  obtain ⟨i0, hi, hz0, hz1, hz2⟩ := info_parts Try.infoEn
  have HX := Lib.hid hx
  have HS := Lib.hid hs
  obtain ⟨p, cap, rfl, h1, h2, -, -⟩ := hs.form
  unfold maxLen at h2
  obtain ⟨hb0, hb1⟩ := h0
  clear hs hx
  have hmx : bt < 1 ∧ max1 bt = 1 ∨ 1 ≤ bt ∧ max1 bt = bt := by unfold max1; split <;> omega
  rcases hmx with ⟨hc1, hmx⟩ | ⟨hc1, hmx⟩
  · have HM := Lib.hid hmx
    clear hmx
    go_enter Try.func10, Try.ntmps10
    go_upto_region 4 with fail
    obtain ⟨W, hW⟩ : ∃ W, (w.alloc (.cells #[.int .i64 0, .int .i64 0, .int .u16 0, .int .u16 0, .int .u16 0, .int .i64 0, .int .i64 0, .int .u16 0, .int .u16 0, .int .u16 0, .int .i64 0, .int .i64 0, .bool false, .slice none 0 0] 32)).alloc (.cells #[.int .i64 b, .int .i64 bt, .int .u16 0, .int .u16 0, .int .u16 0, .int .i64 0, .int .i64 0, .int .u16 0, .int .u16 0, .int .u16 0, .int .i64 0, .int .i64 0, .bool false, .slice none 0 0] 32) = W := ⟨_, rfl⟩
    obtain ⟨A, hA⟩ : ∃ A, w.heap.size + 1 = A := ⟨_, rfl⟩
    have hBA : w.heap.size ≤ A := by omega
    have HBW : Hid (Below w.heap.size w W) := by show Below _ _ _; rw [← hW]; exact ((Below.refl _ _).alloc (Nat.le_refl _) _).alloc (by simp) _
    have HAW : Hid (W.heap[A]? = some (.cells #[.int .i64 b, .int .i64 bt, .int .u16 0, .int .u16 0, .int .u16 0, .int .i64 0, .int .i64 0, .int .u16 0, .int .u16 0, .int .u16 0, .int .i64 0, .int .i64 0, .bool false, .slice none 0 0] 32 (0, 0))) := by show _ = _; rw [← hW, ← hA]; have := heap_last (w.alloc (.cells #[.int .i64 0, .int .i64 0, .int .u16 0, .int .u16 0, .int .u16 0, .int .i64 0, .int .i64 0, .int .u16 0, .int .u16 0, .int .u16 0, .int .i64 0, .int .i64 0, .bool false, .slice none 0 0] 32)) (.cells #[.int .i64 b, .int .i64 bt, .int .u16 0, .int .u16 0, .int .u16 0, .int .i64 0, .int .i64 0, .int .u16 0, .int .u16 0, .int .u16 0, .int .i64 0, .int .i64 0, .bool false, .slice none 0 0] 32); simp only [World.size_alloc] at this; exact this
    have HZW : Hid (W.heap[w.heap.size]? = some (.cells #[.int .i64 0, .int .i64 0, .int .u16 0, .int .u16 0, .int .u16 0, .int .i64 0, .int .i64 0, .int .u16 0, .int .u16 0, .int .u16 0, .int .i64 0, .int .i64 0, .bool false, .slice none 0 0] 32 (0, 0))) := by show _ = _; rw [← hW]; exact heap_prev _ (heap_last w _)
    have hAl : A < W.heap.size := block_lt HAW.out
    rw [hW, hA]
    clear hW
    have HAE := Lib.hid hA
    clear hA
    go_wp2_with fail
    go_loopw [8, 9] (fun t i wr => ∃ (k : Nat) (E : List Ent) (q : Option Addr) (c : Nat), k ≤ ss.length ∧ i = .int .i64 k ∧ t = .int .i64 (madeT (ss.take k) 1) ∧ E.length = k ∧ Hid (E = madeE (ss.take k) 1) ∧ Hid (wr.heap[A]? = some (.cells #[.int .i64 b, .int .i64 bt, .int .u16 0, .int .u16 0, .int .u16 0, .int .i64 0, .int .i64 0, .int .u16 0, .int .u16 0, .int .u16 0, .int .i64 0, .int .i64 0, .bool false, .slice q k c] 32 (0, 0))) ∧ Hid (wr.ownsRow (A + 1) 47 14 (.slice q k c) k (entRow E)) ∧ Hid (Below A W wr) ∧ A < wr.heap.size) (fun _ i _ => ss.length - (intOf i).toNat)
    case atStart => exact ⟨0, [], none, 0, Nat.zero_le _, rfl, rfl, rfl, rfl, HAW, ⟨rfl, .inl ⟨rfl, rfl⟩⟩, Below.refl _ _, hAl⟩
    case round =>
      obtain ⟨k, E, q, c, hk, rfl, rfl, hEk, HEE, HA, HO, HB, hAr⟩ := hrel
      obtain ⟨wk, rfl⟩ : ∃ wk : World, wk = wr := ⟨_, rfl⟩
      by_cases hlt : k < ss.length
      · have hbw : Below w.heap.size w wk := HBW.out.trans (HB.out.mono hBA)
        have hfit := madeT_fit (ss.take k) 1 (fun x hx => HX.out x (List.mem_of_mem_take hx))
        rw [List.length_take] at hfit
        obtain ⟨g, o, cap', hv, -, -, hgB⟩ := sl_headL (HS.out.keep hbw) (by omega)
        simp only [Value.slice.injEq] at hv
        obtain ⟨hv, -⟩ := hv
        subst hv
        have hc := sl_cellL (HS.out.keep hbw) k hlt
        have hs0 := HX.out (ss.getD k 0) (by rw [List.getD_eq_getElem?_getD, List.getElem?_eq_getElem hlt]; simp)
        have htk : ss.take (k + 1) = ss.take k ++ [ss.getD k 0] := by rw [List.take_succ_eq_append_getElem hlt, List.getD_eq_getElem?_getD, List.getElem?_eq_getElem hlt]; rfl
        have hTs := madeT_snoc (ss.take k) (ss.getD k 0) 1
        have hEs := madeE_snoc (ss.take k) (ss.getD k 0) 1
        rw [← htk] at hTs hEs
        obtain ⟨s, hse⟩ : ∃ s, ss.getD k 0 = s := ⟨_, rfl⟩
        rw [hse] at hc hs0 hTs hEs
        obtain ⟨t0, ht0⟩ : ∃ t, madeT (ss.take k) 1 = t := ⟨_, rfl⟩
        rw [ht0] at hfit hTs hEs ⊢
        obtain ⟨T, hT⟩ : ∃ T, t0 + s % 3 = T := ⟨_, rfl⟩
        rw [hT] at hTs hEs
        obtain ⟨hs1, hs2⟩ := hs0
        obtain ⟨hf1, hf2⟩ := hfit
        have HTS := Lib.hid hTs; have HES := Lib.hid hEs
        have hgA : g < A := by omega
        have hgA' : g ≠ A := by omega
        have hgk : g < wk.heap.size := by omega
        have hAk : A ≠ wk.heap.size := by omega
        have kA := block_cells HA.out
        have fA := block_free HA.out
        have hd1 : decide ((k : Int) < (ss.length : Int)) = true := by simp; omega
        have hc36 := fun W0 => conv_one W0 s
        have hTT := hT
        clear hbw htk hse ht0 hTs hEs
        go_upto_region 7 with fail
        clear hTT hT
        have hB2 : Below wk.heap.size wk (((wk.alloc (.cells #[.int .u8 s] 5)).alloc (.cells #[.int .i64 T, .int .i64 1, .string (strOfNums [s]), .int .u16 0, .int .u16 0, .int .u16 0, .int .i64 0, .int .i64 0, .int .u16 0, .int .u16 0, .int .u16 0, .int .i64 0, .int .i64 0, .bool false] 47)).drew) := (((Below.refl _ _).alloc (Nat.le_refl _) _).alloc (by simp) _).drew
        have HO2 := Lib.hid (own_belowL HO.out hB2 (Nat.le_refl _))
        have hL2 := heap_last (wk.alloc (.cells #[.int .u8 s] 5)) (.cells #[.int .i64 T, .int .i64 1, .string (strOfNums [s]), .int .u16 0, .int .u16 0, .int .u16 0, .int .i64 0, .int .i64 0, .int .u16 0, .int .u16 0, .int .u16 0, .int .i64 0, .int .i64 0, .bool false] 47)
        simp only [World.size_alloc] at hL2
        have HN2 := Lib.hid (World.news_of_block (w := (((wk.alloc (.cells #[.int .u8 s] 5)).alloc (.cells #[.int .i64 T, .int .i64 1, .string (strOfNums [s]), .int .u16 0, .int .u16 0, .int .u16 0, .int .i64 0, .int .i64 0, .int .u16 0, .int .u16 0, .int .u16 0, .int .i64 0, .int .i64 0, .bool false] 47)).drew)) hL2)
        have HA2 := Lib.hid (below_block hB2 hAr HA.out)
        have HB2 := Lib.hid (HB.out.trans (hB2.mono (by omega)))
        have hge := own_geL HO.out
        have hne := fun h => Nat.lt_irrefl A (Nat.lt_of_succ_le (hge A h).1)
        have HGE := Lib.hid hge
        have HNE := Lib.hid hne
        have h63 : k + 1 ≤ maxLen := by unfold maxLen; omega
        have hby : (k + 1) * 88 ≤ 140737488355328 := by omega
        have hsz2 : A + 1 ≤ (((wk.alloc (.cells #[.int .u8 s] 5)).alloc (.cells #[.int .i64 T, .int .i64 1, .string (strOfNums [s]), .int .u16 0, .int .u16 0, .int .u16 0, .int .i64 0, .int .i64 0, .int .u16 0, .int .u16 0, .int .u16 0, .int .i64 0, .int .i64 0, .bool false] 47)).drew).heap.size := by have := hB2.size; omega
        have H63 := Lib.hid h63; have HBY := Lib.hid hby; have HSZ := Lib.hid hsz2
        clear hB2 hL2 hge hne h63 hby hsz2
        go_region_law ((refine step_append_lies _ (by rfl) _ _ 30 (by rfl) (A + 1) 47 i0 (.agg #[.int .i64 0, .int .i64 0, .string ⟨#[]⟩, .int .u16 0, .int .u16 0, .int .u16 0, .int .i64 0, .int .i64 0, .int .u16 0, .int .u16 0, .int .u16 0, .int .i64 0, .int .i64 0, .bool false]) 14 88 Try.underlying30 hi hz0 hz1 hz2 rfl (by decide) (.slice q k c) k (entRow E) (by rfl) HO2.out ⟨wk.heap.size + 1, 0, none⟩ 1 1 (entC ⟨T, 1, strOfNums [s], jn0⟩) (by rfl) rfl HN2.out entC_oneL (by decide) H63.out HBY.out HSZ.out _ rfl ?_; intro g2 cap2 w2 hown2 hgr2 hor2 hlt2; have hA2 := (hgr2.block A (Nat.lt_of_lt_of_le (Nat.lt_succ_self A) HSZ.out) (fun h => HNE.out h.symm)).trans HA2.out; have HBB2 := Lib.hid (HB2.out.grown hgr2 (Nat.le_of_lt (Nat.lt_of_succ_le HSZ.out)) (fun x hx => Nat.le_of_lt (Nat.lt_of_succ_le (HGE.out x hx).1))); have HOO2 := Lib.hid hown2; have HAA2 := Lib.hid hA2; have kA2 := block_cells hA2; have fA2 := block_free hA2; clear hown2 hgr2 hor2 hA2))
        all_goals (
          obtain ⟨HAN, HON, HBN, hAN⟩ := grow14 HAA2.out HOO2.out HBB2.out hAl
          go_wp2_with fail
          go_roundw
          case rel => exact ⟨k + 1, E ++ [⟨T, 1, strOfNums [s], jn0⟩], some ⟨g2, 0, none⟩, cap2, by omega, by go_num, by rw [HTS.out], by simp [hEk], by show _ = _; rw [HES.out, ← HEE.out], HAN, HON, HBN, hAN⟩
          case measure => simp [intOf]; omega)
      · obtain rfl : k = ss.length := by omega
        have hE2 : E = madeE ss 1 := by rw [HEE.out, List.take_of_length_le (Nat.le_refl _)]
        have HE2 := Lib.hid hE2
        have hlen : (madeL ss b bt).es.length = ss.length := madeE_len _ _
        have HLEN := Lib.hid hlen
        have hZ := below_block HB.out (by have := HAE.out; omega) HZW.out
        have HZ := Lib.hid hZ
        have hbk : Below w.heap.size w wk := HBW.out.trans (HB.out.mono hBA)
        have HBK := Lib.hid hbk
        have kA := block_cells HA.out
        have fA := block_free HA.out
        have kZ := block_cells hZ
        have fZ := block_free hZ
        clear hE2 hZ hbk hlen
        go_wp2_with fail
        have F := put14_ok HZ.out HBK.out (Nat.le_refl _) (.int .i64 b) (.int .i64 bt) (.int .u16 0) (.int .u16 0) (.int .u16 0) (.int .i64 0) (.int .i64 0) (.int .u16 0) (.int .u16 0) (.int .u16 0) (.int .i64 0) (.int .i64 0) (.bool false) (.slice q ss.length c)
        have kF := block_cells F.1
        have G := own_farL HO.out (put14_grown wk w.heap.size (.int .i64 b) (.int .i64 bt) (.int .u16 0) (.int .u16 0) (.int .u16 0) (.int .i64 0) (.int .i64 0) (.int .u16 0) (.int .u16 0) (.int .u16 0) (.int .i64 0) (.int .i64 0) (.bool false) (.slice q ss.length c)) (by have := HAE.out; omega)
        unfold put14 at F kF G
        refine bodyPost_ret (v := .agg #[.int .i64 b, .int .i64 bt, .int .u16 0, .int .u16 0, .int .u16 0, .int .i64 0, .int .i64 0, .int .u16 0, .int .u16 0, .int .u16 0, .int .i64 0, .int .i64 0, .bool false, .slice q ss.length c]) ?_ rfl ?_
        · simp [results, Try.results10, go_sem, kF]
        · refine ⟨q, c, by rw [HLEN.out]; rfl, ?_, F.2⟩
          rw [HLEN.out]
          show World.ownsRow _ _ _ _ _ _ (entRow (madeE ss (max1 bt)))
          rw [HM.out, ← HE2.out]
          exact G.mono (by have := HAE.out; omega)
  · have HM := Lib.hid hmx
    clear hmx
    go_enter Try.func10, Try.ntmps10
    go_upto_region 4 with fail
    obtain ⟨W, hW⟩ : ∃ W, (w.alloc (.cells #[.int .i64 0, .int .i64 0, .int .u16 0, .int .u16 0, .int .u16 0, .int .i64 0, .int .i64 0, .int .u16 0, .int .u16 0, .int .u16 0, .int .i64 0, .int .i64 0, .bool false, .slice none 0 0] 32)).alloc (.cells #[.int .i64 b, .int .i64 bt, .int .u16 0, .int .u16 0, .int .u16 0, .int .i64 0, .int .i64 0, .int .u16 0, .int .u16 0, .int .u16 0, .int .i64 0, .int .i64 0, .bool false, .slice none 0 0] 32) = W := ⟨_, rfl⟩
    obtain ⟨A, hA⟩ : ∃ A, w.heap.size + 1 = A := ⟨_, rfl⟩
    have hBA : w.heap.size ≤ A := by omega
    have HBW : Hid (Below w.heap.size w W) := by show Below _ _ _; rw [← hW]; exact ((Below.refl _ _).alloc (Nat.le_refl _) _).alloc (by simp) _
    have HAW : Hid (W.heap[A]? = some (.cells #[.int .i64 b, .int .i64 bt, .int .u16 0, .int .u16 0, .int .u16 0, .int .i64 0, .int .i64 0, .int .u16 0, .int .u16 0, .int .u16 0, .int .i64 0, .int .i64 0, .bool false, .slice none 0 0] 32 (0, 0))) := by show _ = _; rw [← hW, ← hA]; have := heap_last (w.alloc (.cells #[.int .i64 0, .int .i64 0, .int .u16 0, .int .u16 0, .int .u16 0, .int .i64 0, .int .i64 0, .int .u16 0, .int .u16 0, .int .u16 0, .int .i64 0, .int .i64 0, .bool false, .slice none 0 0] 32)) (.cells #[.int .i64 b, .int .i64 bt, .int .u16 0, .int .u16 0, .int .u16 0, .int .i64 0, .int .i64 0, .int .u16 0, .int .u16 0, .int .u16 0, .int .i64 0, .int .i64 0, .bool false, .slice none 0 0] 32); simp only [World.size_alloc] at this; exact this
    have HZW : Hid (W.heap[w.heap.size]? = some (.cells #[.int .i64 0, .int .i64 0, .int .u16 0, .int .u16 0, .int .u16 0, .int .i64 0, .int .i64 0, .int .u16 0, .int .u16 0, .int .u16 0, .int .i64 0, .int .i64 0, .bool false, .slice none 0 0] 32 (0, 0))) := by show _ = _; rw [← hW]; exact heap_prev _ (heap_last w _)
    have hAl : A < W.heap.size := block_lt HAW.out
    rw [hW, hA]
    clear hW
    have HAE := Lib.hid hA
    clear hA
    go_wp2_with fail
    go_loopw [8, 9] (fun t i wr => ∃ (k : Nat) (E : List Ent) (q : Option Addr) (c : Nat), k ≤ ss.length ∧ i = .int .i64 k ∧ t = .int .i64 (madeT (ss.take k) bt) ∧ E.length = k ∧ Hid (E = madeE (ss.take k) bt) ∧ Hid (wr.heap[A]? = some (.cells #[.int .i64 b, .int .i64 bt, .int .u16 0, .int .u16 0, .int .u16 0, .int .i64 0, .int .i64 0, .int .u16 0, .int .u16 0, .int .u16 0, .int .i64 0, .int .i64 0, .bool false, .slice q k c] 32 (0, 0))) ∧ Hid (wr.ownsRow (A + 1) 47 14 (.slice q k c) k (entRow E)) ∧ Hid (Below A W wr) ∧ A < wr.heap.size) (fun _ i _ => ss.length - (intOf i).toNat)
    case atStart => exact ⟨0, [], none, 0, Nat.zero_le _, rfl, rfl, rfl, rfl, HAW, ⟨rfl, .inl ⟨rfl, rfl⟩⟩, Below.refl _ _, hAl⟩
    case round =>
      obtain ⟨k, E, q, c, hk, rfl, rfl, hEk, HEE, HA, HO, HB, hAr⟩ := hrel
      obtain ⟨wk, rfl⟩ : ∃ wk : World, wk = wr := ⟨_, rfl⟩
      by_cases hlt : k < ss.length
      · have hbw : Below w.heap.size w wk := HBW.out.trans (HB.out.mono hBA)
        have hfit := madeT_fit (ss.take k) bt (fun x hx => HX.out x (List.mem_of_mem_take hx))
        rw [List.length_take] at hfit
        obtain ⟨g, o, cap', hv, -, -, hgB⟩ := sl_headL (HS.out.keep hbw) (by omega)
        simp only [Value.slice.injEq] at hv
        obtain ⟨hv, -⟩ := hv
        subst hv
        have hc := sl_cellL (HS.out.keep hbw) k hlt
        have hs0 := HX.out (ss.getD k 0) (by rw [List.getD_eq_getElem?_getD, List.getElem?_eq_getElem hlt]; simp)
        have htk : ss.take (k + 1) = ss.take k ++ [ss.getD k 0] := by rw [List.take_succ_eq_append_getElem hlt, List.getD_eq_getElem?_getD, List.getElem?_eq_getElem hlt]; rfl
        have hTs := madeT_snoc (ss.take k) (ss.getD k 0) bt
        have hEs := madeE_snoc (ss.take k) (ss.getD k 0) bt
        rw [← htk] at hTs hEs
        obtain ⟨s, hse⟩ : ∃ s, ss.getD k 0 = s := ⟨_, rfl⟩
        rw [hse] at hc hs0 hTs hEs
        obtain ⟨t0, ht0⟩ : ∃ t, madeT (ss.take k) bt = t := ⟨_, rfl⟩
        rw [ht0] at hfit hTs hEs ⊢
        obtain ⟨T, hT⟩ : ∃ T, t0 + s % 3 = T := ⟨_, rfl⟩
        rw [hT] at hTs hEs
        obtain ⟨hs1, hs2⟩ := hs0
        obtain ⟨hf1, hf2⟩ := hfit
        have HTS := Lib.hid hTs; have HES := Lib.hid hEs
        have hgA : g < A := by omega
        have hgA' : g ≠ A := by omega
        have hgk : g < wk.heap.size := by omega
        have hAk : A ≠ wk.heap.size := by omega
        have kA := block_cells HA.out
        have fA := block_free HA.out
        have hd1 : decide ((k : Int) < (ss.length : Int)) = true := by simp; omega
        have hc36 := fun W0 => conv_one W0 s
        have hTT := hT
        clear hbw htk hse ht0 hTs hEs
        go_upto_region 7 with fail
        clear hTT hT
        have hB2 : Below wk.heap.size wk (((wk.alloc (.cells #[.int .u8 s] 5)).alloc (.cells #[.int .i64 T, .int .i64 1, .string (strOfNums [s]), .int .u16 0, .int .u16 0, .int .u16 0, .int .i64 0, .int .i64 0, .int .u16 0, .int .u16 0, .int .u16 0, .int .i64 0, .int .i64 0, .bool false] 47)).drew) := (((Below.refl _ _).alloc (Nat.le_refl _) _).alloc (by simp) _).drew
        have HO2 := Lib.hid (own_belowL HO.out hB2 (Nat.le_refl _))
        have hL2 := heap_last (wk.alloc (.cells #[.int .u8 s] 5)) (.cells #[.int .i64 T, .int .i64 1, .string (strOfNums [s]), .int .u16 0, .int .u16 0, .int .u16 0, .int .i64 0, .int .i64 0, .int .u16 0, .int .u16 0, .int .u16 0, .int .i64 0, .int .i64 0, .bool false] 47)
        simp only [World.size_alloc] at hL2
        have HN2 := Lib.hid (World.news_of_block (w := (((wk.alloc (.cells #[.int .u8 s] 5)).alloc (.cells #[.int .i64 T, .int .i64 1, .string (strOfNums [s]), .int .u16 0, .int .u16 0, .int .u16 0, .int .i64 0, .int .i64 0, .int .u16 0, .int .u16 0, .int .u16 0, .int .i64 0, .int .i64 0, .bool false] 47)).drew)) hL2)
        have HA2 := Lib.hid (below_block hB2 hAr HA.out)
        have HB2 := Lib.hid (HB.out.trans (hB2.mono (by omega)))
        have hge := own_geL HO.out
        have hne := fun h => Nat.lt_irrefl A (Nat.lt_of_succ_le (hge A h).1)
        have HGE := Lib.hid hge
        have HNE := Lib.hid hne
        have h63 : k + 1 ≤ maxLen := by unfold maxLen; omega
        have hby : (k + 1) * 88 ≤ 140737488355328 := by omega
        have hsz2 : A + 1 ≤ (((wk.alloc (.cells #[.int .u8 s] 5)).alloc (.cells #[.int .i64 T, .int .i64 1, .string (strOfNums [s]), .int .u16 0, .int .u16 0, .int .u16 0, .int .i64 0, .int .i64 0, .int .u16 0, .int .u16 0, .int .u16 0, .int .i64 0, .int .i64 0, .bool false] 47)).drew).heap.size := by have := hB2.size; omega
        have H63 := Lib.hid h63; have HBY := Lib.hid hby; have HSZ := Lib.hid hsz2
        clear hB2 hL2 hge hne h63 hby hsz2
        go_region_law ((refine step_append_lies _ (by rfl) _ _ 30 (by rfl) (A + 1) 47 i0 (.agg #[.int .i64 0, .int .i64 0, .string ⟨#[]⟩, .int .u16 0, .int .u16 0, .int .u16 0, .int .i64 0, .int .i64 0, .int .u16 0, .int .u16 0, .int .u16 0, .int .i64 0, .int .i64 0, .bool false]) 14 88 Try.underlying30 hi hz0 hz1 hz2 rfl (by decide) (.slice q k c) k (entRow E) (by rfl) HO2.out ⟨wk.heap.size + 1, 0, none⟩ 1 1 (entC ⟨T, 1, strOfNums [s], jn0⟩) (by rfl) rfl HN2.out entC_oneL (by decide) H63.out HBY.out HSZ.out _ rfl ?_; intro g2 cap2 w2 hown2 hgr2 hor2 hlt2; have hA2 := (hgr2.block A (Nat.lt_of_lt_of_le (Nat.lt_succ_self A) HSZ.out) (fun h => HNE.out h.symm)).trans HA2.out; have HBB2 := Lib.hid (HB2.out.grown hgr2 (Nat.le_of_lt (Nat.lt_of_succ_le HSZ.out)) (fun x hx => Nat.le_of_lt (Nat.lt_of_succ_le (HGE.out x hx).1))); have HOO2 := Lib.hid hown2; have HAA2 := Lib.hid hA2; have kA2 := block_cells hA2; have fA2 := block_free hA2; clear hown2 hgr2 hor2 hA2))
        all_goals (
          obtain ⟨HAN, HON, HBN, hAN⟩ := grow14 HAA2.out HOO2.out HBB2.out hAl
          go_wp2_with fail
          go_roundw
          case rel => exact ⟨k + 1, E ++ [⟨T, 1, strOfNums [s], jn0⟩], some ⟨g2, 0, none⟩, cap2, by omega, by go_num, by rw [HTS.out], by simp [hEk], by show _ = _; rw [HES.out, ← HEE.out], HAN, HON, HBN, hAN⟩
          case measure => simp [intOf]; omega)
      · obtain rfl : k = ss.length := by omega
        have hE2 : E = madeE ss bt := by rw [HEE.out, List.take_of_length_le (Nat.le_refl _)]
        have HE2 := Lib.hid hE2
        have hlen : (madeL ss b bt).es.length = ss.length := madeE_len _ _
        have HLEN := Lib.hid hlen
        have hZ := below_block HB.out (by have := HAE.out; omega) HZW.out
        have HZ := Lib.hid hZ
        have hbk : Below w.heap.size w wk := HBW.out.trans (HB.out.mono hBA)
        have HBK := Lib.hid hbk
        have kA := block_cells HA.out
        have fA := block_free HA.out
        have kZ := block_cells hZ
        have fZ := block_free hZ
        clear hE2 hZ hbk hlen
        go_wp2_with fail
        have F := put14_ok HZ.out HBK.out (Nat.le_refl _) (.int .i64 b) (.int .i64 bt) (.int .u16 0) (.int .u16 0) (.int .u16 0) (.int .i64 0) (.int .i64 0) (.int .u16 0) (.int .u16 0) (.int .u16 0) (.int .i64 0) (.int .i64 0) (.bool false) (.slice q ss.length c)
        have kF := block_cells F.1
        have G := own_farL HO.out (put14_grown wk w.heap.size (.int .i64 b) (.int .i64 bt) (.int .u16 0) (.int .u16 0) (.int .u16 0) (.int .i64 0) (.int .i64 0) (.int .u16 0) (.int .u16 0) (.int .u16 0) (.int .i64 0) (.int .i64 0) (.bool false) (.slice q ss.length c)) (by have := HAE.out; omega)
        unfold put14 at F kF G
        refine bodyPost_ret (v := .agg #[.int .i64 b, .int .i64 bt, .int .u16 0, .int .u16 0, .int .u16 0, .int .i64 0, .int .i64 0, .int .u16 0, .int .u16 0, .int .u16 0, .int .i64 0, .int .i64 0, .bool false, .slice q ss.length c]) ?_ rfl ?_
        · simp [results, Try.results10, go_sem, kF]
        · refine ⟨q, c, by rw [HLEN.out]; rfl, ?_, F.2⟩
          rw [HLEN.out]
          show World.ownsRow _ _ _ _ _ _ (entRow (madeE ss (max1 bt)))
          rw [HM.out, ← HE2.out]
          exact G.mono (by have := HAE.out; omega)
end Go.Proofs.Ytabiccpodnjieaa
