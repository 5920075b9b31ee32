/- The reference of entries: Merge, where it does not refuse (B). -/
import Derived.Test.YtabiccpodnjieaaLogZb0
namespace Go.Proofs.Ytabiccpodnjieaa
open Go.ChangeShapes Go.WideShapes Go.ChangeAt Go.RowKit

theorem addZB (g o j : Nat) : (Addr.add ⟨g, o, none⟩ j) = ⟨g, o + j, none⟩ := by unfold Addr.add; split <;> simp_all
set_option maxRecDepth 100000 in
set_option maxHeartbeats 16000000 in
theorem rmerge_yesB (l : Lg) (p : Option Addr) (c : Nat) (prev term : Int) (es : List Ent) (p2 : Option Addr) (c2 s : Nat) (w : World) (hF : LgFit l) (hp : -9223372036854775808 ≤ prev ∧ prev ≤ 9223372036854775807) (hE : EnSl w (.slice p l.es.length c) l.es) (h2E : EnSl w (.slice p2 es.length c2) es) (hl : l.es.length + es.length ≤ 1000000)
    (h1 : prev ≤ l.last) (h0 : 0 ≤ prev) (hs : prev < l.b ∧ prev + s = l.b ∧ s ≤ es.length) :
    Calls Try.prog 22 #[.agg #[.int .i64 l.b, .int .i64 l.bt, .int .u16 l.j.ov, .int .u16 l.j.ox, .int .u16 l.j.ol, .int .i64 l.j.oe, .int .i64 l.j.ok, .int .u16 l.j.nv, .int .u16 l.j.nx, .int .u16 l.j.nl, .int .i64 l.j.ne, .int .i64 l.j.nk, .bool l.j.two, .slice p l.es.length c], .int .i64 prev, .int .i64 term, .slice p2 es.length c2] w (LgRef3 w (joinL l (prev + s) (es.drop s), prev + es.length, true)) := by
  obtain ⟨i0, hi0, hz0, hz1, hz2⟩ := info_parts Try.infoEn
  have HF : Hid (LgFit l) := hF
  have HE := Lib.hid hE
  have HE2 := Lib.hid h2E
  have hb0 := hF.b0; have hb1 := hF.b1; have hn2 := hF.n
  have hlast : Hid (l.last = l.b + l.es.length) := rfl
  have hpl : prev ≤ l.b + l.es.length := by have := hlast.out; omega
  have hsl : s ≤ es.length := by have := hs; omega
  have hPb : l.b ≤ prev + s := by omega
  have hPl : prev + (s : Int) ≤ l.b + l.es.length := by omega
  have HS := Lib.hid hs
  obtain ⟨m0, hm0⟩ : ∃ m, joinL l (prev + s) (es.drop s) = m := ⟨_, rfl⟩
  rw [hm0]
  have HM0 := Lib.hid hm0
  clear hF hE h2E hm0 hs
  go_enter Try.func22, Try.ntmps22
  go_upto_region 1 with fail
  obtain ⟨W0, hW0⟩ : ∃ W0, w.alloc (.cells #[.int .i64 l.b, .int .i64 l.bt, .int .u16 l.j.ov, .int .u16 l.j.ox, .int .u16 l.j.ol, .int .i64 l.j.oe, .int .i64 l.j.ok, .int .u16 l.j.nv, .int .u16 l.j.nx, .int .u16 l.j.nl, .int .i64 l.j.ne, .int .i64 l.j.nk, .bool l.j.two, .slice p l.es.length c] 32) = W0 := ⟨_, rfl⟩
  obtain ⟨W, hW⟩ : ∃ W, W0.alloc (.cells #[.int .i64 0, .int .i64 0, .int .u16 0, .int .u16 0, .int .u16 0, .int .i64 0, .int .i64 0, .int .u16 0, .int .u16 0, .int .u16 0, .int .i64 0, .int .i64 0, .bool false, .slice none 0 0] 32) = W := ⟨_, rfl⟩
  have hs0 : W0.heap.size = w.heap.size + 1 := by rw [← hW0]; simp
  have hs1 : W.heap.size = w.heap.size + 2 := by rw [← hW]; simp; omega
  have LL := (Lies.new HE.out hW0).keep (below_new _ _ hW)
  have hZ : W.heap[w.heap.size + 1]? = some (.cells #[.int .i64 0, .int .i64 0, .int .u16 0, .int .u16 0, .int .u16 0, .int .i64 0, .int .i64 0, .int .u16 0, .int .u16 0, .int .u16 0, .int .i64 0, .int .i64 0, .bool false, .slice none 0 0] 32 (0, 0)) := by rw [← hW, ← hs0]; exact heap_last _ _
  have hB := (below_new _ _ hW0).trans ((below_new _ _ hW).mono (below_new _ _ hW0).size)
  have HLE := Lib.hid LL.e
  rw [hW0, hW]
  obtain ⟨A, eA⟩ : ∃ A, w.heap.size = A := ⟨_, rfl⟩
  have HEA : Hid (w.heap.size = A) := eA
  rw [eA] at LL hZ hB hs1 ⊢
  have HPW : Hid (BoxW w A (A + 1) (A + 2) l p c W) := ⟨LL.h, hZ, hB, by omega, by omega, by omega⟩
  have hla := rlast_any l p c W hb0 hb1 hn2
  obtain ⟨X, hX⟩ : ∃ X, l.last = X := ⟨_, rfl⟩
  rw [hX] at hla h1
  have HLA := Lib.hid hla
  have kA := LL.cell
  have hd1 : decide (X < prev) = false := by simp; omega
  have hd2 : decide (prev < 0) = false := by simp; omega
  clear hla hX hW0 hW hs0 hs1 LL hZ hB eA
  obtain ⟨h3, h4, h5⟩ := HS.out
  have h4a : prev + (s : Int) ≤ l.b := by omega
  have h4b : l.b ≤ prev + (s : Int) := by omega
  clear h4
  have hd3 : decide (l.b ≤ prev) = false := by simp; omega
  have hd4 : decide ((es.length : Int) < l.b - prev) = false := by simp; omega
  go_wp2_with fail
  refine HLA.out.mono ?_; rintro r w6 ⟨rfl, hb6⟩
  have HP6 := Lib.hid (HPW.out.keep hb6)
  clear hb6 kA HLA HPW HLE
  have kA := block_cells HP6.out.a
  go_upto_region 10 with fail
  obtain ⟨W8, hW8⟩ : ∃ W8, w6.alloc (.cells #[.int .i64 l.b, .int .i64 l.bt, .int .u16 l.j.ov, .int .u16 l.j.ox, .int .u16 l.j.ol, .int .i64 l.j.oe, .int .i64 l.j.ok, .int .u16 l.j.nv, .int .u16 l.j.nx, .int .u16 l.j.nl, .int .i64 l.j.ne, .int .i64 l.j.nk, .bool l.j.two, .slice p l.es.length c] 32) = W8 := ⟨_, rfl⟩
  have hO8 : W8.heap[w6.heap.size]? = some (.cells #[.int .i64 l.b, .int .i64 l.bt, .int .u16 l.j.ov, .int .u16 l.j.ox, .int .u16 l.j.ol, .int .i64 l.j.oe, .int .i64 l.j.ok, .int .u16 l.j.nv, .int .u16 l.j.nx, .int .u16 l.j.nl, .int .i64 l.j.ne, .int .i64 l.j.nk, .bool l.j.two, .slice p l.es.length c] 32 (0, 0)) := by rw [← hW8]; exact heap_last _ _
  have hs8 : W8.heap.size = w6.heap.size + 1 := by rw [← hW8]; simp
  have HP8 := Lib.hid (HP6.out.keep (below_new _ _ hW8))
  have hAO := HP6.out.s
  rw [hW8]
  obtain ⟨O, eO⟩ : ∃ O, w6.heap.size = O := ⟨_, rfl⟩
  rw [eO] at hO8 hs8 hAO ⊢
  have HS8 := Lib.hid hs8
  have HH8 := Lib.hid (heap_prev (.cells #[] 47) hO8)
  have HOW : Hid ((W8.alloc (.cells #[] 47)).ownsRow (O + 1) 47 14 (.slice (some ⟨W8.heap.size, 0, none⟩) 0 0) 0 []) := (World.ownsRow_made W8 #[] 0 (Nat.le_refl _) (Nat.zero_le _) (by simp)).mono (by omega)
  have HSL : Hid (EnSl (W8.alloc (.cells #[] 47)) (.slice p l.es.length c) l.es) := (HE.out.keep HP8.out.b (by rw [HEA.out]; exact Nat.le_refl _)).keep (below_new _ _ rfl) (Nat.le_refl _)
  have HLc := Lib.hid (entC_one l.es)
  have HSZ : Hid (O + 1 ≤ (W8.alloc (.cells #[] 47)).heap.size) := by show _ ≤ _; simp; omega
  have HBO : Hid (Below O W8 (W8.alloc (.cells #[] 47))) := (below_new W8 (.cells #[] 47) rfl).mono (by omega)
  have kA := block_cells HP8.out.a
  have kO := block_cells hO8
  have hA8 : A < W8.heap.size := block_lt HP8.out.a
  have hA9 : A ≠ W8.heap.size := by omega
  clear hO8 hs8 hW8 eO HP6
  go_wp2_with (at_builtin; refine wpList_append_sl rfl _ _ 30 rfl (O + 1) 47 i0 (.agg #[.int .i64 0, .int .i64 0, .string ⟨#[]⟩, .int .u16 0, .int .u16 0, .int .u16 0, .int .i64 0, .int .i64 0, .int .u16 0, .int .u16 0, .int .u16 0, .int .i64 0, .int .i64 0, .bool false]) 14 88 Try.underlying30 hi0 hz0 hz1 hz2 rfl (by decide) _ 0 [] rfl HOW.out _ _ l.es.length (entRow l.es) rfl HSL.out HLc.out ?_ ?_ HSZ.out ?_)
  · unfold maxLen; omega
  · omega
  intro v3 w3 hown3 hgrow3
  obtain ⟨q3, cc3, rfl⟩ := own_slice hown3
  have hH3 := (hgrow3.block O (block_lt HH8.out) (fun h => by have := (own_geL HOW.out O h.symm).1; omega)).trans HH8.out
  have hB3 := HBO.out.grown hgrow3 (by have := HSZ.out; omega) (fun j hj => Nat.le_of_succ_le (own_geL HOW.out j hj).1)
  have HP := Lib.hid (OutAt.push (m := l) (m' := l) hH3 hB3 ⟨rfl, rfl, rfl⟩ hown3)
  have kO := block_cells hH3
  have fO := block_free hH3
  have HBX : Hid (∀ wr, Below O W8 wr → BoxW w A (A + 1) (A + 2) l p c wr) := fun wr h => HP8.out.keepB h hAO
  clear hown3 hgrow3 HOW HSL HLc HSZ HBO HH8 hH3 hB3 HP8 kA
  go_wp2_with fail
  clear kO fO
  go_loopw [14] (fun i wr => ∃ (k : Nat) (q : Option Addr) (cc : Nat), k ≤ es.length ∧ i = .int .i64 k ∧ Hid (∀ j, j < k - s → badL l (prev + s) (es.drop s) j = false) ∧ Hid (OutAt W8 O l q cc wr)) (fun i _ => es.length - (intOf i).toNat)
  case atStart => exact ⟨0, q3, cc3, Nat.zero_le _, rfl, fun j hj => absurd hj (by omega), HP⟩
  case round =>
    clear HP
    obtain ⟨k, q, cc, hk, rfl, HG, HO⟩ := hrel
    obtain ⟨wk, rfl⟩ : ∃ wk : World, wk = wr := ⟨_, rfl⟩
    have HBk := Lib.hid (HBX.out _ HO.out.b)
    have kA := block_cells HBk.out.a
    by_cases hlt : k < es.length
    · have hd5 : decide ((k : Int) < (es.length : Int)) = true := by simp; omega
      by_cases hks : k < s
      · have hd6 : decide (prev + 1 + (k : Int) ≤ l.b) = true := by simp; omega
        go_wp2_with fail
        go_roundw
        case rel => exact ⟨k + 1, q, cc, by omega, by go_num, (fun j hj => absurd hj (by omega)), HO⟩
        case measure => simp [intOf]; omega
      · have hd6 : decide (prev + 1 + (k : Int) ≤ l.b) = false := by have := hPb; simp; omega
        obtain ⟨e, he⟩ : ∃ e, es[k] = e := ⟨_, rfl⟩
        have hge : (es.drop s).getD (k - s) ent0 = e := by
          rw [← he]; simp only [List.getD, List.getElem?_drop]
          rw [show s + (k - s) = k by omega, List.getElem?_eq_getElem hlt]; rfl
        obtain ⟨t, ht⟩ : ∃ t, (termL l (prev + 1 + k)).1 = t := ⟨_, rfl⟩
        obtain ⟨is, his⟩ : ∃ t, (termL l (prev + 1 + k)).2 = t := ⟨_, rfl⟩
        have hbad : badL l (prev + s) (es.drop s) (k - s) = (!is || (t != e.t)) := bad_yes (by rw [show prev + (s : Int) + 1 + ((k - s : Nat) : Int) = prev + 1 + k by omega, ← ht, ← his]) hge
        have HBAD := Lib.hid hbad
        obtain ⟨g, oo, cap, hv, hgl, hc⟩ := ((HE2.out.keep HBk.out.b (by rw [HEA.out]; exact Nat.le_refl _)).at k hlt)
        simp only [Value.slice.injEq] at hv
        obtain ⟨rfl, -, rfl⟩ := hv
        rw [he] at hc
        have hc0 : wk.cell? ⟨g, oo + k * 14, none⟩ = some (.int .i64 e.t) := hc 0 (by decide)
        have HC0 := Lib.hid hc0
        have htm := rterm_is l p c wk HF.out (i := prev + 1 + k) ⟨by omega, by omega⟩ (HE.out.keep HBk.out.b (by rw [HEA.out]; exact Nat.le_refl _))
        rw [ht, his] at htm
        have HTM := Lib.hid htm
        have HEE := Lib.hid he
        clear he hge ht his hbad hc hc0 htm
        go_upto_region 16 with fail
        go_wp2_with fail
        refine HTM.out.mono ?_; rintro r w5 ⟨rfl, hb5⟩
        have HO5 := Lib.hid (HO.out.keep hb5)
        have hc5 : w5.cell? ⟨g, oo + k * 14, none⟩ = some (.int .i64 e.t) := (hb5.cell (p := ⟨g, oo + k * 14, none⟩) hgl).trans HC0.out
        clear hb5 kA HTM HO HBk HC0 hgl
        have kA := block_cells (HBX.out _ HO5.out.b).a
        by_cases hgood : is = true ∧ t = e.t
        · obtain ⟨rfl, rfl⟩ := hgood
          have HG' : Hid (∀ j, j < k + 1 - s → badL l (prev + s) (es.drop s) j = false) := fun j hj => by
            by_cases h : j < k - s
            · exact HG.out j h
            · have : j = k - s := by omega
              rw [this, HBAD.out]; simp
          go_wp2_with fail
          go_roundw
          case rel => exact ⟨k + 1, q, cc, by omega, by go_num, HG', HO5⟩
          case measure => simp [intOf]; omega
        · have HBD : Hid (badL l (prev + s) (es.drop s) (k - s) = true) := by
            show _ = _; rw [HBAD.out]; cases is with
            | false => rfl
            | true => simp only [true_and] at hgood; simpa using hgood
          have hjn := joinL_cut (l := l) (P := prev + s) (E := es.drop s) (k := k - s) (by rw [List.length_drop]; omega) HBD.out HG.out
          rw [HM0.out] at hjn
          have hcut : cutAt l (prev + s) (es.drop s) = some (k - s) := cutAt_some (by rw [List.length_drop]; omega) HBD.out HG.out
          obtain ⟨n1, hn1, hn1l⟩ := cut_in hPb (by have := hlast.out; omega) hcut
          have hdd : (es.drop s).drop (k - s) = es.drop k := by rw [List.drop_drop, show s + (k - s) = k by omega]
          obtain ⟨L2, hL2⟩ : ∃ L2, l.es.take n1 ++ es.drop k = L2 := ⟨_, rfl⟩
          have hm1 : m0 = ⟨l.b, l.bt, l.j, L2⟩ := by
            rw [hjn, hdd, show (prev + (s : Int) - l.b + ((k - s : Nat) : Int)).toNat = n1 by omega]; unfold frontL; rw [hL2]
          have HM1 := Lib.hid hm1
          have hidx : prev + 1 + (k : Int) - l.b - 1 = n1 := by omega
          have hlt1 : (l.es.take n1).length = n1 := by rw [List.length_take]; omega
          have hlt2 : (es.drop k).length = es.length - k := List.length_drop
          have HLE2 : Hid (L2.length = 0 + (l.es.take n1).length + (es.drop k).length) := by show _ = _; rw [← hL2]; simp
          have HR2 : Hid ([] ++ entRow (l.es.take n1) ++ entRow (es.drop k) = entRow L2) := by show _ = _; rw [← hL2, entRow_app]; simp
          have HIDX := Lib.hid hidx
          have hz5 : O + 1 ≤ w5.heap.size := block_lt HO5.out.h
          have hbk := (HBX.out _ HO5.out.b).b
          have hE5 := HE.out.keep hbk (by rw [HEA.out]; exact Nat.le_refl _)
          have hK5 := HE2.out.keep hbk (by rw [HEA.out]; exact Nat.le_refl _)
          have hX : Below w5.heap.size w5 (w5.alloc (.cells #[] 47)).drew := (below_new w5 (.cells #[] 47) rfl).drew
          have HOW : Hid ((w5.alloc (.cells #[] 47)).drew.ownsRow (O + 1) 47 14 (.slice (some ⟨w5.heap.size, 0, none⟩) 0 0) 0 []) := own_belowL ((World.ownsRow_made w5 #[] 0 (Nat.le_refl _) (Nat.zero_le _) (by simp)).mono hz5) (Below.refl _ _).drew (Nat.le_refl _)
          have hs1 := (hE5.keep hX (Nat.le_refl _)).take hn1l
          have HS1 : Hid (EnSl (w5.alloc (.cells #[] 47)).drew (.slice p n1 c) (l.es.take n1)) := by have := hs1; rw [hlt1] at this; exact this
          have hs2 := (hK5.keep hX (Nat.le_refl _)).drop (k := k) (by omega)
          have HS2 : Hid (∀ w8, (w5.alloc (.cells #[] 47)).drew.grownBy w8 (some w5.heap.size) → EnSl w8 (.slice (some ⟨g, oo + k * 14, none⟩) (es.length - k) (c2 - k)) (es.drop k)) := fun w8 hg => by
            have h1 : Below w5.heap.size w5 w8 := hX.grown hg hX.size (fun j hj => by cases hj; exact Nat.le_refl _)
            have h2 := (hK5.keep h1 (Nat.le_refl _)).drop (k := k) (by omega)
            rw [hlt2] at h2
            have ea : (Addr.add ⟨g, oo, none⟩ (k * 14)) = ⟨g, oo + k * 14, none⟩ := addZB g oo (k * 14)
            rw [Option.map_some, ea] at h2
            exact h2
          have HQ5 : Hid ((w5.alloc (.cells #[] 47)).drew.heap[O]? = some (.cells #[.int .i64 l.b, .int .i64 l.bt, .int .u16 l.j.ov, .int .u16 l.j.ox, .int .u16 l.j.ol, .int .i64 l.j.oe, .int .i64 l.j.ok, .int .u16 l.j.nv, .int .u16 l.j.nx, .int .u16 l.j.nl, .int .i64 l.j.ne, .int .i64 l.j.nk, .bool l.j.two, .slice q l.es.length cc] 32 (0, 0)) ∧ Below O W8 (w5.alloc (.cells #[] 47)).drew) := ⟨below_block hX hz5 HO5.out.h, HO5.out.b.trans (hX.mono (by omega))⟩
          have HSZ : Hid (O + 1 ≤ (w5.alloc (.cells #[] 47)).drew.heap.size) := Nat.le_trans hz5 hX.size
          have H63 : Hid (0 + (l.es.take n1).length ≤ maxLen) := by show _ ≤ _; unfold maxLen; omega
          have HBY : Hid ((0 + (l.es.take n1).length) * 88 ≤ 140737488355328) := by show _ ≤ _; omega
          have H63b : Hid (0 + (l.es.take n1).length + (es.drop k).length ≤ maxLen) := by show _ ≤ _; unfold maxLen; omega
          have HBYb : Hid ((0 + (l.es.take n1).length + (es.drop k).length) * 88 ≤ 140737488355328) := by show _ ≤ _; omega
          have HL1 := Lib.hid (entC_one (l.es.take n1))
          have HL2 := Lib.hid (entC_one (es.drop k))
          obtain ⟨p', c', hpe, hc1', hc2'⟩ := hE5.form
          simp only [Value.slice.injEq] at hpe
          obtain ⟨rfl, -, rfl⟩ := hpe
          obtain ⟨p'', c'', hpe, hc3', hc4'⟩ := hK5.form
          simp only [Value.slice.injEq] at hpe
          obtain ⟨rfl, -, rfl⟩ := hpe
          unfold maxLen at hc2' hc4'
          have hck : ¬ c2 = k := by omega
          have hA5 : A < w5.heap.size := by omega
          have hA6 : A ≠ w5.heap.size := by omega
          have hO6 : O ≠ w5.heap.size := by omega
          have hn1c : n1 ≤ c := by omega
          clear hjn hcut hn1 hdd hL2 hm1 hlt1 hlt2 hbk hE5 hK5 hX hs1 hs2
          have HGB : Hid (is = false ∨ (is = true ∧ (t != e.t) = true)) := by
            show _ ∨ _
            cases is with
            | false => exact .inl rfl
            | true => right; simp only [true_and] at hgood; exact ⟨rfl, by simpa using hgood⟩
          clear hgood
          rcases HGB.out with rfl | ⟨rfl, hne⟩
          all_goals
            go_upto_region 18 with fail
            have hidx := HIDX.out
            have hw1 : IntKind.i64.wrap (prev + 1 + (k : Int) - l.b) = prev + 1 + k - l.b := wrap_ok (by omega) (by omega)
            have hw2 : IntKind.i64.wrap (n1 : Int) = n1 := wrap_ok (by omega) (by omega)
            apply cutV4 (R := fun v w qx cx => w.heap[O]? = some (.cells #[.int .i64 l.b, .int .i64 l.bt, .int .u16 l.j.ov, .int .u16 l.j.ox, .int .u16 l.j.ol, .int .i64 l.j.oe, .int .i64 l.j.ok, .int .u16 l.j.nv, .int .u16 l.j.nx, .int .u16 l.j.nl, .int .i64 l.j.ne, .int .i64 l.j.nk, .bool l.j.two, .slice q l.es.length cc] 32 (0, 0)) ∧ Below O W8 w ∧ w.ownsRow (O + 1) 47 14 (.slice qx L2.length cx) L2.length (entRow L2))
            · intro h
              go_region_law ((first | (refine step_append_sl (by rfl) _ _ 30 (by rfl) (O + 1) 47 i0 (.agg #[.int .i64 0, .int .i64 0, .string ⟨#[]⟩, .int .u16 0, .int .u16 0, .int .u16 0, .int .i64 0, .int .i64 0, .int .u16 0, .int .u16 0, .int .u16 0, .int .i64 0, .int .i64 0, .bool false]) 14 88 Try.underlying30 hi0 hz0 hz1 hz2 rfl (by decide) _ 0 [] (by rfl) HOW.out _ _ (l.es.take n1).length (entRow (l.es.take n1)) (by rfl) HS1.out HL1.out H63.out HBY.out HSZ.out ?_; intro v8 w8 hown8 hgr8; have hq8 := blk_grown HQ5.out hgr8 (fun k hk => (own_geL HOW.out k hk).1); have hs8 := HS2.out w8 hgr8; have hz8 := Nat.le_trans HSZ.out hgr8.size) | (refine step_append_sl (by rfl) _ _ 30 (by rfl) (O + 1) 47 i0 (.agg #[.int .i64 0, .int .i64 0, .string ⟨#[]⟩, .int .u16 0, .int .u16 0, .int .u16 0, .int .i64 0, .int .i64 0, .int .u16 0, .int .u16 0, .int .u16 0, .int .i64 0, .int .i64 0, .bool false]) 14 88 Try.underlying30 hi0 hz0 hz1 hz2 rfl (by decide) v8 (0 + (l.es.take n1).length) ([] ++ entRow (l.es.take n1)) (by rfl) hown8 _ _ (es.drop k).length (entRow (es.drop k)) (by rfl) hs8 HL2.out H63b.out HBYb.out hz8 ?_; intro v11 w11 hown11 hgr11; have hq11 := blk_grown hq8 hgr11 (fun k hk => (own_geL hown8 k hk).1); rw [HR2.out, ← HLE2.out] at hown11; obtain ⟨q11, c11, rfl⟩ := own_slice hown11; have kO11 := block_cells hq11.1; have fO11 := block_free hq11.1)))
              all_goals exact h v8 w11 q11 c11 ⟨hq11.1, hq11.2, hown11⟩
            intro v8 w11 q11 c11 hR
            obtain ⟨hqA, hqB, hown11⟩ := hR
            have HP : OutAt W8 O ⟨l.b, l.bt, l.j, L2⟩ q11 c11 (w11.setCell ⟨O, 13, none⟩ (.slice q11 L2.length c11)) := OutAt.push (m := l) (m' := ⟨l.b, l.bt, l.j, L2⟩) hqA hqB ⟨rfl, rfl, rfl⟩ hown11
            obtain ⟨W6, hW6⟩ : ∃ W6, w11.setCell ⟨O, 13, none⟩ (.slice q11 L2.length c11) = W6 := ⟨_, rfl⟩
            rw [hW6] at HP ⊢
            rw [← HM1.out] at HP
            have HPP := Lib.hid HP
            clear HP hW6 hown11 hqA hqB hidx hw1 hw2
            go_upto_region 19 with fail
            clear_value *
            have hz := (HBX.out _ HPP.out.b).z
            have HFN := rcompact_fin hz HPP.out (HBX.out _ HPP.out.b).b (Nat.le_succ _) hAO
            have kO := block_cells HPP.out.h
            have kZ := block_cells hz
            have fZ := block_free hz
            obtain ⟨W5, hW5⟩ : ∃ W5, put14 W6 (A + 1) (.int .i64 m0.b) (.int .i64 m0.bt) (.int .u16 m0.j.ov) (.int .u16 m0.j.ox) (.int .u16 m0.j.ol) (.int .i64 m0.j.oe) (.int .i64 m0.j.ok) (.int .u16 m0.j.nv) (.int .u16 m0.j.nx) (.int .u16 m0.j.nl) (.int .i64 m0.j.ne) (.int .i64 m0.j.nk) (.bool m0.j.two) (.slice q11 m0.es.length c11) = W5 := ⟨_, rfl⟩
            rw [hW5] at HFN
            unfold put14 at hW5
            obtain ⟨kF, hFo, hFb⟩ := HFN
            have HFO := Lib.hid hFo; have HFB := Lib.hid hFb; have KF := Lib.hid kF; have HW5 := Lib.hid hW5
            clear hz hW5 kF hFo hFb
            go_wp2_with fail
            have kF := KF.out
            rw [HW5.out]
            refine bodyPost_ret (v := .tuple #[.agg #[.int .i64 m0.b, .int .i64 m0.bt, .int .u16 m0.j.ov, .int .u16 m0.j.ox, .int .u16 m0.j.ol, .int .i64 m0.j.oe, .int .i64 m0.j.ok, .int .u16 m0.j.nv, .int .u16 m0.j.nx, .int .u16 m0.j.nl, .int .i64 m0.j.ne, .int .i64 m0.j.nk, .bool m0.j.two, .slice q11 m0.es.length c11], .int .i64 (prev + es.length), .bool true]) ?_ rfl ⟨_, _, rfl, EnSl.of_own HFO.out, by rw [HEA.out]; exact HFB.out⟩
            simp [results, Try.results22, go_sem, kF]
    · obtain rfl : k = es.length := by omega
      have hd5 : decide ((es.length : Int) < (es.length : Int)) = false := by simp
      have hjn := joinL_none (l := l) (P := prev + s) (E := es.drop s) (fun j hj => HG.out j (by rw [List.length_drop] at hj; omega))
      rw [HM0.out] at hjn
      have HJN := Lib.hid hjn
      clear hjn
      go_upto_region 19 with fail
      have hz := (HBX.out _ HO.out.b).z
      have HFN := rcompact_fin hz HO.out (HBX.out _ HO.out.b).b (Nat.le_succ _) hAO
      have kO := block_cells HO.out.h
      have kZ := block_cells hz
      have fZ := block_free hz
      obtain ⟨W5, hW5⟩ : ∃ W5, put14 wk (A + 1) (.int .i64 l.b) (.int .i64 l.bt) (.int .u16 l.j.ov) (.int .u16 l.j.ox) (.int .u16 l.j.ol) (.int .i64 l.j.oe) (.int .i64 l.j.ok) (.int .u16 l.j.nv) (.int .u16 l.j.nx) (.int .u16 l.j.nl) (.int .i64 l.j.ne) (.int .i64 l.j.nk) (.bool l.j.two) (.slice q l.es.length cc) = W5 := ⟨_, rfl⟩
      rw [hW5] at HFN
      unfold put14 at hW5
      obtain ⟨kF, hFo, hFb⟩ := HFN
      have HFO := Lib.hid hFo; have HFB := Lib.hid hFb; have KF := Lib.hid kF; have HW5 := Lib.hid hW5
      clear hz hW5 kF hFo hFb
      go_wp2_with fail
      have kF := KF.out
      rw [HW5.out]
      rw [HJN.out]
      refine bodyPost_ret (v := .tuple #[.agg #[.int .i64 l.b, .int .i64 l.bt, .int .u16 l.j.ov, .int .u16 l.j.ox, .int .u16 l.j.ol, .int .i64 l.j.oe, .int .i64 l.j.ok, .int .u16 l.j.nv, .int .u16 l.j.nx, .int .u16 l.j.nl, .int .i64 l.j.ne, .int .i64 l.j.nk, .bool l.j.two, .slice q l.es.length cc], .int .i64 (prev + es.length), .bool true]) ?_ rfl ⟨_, _, rfl, EnSl.of_own HFO.out, by rw [HEA.out]; exact HFB.out⟩
      simp [results, Try.results22, go_sem, kF]
end Go.Proofs.Ytabiccpodnjieaa
