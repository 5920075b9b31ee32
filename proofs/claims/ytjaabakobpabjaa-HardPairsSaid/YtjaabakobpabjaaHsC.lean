/- Hard: what a record says to a core: letter S. -/
import Derived.Test.YtjaabakobpabjaaHsB
import Derived.Test.YtjaabakobpabjaaLogM
namespace Go.Proofs.Ytjaabakobpabjaa
open Go.ChangeShapes Go.WideShapes Go.ChangeAt Go.RowKit

set_option maxRecDepth 100000 in
set_option maxHeartbeats 16000000 in
theorem says_S (B G R n cap : Nat) (l : List CoX) (x : CoX) (xs : List Int) (w : World) (hl : CsAt B w (.slice (some ⟨G, 0, none⟩) l.length cap) l) (hn : n < l.length) (hx : l[n] = x) (hf : LgFit x.c.l) (hr : HrW B w R xs false) :
    Calls Try.prog 31 #[.pointer (some ⟨G, n * 45, none⟩), .int .u8 83, .pointer (some ⟨R, 0, none⟩)] w (SayE B G cap l n x w (sayB 83 xs)) := by
  obtain ⟨⟨v1, ys1, b1⟩, e1⟩ : ∃ r, hrC xs false = r := ⟨_, rfl⟩
  obtain ⟨⟨v2, ys2, b2⟩, e2⟩ : ∃ r, hrC ys1 b1 = r := ⟨_, rfl⟩
  obtain ⟨⟨v3, ys3, b3⟩, e3⟩ : ∃ r, hrJ ys2 b2 = r := ⟨_, rfl⟩
  obtain ⟨⟨v4, ys4, b4⟩, e4⟩ : ∃ r, rdTw ys3 b3 = r := ⟨_, rfl⟩
  have hsn : snB xs false = ((v1, v2, v3, v4), ys4, b4) := by unfold snB rd2; simp only [e1, e2, e3, e4]
  have HS : Hid (sayB 83 xs = allR ((v1, v2, v3, v4), ys4, b4) fun p => .sn p.1 p.2.1 p.2.2.1 p.2.2.2) := by show _ = _; unfold sayB; rw [if_neg (by decide), if_pos rfl, hsn]
  have HV := Lib.hid (show b4 = false → CnV v1 ∧ CnV v2 ∧ JoF v3 ∧ TxV v4 from fun h => ((rd2_ok hrC_ok (rd2_ok hrC_ok (rd2_ok hrJ_ok rdTw_ok))).sound xs (v1, v2, v3, v4) ys4 hr.o (by have h2 := hsn; rw [h] at h2; exact h2)).1)
  clear hsn
  have E1 := Lib.hid e1
  have E2 := Lib.hid e2
  have E3 := Lib.hid e3
  have E4 := Lib.hid e4
  clear e1 e2 e3 e4
  have HL0 := Lib.hid hl; have HR0 := Lib.hid hr; have HX := Lib.hid hx; have HF := Lib.hid hf; have HB0 := Lib.hid (show Below B w w from Below.refl B w); have HBR := Lib.hid (hr.r.1)
  have HBS := Lib.hid (Nat.le_of_lt (Nat.lt_of_le_of_lt hr.r.1 hr.lt))
  clear hl hr hx hf
  go_enter Try.func31, Try.ntmps31
  have HC1 := Lib.hid (hrcount_any B R xs false w HR0.out)
  rw [E1.out] at HC1
  go_wp2_with fail
  refine HC1.out.mono ?_; rintro e w1 ⟨rfl, h1, g1⟩
  dsimp only at h1 ⊢
  have HL1 := Lib.hid (HL0.out.rd HR0.out g1); have HB1 := Lib.hid (HB0.out.grown g1 (Nat.le_trans HBS.out HB0.out.size) (fun k e => by cases e; exact HBR.out)); have HR1 := Lib.hid h1
  clear h1 g1 HC1
  have HC2 := Lib.hid (hrcount_any B R ys1 b1 w1 HR1.out)
  rw [E2.out] at HC2
  go_wp2_with fail
  refine HC2.out.mono ?_; rintro e w2 ⟨rfl, h2, g2⟩
  dsimp only at h2 ⊢
  have HL2 := Lib.hid (HL1.out.rd HR1.out g2); have HB2 := Lib.hid (HB1.out.grown g2 (Nat.le_trans HBS.out HB1.out.size) (fun k e => by cases e; exact HBR.out)); have HR2 := Lib.hid h2
  clear h2 g2 HC2
  have HC3 := Lib.hid (hrjoint_any B R ys2 b2 w2 HR2.out)
  rw [E3.out] at HC3
  go_wp2_with fail
  refine HC3.out.mono ?_; rintro e w3 ⟨rfl, h3, g3⟩
  dsimp only at h3 ⊢
  have HL3 := Lib.hid (HL2.out.rd HR2.out g3); have HB3 := Lib.hid (HB2.out.grown g3 (Nat.le_trans HBS.out HB2.out.size) (fun k e => by cases e; exact HBR.out)); have HR3 := Lib.hid h3
  clear h3 g3 HC3
  have HC4 := Lib.hid (hrtext_any B R ys3 b3 w3 HR3.out)
  rw [E4.out] at HC4
  go_wp2_with fail
  refine HC4.out.mono ?_; rintro e w4 ⟨rfl, h4, g4⟩
  dsimp only at h4 ⊢
  have HL4 := Lib.hid (HL3.out.rd HR3.out g4); have HB4 := Lib.hid (HB3.out.grown g4 (Nat.le_trans HBS.out HB3.out.size) (fun k e => by cases e; exact HBR.out)); have HR4 := Lib.hid h4
  clear h4 g4 HC4
  go_upto_region 10 with fail
  obtain ⟨V, hV⟩ : ∃ z : World, w4.alloc (.cells #[.int .u16 v3.o.v, .int .u16 v3.o.x, .int .u16 v3.o.l, .int .i64 v3.o.e, .int .i64 v3.o.k, .int .u16 v3.n.v, .int .u16 v3.n.x, .int .u16 v3.n.l, .int .i64 v3.n.e, .int .i64 v3.n.k, .bool v3.two] 42) = z := ⟨_, rfl⟩
  have bV : Below w4.heap.size w4 V := by rw [← hV]; exact (Below.refl _ _).alloc (Nat.le_refl _) _
  have hJ : V.heap[w4.heap.size]? = some (.cells #[.int .u16 v3.o.v, .int .u16 v3.o.x, .int .u16 v3.o.l, .int .i64 v3.o.e, .int .i64 v3.o.k, .int .u16 v3.n.v, .int .u16 v3.n.x, .int .u16 v3.n.l, .int .i64 v3.n.e, .int .i64 v3.n.k, .bool v3.two] 42 (0, 0)) := by rw [← hV]; exact heap_last w4 _
  (try rw [hV])
  have HJge := Lib.hid (show w4.heap.size < V.heap.size by rw [← hV]; simp)
  obtain ⟨J, eJ⟩ : ∃ z, w4.heap.size = z := ⟨_, rfl⟩
  (try rw [eJ])
  rw [eJ] at hJ HJge
  have HLV := Lib.hid (HL4.out.keep bV); have HRV := Lib.hid (HR4.out.keep bV (Nat.le_refl _)); have HBV := Lib.hid (HB4.out.trans (bV.mono (Nat.le_trans HBS.out HB4.out.size)))
  have HJ := Lib.hid hJ
  clear hV bV hJ eJ
  have HE := Lib.hid (hrends_any B R ys4 b4 V HRV.out)
  by_cases hE : (!b4 && ys4.isEmpty) = true
  · have hb : b4 = false := by cases b4 <;> simp_all
    rw [hE] at HE
    rw [allR_yes hE] at HS
    have HSS := Lib.hid HS.out
    clear hE HS
    go_wp2_with fail
    refine HE.out.mono ?_; rintro e w' ⟨rfl, rfl⟩
    clear HE
    obtain ⟨hv1, hv2, hv3, hv4⟩ := HV.out hb
    have hv10 := hv1.1; have hv11 := hv1.2
    have hE1 := EnSl.of_own (HX.out ▸ HLV.out.en _ (List.getElem_mem hn))
    obtain ⟨⟨m, er⟩, hm⟩ : ∃ z, compactL x.c.l v1 = z := ⟨_, rfl⟩
    have hC := compact_any x.c.l x.p x.k v1 V HF.out ⟨by omega, by omega⟩ hE1
    rw [hm] at hC
    have hM : (er = 1 ∧ m = ⟨0, 0, jn0, []⟩) ∨ (er = 0 ∧ ∃ mj mes, m = ⟨v1, v2, mj, mes⟩) ∨ (er = 0 ∧ ∃ mt mj mes, m = ⟨v1, mt, mj, mes⟩ ∧ mt ≠ v2) := by
      unfold compactL at hm
      split at hm
      · right
        by_cases hb : m.bt = v2
        · left; cases hm; exact ⟨rfl, _, _, by rw [← hb]⟩
        · right; cases hm; exact ⟨rfl, _, _, _, rfl, hb⟩
      · left; cases hm; exact ⟨rfl, rfl⟩
    have hSN : snL x.c.l v1 v2 (jnX v3) = ⟨v1, v2, jnX v3, if er = 0 ∧ m.bt = v2 then m.es else []⟩ := by unfold snL; rw [hm]
    clear hm hb hv1 hv2 hv3 hv4 hE1
    rcases hM with ⟨rfl, rfl⟩ | ⟨rfl, mj, mes, rfl⟩ | ⟨rfl, mt, mj, mes, rfl, hbt⟩
    · have HC := Lib.hid (show Calls _ _ _ _ _ from hC)
      dsimp only at HC
      have HSN : Hid (snL x.c.l v1 v2 (jnX v3) = ⟨v1, v2, jnX v3, []⟩) := by show _ = _; rw [hSN]; simp
      clear hC hSN
      have k8 : V.cell? ⟨G, n * 45 + 8, none⟩ = some (.int .i64 x.c.l.b) := by rw [HLV.out.cell hn 8 (by decide), HX.out]; rfl
      have k9 : V.cell? ⟨G, n * 45 + 9, none⟩ = some (.int .i64 x.c.l.bt) := by rw [HLV.out.cell hn 9 (by decide), HX.out]; rfl
      have k10 : V.cell? ⟨G, n * 45 + 10, none⟩ = some (.int .u16 x.c.l.j.ov) := by rw [HLV.out.cell hn 10 (by decide), HX.out]; rfl
      have k11 : V.cell? ⟨G, n * 45 + 11, none⟩ = some (.int .u16 x.c.l.j.ox) := by rw [HLV.out.cell hn 11 (by decide), HX.out]; rfl
      have k12 : V.cell? ⟨G, n * 45 + 12, none⟩ = some (.int .u16 x.c.l.j.ol) := by rw [HLV.out.cell hn 12 (by decide), HX.out]; rfl
      have k13 : V.cell? ⟨G, n * 45 + 13, none⟩ = some (.int .i64 x.c.l.j.oe) := by rw [HLV.out.cell hn 13 (by decide), HX.out]; rfl
      have k14 : V.cell? ⟨G, n * 45 + 14, none⟩ = some (.int .i64 x.c.l.j.ok) := by rw [HLV.out.cell hn 14 (by decide), HX.out]; rfl
      have k15 : V.cell? ⟨G, n * 45 + 15, none⟩ = some (.int .u16 x.c.l.j.nv) := by rw [HLV.out.cell hn 15 (by decide), HX.out]; rfl
      have k16 : V.cell? ⟨G, n * 45 + 16, none⟩ = some (.int .u16 x.c.l.j.nx) := by rw [HLV.out.cell hn 16 (by decide), HX.out]; rfl
      have k17 : V.cell? ⟨G, n * 45 + 17, none⟩ = some (.int .u16 x.c.l.j.nl) := by rw [HLV.out.cell hn 17 (by decide), HX.out]; rfl
      have k18 : V.cell? ⟨G, n * 45 + 18, none⟩ = some (.int .i64 x.c.l.j.ne) := by rw [HLV.out.cell hn 18 (by decide), HX.out]; rfl
      have k19 : V.cell? ⟨G, n * 45 + 19, none⟩ = some (.int .i64 x.c.l.j.nk) := by rw [HLV.out.cell hn 19 (by decide), HX.out]; rfl
      have k20 : V.cell? ⟨G, n * 45 + 20, none⟩ = some (.bool x.c.l.j.two) := by rw [HLV.out.cell hn 20 (by decide), HX.out]; rfl
      have k21 : V.cell? ⟨G, n * 45 + 21, none⟩ = some (.slice x.p x.c.l.es.length x.k) := by rw [HLV.out.cell hn 21 (by decide), HX.out]; rfl
      go_wp2_with fail
      refine HC.out.mono ?_; rintro e w5 ⟨q, cq, rfl, ho, hb5⟩
      dsimp only [jn0] at ho ⊢
      clear HC k8 k9 k10 k11 k12 k13 k14 k15 k16 k17 k18 k19 k20 k21
      go_upto_region 14 with fail
      obtain ⟨w6, hW6⟩ : ∃ z : World, w5.alloc (.cells #[.int .i64 0, .int .i64 0, .int .u16 0, .int .u16 0, .int .u16 0, .int .i64 0, .int .i64 0, .int .u16 0, .int .u16 0, .int .u16 0, .int .i64 0, .int .i64 0, .bool false, .slice q 0 cq] 45) = z := ⟨_, rfl⟩
      have b6 : Below w5.heap.size w5 w6 := by rw [← hW6]; exact (Below.refl _ _).alloc (Nat.le_refl _) _
      have hL6 : w6.heap[w5.heap.size]? = some (.cells #[.int .i64 0, .int .i64 0, .int .u16 0, .int .u16 0, .int .u16 0, .int .i64 0, .int .i64 0, .int .u16 0, .int .u16 0, .int .u16 0, .int .i64 0, .int .i64 0, .bool false, .slice q 0 cq] 45 (0, 0)) := by rw [← hW6]; exact heap_last w5 _
      (try rw [hW6])
      obtain ⟨L, eL⟩ : ∃ z, w5.heap.size = z := ⟨_, rfl⟩
      (try rw [eL])
      rw [eL] at hL6
      have hJL : J ≠ L := by have := HJge.out; have := hb5.size; omega
      have HLge := Lib.hid (show B ≤ L by have := HBS.out; have := HBV.out.size; have := hb5.size; omega)
      have b56 := hb5.trans (b6.mono hb5.size)
      have HL6 := Lib.hid (HLV.out.keep b56); have HB6 := Lib.hid (HBV.out.trans (b56.mono (Nat.le_trans HBS.out HBV.out.size))); have HJ6 := Lib.hid (below_block b56 (by have := HJge.out; omega) HJ.out)
      have HLB6 := Lib.hid hL6
      have HO6 := Lib.hid ((own_keptC ho b6).mono (Nat.le_trans HBS.out HBV.out.size))
      clear hW6 b6 hL6 eL b56 ho hb5
      have HT14 := Lib.hid (there_of_block (o := 0) (n := 14) HLB6.out (Nat.le_of_ble_eq_true rfl))
      go_upto_region 15 with (with_reducible refine wpList_store_at (op := ⟨none, .store 45 _ _, _, _, _, _⟩) rfl _ _ _ rfl L 0 14 #[.int .i64 v1, .int .i64 v2, .int .u16 0, .int .u16 0, .int .u16 0, .int .i64 0, .int .i64 0, .int .u16 0, .int .u16 0, .int .u16 0, .int .i64 0, .int .i64 0, .bool false, .slice none 0 0] (by kernel_rfl) rfl rfl HT14.out (by kernel_rfl) (one_all rfl) ?_)
      have hp := block_setCells [.int .i64 v1, .int .i64 v2, .int .u16 0, .int .u16 0, .int .u16 0, .int .i64 0, .int .i64 0, .int .u16 0, .int .u16 0, .int .u16 0, .int .i64 0, .int .i64 0, .bool false, .slice none 0 0] 0 HLB6.out
      obtain ⟨W7, hW7⟩ : ∃ z : World, w6.setCells L 0 [.int .i64 v1, .int .i64 v2, .int .u16 0, .int .u16 0, .int .u16 0, .int .i64 0, .int .i64 0, .int .u16 0, .int .u16 0, .int .u16 0, .int .i64 0, .int .i64 0, .bool false, .slice none 0 0] = z := ⟨_, rfl⟩
      rw [hW7] at hp
      (try rw [hW7])
      have HLB7 := Lib.hid (show W7.heap[L]? = some (.cells #[.int .i64 v1, .int .i64 v2, .int .u16 0, .int .u16 0, .int .u16 0, .int .i64 0, .int .i64 0, .int .u16 0, .int .u16 0, .int .u16 0, .int .i64 0, .int .i64 0, .bool false, .slice none 0 0] 45 (0, 0)) from hp.1)
      have HL7 := Lib.hid (HL6.out.grown HLB6.out (by decide) (by decide) hp.2)
      have HJ7 := Lib.hid (stays_at hp.2 HJ6.out hJL)
      have HB7 := Lib.hid (HB6.out.grown hp.2 (Nat.le_trans HBS.out HB6.out.size) (fun k e => by cases e; exact HLge.out))
      have HO7 : Hid (CoOwn B W7 ⟨{ x.c with l := ⟨v1, v2, jnX v3, []⟩ }, none, 0⟩) := ⟨rfl, .inl ⟨rfl, rfl⟩⟩
      clear hp hW7 HT14 HL6 HJ6 HLB6 HB6 HO6
      have HT15 := Lib.hid (there_of_block (o := 2) (n := 11) HLB7.out (Nat.le_of_ble_eq_true rfl))
      have kJ := block_cells HJ7.out
      go_upto_region 16 with (with_reducible refine wpList_store_at (op := ⟨none, .store 42 _ _, _, _, _, _⟩) rfl _ _ _ rfl L 2 11 #[.int .u16 v3.o.v, .int .u16 v3.o.x, .int .u16 v3.o.l, .int .i64 v3.o.e, .int .i64 v3.o.k, .int .u16 v3.n.v, .int .u16 v3.n.x, .int .u16 v3.n.l, .int .i64 v3.n.e, .int .i64 v3.n.k, .bool v3.two] (by kernel_rfl) rfl rfl HT15.out (by kernel_rfl) (one_all rfl) ?_)
      have hp := block_setCells [.int .u16 v3.o.v, .int .u16 v3.o.x, .int .u16 v3.o.l, .int .i64 v3.o.e, .int .i64 v3.o.k, .int .u16 v3.n.v, .int .u16 v3.n.x, .int .u16 v3.n.l, .int .i64 v3.n.e, .int .i64 v3.n.k, .bool v3.two] 2 HLB7.out
      obtain ⟨W8, hW8⟩ : ∃ z : World, W7.setCells L 2 [.int .u16 v3.o.v, .int .u16 v3.o.x, .int .u16 v3.o.l, .int .i64 v3.o.e, .int .i64 v3.o.k, .int .u16 v3.n.v, .int .u16 v3.n.x, .int .u16 v3.n.l, .int .i64 v3.n.e, .int .i64 v3.n.k, .bool v3.two] = z := ⟨_, rfl⟩
      rw [hW8] at hp
      (try rw [hW8])
      have hL8 : W8.heap[L]? = some (.cells #[.int .i64 v1, .int .i64 v2, .int .u16 v3.o.v, .int .u16 v3.o.x, .int .u16 v3.o.l, .int .i64 v3.o.e, .int .i64 v3.o.k, .int .u16 v3.n.v, .int .u16 v3.n.x, .int .u16 v3.n.l, .int .i64 v3.n.e, .int .i64 v3.n.k, .bool v3.two, .slice none 0 0] 45 (0, 0)) := hp.1
      have HL8 := Lib.hid (HL7.out.grown HLB7.out (by decide) (by decide) hp.2)
      have HO8 : Hid (CoOwn B W8 ⟨{ x.c with l := ⟨v1, v2, jnX v3, []⟩ }, none, 0⟩) := HO7.out.kept hp.2 (own_other HO7.out HLB7.out (by decide))
      have HB8 := Lib.hid (HB7.out.grown hp.2 (Nat.le_trans HBS.out HB7.out.size) (fun k e => by cases e; exact HLge.out))
      have kL := block_cells hL8
      have HT16 := Lib.hid (HL8.out.there (j := 8) (m := 14) hn (by decide))
      clear hp hW8 HL7 HO7 HB7 HLB7 kJ HJ7 HT15 hL8
      have hq := HL8.out.puts hn 8 [.int .i64 v1, .int .i64 v2, .int .u16 v3.o.v, .int .u16 v3.o.x, .int .u16 v3.o.l, .int .i64 v3.o.e, .int .i64 v3.o.k, .int .u16 v3.n.v, .int .u16 v3.n.x, .int .u16 v3.n.l, .int .i64 v3.n.e, .int .i64 v3.n.k, .bool v3.two, .slice none 0 0] (Nat.le_of_ble_eq_true rfl) ⟨{ x.c with l := ⟨v1, v2, jnX v3, []⟩ }, none, 0⟩ (by rw [HX.out]; rfl) HO8.out
      obtain ⟨W9, hW9⟩ : ∃ z : World, W8.setCells G (n * 45 + 8) [.int .i64 v1, .int .i64 v2, .int .u16 v3.o.v, .int .u16 v3.o.x, .int .u16 v3.o.l, .int .i64 v3.o.e, .int .i64 v3.o.k, .int .u16 v3.n.v, .int .u16 v3.n.x, .int .u16 v3.n.l, .int .i64 v3.n.e, .int .i64 v3.n.k, .bool v3.two, .slice none 0 0] = z := ⟨_, rfl⟩
      rw [hW9] at hq
      have hn9 : n < (l.set n ⟨{ x.c with l := ⟨v1, v2, jnX v3, []⟩ }, none, 0⟩).length := by simpa using hn
      have k22 : W9.cell? ⟨G, n * 45 + 22, none⟩ = some (.string x.c.sn) := by rw [hq.1.cell hn9 22 (by decide)]; simp only [List.getElem_set_self]; rfl
      have fG9 := hq.1.free
      have ho9 : CoOwn B W9 ⟨{ x.c with l := ⟨v1, v2, jnX v3, []⟩, sn := v4 }, none, 0⟩ := (show CoOwn B W9 ⟨{ x.c with l := ⟨v1, v2, jnX v3, []⟩ }, none, 0⟩ from hq.1.en _ (List.mem_set hn _))
      have hr := hq.1.put hn9 22 (by decide) ⟨{ x.c with l := ⟨v1, v2, jnX v3, []⟩, sn := v4 }, none, 0⟩ (.string v4) (by simp only [List.getElem_set_self]; rfl) ho9
      rw [List.set_set] at hr
      have HR9 := Lib.hid hr; have HB9 := Lib.hid (HB8.out.trans hq.2); have HW9 := Lib.hid hW9
      clear hr hq ho9 hn9 hW9
      have hW9 := HW9.out
      go_wp2_with (with_reducible refine wpList_store_at (op := ⟨none, .store 45 _ _, _, _, _, _⟩) rfl _ _ _ rfl G (n * 45 + 8) 14 #[.int .i64 v1, .int .i64 v2, .int .u16 v3.o.v, .int .u16 v3.o.x, .int .u16 v3.o.l, .int .i64 v3.o.e, .int .i64 v3.o.k, .int .u16 v3.n.v, .int .u16 v3.n.x, .int .u16 v3.n.l, .int .i64 v3.n.e, .int .i64 v3.n.k, .bool v3.two, .slice none 0 0] (by kernel_rfl) rfl rfl HT16.out (by kernel_rfl) (one_all rfl) ?_)
      go_ret
      rw [HSS.out]
      exact ⟨rfl, HB9.out.trans HR9.out.2, fun rc h => by cases h; exact ⟨_, by rw [show apRc x.c (.sn v1 v2 v3 v4) = { x.c with l := snL x.c.l v1 v2 (jnX v3), sn := v4 } from rfl, HSN.out], HR9.out.1⟩⟩
    · have HC := Lib.hid (show Calls _ _ _ _ _ from hC)
      dsimp only at HC
      have HSN : Hid (snL x.c.l v1 v2 (jnX v3) = ⟨v1, v2, jnX v3, mes⟩) := by show _ = _; rw [hSN]; simp
      have hq1 : (v2 != v2) = false := by simp
      clear hC hSN
      have k8 : V.cell? ⟨G, n * 45 + 8, none⟩ = some (.int .i64 x.c.l.b) := by rw [HLV.out.cell hn 8 (by decide), HX.out]; rfl
      have k9 : V.cell? ⟨G, n * 45 + 9, none⟩ = some (.int .i64 x.c.l.bt) := by rw [HLV.out.cell hn 9 (by decide), HX.out]; rfl
      have k10 : V.cell? ⟨G, n * 45 + 10, none⟩ = some (.int .u16 x.c.l.j.ov) := by rw [HLV.out.cell hn 10 (by decide), HX.out]; rfl
      have k11 : V.cell? ⟨G, n * 45 + 11, none⟩ = some (.int .u16 x.c.l.j.ox) := by rw [HLV.out.cell hn 11 (by decide), HX.out]; rfl
      have k12 : V.cell? ⟨G, n * 45 + 12, none⟩ = some (.int .u16 x.c.l.j.ol) := by rw [HLV.out.cell hn 12 (by decide), HX.out]; rfl
      have k13 : V.cell? ⟨G, n * 45 + 13, none⟩ = some (.int .i64 x.c.l.j.oe) := by rw [HLV.out.cell hn 13 (by decide), HX.out]; rfl
      have k14 : V.cell? ⟨G, n * 45 + 14, none⟩ = some (.int .i64 x.c.l.j.ok) := by rw [HLV.out.cell hn 14 (by decide), HX.out]; rfl
      have k15 : V.cell? ⟨G, n * 45 + 15, none⟩ = some (.int .u16 x.c.l.j.nv) := by rw [HLV.out.cell hn 15 (by decide), HX.out]; rfl
      have k16 : V.cell? ⟨G, n * 45 + 16, none⟩ = some (.int .u16 x.c.l.j.nx) := by rw [HLV.out.cell hn 16 (by decide), HX.out]; rfl
      have k17 : V.cell? ⟨G, n * 45 + 17, none⟩ = some (.int .u16 x.c.l.j.nl) := by rw [HLV.out.cell hn 17 (by decide), HX.out]; rfl
      have k18 : V.cell? ⟨G, n * 45 + 18, none⟩ = some (.int .i64 x.c.l.j.ne) := by rw [HLV.out.cell hn 18 (by decide), HX.out]; rfl
      have k19 : V.cell? ⟨G, n * 45 + 19, none⟩ = some (.int .i64 x.c.l.j.nk) := by rw [HLV.out.cell hn 19 (by decide), HX.out]; rfl
      have k20 : V.cell? ⟨G, n * 45 + 20, none⟩ = some (.bool x.c.l.j.two) := by rw [HLV.out.cell hn 20 (by decide), HX.out]; rfl
      have k21 : V.cell? ⟨G, n * 45 + 21, none⟩ = some (.slice x.p x.c.l.es.length x.k) := by rw [HLV.out.cell hn 21 (by decide), HX.out]; rfl
      go_wp2_with fail
      refine HC.out.mono ?_; rintro e w5 ⟨q, cq, rfl, ho, hb5⟩
      dsimp only [jn0] at ho ⊢
      clear HC k8 k9 k10 k11 k12 k13 k14 k15 k16 k17 k18 k19 k20 k21
      go_upto_region 15 with fail
      obtain ⟨w6, hW6⟩ : ∃ z : World, w5.alloc (.cells #[.int .i64 v1, .int .i64 v2, .int .u16 mj.ov, .int .u16 mj.ox, .int .u16 mj.ol, .int .i64 mj.oe, .int .i64 mj.ok, .int .u16 mj.nv, .int .u16 mj.nx, .int .u16 mj.nl, .int .i64 mj.ne, .int .i64 mj.nk, .bool mj.two, .slice q mes.length cq] 45) = z := ⟨_, rfl⟩
      have b6 : Below w5.heap.size w5 w6 := by rw [← hW6]; exact (Below.refl _ _).alloc (Nat.le_refl _) _
      have hL6 : w6.heap[w5.heap.size]? = some (.cells #[.int .i64 v1, .int .i64 v2, .int .u16 mj.ov, .int .u16 mj.ox, .int .u16 mj.ol, .int .i64 mj.oe, .int .i64 mj.ok, .int .u16 mj.nv, .int .u16 mj.nx, .int .u16 mj.nl, .int .i64 mj.ne, .int .i64 mj.nk, .bool mj.two, .slice q mes.length cq] 45 (0, 0)) := by rw [← hW6]; exact heap_last w5 _
      (try rw [hW6])
      obtain ⟨L, eL⟩ : ∃ z, w5.heap.size = z := ⟨_, rfl⟩
      (try rw [eL])
      rw [eL] at hL6
      have hJL : J ≠ L := by have := HJge.out; have := hb5.size; omega
      have HLge := Lib.hid (show B ≤ L by have := HBS.out; have := HBV.out.size; have := hb5.size; omega)
      have b56 := hb5.trans (b6.mono hb5.size)
      have HL6 := Lib.hid (HLV.out.keep b56); have HB6 := Lib.hid (HBV.out.trans (b56.mono (Nat.le_trans HBS.out HBV.out.size))); have HJ6 := Lib.hid (below_block b56 (by have := HJge.out; omega) HJ.out)
      have HLB6 := Lib.hid hL6
      have HO6 := Lib.hid ((own_keptC ho b6).mono (Nat.le_trans HBS.out HBV.out.size))
      clear hW6 b6 hL6 eL b56 ho hb5
      obtain ⟨W7, rfl⟩ : ∃ z : World, z = w6 := ⟨_, rfl⟩
      have HL7 := HL6; have HJ7 := HJ6; have HLB7 := HLB6; have HB7 := HB6
      have HO7 : Hid (CoOwn B W7 ⟨{ x.c with l := ⟨v1, v2, jnX v3, mes⟩ }, q, cq⟩) := HO6.out
      clear HL6 HJ6 HLB6 HB6 HO6
      have HT15 := Lib.hid (there_of_block (o := 2) (n := 11) HLB7.out (Nat.le_of_ble_eq_true rfl))
      have kJ := block_cells HJ7.out
      go_upto_region 16 with (with_reducible refine wpList_store_at (op := ⟨none, .store 42 _ _, _, _, _, _⟩) rfl _ _ _ rfl L 2 11 #[.int .u16 v3.o.v, .int .u16 v3.o.x, .int .u16 v3.o.l, .int .i64 v3.o.e, .int .i64 v3.o.k, .int .u16 v3.n.v, .int .u16 v3.n.x, .int .u16 v3.n.l, .int .i64 v3.n.e, .int .i64 v3.n.k, .bool v3.two] (by kernel_rfl) rfl rfl HT15.out (by kernel_rfl) (one_all rfl) ?_)
      have hp := block_setCells [.int .u16 v3.o.v, .int .u16 v3.o.x, .int .u16 v3.o.l, .int .i64 v3.o.e, .int .i64 v3.o.k, .int .u16 v3.n.v, .int .u16 v3.n.x, .int .u16 v3.n.l, .int .i64 v3.n.e, .int .i64 v3.n.k, .bool v3.two] 2 HLB7.out
      obtain ⟨W8, hW8⟩ : ∃ z : World, W7.setCells L 2 [.int .u16 v3.o.v, .int .u16 v3.o.x, .int .u16 v3.o.l, .int .i64 v3.o.e, .int .i64 v3.o.k, .int .u16 v3.n.v, .int .u16 v3.n.x, .int .u16 v3.n.l, .int .i64 v3.n.e, .int .i64 v3.n.k, .bool v3.two] = z := ⟨_, rfl⟩
      rw [hW8] at hp
      (try rw [hW8])
      have hL8 : W8.heap[L]? = some (.cells #[.int .i64 v1, .int .i64 v2, .int .u16 v3.o.v, .int .u16 v3.o.x, .int .u16 v3.o.l, .int .i64 v3.o.e, .int .i64 v3.o.k, .int .u16 v3.n.v, .int .u16 v3.n.x, .int .u16 v3.n.l, .int .i64 v3.n.e, .int .i64 v3.n.k, .bool v3.two, .slice q (mes).length cq] 45 (0, 0)) := hp.1
      have HL8 := Lib.hid (HL7.out.grown HLB7.out (by decide) (by decide) hp.2)
      have HO8 : Hid (CoOwn B W8 ⟨{ x.c with l := ⟨v1, v2, jnX v3, mes⟩ }, q, cq⟩) := HO7.out.kept hp.2 (own_other HO7.out HLB7.out (by decide))
      have HB8 := Lib.hid (HB7.out.grown hp.2 (Nat.le_trans HBS.out HB7.out.size) (fun k e => by cases e; exact HLge.out))
      have kL := block_cells hL8
      have HT16 := Lib.hid (HL8.out.there (j := 8) (m := 14) hn (by decide))
      clear hp hW8 HL7 HO7 HB7 HLB7 kJ HJ7 HT15 hL8
      have hq := HL8.out.puts hn 8 [.int .i64 v1, .int .i64 v2, .int .u16 v3.o.v, .int .u16 v3.o.x, .int .u16 v3.o.l, .int .i64 v3.o.e, .int .i64 v3.o.k, .int .u16 v3.n.v, .int .u16 v3.n.x, .int .u16 v3.n.l, .int .i64 v3.n.e, .int .i64 v3.n.k, .bool v3.two, .slice q (mes).length cq] (Nat.le_of_ble_eq_true rfl) ⟨{ x.c with l := ⟨v1, v2, jnX v3, mes⟩ }, q, cq⟩ (by rw [HX.out]; rfl) HO8.out
      obtain ⟨W9, hW9⟩ : ∃ z : World, W8.setCells G (n * 45 + 8) [.int .i64 v1, .int .i64 v2, .int .u16 v3.o.v, .int .u16 v3.o.x, .int .u16 v3.o.l, .int .i64 v3.o.e, .int .i64 v3.o.k, .int .u16 v3.n.v, .int .u16 v3.n.x, .int .u16 v3.n.l, .int .i64 v3.n.e, .int .i64 v3.n.k, .bool v3.two, .slice q (mes).length cq] = z := ⟨_, rfl⟩
      rw [hW9] at hq
      have hn9 : n < (l.set n ⟨{ x.c with l := ⟨v1, v2, jnX v3, mes⟩ }, q, cq⟩).length := by simpa using hn
      have k22 : W9.cell? ⟨G, n * 45 + 22, none⟩ = some (.string x.c.sn) := by rw [hq.1.cell hn9 22 (by decide)]; simp only [List.getElem_set_self]; rfl
      have fG9 := hq.1.free
      have ho9 : CoOwn B W9 ⟨{ x.c with l := ⟨v1, v2, jnX v3, mes⟩, sn := v4 }, q, cq⟩ := (show CoOwn B W9 ⟨{ x.c with l := ⟨v1, v2, jnX v3, mes⟩ }, q, cq⟩ from hq.1.en _ (List.mem_set hn _))
      have hr := hq.1.put hn9 22 (by decide) ⟨{ x.c with l := ⟨v1, v2, jnX v3, mes⟩, sn := v4 }, q, cq⟩ (.string v4) (by simp only [List.getElem_set_self]; rfl) ho9
      rw [List.set_set] at hr
      have HR9 := Lib.hid hr; have HB9 := Lib.hid (HB8.out.trans hq.2); have HW9 := Lib.hid hW9
      clear hr hq ho9 hn9 hW9
      have hW9 := HW9.out
      go_wp2_with (with_reducible refine wpList_store_at (op := ⟨none, .store 45 _ _, _, _, _, _⟩) rfl _ _ _ rfl G (n * 45 + 8) 14 #[.int .i64 v1, .int .i64 v2, .int .u16 v3.o.v, .int .u16 v3.o.x, .int .u16 v3.o.l, .int .i64 v3.o.e, .int .i64 v3.o.k, .int .u16 v3.n.v, .int .u16 v3.n.x, .int .u16 v3.n.l, .int .i64 v3.n.e, .int .i64 v3.n.k, .bool v3.two, .slice q (mes).length cq] (by kernel_rfl) rfl rfl HT16.out (by kernel_rfl) (one_all rfl) ?_)
      go_ret
      rw [HSS.out]
      exact ⟨rfl, HB9.out.trans HR9.out.2, fun rc h => by cases h; exact ⟨_, by rw [show apRc x.c (.sn v1 v2 v3 v4) = { x.c with l := snL x.c.l v1 v2 (jnX v3), sn := v4 } from rfl, HSN.out], HR9.out.1⟩⟩
    · have HC := Lib.hid (show Calls _ _ _ _ _ from hC)
      dsimp only at HC
      have HSN : Hid (snL x.c.l v1 v2 (jnX v3) = ⟨v1, v2, jnX v3, []⟩) := by show _ = _; rw [hSN]; simp [hbt]
      have hq1 : (mt != v2) = true := by simpa using hbt
      clear hbt
      clear hC hSN
      have k8 : V.cell? ⟨G, n * 45 + 8, none⟩ = some (.int .i64 x.c.l.b) := by rw [HLV.out.cell hn 8 (by decide), HX.out]; rfl
      have k9 : V.cell? ⟨G, n * 45 + 9, none⟩ = some (.int .i64 x.c.l.bt) := by rw [HLV.out.cell hn 9 (by decide), HX.out]; rfl
      have k10 : V.cell? ⟨G, n * 45 + 10, none⟩ = some (.int .u16 x.c.l.j.ov) := by rw [HLV.out.cell hn 10 (by decide), HX.out]; rfl
      have k11 : V.cell? ⟨G, n * 45 + 11, none⟩ = some (.int .u16 x.c.l.j.ox) := by rw [HLV.out.cell hn 11 (by decide), HX.out]; rfl
      have k12 : V.cell? ⟨G, n * 45 + 12, none⟩ = some (.int .u16 x.c.l.j.ol) := by rw [HLV.out.cell hn 12 (by decide), HX.out]; rfl
      have k13 : V.cell? ⟨G, n * 45 + 13, none⟩ = some (.int .i64 x.c.l.j.oe) := by rw [HLV.out.cell hn 13 (by decide), HX.out]; rfl
      have k14 : V.cell? ⟨G, n * 45 + 14, none⟩ = some (.int .i64 x.c.l.j.ok) := by rw [HLV.out.cell hn 14 (by decide), HX.out]; rfl
      have k15 : V.cell? ⟨G, n * 45 + 15, none⟩ = some (.int .u16 x.c.l.j.nv) := by rw [HLV.out.cell hn 15 (by decide), HX.out]; rfl
      have k16 : V.cell? ⟨G, n * 45 + 16, none⟩ = some (.int .u16 x.c.l.j.nx) := by rw [HLV.out.cell hn 16 (by decide), HX.out]; rfl
      have k17 : V.cell? ⟨G, n * 45 + 17, none⟩ = some (.int .u16 x.c.l.j.nl) := by rw [HLV.out.cell hn 17 (by decide), HX.out]; rfl
      have k18 : V.cell? ⟨G, n * 45 + 18, none⟩ = some (.int .i64 x.c.l.j.ne) := by rw [HLV.out.cell hn 18 (by decide), HX.out]; rfl
      have k19 : V.cell? ⟨G, n * 45 + 19, none⟩ = some (.int .i64 x.c.l.j.nk) := by rw [HLV.out.cell hn 19 (by decide), HX.out]; rfl
      have k20 : V.cell? ⟨G, n * 45 + 20, none⟩ = some (.bool x.c.l.j.two) := by rw [HLV.out.cell hn 20 (by decide), HX.out]; rfl
      have k21 : V.cell? ⟨G, n * 45 + 21, none⟩ = some (.slice x.p x.c.l.es.length x.k) := by rw [HLV.out.cell hn 21 (by decide), HX.out]; rfl
      go_wp2_with fail
      refine HC.out.mono ?_; rintro e w5 ⟨q, cq, rfl, ho, hb5⟩
      dsimp only [jn0] at ho ⊢
      clear HC k8 k9 k10 k11 k12 k13 k14 k15 k16 k17 k18 k19 k20 k21
      go_upto_region 14 with fail
      obtain ⟨w6, hW6⟩ : ∃ z : World, w5.alloc (.cells #[.int .i64 v1, .int .i64 mt, .int .u16 mj.ov, .int .u16 mj.ox, .int .u16 mj.ol, .int .i64 mj.oe, .int .i64 mj.ok, .int .u16 mj.nv, .int .u16 mj.nx, .int .u16 mj.nl, .int .i64 mj.ne, .int .i64 mj.nk, .bool mj.two, .slice q mes.length cq] 45) = z := ⟨_, rfl⟩
      have b6 : Below w5.heap.size w5 w6 := by rw [← hW6]; exact (Below.refl _ _).alloc (Nat.le_refl _) _
      have hL6 : w6.heap[w5.heap.size]? = some (.cells #[.int .i64 v1, .int .i64 mt, .int .u16 mj.ov, .int .u16 mj.ox, .int .u16 mj.ol, .int .i64 mj.oe, .int .i64 mj.ok, .int .u16 mj.nv, .int .u16 mj.nx, .int .u16 mj.nl, .int .i64 mj.ne, .int .i64 mj.nk, .bool mj.two, .slice q mes.length cq] 45 (0, 0)) := by rw [← hW6]; exact heap_last w5 _
      (try rw [hW6])
      obtain ⟨L, eL⟩ : ∃ z, w5.heap.size = z := ⟨_, rfl⟩
      (try rw [eL])
      rw [eL] at hL6
      have hJL : J ≠ L := by have := HJge.out; have := hb5.size; omega
      have HLge := Lib.hid (show B ≤ L by have := HBS.out; have := HBV.out.size; have := hb5.size; omega)
      have b56 := hb5.trans (b6.mono hb5.size)
      have HL6 := Lib.hid (HLV.out.keep b56); have HB6 := Lib.hid (HBV.out.trans (b56.mono (Nat.le_trans HBS.out HBV.out.size))); have HJ6 := Lib.hid (below_block b56 (by have := HJge.out; omega) HJ.out)
      have HLB6 := Lib.hid hL6
      have HO6 := Lib.hid ((own_keptC ho b6).mono (Nat.le_trans HBS.out HBV.out.size))
      clear hW6 b6 hL6 eL b56 ho hb5
      have HT14 := Lib.hid (there_of_block (o := 0) (n := 14) HLB6.out (Nat.le_of_ble_eq_true rfl))
      go_upto_region 15 with (with_reducible refine wpList_store_at (op := ⟨none, .store 45 _ _, _, _, _, _⟩) rfl _ _ _ rfl L 0 14 #[.int .i64 v1, .int .i64 v2, .int .u16 0, .int .u16 0, .int .u16 0, .int .i64 0, .int .i64 0, .int .u16 0, .int .u16 0, .int .u16 0, .int .i64 0, .int .i64 0, .bool false, .slice none 0 0] (by kernel_rfl) rfl rfl HT14.out (by kernel_rfl) (one_all rfl) ?_)
      have hp := block_setCells [.int .i64 v1, .int .i64 v2, .int .u16 0, .int .u16 0, .int .u16 0, .int .i64 0, .int .i64 0, .int .u16 0, .int .u16 0, .int .u16 0, .int .i64 0, .int .i64 0, .bool false, .slice none 0 0] 0 HLB6.out
      obtain ⟨W7, hW7⟩ : ∃ z : World, w6.setCells L 0 [.int .i64 v1, .int .i64 v2, .int .u16 0, .int .u16 0, .int .u16 0, .int .i64 0, .int .i64 0, .int .u16 0, .int .u16 0, .int .u16 0, .int .i64 0, .int .i64 0, .bool false, .slice none 0 0] = z := ⟨_, rfl⟩
      rw [hW7] at hp
      (try rw [hW7])
      have HLB7 := Lib.hid (show W7.heap[L]? = some (.cells #[.int .i64 v1, .int .i64 v2, .int .u16 0, .int .u16 0, .int .u16 0, .int .i64 0, .int .i64 0, .int .u16 0, .int .u16 0, .int .u16 0, .int .i64 0, .int .i64 0, .bool false, .slice none 0 0] 45 (0, 0)) from hp.1)
      have HL7 := Lib.hid (HL6.out.grown HLB6.out (by decide) (by decide) hp.2)
      have HJ7 := Lib.hid (stays_at hp.2 HJ6.out hJL)
      have HB7 := Lib.hid (HB6.out.grown hp.2 (Nat.le_trans HBS.out HB6.out.size) (fun k e => by cases e; exact HLge.out))
      have HO7 : Hid (CoOwn B W7 ⟨{ x.c with l := ⟨v1, v2, jnX v3, []⟩ }, none, 0⟩) := ⟨rfl, .inl ⟨rfl, rfl⟩⟩
      clear hp hW7 HT14 HL6 HJ6 HLB6 HB6 HO6
      have HT15 := Lib.hid (there_of_block (o := 2) (n := 11) HLB7.out (Nat.le_of_ble_eq_true rfl))
      have kJ := block_cells HJ7.out
      go_upto_region 16 with (with_reducible refine wpList_store_at (op := ⟨none, .store 42 _ _, _, _, _, _⟩) rfl _ _ _ rfl L 2 11 #[.int .u16 v3.o.v, .int .u16 v3.o.x, .int .u16 v3.o.l, .int .i64 v3.o.e, .int .i64 v3.o.k, .int .u16 v3.n.v, .int .u16 v3.n.x, .int .u16 v3.n.l, .int .i64 v3.n.e, .int .i64 v3.n.k, .bool v3.two] (by kernel_rfl) rfl rfl HT15.out (by kernel_rfl) (one_all rfl) ?_)
      have hp := block_setCells [.int .u16 v3.o.v, .int .u16 v3.o.x, .int .u16 v3.o.l, .int .i64 v3.o.e, .int .i64 v3.o.k, .int .u16 v3.n.v, .int .u16 v3.n.x, .int .u16 v3.n.l, .int .i64 v3.n.e, .int .i64 v3.n.k, .bool v3.two] 2 HLB7.out
      obtain ⟨W8, hW8⟩ : ∃ z : World, W7.setCells L 2 [.int .u16 v3.o.v, .int .u16 v3.o.x, .int .u16 v3.o.l, .int .i64 v3.o.e, .int .i64 v3.o.k, .int .u16 v3.n.v, .int .u16 v3.n.x, .int .u16 v3.n.l, .int .i64 v3.n.e, .int .i64 v3.n.k, .bool v3.two] = z := ⟨_, rfl⟩
      rw [hW8] at hp
      (try rw [hW8])
      have hL8 : W8.heap[L]? = some (.cells #[.int .i64 v1, .int .i64 v2, .int .u16 v3.o.v, .int .u16 v3.o.x, .int .u16 v3.o.l, .int .i64 v3.o.e, .int .i64 v3.o.k, .int .u16 v3.n.v, .int .u16 v3.n.x, .int .u16 v3.n.l, .int .i64 v3.n.e, .int .i64 v3.n.k, .bool v3.two, .slice none 0 0] 45 (0, 0)) := hp.1
      have HL8 := Lib.hid (HL7.out.grown HLB7.out (by decide) (by decide) hp.2)
      have HO8 : Hid (CoOwn B W8 ⟨{ x.c with l := ⟨v1, v2, jnX v3, []⟩ }, none, 0⟩) := HO7.out.kept hp.2 (own_other HO7.out HLB7.out (by decide))
      have HB8 := Lib.hid (HB7.out.grown hp.2 (Nat.le_trans HBS.out HB7.out.size) (fun k e => by cases e; exact HLge.out))
      have kL := block_cells hL8
      have HT16 := Lib.hid (HL8.out.there (j := 8) (m := 14) hn (by decide))
      clear hp hW8 HL7 HO7 HB7 HLB7 kJ HJ7 HT15 hL8
      have hq := HL8.out.puts hn 8 [.int .i64 v1, .int .i64 v2, .int .u16 v3.o.v, .int .u16 v3.o.x, .int .u16 v3.o.l, .int .i64 v3.o.e, .int .i64 v3.o.k, .int .u16 v3.n.v, .int .u16 v3.n.x, .int .u16 v3.n.l, .int .i64 v3.n.e, .int .i64 v3.n.k, .bool v3.two, .slice none 0 0] (Nat.le_of_ble_eq_true rfl) ⟨{ x.c with l := ⟨v1, v2, jnX v3, []⟩ }, none, 0⟩ (by rw [HX.out]; rfl) HO8.out
      obtain ⟨W9, hW9⟩ : ∃ z : World, W8.setCells G (n * 45 + 8) [.int .i64 v1, .int .i64 v2, .int .u16 v3.o.v, .int .u16 v3.o.x, .int .u16 v3.o.l, .int .i64 v3.o.e, .int .i64 v3.o.k, .int .u16 v3.n.v, .int .u16 v3.n.x, .int .u16 v3.n.l, .int .i64 v3.n.e, .int .i64 v3.n.k, .bool v3.two, .slice none 0 0] = z := ⟨_, rfl⟩
      rw [hW9] at hq
      have hn9 : n < (l.set n ⟨{ x.c with l := ⟨v1, v2, jnX v3, []⟩ }, none, 0⟩).length := by simpa using hn
      have k22 : W9.cell? ⟨G, n * 45 + 22, none⟩ = some (.string x.c.sn) := by rw [hq.1.cell hn9 22 (by decide)]; simp only [List.getElem_set_self]; rfl
      have fG9 := hq.1.free
      have ho9 : CoOwn B W9 ⟨{ x.c with l := ⟨v1, v2, jnX v3, []⟩, sn := v4 }, none, 0⟩ := (show CoOwn B W9 ⟨{ x.c with l := ⟨v1, v2, jnX v3, []⟩ }, none, 0⟩ from hq.1.en _ (List.mem_set hn _))
      have hr := hq.1.put hn9 22 (by decide) ⟨{ x.c with l := ⟨v1, v2, jnX v3, []⟩, sn := v4 }, none, 0⟩ (.string v4) (by simp only [List.getElem_set_self]; rfl) ho9
      rw [List.set_set] at hr
      have HR9 := Lib.hid hr; have HB9 := Lib.hid (HB8.out.trans hq.2); have HW9 := Lib.hid hW9
      clear hr hq ho9 hn9 hW9
      have hW9 := HW9.out
      go_wp2_with (with_reducible refine wpList_store_at (op := ⟨none, .store 45 _ _, _, _, _, _⟩) rfl _ _ _ rfl G (n * 45 + 8) 14 #[.int .i64 v1, .int .i64 v2, .int .u16 v3.o.v, .int .u16 v3.o.x, .int .u16 v3.o.l, .int .i64 v3.o.e, .int .i64 v3.o.k, .int .u16 v3.n.v, .int .u16 v3.n.x, .int .u16 v3.n.l, .int .i64 v3.n.e, .int .i64 v3.n.k, .bool v3.two, .slice none 0 0] (by kernel_rfl) rfl rfl HT16.out (by kernel_rfl) (one_all rfl) ?_)
      go_ret
      rw [HSS.out]
      exact ⟨rfl, HB9.out.trans HR9.out.2, fun rc h => by cases h; exact ⟨_, by rw [show apRc x.c (.sn v1 v2 v3 v4) = { x.c with l := snL x.c.l v1 v2 (jnX v3), sn := v4 } from rfl, HSN.out], HR9.out.1⟩⟩
  · have hE2 : (!b4 && ys4.isEmpty) = false := by simpa using hE
    rw [hE2] at HE
    rw [allR_no hE2] at HS
    have HSS := Lib.hid HS.out
    clear hE hE2 HS
    go_wp2_with fail
    refine HE.out.mono ?_; rintro e w' ⟨rfl, rfl⟩
    clear HE
    go_wp2_with fail
    go_ret
    rw [HSS.out]
    exact ⟨rfl, HBV.out, fun rc h => by cases h⟩
end Go.Proofs.Ytjaabakobpabjaa
