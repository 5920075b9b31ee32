/- Hard: what a record says to a core, the document's: letter E, with a joint. -/
import Derived.Test.YtjaabakobpabjaaHtE
namespace Go.Proofs.Ytjaabakobpabjaa
open Go.ChangeShapes Go.WideShapes Go.ChangeAt Go.RowKit

set_option maxRecDepth 100000 in
set_option maxHeartbeats 16000000 in
theorem one_E1 (B0 B R : Nat) (hB0 : B0 ≤ B) (x : CoX) (xs : List Int) (w : World) (hf : LgFit x.c.l) (ho : CoOwn B0 w x) (hr : RfW B w R xs false) (hk : (rd2 rfNm (rd2 rfNm (rd2 rfN rfT)) xs false).1.2.2.1 = 2) :
    Calls Try.prog 34 #[.int .u8 69, .pointer (some ⟨R, 0, none⟩), .agg x.v.toArray] w (OneE B0 B R w x (sayR 69 xs)) := by
  obtain ⟨⟨v1, ys1, b1⟩, e1⟩ : ∃ r, rfNm xs false = r := ⟨_, rfl⟩
  obtain ⟨⟨v2, ys2, b2⟩, e2⟩ : ∃ r, rfNm ys1 b1 = r := ⟨_, rfl⟩
  obtain ⟨⟨v3, ys3, b3⟩, e3⟩ : ∃ r, rfN ys2 b2 = r := ⟨_, rfl⟩
  obtain ⟨⟨v4, ys4, b4⟩, e4⟩ : ∃ r, rfT ys3 b3 = r := ⟨_, rfl⟩
  obtain ⟨⟨v5, ys5, b5⟩, e5⟩ : ∃ r, hrJ ys4 b4 = r := ⟨_, rfl⟩
  have hf4 : rd2 rfNm (rd2 rfNm (rd2 rfN rfT)) xs false = ((v1, v2, v3, v4), ys4, b4) := by unfold rd2; simp only [e1, e2, e3, e4]
  have hk3 : v3 = 2 := by have h := hk; rw [hf4] at h; exact h
  subst hk3
  have hen : enR xs false = (((v1, v2, 2, v4), v5), ys5, b5) := by unfold enR rdIf; simp only [hf4, e5, decide_true, if_true]
  have HS : Hid (sayR 69 xs = allR (((v1, v2, 2, v4), v5), ys5, b5) fun p => .en p.1.1 (enE p)) := by show _ = _; unfold sayR; rw [if_neg (by decide), if_neg (by decide), if_pos rfl, hen]
  have hrg := rfNm_range xs false
  rw [e1] at hrg
  have E1 := Lib.hid e1
  have E2 := Lib.hid e2
  have E3 := Lib.hid e3
  have E4 := Lib.hid e4
  have E5 := Lib.hid e5
  clear hf4 hen hk e1 e2 e3 e4 e5
  obtain ⟨W0, hW0⟩ : ∃ z : World, w.alloc (.cells x.v.toArray 48) = z := ⟨_, rfl⟩
  obtain ⟨W, hW⟩ : ∃ z : World, W0.alloc (.cells (coL co0 none 0).toArray 48) = z := ⟨_, rfl⟩
  have hs0 : W0.heap.size = w.heap.size + 1 := by rw [← hW0]; simp
  have b0 : Below w.heap.size w W0 := by rw [← hW0]; exact (Below.refl _ _).alloc (Nat.le_refl _) _
  have b1 : Below W0.heap.size W0 W := by rw [← hW]; exact (Below.refl _ _).alloc (Nat.le_refl _) _
  have bW := b0.trans (b1.mono b0.size)
  have hBw : B ≤ w.heap.size := Nat.le_of_lt (Nat.lt_of_le_of_lt hr.r.1 hr.lt)
  have hA : W.heap[w.heap.size]? = some (.cells x.v.toArray 48 (0, 0)) := below_block b1 (by omega) (by rw [← hW0]; exact heap_last w _)
  have hZ : W.heap[w.heap.size + 1]? = some (.cells (coL co0 none 0).toArray 48 (0, 0)) := by rw [← hW, ← hs0]; exact heap_last W0 _
  obtain ⟨A, eA⟩ : ∃ z, w.heap.size = z := ⟨_, rfl⟩
  obtain ⟨Z, eZ⟩ : ∃ z, A + 1 = z := ⟨_, rfl⟩
  rw [eA] at hA hZ
  rw [eZ] at hZ
  have HO0 := Lib.hid (show OnW B0 B A Z R w W xs false x from ⟨bW.mono hBw, hA, hZ, hr.keep bW (Nat.le_refl _), own_keptC ho bW, grown_belowC bW _, by omega, by omega⟩)
  have hRA : R ≠ A := by have := hr.lt; omega
  have hRZ : R ≠ Z := by have := hr.lt; omega
  have hZA : Z ≠ A := by omega
  have hBA : B ≤ A := by omega
  have hBZ : B ≤ Z := by omega
  have HWG := Lib.hid (show (w.alloc (.cells x.v.toArray 48)).alloc (.cells #[.int .i64 0, .int .i64 0, .int .i64 0, .int .i64 0, .int .i64 0, .int .i64 0, .int .i64 0, .int .i64 0, .int .i64 0, .int .i64 0, .int .u16 0, .int .u16 0, .int .u16 0, .int .i64 0, .int .i64 0, .int .u16 0, .int .u16 0, .int .u16 0, .int .i64 0, .int .i64 0, .bool false, .slice none 0 0, .string ⟨#[]⟩, .int .u16 0, .int .u16 0, .int .i64 0, .int .i64 0, .int .i64 0, .int .i64 0, .int .i64 0, .int .i64 0, .int .i64 0, .int .i64 0, .int .i64 0, .int .i64 0, .int .i64 0, .int .i64 0, .int .i64 0, .int .i64 0, .int .i64 0, .int .i64 0, .int .i64 0, .int .i64 0, .int .i64 0, .int .i64 0] 48) = W by rw [hW0]; exact hW)
  have HEA := Lib.hid eA; have HEZ := Lib.hid eZ; have HW0 := Lib.hid hW0; have HW := Lib.hid hW; have HS0 := Lib.hid hs0; have HF := Lib.hid hf; have HOC := Lib.hid hr.o
  clear hW0 hW hs0 b0 b1 bW hA hZ eA eZ ho hr hf hBw
  go_enter Try.func34, Try.ntmps34
  go_upto_region 1 with fail
  rw [HWG.out, HEA.out, HEZ.out]
  go_upto_block 0 with fail
  go_cut [] from 20 to 119 (fun wx => Hid (∃ y : CoX, OnW B0 B A Z R w wx ys5 b5 y ∧ ∀ rc, allR (((v1, v2, 2, v4), v5), ys5, b5) (fun p => Rc.en p.1.1 (enE p)) = some rc → y.c = apRc x.c rc))
  case first =>
    have HC1 := Lib.hid (rhnum_any B R xs false W HO0.out.r)
    rw [E1.out] at HC1
    go_wp2_with fail
    refine HC1.out.mono ?_; rintro e w1 ⟨rfl, h1, g1⟩
    dsimp only at h1 ⊢
    have HO1 := Lib.hid (HO0.out.rd hRA.symm hRZ.symm h1 g1)
    clear h1 g1 HC1
    have HC2 := Lib.hid (rhnum_any B R ys1 b1 w1 HO1.out.r)
    rw [E2.out] at HC2
    go_wp2_with fail
    refine HC2.out.mono ?_; rintro e w2 ⟨rfl, h2, g2⟩
    dsimp only at h2 ⊢
    have HO2 := Lib.hid (HO1.out.rd hRA.symm hRZ.symm h2 g2)
    clear h2 g2 HC2
    have HC3 := Lib.hid (rfn_any B R ys2 b2 w2 HO2.out.r)
    rw [E3.out] at HC3
    go_wp2_with fail
    refine HC3.out.mono ?_; rintro e w3 ⟨rfl, h3, g3⟩
    dsimp only at h3 ⊢
    have HO3 := Lib.hid (HO2.out.rd hRA.symm hRZ.symm h3 g3)
    clear h3 g3 HC3
    go_upto_region 20 with fail
    obtain ⟨V, hV⟩ : ∃ z : World, w3.alloc (.cells #[.int .i64 v2, .int .i64 2, .string ⟨#[]⟩, .int .u16 0, .int .u16 0, .int .u16 0, .int .i64 0, .int .i64 0, .int .u16 0, .int .u16 0, .int .u16 0, .int .i64 0, .int .i64 0, .bool false] 85) = z := ⟨_, rfl⟩
    have bV : Below w3.heap.size w3 V := by rw [← hV]; exact (Below.refl _ _).alloc (Nat.le_refl _) _
    have hXB : V.heap[w3.heap.size]? = some (.cells #[.int .i64 v2, .int .i64 2, .string ⟨#[]⟩, .int .u16 0, .int .u16 0, .int .u16 0, .int .i64 0, .int .i64 0, .int .u16 0, .int .u16 0, .int .u16 0, .int .i64 0, .int .i64 0, .bool false] 85 (0, 0)) := by rw [← hV]; exact heap_last w3 _
    (try rw [hV])
    have hRX0 : R < w3.heap.size := HO3.out.r.lt
    have hAX0 : A < w3.heap.size := block_lt HO3.out.a
    have hZX0 : Z < w3.heap.size := block_lt HO3.out.z
    have hBX0 : B ≤ w3.heap.size := HO3.out.lt
    have hNX0 : w.heap.size ≤ w3.heap.size := HO3.out.g.size
    obtain ⟨X, eX⟩ : ∃ z, w3.heap.size = z := ⟨_, rfl⟩
    (try rw [eX])
    have HNX := Lib.hid (show (Value.slice x.p x.c.l.es.length x.k).ownBlock = none ∨ (Value.slice x.p x.c.l.es.length x.k).ownBlock ≠ some X from by
      cases e9 : (Value.slice x.p x.c.l.es.length x.k).ownBlock with
      | none => exact .inl rfl
      | some b => exact .inr fun h => by have := (HO3.out.o.lt b e9).2; simp only [Option.some.injEq] at h; omega)
    rw [eX] at hXB hRX0 hAX0 hZX0 hBX0 hNX0
    have hXA : X ≠ A := by omega
    have hAX : A ≠ X := by omega
    have hZX : Z ≠ X := by omega
    have hRX : R ≠ X := by omega
    have HOV := Lib.hid (HO3.out.keep bV); have HXV := Lib.hid hXB
    clear hV bV hXB eX hRX0 hAX0 hZX0
    have HC4 := Lib.hid (rft_any B R ys3 b3 V HOV.out.r)
    rw [E4.out] at HC4
    go_wp2_with fail
    refine HC4.out.mono ?_; rintro e w4 ⟨rfl, h4, g4⟩
    dsimp only at h4 ⊢
    have HX4 := Lib.hid (stays_at g4 HXV.out hRX.symm)
    have HO4 := Lib.hid (HOV.out.rd hRA.symm hRZ.symm h4 g4)
    clear h4 g4 HC4
    have kX := block_cells HX4.out
    have fX := block_free HX4.out
    go_upto_region 21 with fail
    obtain ⟨V5, hV5⟩ : ∃ z : World, w4.setCell ⟨X, 2, none⟩ (.string v4) = z := ⟨_, rfl⟩
    have g5 : w4.grownBy V5 (some X) := by rw [← hV5]; exact grown_setW _ _ _ _
    have hX5 : V5.heap[X]? = some (.cells #[.int .i64 v2, .int .i64 2, .string v4, .int .u16 0, .int .u16 0, .int .u16 0, .int .i64 0, .int .i64 0, .int .u16 0, .int .u16 0, .int .u16 0, .int .i64 0, .int .i64 0, .bool false] 85 (0, 0)) := by rw [← hV5]; exact (cells_setW HX4.out 2 _).trans rfl
    (try rw [hV5])
    have HOV5 := Lib.hid (HO4.out.far g5 hAX hZX hRX hBX0 hNX0 HNX.out); have HXV5 := Lib.hid hX5
    clear hV5 g5 hX5 kX fX HX4 HO4 HOV HXV
    have kX := block_cells HXV5.out
    have HC5 := Lib.hid (rhjoint_any B R ys4 b4 V5 HOV5.out.r)
    rw [E5.out] at HC5
    go_wp2_with fail
    refine HC5.out.mono ?_; rintro e w5 ⟨rfl, h5, g5⟩
    dsimp only at h5 ⊢
    have HX5 := Lib.hid (stays_at g5 HXV5.out hRX.symm)
    have HO5 := Lib.hid (HOV5.out.rd hRA.symm hRZ.symm h5 g5)
    clear h5 g5 HC5
    have HTX := Lib.hid (there_of_block (o := 3) (n := 11) HX5.out (Nat.le_of_ble_eq_true rfl))
    clear kX
    go_upto_region 23 with (with_reducible refine wpList_store_at (op := ⟨none, .store 42 _ _, _, _, _, _⟩) rfl _ _ _ rfl X 3 11 #[.int .u16 v5.o.v, .int .u16 v5.o.x, .int .u16 v5.o.l, .int .i64 v5.o.e, .int .i64 v5.o.k, .int .u16 v5.n.v, .int .u16 v5.n.x, .int .u16 v5.n.l, .int .i64 v5.n.e, .int .i64 v5.n.k, .bool v5.two] (by kernel_rfl) rfl rfl HTX.out (by kernel_rfl) (one_all rfl) ?_)
    have hp := block_setCells [.int .u16 v5.o.v, .int .u16 v5.o.x, .int .u16 v5.o.l, .int .i64 v5.o.e, .int .i64 v5.o.k, .int .u16 v5.n.v, .int .u16 v5.n.x, .int .u16 v5.n.l, .int .i64 v5.n.e, .int .i64 v5.n.k, .bool v5.two] 3 HX5.out
    obtain ⟨V7, hV7⟩ : ∃ z : World, w5.setCells X 3 [.int .u16 v5.o.v, .int .u16 v5.o.x, .int .u16 v5.o.l, .int .i64 v5.o.e, .int .i64 v5.o.k, .int .u16 v5.n.v, .int .u16 v5.n.x, .int .u16 v5.n.l, .int .i64 v5.n.e, .int .i64 v5.n.k, .bool v5.two] = z := ⟨_, rfl⟩
    rw [hV7] at hp
    (try rw [hV7])
    have HT7 : Hid (TrU B0 B A Z R X #[.int .i64 v2, .int .i64 2, .string v4, .int .u16 v5.o.v, .int .u16 v5.o.x, .int .u16 v5.o.l, .int .i64 v5.o.e, .int .i64 v5.o.k, .int .u16 v5.n.v, .int .u16 v5.n.x, .int .u16 v5.n.l, .int .i64 v5.n.e, .int .i64 v5.n.k, .bool v5.two] w V7 ys5 b5 x) := ⟨HO5.out.far hp.2 hAX hZX hRX hBX0 hNX0 HNX.out, hp.1, hNX0⟩
    clear hp hV7 HTX HX5 HO5 HOV5 HXV5
    have hb0 := HF.out.b0; have hb1 := HF.out.b1; have hfn := HF.out.n
    have hll : x.c.l.last = x.c.l.b + x.c.l.es.length := rfl
    have hw1 : wrap64 (v1 - 1) = v1 - 1 := by unfold wrap64; omega
    have hw3 : IntKind.i64.wrap (v1 - 1) = v1 - 1 := by rw [IntKind.wrap_i64]; omega
    have HLL := Lib.hid hll
    have HXE : Hid (enE (((v1, v2, 2, v4), v5)) = ⟨v2, 2, v4, jnX v5⟩) := rfl
    have HLA := Lib.hid (rlast_any x.c.l x.p x.k V7 hb0 hb1 hfn)
    have k8 : V7.cell? ⟨A, 8, none⟩ = some (.int .i64 x.c.l.b) := (HT7.out.on.cell 8).trans rfl
    have HLR := Lib.hid (show V7.rangeAt A 8 [.int .i64 x.c.l.b, .int .i64 x.c.l.bt, .int .u16 x.c.l.j.ov, .int .u16 x.c.l.j.ox, .int .u16 x.c.l.j.ol, .int .i64 x.c.l.j.oe, .int .i64 x.c.l.j.ok, .int .u16 x.c.l.j.nv, .int .u16 x.c.l.j.nx, .int .u16 x.c.l.j.nl, .int .i64 x.c.l.j.ne, .int .i64 x.c.l.j.nk, .bool x.c.l.j.two, .slice x.p x.c.l.es.length x.k] from range_of (n := 14) rfl (fun j hj => by rw [HT7.out.on.cell]; exact coL_logT x j hj))
    by_cases hg : x.c.l.b < v1
    · have hd : decide (x.c.l.b < v1) = true := by simpa using hg
      by_cases hle : v1 - 1 ≤ x.c.l.last
      · have hd2 : decide (v1 - 1 ≤ x.c.l.last) = true := by simpa using hle
        have hle2 : v1 ≤ x.c.l.last + 1 := by omega
        have HTE : Hid ((x.c.l.es.take (v1 - 1 - x.c.l.b).toNat) = x.c.l.es.take (v1 - x.c.l.b - 1).toNat) := by show _ = _; congr 1; omega
        have HAY : Hid (({ x.c with l := { x.c.l with es := (x.c.l.es.take (v1 - 1 - x.c.l.b).toNat) ++ ([⟨v2, 2, v4, jnX v5⟩] : List Ent) } } : Co) = apRc x.c (.en v1 ⟨v2, 2, v4, jnX v5⟩)) := by show _ = _; rw [HTE.out]; exact (apRc_yes ⟨hg, hle2⟩).symm
        obtain ⟨mn, hmn⟩ : ∃ m, (x.c.l.es.take (v1 - 1 - x.c.l.b).toNat).length = m := ⟨_, rfl⟩
        have HMN := Lib.hid hmn
        clear hmn hll
        have HLN : Hid (((x.c.l.es.take (v1 - 1 - x.c.l.b).toNat) ++ ([⟨v2, 2, v4, jnX v5⟩] : List Ent)).length = mn + 1) := by show _ = _; rw [List.length_append, HMN.out]; rfl
        have HTL : Hid ((x.c.l.es.take (v1 - 1 - x.c.l.b).toNat).length ≤ 1000000) := by show _ ≤ _; rw [List.length_take]; omega
        go_wp2_with (with_reducible refine wpList_load_g (op := ⟨some 106, _, _, _, _, _⟩) (by kernel_rfl) _ _ rfl A 8 rfl [.int .i64 x.c.l.b, .int .i64 x.c.l.bt, .int .u16 x.c.l.j.ov, .int .u16 x.c.l.j.ox, .int .u16 x.c.l.j.ol, .int .i64 x.c.l.j.oe, .int .i64 x.c.l.j.ok, .int .u16 x.c.l.j.nv, .int .u16 x.c.l.j.nx, .int .u16 x.c.l.j.nl, .int .i64 x.c.l.j.ne, .int .i64 x.c.l.j.nk, .bool x.c.l.j.two, .slice x.p x.c.l.es.length x.k] _ HLR.out Try.underlying45 rfl (by kernel_rfl) ?_)
        refine HLA.out.mono ?_; rintro r0 w9 ⟨rfl, hb9⟩
        have HT9 := Lib.hid (HT7.out.keep hb9)
        clear k8 hb9 HLA HT7 HLR
        go_upto_region 24 with fail
        have h0 : Below w9.heap.size w9 w9.drew := (Below.refl _ _).drew
        have HTD := Lib.hid (HT9.out.keep h0)
        refine wp_region_held_drew (S := fun w' => ∀ j, w'.cell? ⟨X, j, none⟩ = #[.int .i64 v2, .int .i64 2, .string v4, .int .u16 v5.o.v, .int .u16 v5.o.x, .int .u16 v5.o.l, .int .i64 v5.o.e, .int .i64 v5.o.k, .int .u16 v5.n.v, .int .u16 v5.n.x, .int .u16 v5.n.l, .int .i64 v5.n.e, .int .i64 v5.n.k, .bool v5.two][j]?) (by kernel_rfl) (block_cells HTD.out.x) (fun hHeld => ?_)
        obtain ⟨wd, ewd⟩ : ∃ z, w9.drew = z := ⟨_, rfl⟩
        rw [ewd] at HTD hHeld ⊢
        clear ewd h0 HT9
        refine wpAnyH_take (i := 0) (v := ?_) rfl (by kernel_rfl) (by kernel_rfl) (by kernel_rfl) (fun _ _ _ h => h) (Or.inl ⟨by rfl, ?_⟩) hHeld ?_
        rotate_left
        · (intro wz hSw; (try dsimp only at hSw); (try simp only [List.getElem_toArray, List.getElem_cons_zero]); go_simp; try with_reducible rfl)
        try simp only [List.getElem_toArray, List.getElem_cons_zero, Act.put, List.setIfInBounds_toArray, List.set_cons_zero, List.set_cons_succ]
        refine wpAnyH_take (i := 2) (v := ?_) rfl (by kernel_rfl) (by kernel_rfl) (by kernel_rfl) (fun _ _ _ h => h) (Or.inl ⟨by rfl, ?_⟩) hHeld ?_
        rotate_left
        · (intro wz hSw; (try dsimp only at hSw); (try simp only [List.getElem_toArray, List.getElem_cons_succ, List.getElem_cons_zero]); go_simp; try with_reducible rfl)
        try simp only [List.getElem_toArray, List.getElem_cons_succ, List.getElem_cons_zero, Act.put, List.setIfInBounds_toArray, List.set_cons_zero, List.set_cons_succ]
        refine wpAnyH_take (i := 3) (v := ?_) rfl (by kernel_rfl) (by kernel_rfl) (by kernel_rfl) (fun _ _ _ h => h) (Or.inl ⟨by rfl, ?_⟩) hHeld ?_
        rotate_left
        · (intro wz hSw; (try dsimp only at hSw); (try simp only [List.getElem_toArray, List.getElem_cons_succ, List.getElem_cons_zero]); go_simp; try with_reducible rfl)
        try simp only [List.getElem_toArray, List.getElem_cons_succ, List.getElem_cons_zero, Act.put, List.setIfInBounds_toArray, List.set_cons_zero, List.set_cons_succ]
        refine wpAnyH_take (i := 5) (v := ?_) rfl (by kernel_rfl) (by kernel_rfl) (by kernel_rfl) (fun _ _ _ h => h) (Or.inl ⟨by rfl, ?_⟩) hHeld ?_
        rotate_left
        · (intro wz hSw; (try dsimp only at hSw); (try simp only [List.getElem_toArray, List.getElem_cons_succ, List.getElem_cons_zero]); go_simp; try with_reducible rfl)
        try simp only [List.getElem_toArray, List.getElem_cons_succ, List.getElem_cons_zero, Act.put, List.setIfInBounds_toArray, List.set_cons_zero, List.set_cons_succ]
        clear hw1 hw3
        refine wpAnyH_ready (rs := [1, 6]) (by kernel_rfl) (by simp) ?_
        refine AllReadyH.cons rfl (fun K hK => ?_) (AllReadyH.cons rfl (fun K hK => ?_) AllReadyH.nil)
        · skip
          rw [if_pos (by rfl)]
          refine wp_load_mid 45 _ (by rfl) A 8 (by rfl) [.int .i64 x.c.l.b, .int .i64 x.c.l.bt, .int .u16 x.c.l.j.ov, .int .u16 x.c.l.j.ox, .int .u16 x.c.l.j.ol, .int .i64 x.c.l.j.oe, .int .i64 x.c.l.j.ok, .int .u16 x.c.l.j.nv, .int .u16 x.c.l.j.nx, .int .u16 x.c.l.j.nl, .int .i64 x.c.l.j.ne, .int .i64 x.c.l.j.nk, .bool x.c.l.j.two, .slice x.p x.c.l.es.length x.k] _ (range_of (n := 14) rfl (fun j hj => by rw [HTD.out.on.cell]; exact coL_logT x j hj)) Try.underlying45 rfl (by kernel_rfl) ?_
          refine hK.out _ _ (block_cells HTD.out.x) (fun _ => ?_)
          clear hK K hHeld
          try simp only [List.getElem_toArray, List.getElem_cons_succ, List.getElem_cons_zero, Act.put, List.setIfInBounds_toArray, List.set_cons_zero, List.set_cons_succ]
          have hHeld := block_cells HTD.out.x
          refine wpAnyH_ready (rs := [4, 6]) (by kernel_rfl) (by simp) ?_
          refine AllReadyH.cons rfl (fun K hK => ?_) (AllReadyH.cons rfl (fun K hK => ?_) AllReadyH.nil)
          · skip
            try simp only [List.getElem_toArray, List.getElem_cons_succ, List.getElem_cons_zero]
            go_simp
            refine (upto_any x.c.l x.p x.k (v1 - 1) wd hb0 hb1 HF.out.n (EnSl.of_own HTD.out.on.o)).mono ?_; rintro r W2 ⟨vv, rfl, ho, hb⟩
            obtain ⟨q, cq, hvv⟩ := own_slice ho
            rw [HMN.out] at hvv
            subst hvv
            have HT2 := Lib.hid (HTD.out.keep hb); have HO2 := Lib.hid (HTD.out.new ho)
            clear ho hb
            refine hK.out _ _ (block_cells HT2.out.x) (fun _ => ?_)
            clear hK K hHeld
            try simp only [List.getElem_toArray, List.getElem_cons_succ, List.getElem_cons_zero, Act.put, List.setIfInBounds_toArray, List.set_cons_zero, List.set_cons_succ]
            have hHeld := block_cells HT2.out.x
            refine wpAnyH_ready (rs := [6]) (by kernel_rfl) (by simp) ?_
            refine AllReadyH.cons rfl (fun K hK => ?_) AllReadyH.nil
            try simp only [List.getElem_toArray, List.getElem_cons_succ, List.getElem_cons_zero]
            go_simp
            obtain ⟨W3, hw⟩ : ∃ z : World, W2.alloc (.cells #[.int .i64 v2, .int .i64 2, .string v4, .int .u16 v5.o.v, .int .u16 v5.o.x, .int .u16 v5.o.l, .int .i64 v5.o.e, .int .i64 v5.o.k, .int .u16 v5.n.v, .int .u16 v5.n.x, .int .u16 v5.n.l, .int .i64 v5.n.e, .int .i64 v5.n.k, .bool v5.two] 85) = z := ⟨_, rfl⟩
            have hb : Below W2.heap.size W2 W3 := by rw [← hw]; exact (Below.refl _ _).alloc (Nat.le_refl _) _
            have hq : W3.heap[W2.heap.size]? = some (.cells #[.int .i64 v2, .int .i64 2, .string v4, .int .u16 v5.o.v, .int .u16 v5.o.x, .int .u16 v5.o.l, .int .i64 v5.o.e, .int .i64 v5.o.k, .int .u16 v5.n.v, .int .u16 v5.n.x, .int .u16 v5.n.l, .int .i64 v5.n.e, .int .i64 v5.n.k, .bool v5.two] 85 (0, 0)) := by rw [← hw]; exact heap_last W2 _
            (try rw [hw])
            obtain ⟨Q, eQ⟩ : ∃ z, W2.heap.size = z := ⟨_, rfl⟩
            (try rw [eQ])
            rw [eQ] at hq
            have HT3 := Lib.hid (HT2.out.keep hb); have HQ3 := Lib.hid hq
            have HO3 := Lib.hid (HO2.out.keep hb)
            clear hw hb hq eQ
            refine hK.out _ _ (block_cells HT3.out.x) (fun _ => ?_)
            clear hK K hHeld
            try simp only [List.getElem_toArray, List.getElem_cons_succ, List.getElem_cons_zero, Act.put, List.setIfInBounds_toArray, List.set_cons_zero, List.set_cons_succ]
            have hHeld := block_cells HT3.out.x
            refine wpAnyH_ready (rs := [7]) (by kernel_rfl) (by simp) ?_
            refine AllReadyH.cons rfl (fun K hK => ?_) AllReadyH.nil
            rw [if_pos (by rfl)]
            obtain ⟨i1, hi1, hy0, hy1, hy2⟩ := info_parts Try.infoEn
            refine wp_append_row _ _ 43 (by rfl) B 85 i1 (.agg #[.int .i64 0, .int .i64 0, .string ⟨#[]⟩, .int .u16 0, .int .u16 0, .int .u16 0, .int .i64 0, .int .i64 0, .int .u16 0, .int .u16 0, .int .u16 0, .int .i64 0, .int .i64 0, .bool false]) 14 88 Try.underlying43 hi1 hy0 hy1 hy2 rfl (by decide) (.slice q mn cq) (x.c.l.es.take (v1 - 1 - x.c.l.b).toNat).length (entRow (x.c.l.es.take (v1 - 1 - x.c.l.b).toNat)) (by rfl) HO3.out.own _ (.slice (some ⟨Q, 0, none⟩) 1 1) 1 (entRow [⟨v2, 2, v4, jnX v5⟩]) (by rfl) (EnSl.one (e := ⟨v2, 2, v4, jnX v5⟩) HQ3.out) (by decide) (entC_one [⟨v2, 2, v4, jnX v5⟩]) (by have := HTL.out; unfold maxLen; omega) (by have := HTL.out; omega) HT3.out.on.lt ?_
            intro v8 W4 h2 h3 h4
            have HT4 := Lib.hid (HT3.out.app HO3.out h3)
            have HO4 : Hid (W4.ownsRow B 85 14 v8 ((x.c.l.es.take (v1 - 1 - x.c.l.b).toNat) ++ ([⟨v2, 2, v4, jnX v5⟩] : List Ent)).length (entRow ((x.c.l.es.take (v1 - 1 - x.c.l.b).toNat) ++ ([⟨v2, 2, v4, jnX v5⟩] : List Ent)))) := by
              show W4.ownsRow B 85 14 v8 ((x.c.l.es.take (v1 - 1 - x.c.l.b).toNat) ++ ([⟨v2, 2, v4, jnX v5⟩] : List Ent)).length (entRow ((x.c.l.es.take (v1 - 1 - x.c.l.b).toNat) ++ ([⟨v2, 2, v4, jnX v5⟩] : List Ent)))
              rw [List.length_append, entRow_app]; exact h2
            obtain ⟨q8, c8, hv8⟩ := own_slice HO4.out
            rw [HLN.out] at hv8
            subst hv8
            clear h2 h3 h4
            refine hK.out _ _ (block_cells HT4.out.x) (fun _ => ?_)
            clear hK K hHeld
            try simp only [List.getElem_toArray, List.getElem_cons_succ, List.getElem_cons_zero, Act.put, List.setIfInBounds_toArray, List.set_cons_zero, List.set_cons_succ]
            have hHeld := block_cells HT4.out.x
            refine wpAnyH_take (i := 8) (v := ?_) rfl (by kernel_rfl) (by kernel_rfl) (by kernel_rfl) (fun _ _ _ h => h) (Or.inl ⟨by rfl, ?_⟩) hHeld ?_
            rotate_left
            · (intro wz hSw; (try dsimp only at hSw); (try simp only [List.getElem_toArray, List.getElem_cons_succ, List.getElem_cons_zero]); go_simp; try with_reducible rfl)
            try simp only [List.getElem_toArray, List.getElem_cons_succ, List.getElem_cons_zero, Act.put, List.setIfInBounds_toArray, List.set_cons_zero, List.set_cons_succ]
            refine wpAnyH_take (i := 9) (v := ?_) rfl (by kernel_rfl) (by kernel_rfl) (by kernel_rfl) (fun _ _ _ h => h) (Or.inl ⟨by rfl, ?_⟩) hHeld ?_
            rotate_left
            · (intro wz hSw; (try dsimp only at hSw); (try simp only [List.getElem_toArray, List.getElem_cons_succ, List.getElem_cons_zero]); go_simp; try with_reducible rfl)
            try simp only [List.getElem_toArray, List.getElem_cons_succ, List.getElem_cons_zero, Act.put, List.setIfInBounds_toArray, List.set_cons_zero, List.set_cons_succ]
            refine wpAnyH_ready (rs := [10]) (by kernel_rfl) (by simp) ?_
            refine AllReadyH.cons rfl (fun K hK => ?_) AllReadyH.nil
            have kE : W4.cell? ⟨A, 21, none⟩ = some (.slice x.p x.c.l.es.length x.k) := (HT4.out.on.cell 21).trans rfl
            have fE := HT4.out.on.free
            try simp only [List.getElem_toArray, List.getElem_cons_succ, List.getElem_cons_zero]
            go_simp
            have HP := Lib.hid (HT4.out.on.puts hBA hRA hZA 21 [.slice q8 (mn + 1) c8] (y := ⟨{ x.c with l := { x.c.l with es := (x.c.l.es.take (v1 - 1 - x.c.l.b).toNat) ++ ([⟨v2, 2, v4, jnX v5⟩] : List Ent) } }, q8, c8⟩) (by rw [← HLN.out]; rfl) (show CoOwn B0 W4 ⟨{ x.c with l := { x.c.l with es := (x.c.l.es.take (v1 - 1 - x.c.l.b).toNat) ++ ([⟨v2, 2, v4, jnX v5⟩] : List Ent) } }, q8, c8⟩ from by unfold CoOwn; rw [HLN.out]; have ho := HO4.out; rw [HLN.out] at ho; exact ho.mono hB0))
            have hxs := stays_at (block_setCells [.slice q8 (mn + 1) c8] 21 HT4.out.on.a).2 HT4.out.x hXA
            refine hK.out _ _ (block_cells hxs) (fun _ => ?_)
            clear hK K hHeld kE fE hxs
            try simp only [List.getElem_toArray, List.getElem_cons_succ, List.getElem_cons_zero, Act.put, List.setIfInBounds_toArray, List.set_cons_zero, List.set_cons_succ]
            refine wpAnyH_done (by kernel_rfl) ?_ _
            go_wp2_with fail
            go_meet
            case rel => exact ⟨_, HP.out, fun rc h => by unfold allR at h; split at h <;> cases h; exact HAY.out⟩
          · skip
            try simp only [List.getElem_toArray, List.getElem_cons_succ, List.getElem_cons_zero]
            go_simp
            obtain ⟨W6, hw⟩ : ∃ z : World, wd.alloc (.cells #[.int .i64 v2, .int .i64 2, .string v4, .int .u16 v5.o.v, .int .u16 v5.o.x, .int .u16 v5.o.l, .int .i64 v5.o.e, .int .i64 v5.o.k, .int .u16 v5.n.v, .int .u16 v5.n.x, .int .u16 v5.n.l, .int .i64 v5.n.e, .int .i64 v5.n.k, .bool v5.two] 85) = z := ⟨_, rfl⟩
            have hb : Below wd.heap.size wd W6 := by rw [← hw]; exact (Below.refl _ _).alloc (Nat.le_refl _) _
            have hq : W6.heap[wd.heap.size]? = some (.cells #[.int .i64 v2, .int .i64 2, .string v4, .int .u16 v5.o.v, .int .u16 v5.o.x, .int .u16 v5.o.l, .int .i64 v5.o.e, .int .i64 v5.o.k, .int .u16 v5.n.v, .int .u16 v5.n.x, .int .u16 v5.n.l, .int .i64 v5.n.e, .int .i64 v5.n.k, .bool v5.two] 85 (0, 0)) := by rw [← hw]; exact heap_last wd _
            (try rw [hw])
            obtain ⟨Q, eQ⟩ : ∃ z, wd.heap.size = z := ⟨_, rfl⟩
            (try rw [eQ])
            rw [eQ] at hq
            have HT6 := Lib.hid (HTD.out.keep hb); have HQ6 := Lib.hid hq
            clear hw hb hq eQ
            refine hK.out _ _ (block_cells HT6.out.x) (fun _ => ?_)
            clear hK K hHeld
            try simp only [List.getElem_toArray, List.getElem_cons_succ, List.getElem_cons_zero, Act.put, List.setIfInBounds_toArray, List.set_cons_zero, List.set_cons_succ]
            have hHeld := block_cells HT6.out.x
            refine wpAnyH_ready (rs := [4]) (by kernel_rfl) (by simp) ?_
            refine AllReadyH.cons rfl (fun K hK => ?_) AllReadyH.nil
            try simp only [List.getElem_toArray, List.getElem_cons_succ, List.getElem_cons_zero]
            go_simp
            refine (upto_any x.c.l x.p x.k (v1 - 1) W6 hb0 hb1 HF.out.n (EnSl.of_own HT6.out.on.o)).mono ?_; rintro r W7 ⟨vv, rfl, ho, hb⟩
            obtain ⟨q, cq, hvv⟩ := own_slice ho
            rw [HMN.out] at hvv
            subst hvv
            have HT7 := Lib.hid (HT6.out.keep hb); have HO7 := Lib.hid (HT6.out.new ho)
            have HQ7 := Lib.hid (below_block hb (block_lt HQ6.out) HQ6.out)
            clear ho hb
            refine hK.out _ _ (block_cells HT7.out.x) (fun _ => ?_)
            clear hK K hHeld
            try simp only [List.getElem_toArray, List.getElem_cons_succ, List.getElem_cons_zero, Act.put, List.setIfInBounds_toArray, List.set_cons_zero, List.set_cons_succ]
            have hHeld := block_cells HT7.out.x
            refine wpAnyH_ready (rs := [7]) (by kernel_rfl) (by simp) ?_
            refine AllReadyH.cons rfl (fun K hK => ?_) AllReadyH.nil
            rw [if_pos (by rfl)]
            obtain ⟨i1, hi1, hy0, hy1, hy2⟩ := info_parts Try.infoEn
            refine wp_append_row _ _ 43 (by rfl) B 85 i1 (.agg #[.int .i64 0, .int .i64 0, .string ⟨#[]⟩, .int .u16 0, .int .u16 0, .int .u16 0, .int .i64 0, .int .i64 0, .int .u16 0, .int .u16 0, .int .u16 0, .int .i64 0, .int .i64 0, .bool false]) 14 88 Try.underlying43 hi1 hy0 hy1 hy2 rfl (by decide) (.slice q mn cq) (x.c.l.es.take (v1 - 1 - x.c.l.b).toNat).length (entRow (x.c.l.es.take (v1 - 1 - x.c.l.b).toNat)) (by rfl) HO7.out.own _ (.slice (some ⟨Q, 0, none⟩) 1 1) 1 (entRow [⟨v2, 2, v4, jnX v5⟩]) (by rfl) (EnSl.one (e := ⟨v2, 2, v4, jnX v5⟩) HQ7.out) (by decide) (entC_one [⟨v2, 2, v4, jnX v5⟩]) (by have := HTL.out; unfold maxLen; omega) (by have := HTL.out; omega) HT7.out.on.lt ?_
            intro v8 W8 h2 h3 h4
            have HT8 := Lib.hid (HT7.out.app HO7.out h3)
            have HO8 : Hid (W8.ownsRow B 85 14 v8 ((x.c.l.es.take (v1 - 1 - x.c.l.b).toNat) ++ ([⟨v2, 2, v4, jnX v5⟩] : List Ent)).length (entRow ((x.c.l.es.take (v1 - 1 - x.c.l.b).toNat) ++ ([⟨v2, 2, v4, jnX v5⟩] : List Ent)))) := by
              show W8.ownsRow B 85 14 v8 ((x.c.l.es.take (v1 - 1 - x.c.l.b).toNat) ++ ([⟨v2, 2, v4, jnX v5⟩] : List Ent)).length (entRow ((x.c.l.es.take (v1 - 1 - x.c.l.b).toNat) ++ ([⟨v2, 2, v4, jnX v5⟩] : List Ent)))
              rw [List.length_append, entRow_app]; exact h2
            obtain ⟨q8, c8, hv8⟩ := own_slice HO8.out
            rw [HLN.out] at hv8
            subst hv8
            clear h2 h3 h4
            refine hK.out _ _ (block_cells HT8.out.x) (fun _ => ?_)
            clear hK K hHeld
            try simp only [List.getElem_toArray, List.getElem_cons_succ, List.getElem_cons_zero, Act.put, List.setIfInBounds_toArray, List.set_cons_zero, List.set_cons_succ]
            have hHeld := block_cells HT8.out.x
            refine wpAnyH_take (i := 8) (v := ?_) rfl (by kernel_rfl) (by kernel_rfl) (by kernel_rfl) (fun _ _ _ h => h) (Or.inl ⟨by rfl, ?_⟩) hHeld ?_
            rotate_left
            · (intro wz hSw; (try dsimp only at hSw); (try simp only [List.getElem_toArray, List.getElem_cons_succ, List.getElem_cons_zero]); go_simp; try with_reducible rfl)
            try simp only [List.getElem_toArray, List.getElem_cons_succ, List.getElem_cons_zero, Act.put, List.setIfInBounds_toArray, List.set_cons_zero, List.set_cons_succ]
            refine wpAnyH_take (i := 9) (v := ?_) rfl (by kernel_rfl) (by kernel_rfl) (by kernel_rfl) (fun _ _ _ h => h) (Or.inl ⟨by rfl, ?_⟩) hHeld ?_
            rotate_left
            · (intro wz hSw; (try dsimp only at hSw); (try simp only [List.getElem_toArray, List.getElem_cons_succ, List.getElem_cons_zero]); go_simp; try with_reducible rfl)
            try simp only [List.getElem_toArray, List.getElem_cons_succ, List.getElem_cons_zero, Act.put, List.setIfInBounds_toArray, List.set_cons_zero, List.set_cons_succ]
            refine wpAnyH_ready (rs := [10]) (by kernel_rfl) (by simp) ?_
            refine AllReadyH.cons rfl (fun K hK => ?_) AllReadyH.nil
            have kE : W8.cell? ⟨A, 21, none⟩ = some (.slice x.p x.c.l.es.length x.k) := (HT8.out.on.cell 21).trans rfl
            have fE := HT8.out.on.free
            try simp only [List.getElem_toArray, List.getElem_cons_succ, List.getElem_cons_zero]
            go_simp
            have HP := Lib.hid (HT8.out.on.puts hBA hRA hZA 21 [.slice q8 (mn + 1) c8] (y := ⟨{ x.c with l := { x.c.l with es := (x.c.l.es.take (v1 - 1 - x.c.l.b).toNat) ++ ([⟨v2, 2, v4, jnX v5⟩] : List Ent) } }, q8, c8⟩) (by rw [← HLN.out]; rfl) (show CoOwn B0 W8 ⟨{ x.c with l := { x.c.l with es := (x.c.l.es.take (v1 - 1 - x.c.l.b).toNat) ++ ([⟨v2, 2, v4, jnX v5⟩] : List Ent) } }, q8, c8⟩ from by unfold CoOwn; rw [HLN.out]; have ho := HO8.out; rw [HLN.out] at ho; exact ho.mono hB0))
            have hxs := stays_at (block_setCells [.slice q8 (mn + 1) c8] 21 HT8.out.on.a).2 HT8.out.x hXA
            refine hK.out _ _ (block_cells hxs) (fun _ => ?_)
            clear hK K hHeld kE fE hxs
            try simp only [List.getElem_toArray, List.getElem_cons_succ, List.getElem_cons_zero, Act.put, List.setIfInBounds_toArray, List.set_cons_zero, List.set_cons_succ]
            refine wpAnyH_done (by kernel_rfl) ?_ _
            go_wp2_with fail
            go_meet
            case rel => exact ⟨_, HP.out, fun rc h => by unfold allR at h; split at h <;> cases h; exact HAY.out⟩
        · skip
          try simp only [List.getElem_toArray, List.getElem_cons_succ, List.getElem_cons_zero]
          go_simp
          obtain ⟨W10, hw⟩ : ∃ z : World, wd.alloc (.cells #[.int .i64 v2, .int .i64 2, .string v4, .int .u16 v5.o.v, .int .u16 v5.o.x, .int .u16 v5.o.l, .int .i64 v5.o.e, .int .i64 v5.o.k, .int .u16 v5.n.v, .int .u16 v5.n.x, .int .u16 v5.n.l, .int .i64 v5.n.e, .int .i64 v5.n.k, .bool v5.two] 85) = z := ⟨_, rfl⟩
          have hb : Below wd.heap.size wd W10 := by rw [← hw]; exact (Below.refl _ _).alloc (Nat.le_refl _) _
          have hq : W10.heap[wd.heap.size]? = some (.cells #[.int .i64 v2, .int .i64 2, .string v4, .int .u16 v5.o.v, .int .u16 v5.o.x, .int .u16 v5.o.l, .int .i64 v5.o.e, .int .i64 v5.o.k, .int .u16 v5.n.v, .int .u16 v5.n.x, .int .u16 v5.n.l, .int .i64 v5.n.e, .int .i64 v5.n.k, .bool v5.two] 85 (0, 0)) := by rw [← hw]; exact heap_last wd _
          (try rw [hw])
          obtain ⟨Q, eQ⟩ : ∃ z, wd.heap.size = z := ⟨_, rfl⟩
          (try rw [eQ])
          rw [eQ] at hq
          have HT10 := Lib.hid (HTD.out.keep hb); have HQ10 := Lib.hid hq
          clear hw hb hq eQ
          refine hK.out _ _ (block_cells HT10.out.x) (fun _ => ?_)
          clear hK K hHeld
          try simp only [List.getElem_toArray, List.getElem_cons_succ, List.getElem_cons_zero, Act.put, List.setIfInBounds_toArray, List.set_cons_zero, List.set_cons_succ]
          have hHeld := block_cells HT10.out.x
          refine wpAnyH_ready (rs := [1]) (by kernel_rfl) (by simp) ?_
          refine AllReadyH.cons rfl (fun K hK => ?_) AllReadyH.nil
          rw [if_pos (by rfl)]
          refine wp_load_mid 45 _ (by rfl) A 8 (by rfl) [.int .i64 x.c.l.b, .int .i64 x.c.l.bt, .int .u16 x.c.l.j.ov, .int .u16 x.c.l.j.ox, .int .u16 x.c.l.j.ol, .int .i64 x.c.l.j.oe, .int .i64 x.c.l.j.ok, .int .u16 x.c.l.j.nv, .int .u16 x.c.l.j.nx, .int .u16 x.c.l.j.nl, .int .i64 x.c.l.j.ne, .int .i64 x.c.l.j.nk, .bool x.c.l.j.two, .slice x.p x.c.l.es.length x.k] _ (range_of (n := 14) rfl (fun j hj => by rw [HT10.out.on.cell]; exact coL_logT x j hj)) Try.underlying45 rfl (by kernel_rfl) ?_
          refine hK.out _ _ (block_cells HT10.out.x) (fun _ => ?_)
          clear hK K hHeld
          try simp only [List.getElem_toArray, List.getElem_cons_succ, List.getElem_cons_zero, Act.put, List.setIfInBounds_toArray, List.set_cons_zero, List.set_cons_succ]
          have hHeld := block_cells HT10.out.x
          refine wpAnyH_ready (rs := [4]) (by kernel_rfl) (by simp) ?_
          refine AllReadyH.cons rfl (fun K hK => ?_) AllReadyH.nil
          try simp only [List.getElem_toArray, List.getElem_cons_succ, List.getElem_cons_zero]
          go_simp
          refine (upto_any x.c.l x.p x.k (v1 - 1) W10 hb0 hb1 HF.out.n (EnSl.of_own HT10.out.on.o)).mono ?_; rintro r W12 ⟨vv, rfl, ho, hb⟩
          obtain ⟨q, cq, hvv⟩ := own_slice ho
          rw [HMN.out] at hvv
          subst hvv
          have HT12 := Lib.hid (HT10.out.keep hb); have HO12 := Lib.hid (HT10.out.new ho)
          have HQ12 := Lib.hid (below_block hb (block_lt HQ10.out) HQ10.out)
          clear ho hb
          refine hK.out _ _ (block_cells HT12.out.x) (fun _ => ?_)
          clear hK K hHeld
          try simp only [List.getElem_toArray, List.getElem_cons_succ, List.getElem_cons_zero, Act.put, List.setIfInBounds_toArray, List.set_cons_zero, List.set_cons_succ]
          have hHeld := block_cells HT12.out.x
          refine wpAnyH_ready (rs := [7]) (by kernel_rfl) (by simp) ?_
          refine AllReadyH.cons rfl (fun K hK => ?_) AllReadyH.nil
          rw [if_pos (by rfl)]
          obtain ⟨i1, hi1, hy0, hy1, hy2⟩ := info_parts Try.infoEn
          refine wp_append_row _ _ 43 (by rfl) B 85 i1 (.agg #[.int .i64 0, .int .i64 0, .string ⟨#[]⟩, .int .u16 0, .int .u16 0, .int .u16 0, .int .i64 0, .int .i64 0, .int .u16 0, .int .u16 0, .int .u16 0, .int .i64 0, .int .i64 0, .bool false]) 14 88 Try.underlying43 hi1 hy0 hy1 hy2 rfl (by decide) (.slice q mn cq) (x.c.l.es.take (v1 - 1 - x.c.l.b).toNat).length (entRow (x.c.l.es.take (v1 - 1 - x.c.l.b).toNat)) (by rfl) HO12.out.own _ (.slice (some ⟨Q, 0, none⟩) 1 1) 1 (entRow [⟨v2, 2, v4, jnX v5⟩]) (by rfl) (EnSl.one (e := ⟨v2, 2, v4, jnX v5⟩) HQ12.out) (by decide) (entC_one [⟨v2, 2, v4, jnX v5⟩]) (by have := HTL.out; unfold maxLen; omega) (by have := HTL.out; omega) HT12.out.on.lt ?_
          intro v8 W13 h2 h3 h4
          have HT13 := Lib.hid (HT12.out.app HO12.out h3)
          have HO13 : Hid (W13.ownsRow B 85 14 v8 ((x.c.l.es.take (v1 - 1 - x.c.l.b).toNat) ++ ([⟨v2, 2, v4, jnX v5⟩] : List Ent)).length (entRow ((x.c.l.es.take (v1 - 1 - x.c.l.b).toNat) ++ ([⟨v2, 2, v4, jnX v5⟩] : List Ent)))) := by
            show W13.ownsRow B 85 14 v8 ((x.c.l.es.take (v1 - 1 - x.c.l.b).toNat) ++ ([⟨v2, 2, v4, jnX v5⟩] : List Ent)).length (entRow ((x.c.l.es.take (v1 - 1 - x.c.l.b).toNat) ++ ([⟨v2, 2, v4, jnX v5⟩] : List Ent)))
            rw [List.length_append, entRow_app]; exact h2
          obtain ⟨q8, c8, hv8⟩ := own_slice HO13.out
          rw [HLN.out] at hv8
          subst hv8
          clear h2 h3 h4
          refine hK.out _ _ (block_cells HT13.out.x) (fun _ => ?_)
          clear hK K hHeld
          try simp only [List.getElem_toArray, List.getElem_cons_succ, List.getElem_cons_zero, Act.put, List.setIfInBounds_toArray, List.set_cons_zero, List.set_cons_succ]
          have hHeld := block_cells HT13.out.x
          refine wpAnyH_take (i := 8) (v := ?_) rfl (by kernel_rfl) (by kernel_rfl) (by kernel_rfl) (fun _ _ _ h => h) (Or.inl ⟨by rfl, ?_⟩) hHeld ?_
          rotate_left
          · (intro wz hSw; (try dsimp only at hSw); (try simp only [List.getElem_toArray, List.getElem_cons_succ, List.getElem_cons_zero]); go_simp; try with_reducible rfl)
          try simp only [List.getElem_toArray, List.getElem_cons_succ, List.getElem_cons_zero, Act.put, List.setIfInBounds_toArray, List.set_cons_zero, List.set_cons_succ]
          refine wpAnyH_take (i := 9) (v := ?_) rfl (by kernel_rfl) (by kernel_rfl) (by kernel_rfl) (fun _ _ _ h => h) (Or.inl ⟨by rfl, ?_⟩) hHeld ?_
          rotate_left
          · (intro wz hSw; (try dsimp only at hSw); (try simp only [List.getElem_toArray, List.getElem_cons_succ, List.getElem_cons_zero]); go_simp; try with_reducible rfl)
          try simp only [List.getElem_toArray, List.getElem_cons_succ, List.getElem_cons_zero, Act.put, List.setIfInBounds_toArray, List.set_cons_zero, List.set_cons_succ]
          refine wpAnyH_ready (rs := [10]) (by kernel_rfl) (by simp) ?_
          refine AllReadyH.cons rfl (fun K hK => ?_) AllReadyH.nil
          have kE : W13.cell? ⟨A, 21, none⟩ = some (.slice x.p x.c.l.es.length x.k) := (HT13.out.on.cell 21).trans rfl
          have fE := HT13.out.on.free
          try simp only [List.getElem_toArray, List.getElem_cons_succ, List.getElem_cons_zero]
          go_simp
          have HP := Lib.hid (HT13.out.on.puts hBA hRA hZA 21 [.slice q8 (mn + 1) c8] (y := ⟨{ x.c with l := { x.c.l with es := (x.c.l.es.take (v1 - 1 - x.c.l.b).toNat) ++ ([⟨v2, 2, v4, jnX v5⟩] : List Ent) } }, q8, c8⟩) (by rw [← HLN.out]; rfl) (show CoOwn B0 W13 ⟨{ x.c with l := { x.c.l with es := (x.c.l.es.take (v1 - 1 - x.c.l.b).toNat) ++ ([⟨v2, 2, v4, jnX v5⟩] : List Ent) } }, q8, c8⟩ from by unfold CoOwn; rw [HLN.out]; have ho := HO13.out; rw [HLN.out] at ho; exact ho.mono hB0))
          have hxs := stays_at (block_setCells [.slice q8 (mn + 1) c8] 21 HT13.out.on.a).2 HT13.out.x hXA
          refine hK.out _ _ (block_cells hxs) (fun _ => ?_)
          clear hK K hHeld kE fE hxs
          try simp only [List.getElem_toArray, List.getElem_cons_succ, List.getElem_cons_zero, Act.put, List.setIfInBounds_toArray, List.set_cons_zero, List.set_cons_succ]
          refine wpAnyH_done (by kernel_rfl) ?_ _
          go_wp2_with fail
          go_meet
          case rel => exact ⟨_, HP.out, fun rc h => by unfold allR at h; split at h <;> cases h; exact HAY.out⟩
      · have hd2 : decide (v1 - 1 ≤ x.c.l.last) = false := by simpa using hle
        have HAN : Hid (x.c = apRc x.c (.en v1 ⟨v2, 2, v4, jnX v5⟩)) := (apRc_no (fun h => hle (by have := h.2; omega))).symm
        go_wp2_with (with_reducible refine wpList_load_g (op := ⟨some 106, _, _, _, _, _⟩) (by kernel_rfl) _ _ rfl A 8 rfl [.int .i64 x.c.l.b, .int .i64 x.c.l.bt, .int .u16 x.c.l.j.ov, .int .u16 x.c.l.j.ox, .int .u16 x.c.l.j.ol, .int .i64 x.c.l.j.oe, .int .i64 x.c.l.j.ok, .int .u16 x.c.l.j.nv, .int .u16 x.c.l.j.nx, .int .u16 x.c.l.j.nl, .int .i64 x.c.l.j.ne, .int .i64 x.c.l.j.nk, .bool x.c.l.j.two, .slice x.p x.c.l.es.length x.k] _ HLR.out Try.underlying45 rfl (by kernel_rfl) ?_)
        refine HLA.out.mono ?_; rintro r0 w9 ⟨rfl, hb9⟩
        have HT9 := Lib.hid (HT7.out.keep hb9)
        clear k8 hb9 HLA HT7 HLR hll
        go_wp2_with fail
        go_meet
        case rel => exact ⟨x, HT9.out.on, fun rc h => by unfold allR at h; split at h <;> cases h; exact HAN.out⟩
    · have hd : decide (x.c.l.b < v1) = false := by simpa using hg
      have HAN : Hid (x.c = apRc x.c (.en v1 ⟨v2, 2, v4, jnX v5⟩)) := (apRc_no (fun h => hg h.1)).symm
      clear hll
      go_wp2_with fail
      go_meet
      case rel => exact ⟨x, HT7.out.on, fun rc h => by unfold allR at h; split at h <;> cases h; exact HAN.out⟩
  obtain ⟨wy, rfl⟩ : ∃ z : World, z = wc := ⟨_, rfl⟩
  obtain ⟨y, hoy, hrc⟩ := hcut.out
  have HOY := Lib.hid hoy; have HRC := Lib.hid hrc
  clear hcut hoy hrc
  have hcs : (b5 = true) ∨ (b5 = false ∧ ys5 = []) ∨ (b5 = false ∧ ys5 ≠ []) := by
    cases b5
    · by_cases h : ys5 = []
      · exact .inr (.inl ⟨rfl, h⟩)
      · exact .inr (.inr ⟨rfl, h⟩)
    · exact .inl rfl
  rcases hcs with hb | ⟨hb, hy⟩ | ⟨hb, hy⟩
  · subst hb
    go_upto_region 25 with fail
    obtain ⟨wd, ewd⟩ : ∃ z, wy.drew = z := ⟨_, rfl⟩
    have HOD := Lib.hid (show OnW B0 B A Z R w wd _ _ y from HOY.out.keep (by rw [← ewd]; exact (Below.refl _ _).drew))
    obtain ⟨hBR, rp, rcp, hRq, _⟩ := HOD.out.r.r
    have HZR := Lib.hid (show Z ≠ R from hRZ.symm)
    refine wp_region_held_drew (S := fun w' => w'.heap[A]? = some (.cells y.v.toArray 48 (0, 0)) ∧ ∀ j, w'.cell? ⟨R, j, none⟩ = #[.slice rp ys5.length rcp, .bool true][j]?) (by kernel_rfl) (by rw [ewd]; exact ⟨HOD.out.a, block_cells hRq⟩) (fun hHeld => ?_)
    rw [ewd] at hHeld ⊢
    clear ewd
    refine wpAnyH_take (i := 0) (v := .agg y.v.toArray) rfl (by kernel_rfl) (by kernel_rfl) (by kernel_rfl) (fun _ _ _ h => h) (yieldsIf_load_mid (by rfl) _ _ rfl A 0 rfl y.v _ (fun w' h => range_of (n := 45) rfl (fun j _ => by rw [Nat.zero_add, block_cells h.1, List.getElem?_toArray])) Try.underlying48 rfl (by kernel_rfl)) hHeld ?_
    try simp only [List.getElem_toArray, List.getElem_cons_zero, Act.put, List.setIfInBounds_toArray, List.set_cons_zero, List.set_cons_succ]
    refine wpAnyH_take (i := 1) (v := ?_) rfl (by kernel_rfl) (by kernel_rfl) (by kernel_rfl) (fun _ _ _ h => h) (Or.inl ⟨by rfl, ?_⟩) hHeld ?_
    rotate_left
    · (intro wz hSw; (try dsimp only at hSw); (try simp only [List.getElem_toArray, List.getElem_cons_succ, List.getElem_cons_zero]); go_simp; try with_reducible rfl)
    try simp only [List.getElem_toArray, List.getElem_cons_succ, List.getElem_cons_zero, Act.put, List.setIfInBounds_toArray, List.set_cons_zero, List.set_cons_succ]
    refine wpAnyH_take (i := 2) (v := ?_) rfl (by kernel_rfl) (by kernel_rfl) (by kernel_rfl) (fun _ _ _ h => h) (Or.inl ⟨by rfl, ?_⟩) hHeld ?_
    rotate_left
    · (intro wz hSw; (try dsimp only at hSw); (try simp only [List.getElem_toArray, List.getElem_cons_succ, List.getElem_cons_zero]); go_simp; try with_reducible rfl)
    try simp only [List.getElem_toArray, List.getElem_cons_succ, List.getElem_cons_zero, Act.put, List.setIfInBounds_toArray, List.set_cons_zero, List.set_cons_succ]
    refine wpAnyH_take (i := 3) (v := ?_) rfl (by kernel_rfl) (by kernel_rfl) (by kernel_rfl) (fun _ _ _ h => h) (Or.inl ⟨by rfl, ?_⟩) hHeld ?_
    rotate_left
    · (intro wz hSw; (try dsimp only at hSw); (try simp only [List.getElem_toArray, List.getElem_cons_succ, List.getElem_cons_zero]); go_simp; try with_reducible rfl)
    try simp only [List.getElem_toArray, List.getElem_cons_succ, List.getElem_cons_zero, Act.put, List.setIfInBounds_toArray, List.set_cons_zero, List.set_cons_succ]
    refine wpAnyH_take (i := 4) (v := ?_) rfl (by kernel_rfl) (by kernel_rfl) (by kernel_rfl) (fun _ _ _ h => h) (Or.inl ⟨by rfl, ?_⟩) hHeld ?_
    rotate_left
    · (intro wz hSw; (try dsimp only at hSw); (try simp only [List.getElem_toArray, List.getElem_cons_succ, List.getElem_cons_zero]); go_simp; try with_reducible rfl)
    try simp only [List.getElem_toArray, List.getElem_cons_succ, List.getElem_cons_zero, Act.put, List.setIfInBounds_toArray, List.set_cons_zero, List.set_cons_succ]
    refine wpAnyH_take (i := 5) (v := ?_) rfl (by kernel_rfl) (by kernel_rfl) (by kernel_rfl) (fun _ _ _ h => h) (Or.inl ⟨by rfl, ?_⟩) hHeld ?_
    rotate_left
    · (intro wz hSw; (try dsimp only at hSw); (try simp only [List.getElem_toArray, List.getElem_cons_succ, List.getElem_cons_zero]); go_simp; try with_reducible rfl)
    try simp only [List.getElem_toArray, List.getElem_cons_succ, List.getElem_cons_zero, Act.put, List.setIfInBounds_toArray, List.set_cons_zero, List.set_cons_succ]
    refine wpAnyH_take (i := 6) (v := ?_) rfl (by kernel_rfl) (by kernel_rfl) (by kernel_rfl) (fun _ _ _ h => h) (Or.inl ⟨by rfl, ?_⟩) hHeld ?_
    rotate_left
    · (intro wz hSw; (try dsimp only at hSw); (try simp only [List.getElem_toArray, List.getElem_cons_succ, List.getElem_cons_zero]); go_simp; try with_reducible rfl)
    try simp only [List.getElem_toArray, List.getElem_cons_succ, List.getElem_cons_zero, Act.put, List.setIfInBounds_toArray, List.set_cons_zero, List.set_cons_succ]
    refine wpAnyH_take (i := 7) (v := undef) rfl (by kernel_rfl) (by kernel_rfl) (by kernel_rfl) (fun _ _ _ h => h) (Or.inr ⟨by rfl, rfl⟩) hHeld ?_
    try simp only [List.getElem_toArray, List.getElem_cons_succ, List.getElem_cons_zero, Act.put, List.setIfInBounds_toArray, List.set_cons_zero, List.set_cons_succ]
    refine wpAnyH_take (i := 8) (v := undef) rfl (by kernel_rfl) (by kernel_rfl) (by kernel_rfl) (fun _ _ _ h => h) (Or.inr ⟨by rfl, rfl⟩) hHeld ?_
    try simp only [List.getElem_toArray, List.getElem_cons_succ, List.getElem_cons_zero, Act.put, List.setIfInBounds_toArray, List.set_cons_zero, List.set_cons_succ]
    refine wpAnyH_take (i := 9) (v := undef) rfl (by kernel_rfl) (by kernel_rfl) (by kernel_rfl) (fun _ _ _ h => h) (Or.inr ⟨by rfl, rfl⟩) hHeld ?_
    try simp only [List.getElem_toArray, List.getElem_cons_succ, List.getElem_cons_zero, Act.put, List.setIfInBounds_toArray, List.set_cons_zero, List.set_cons_succ]
    refine wpAnyH_take (i := 10) (v := undef) rfl (by kernel_rfl) (by kernel_rfl) (by kernel_rfl) (fun _ _ _ h => h) (Or.inr ⟨by rfl, rfl⟩) hHeld ?_
    try simp only [List.getElem_toArray, List.getElem_cons_succ, List.getElem_cons_zero, Act.put, List.setIfInBounds_toArray, List.set_cons_zero, List.set_cons_succ]
    refine wpAnyH_take (i := 11) (v := undef) rfl (by kernel_rfl) (by kernel_rfl) (by kernel_rfl) (fun _ _ _ h => h) (Or.inr ⟨by rfl, rfl⟩) hHeld ?_
    try simp only [List.getElem_toArray, List.getElem_cons_succ, List.getElem_cons_zero, Act.put, List.setIfInBounds_toArray, List.set_cons_zero, List.set_cons_succ]
    refine wpAnyH_take (i := 12) (v := undef) rfl (by kernel_rfl) (by kernel_rfl) (by kernel_rfl) (fun _ _ _ h => h) (Or.inr ⟨by rfl, rfl⟩) hHeld ?_
    try simp only [List.getElem_toArray, List.getElem_cons_succ, List.getElem_cons_zero, Act.put, List.setIfInBounds_toArray, List.set_cons_zero, List.set_cons_succ]
    refine wpAnyH_take (i := 13) (v := ?_) rfl (by kernel_rfl) (by kernel_rfl) (by kernel_rfl) (fun _ _ _ h => h) (Or.inl ⟨by rfl, ?_⟩) hHeld ?_
    rotate_left
    · (intro wz hSw; (try dsimp only at hSw); (try simp only [List.getElem_toArray, List.getElem_cons_succ, List.getElem_cons_zero]); go_simp; try with_reducible rfl)
    try simp only [List.getElem_toArray, List.getElem_cons_succ, List.getElem_cons_zero, Act.put, List.setIfInBounds_toArray, List.set_cons_zero, List.set_cons_succ]
    refine wpAnyH_ready (rs := [14]) (by kernel_rfl) (by simp) ?_; refine AllReadyH.cons rfl (fun K hK => ?_) AllReadyH.nil
    rw [if_pos (by rfl)]
    refine wp_store_mid 48 _ _ (by rfl) Z 0 y.v.toArray (by rfl) (by rfl) (there_of_block (o := 0) (n := 45) HOD.out.z (Nat.le_of_ble_eq_true rfl)) (by kernel_rfl) (one_all rfl) ?_
    have hs := block_setCells y.v 0 HOD.out.z
    obtain ⟨we, hwe⟩ : ∃ z : World, wd.setCells Z 0 y.v = z := ⟨_, rfl⟩
    rw [hwe] at hs
    rw [show (wd.setCells Z 0 y.v.toArray.toList) = we from hwe]
    have hAe := stays_at hs.2 HOD.out.a hZA.symm
    have hRe := stays_at hs.2 hRq hRZ
    refine hK.out _ _ ⟨hAe, block_cells hRe⟩ (fun _ => ?_)
    clear hK K hHeld
    try simp only [List.getElem_toArray, List.getElem_cons_succ, List.getElem_cons_zero, Act.put]
    have hHeld : we.heap[A]? = some (.cells y.v.toArray 48 (0, 0)) ∧ ∀ j, we.cell? ⟨R, j, none⟩ = #[.slice rp ys5.length rcp, .bool true][j]? := ⟨hAe, block_cells hRe⟩
    refine wpAnyH_take (i := 15) (v := ?_) rfl (by kernel_rfl) (by kernel_rfl) (by kernel_rfl) (fun _ _ _ h => h) (Or.inl ⟨by rfl, ?_⟩) hHeld ?_
    rotate_left
    · (intro wz hSw; (try dsimp only at hSw); (try simp only [List.getElem_toArray, List.getElem_cons_succ, List.getElem_cons_zero]); go_simp; try with_reducible rfl)
    try simp only [List.getElem_toArray, List.getElem_cons_succ, List.getElem_cons_zero, Act.put, List.setIfInBounds_toArray, List.set_cons_zero, List.set_cons_succ]
    refine wpAnyH_done (by kernel_rfl) ?_ _
    have hZe : we.heap[Z]? = some (.cells y.v.toArray 48 (0, 0)) := by rw [← hwe]; exact block_all HOD.out.z rfl
    have HZe := Lib.hid hZe
    have HBe := Lib.hid (And.intro (HOD.out.bl.grown hs.2 HOD.out.lt (fun k e => by cases e; omega)) (grown_new HOD.out.g hs.2 (fun k e => by cases e; exact HOD.out.nZ)))
    have HOe := Lib.hid (HOD.out.o.kept hs.2 (own_other HOD.out.o HOD.out.z (by decide)))
    clear hHeld hs hwe hAe hRe hRq hZe
    go_wp2_with fail
    refine bodyPost_ret (v := .tuple #[.agg y.v.toArray, .bool false]) ?_ rfl ?_
    · rw [results_cell_tmp rfl]
      simp [asAddr, run_loadVar_row we Z _ _ _ _ _ HZe.out Try.underlying48 rfl (by kernel_rfl), Result.andThen]
    · refine ⟨y, ?_, HBe.out, ?_⟩
      · rw [HS.out]; simp [allR]
      · intro rc h; rw [HS.out] at h; exact ⟨HRC.out rc h, HOe.out⟩
  · subst hb
    have hy0 := hy
    have hl0 : ys5.length = 0 := by rw [hy]; rfl
    have hl1 : ((ys5.length : Int) == 0) = true := by rw [hl0]; rfl
    clear hy0 hy
    have hy := List.eq_nil_of_length_eq_zero hl0
    have HY := Lib.hid hy
    clear hy hl0
    go_upto_region 25 with fail
    obtain ⟨wd, ewd⟩ : ∃ z, wy.drew = z := ⟨_, rfl⟩
    have HOD := Lib.hid (show OnW B0 B A Z R w wd _ _ y from HOY.out.keep (by rw [← ewd]; exact (Below.refl _ _).drew))
    obtain ⟨hBR, rp, rcp, hRq, _⟩ := HOD.out.r.r
    have HZR := Lib.hid (show Z ≠ R from hRZ.symm)
    refine wp_region_held_drew (S := fun w' => w'.heap[A]? = some (.cells y.v.toArray 48 (0, 0)) ∧ ∀ j, w'.cell? ⟨R, j, none⟩ = #[.slice rp ys5.length rcp, .bool false][j]?) (by kernel_rfl) (by rw [ewd]; exact ⟨HOD.out.a, block_cells hRq⟩) (fun hHeld => ?_)
    rw [ewd] at hHeld ⊢
    clear ewd
    refine wpAnyH_take (i := 0) (v := .agg y.v.toArray) rfl (by kernel_rfl) (by kernel_rfl) (by kernel_rfl) (fun _ _ _ h => h) (yieldsIf_load_mid (by rfl) _ _ rfl A 0 rfl y.v _ (fun w' h => range_of (n := 45) rfl (fun j _ => by rw [Nat.zero_add, block_cells h.1, List.getElem?_toArray])) Try.underlying48 rfl (by kernel_rfl)) hHeld ?_
    try simp only [List.getElem_toArray, List.getElem_cons_zero, Act.put, List.setIfInBounds_toArray, List.set_cons_zero, List.set_cons_succ]
    refine wpAnyH_take (i := 1) (v := ?_) rfl (by kernel_rfl) (by kernel_rfl) (by kernel_rfl) (fun _ _ _ h => h) (Or.inl ⟨by rfl, ?_⟩) hHeld ?_
    rotate_left
    · (intro wz hSw; (try dsimp only at hSw); (try simp only [List.getElem_toArray, List.getElem_cons_succ, List.getElem_cons_zero]); go_simp; try with_reducible rfl)
    try simp only [List.getElem_toArray, List.getElem_cons_succ, List.getElem_cons_zero, Act.put, List.setIfInBounds_toArray, List.set_cons_zero, List.set_cons_succ]
    refine wpAnyH_take (i := 2) (v := ?_) rfl (by kernel_rfl) (by kernel_rfl) (by kernel_rfl) (fun _ _ _ h => h) (Or.inl ⟨by rfl, ?_⟩) hHeld ?_
    rotate_left
    · (intro wz hSw; (try dsimp only at hSw); (try simp only [List.getElem_toArray, List.getElem_cons_succ, List.getElem_cons_zero]); go_simp; try with_reducible rfl)
    try simp only [List.getElem_toArray, List.getElem_cons_succ, List.getElem_cons_zero, Act.put, List.setIfInBounds_toArray, List.set_cons_zero, List.set_cons_succ]
    refine wpAnyH_take (i := 3) (v := ?_) rfl (by kernel_rfl) (by kernel_rfl) (by kernel_rfl) (fun _ _ _ h => h) (Or.inl ⟨by rfl, ?_⟩) hHeld ?_
    rotate_left
    · (intro wz hSw; (try dsimp only at hSw); (try simp only [List.getElem_toArray, List.getElem_cons_succ, List.getElem_cons_zero]); go_simp; try with_reducible rfl)
    try simp only [List.getElem_toArray, List.getElem_cons_succ, List.getElem_cons_zero, Act.put, List.setIfInBounds_toArray, List.set_cons_zero, List.set_cons_succ]
    refine wpAnyH_take (i := 4) (v := ?_) rfl (by kernel_rfl) (by kernel_rfl) (by kernel_rfl) (fun _ _ _ h => h) (Or.inl ⟨by rfl, ?_⟩) hHeld ?_
    rotate_left
    · (intro wz hSw; (try dsimp only at hSw); (try simp only [List.getElem_toArray, List.getElem_cons_succ, List.getElem_cons_zero]); go_simp; try with_reducible rfl)
    try simp only [List.getElem_toArray, List.getElem_cons_succ, List.getElem_cons_zero, Act.put, List.setIfInBounds_toArray, List.set_cons_zero, List.set_cons_succ]
    refine wpAnyH_take (i := 5) (v := ?_) rfl (by kernel_rfl) (by kernel_rfl) (by kernel_rfl) (fun _ _ _ h => h) (Or.inl ⟨by rfl, ?_⟩) hHeld ?_
    rotate_left
    · (intro wz hSw; (try dsimp only at hSw); (try simp only [List.getElem_toArray, List.getElem_cons_succ, List.getElem_cons_zero]); go_simp; try with_reducible rfl)
    try simp only [List.getElem_toArray, List.getElem_cons_succ, List.getElem_cons_zero, Act.put, List.setIfInBounds_toArray, List.set_cons_zero, List.set_cons_succ]
    refine wpAnyH_take (i := 6) (v := ?_) rfl (by kernel_rfl) (by kernel_rfl) (by kernel_rfl) (fun _ _ _ h => h) (Or.inl ⟨by rfl, ?_⟩) hHeld ?_
    rotate_left
    · (intro wz hSw; (try dsimp only at hSw); (try simp only [List.getElem_toArray, List.getElem_cons_succ, List.getElem_cons_zero]); go_simp; try with_reducible rfl)
    try simp only [List.getElem_toArray, List.getElem_cons_succ, List.getElem_cons_zero, Act.put, List.setIfInBounds_toArray, List.set_cons_zero, List.set_cons_succ]
    refine wpAnyH_take (i := 7) (v := ?_) rfl (by kernel_rfl) (by kernel_rfl) (by kernel_rfl) (fun _ _ _ h => h) (Or.inl ⟨by rfl, ?_⟩) hHeld ?_
    rotate_left
    · (intro wz hSw; (try dsimp only at hSw); (try simp only [List.getElem_toArray, List.getElem_cons_succ, List.getElem_cons_zero]); go_simp; try with_reducible rfl)
    try simp only [List.getElem_toArray, List.getElem_cons_succ, List.getElem_cons_zero, Act.put, List.setIfInBounds_toArray, List.set_cons_zero, List.set_cons_succ]
    refine wpAnyH_take (i := 8) (v := ?_) rfl (by kernel_rfl) (by kernel_rfl) (by kernel_rfl) (fun _ _ _ h => h) (Or.inl ⟨by rfl, ?_⟩) hHeld ?_
    rotate_left
    · (intro wz hSw; (try dsimp only at hSw); (try simp only [List.getElem_toArray, List.getElem_cons_succ, List.getElem_cons_zero]); go_simp; try with_reducible rfl)
    try simp only [List.getElem_toArray, List.getElem_cons_succ, List.getElem_cons_zero, Act.put, List.setIfInBounds_toArray, List.set_cons_zero, List.set_cons_succ]
    refine wpAnyH_take (i := 9) (v := ?_) rfl (by kernel_rfl) (by kernel_rfl) (by kernel_rfl) (fun _ _ _ h => h) (Or.inl ⟨by rfl, ?_⟩) hHeld ?_
    rotate_left
    · (intro wz hSw; (try dsimp only at hSw); (try simp only [List.getElem_toArray, List.getElem_cons_succ, List.getElem_cons_zero]); go_simp; try with_reducible rfl)
    try simp only [List.getElem_toArray, List.getElem_cons_succ, List.getElem_cons_zero, Act.put, List.setIfInBounds_toArray, List.set_cons_zero, List.set_cons_succ]
    refine wpAnyH_take (i := 10) (v := ?_) rfl (by kernel_rfl) (by kernel_rfl) (by kernel_rfl) (fun _ _ _ h => h) (Or.inl ⟨by rfl, ?_⟩) hHeld ?_
    rotate_left
    · (intro wz hSw; (try dsimp only at hSw); (try simp only [List.getElem_toArray, List.getElem_cons_succ, List.getElem_cons_zero]); go_simp; try with_reducible rfl)
    try simp only [List.getElem_toArray, List.getElem_cons_succ, List.getElem_cons_zero, Act.put, List.setIfInBounds_toArray, List.set_cons_zero, List.set_cons_succ]
    refine wpAnyH_take (i := 11) (v := ?_) rfl (by kernel_rfl) (by kernel_rfl) (by kernel_rfl) (fun _ _ _ h => h) (Or.inl ⟨by rfl, ?_⟩) hHeld ?_
    rotate_left
    · (intro wz hSw; (try dsimp only at hSw); (try simp only [List.getElem_toArray, List.getElem_cons_succ, List.getElem_cons_zero]); go_simp; try with_reducible rfl)
    try simp only [List.getElem_toArray, List.getElem_cons_succ, List.getElem_cons_zero, Act.put, List.setIfInBounds_toArray, List.set_cons_zero, List.set_cons_succ]
    refine wpAnyH_take (i := 12) (v := ?_) rfl (by kernel_rfl) (by kernel_rfl) (by kernel_rfl) (fun _ _ _ h => h) (Or.inl ⟨by rfl, ?_⟩) hHeld ?_
    rotate_left
    · (intro wz hSw; (try dsimp only at hSw); (try simp only [List.getElem_toArray, List.getElem_cons_succ, List.getElem_cons_zero]); go_simp; try with_reducible rfl)
    try simp only [List.getElem_toArray, List.getElem_cons_succ, List.getElem_cons_zero, Act.put, List.setIfInBounds_toArray, List.set_cons_zero, List.set_cons_succ]
    refine wpAnyH_take (i := 13) (v := ?_) rfl (by kernel_rfl) (by kernel_rfl) (by kernel_rfl) (fun _ _ _ h => h) (Or.inl ⟨by rfl, ?_⟩) hHeld ?_
    rotate_left
    · (intro wz hSw; (try dsimp only at hSw); (try simp only [List.getElem_toArray, List.getElem_cons_succ, List.getElem_cons_zero]); go_simp; try with_reducible rfl)
    try simp only [List.getElem_toArray, List.getElem_cons_succ, List.getElem_cons_zero, Act.put, List.setIfInBounds_toArray, List.set_cons_zero, List.set_cons_succ]
    refine wpAnyH_ready (rs := [14]) (by kernel_rfl) (by simp) ?_; refine AllReadyH.cons rfl (fun K hK => ?_) AllReadyH.nil
    rw [if_pos (by rfl)]
    refine wp_store_mid 48 _ _ (by rfl) Z 0 y.v.toArray (by rfl) (by rfl) (there_of_block (o := 0) (n := 45) HOD.out.z (Nat.le_of_ble_eq_true rfl)) (by kernel_rfl) (one_all rfl) ?_
    have hs := block_setCells y.v 0 HOD.out.z
    obtain ⟨we, hwe⟩ : ∃ z : World, wd.setCells Z 0 y.v = z := ⟨_, rfl⟩
    rw [hwe] at hs
    rw [show (wd.setCells Z 0 y.v.toArray.toList) = we from hwe]
    have hAe := stays_at hs.2 HOD.out.a hZA.symm
    have hRe := stays_at hs.2 hRq hRZ
    refine hK.out _ _ ⟨hAe, block_cells hRe⟩ (fun _ => ?_)
    clear hK K hHeld
    try simp only [List.getElem_toArray, List.getElem_cons_succ, List.getElem_cons_zero, Act.put]
    have hHeld : we.heap[A]? = some (.cells y.v.toArray 48 (0, 0)) ∧ ∀ j, we.cell? ⟨R, j, none⟩ = #[.slice rp ys5.length rcp, .bool false][j]? := ⟨hAe, block_cells hRe⟩
    refine wpAnyH_take (i := 15) (v := ?_) rfl (by kernel_rfl) (by kernel_rfl) (by kernel_rfl) (fun _ _ _ h => h) (Or.inl ⟨by rfl, ?_⟩) hHeld ?_
    rotate_left
    · (intro wz hSw; (try dsimp only at hSw); (try simp only [List.getElem_toArray, List.getElem_cons_succ, List.getElem_cons_zero]); go_simp; try with_reducible rfl)
    try simp only [List.getElem_toArray, List.getElem_cons_succ, List.getElem_cons_zero, Act.put, List.setIfInBounds_toArray, List.set_cons_zero, List.set_cons_succ]
    refine wpAnyH_done (by kernel_rfl) ?_ _
    have hZe : we.heap[Z]? = some (.cells y.v.toArray 48 (0, 0)) := by rw [← hwe]; exact block_all HOD.out.z rfl
    have HZe := Lib.hid hZe
    have HBe := Lib.hid (And.intro (HOD.out.bl.grown hs.2 HOD.out.lt (fun k e => by cases e; omega)) (grown_new HOD.out.g hs.2 (fun k e => by cases e; exact HOD.out.nZ)))
    have HOe := Lib.hid (HOD.out.o.kept hs.2 (own_other HOD.out.o HOD.out.z (by decide)))
    clear hHeld hs hwe hAe hRe hRq hZe
    go_wp2_with fail
    refine bodyPost_ret (v := .tuple #[.agg y.v.toArray, .bool true]) ?_ rfl ?_
    · rw [results_cell_tmp rfl]
      simp [asAddr, run_loadVar_row we Z _ _ _ _ _ HZe.out Try.underlying48 rfl (by kernel_rfl), Result.andThen]
    · refine ⟨y, ?_, HBe.out, ?_⟩
      · rw [HS.out]; rw [HY.out]; rfl
      · intro rc h; rw [HS.out] at h; exact ⟨HRC.out rc h, HOe.out⟩
  · subst hb
    have hl0 : 0 < ys5.length := List.length_pos_iff.2 hy
    have hl1 : ((ys5.length : Int) == 0) = false := by simp; exact hy
    have HY := Lib.hid hy
    clear hy
    go_upto_region 25 with fail
    obtain ⟨wd, ewd⟩ : ∃ z, wy.drew = z := ⟨_, rfl⟩
    have HOD := Lib.hid (show OnW B0 B A Z R w wd _ _ y from HOY.out.keep (by rw [← ewd]; exact (Below.refl _ _).drew))
    obtain ⟨hBR, rp, rcp, hRq, _⟩ := HOD.out.r.r
    have HZR := Lib.hid (show Z ≠ R from hRZ.symm)
    refine wp_region_held_drew (S := fun w' => w'.heap[A]? = some (.cells y.v.toArray 48 (0, 0)) ∧ ∀ j, w'.cell? ⟨R, j, none⟩ = #[.slice rp ys5.length rcp, .bool false][j]?) (by kernel_rfl) (by rw [ewd]; exact ⟨HOD.out.a, block_cells hRq⟩) (fun hHeld => ?_)
    rw [ewd] at hHeld ⊢
    clear ewd
    refine wpAnyH_take (i := 0) (v := .agg y.v.toArray) rfl (by kernel_rfl) (by kernel_rfl) (by kernel_rfl) (fun _ _ _ h => h) (yieldsIf_load_mid (by rfl) _ _ rfl A 0 rfl y.v _ (fun w' h => range_of (n := 45) rfl (fun j _ => by rw [Nat.zero_add, block_cells h.1, List.getElem?_toArray])) Try.underlying48 rfl (by kernel_rfl)) hHeld ?_
    try simp only [List.getElem_toArray, List.getElem_cons_zero, Act.put, List.setIfInBounds_toArray, List.set_cons_zero, List.set_cons_succ]
    refine wpAnyH_take (i := 1) (v := ?_) rfl (by kernel_rfl) (by kernel_rfl) (by kernel_rfl) (fun _ _ _ h => h) (Or.inl ⟨by rfl, ?_⟩) hHeld ?_
    rotate_left
    · (intro wz hSw; (try dsimp only at hSw); (try simp only [List.getElem_toArray, List.getElem_cons_succ, List.getElem_cons_zero]); go_simp; try with_reducible rfl)
    try simp only [List.getElem_toArray, List.getElem_cons_succ, List.getElem_cons_zero, Act.put, List.setIfInBounds_toArray, List.set_cons_zero, List.set_cons_succ]
    refine wpAnyH_take (i := 2) (v := ?_) rfl (by kernel_rfl) (by kernel_rfl) (by kernel_rfl) (fun _ _ _ h => h) (Or.inl ⟨by rfl, ?_⟩) hHeld ?_
    rotate_left
    · (intro wz hSw; (try dsimp only at hSw); (try simp only [List.getElem_toArray, List.getElem_cons_succ, List.getElem_cons_zero]); go_simp; try with_reducible rfl)
    try simp only [List.getElem_toArray, List.getElem_cons_succ, List.getElem_cons_zero, Act.put, List.setIfInBounds_toArray, List.set_cons_zero, List.set_cons_succ]
    refine wpAnyH_take (i := 3) (v := ?_) rfl (by kernel_rfl) (by kernel_rfl) (by kernel_rfl) (fun _ _ _ h => h) (Or.inl ⟨by rfl, ?_⟩) hHeld ?_
    rotate_left
    · (intro wz hSw; (try dsimp only at hSw); (try simp only [List.getElem_toArray, List.getElem_cons_succ, List.getElem_cons_zero]); go_simp; try with_reducible rfl)
    try simp only [List.getElem_toArray, List.getElem_cons_succ, List.getElem_cons_zero, Act.put, List.setIfInBounds_toArray, List.set_cons_zero, List.set_cons_succ]
    refine wpAnyH_take (i := 4) (v := ?_) rfl (by kernel_rfl) (by kernel_rfl) (by kernel_rfl) (fun _ _ _ h => h) (Or.inl ⟨by rfl, ?_⟩) hHeld ?_
    rotate_left
    · (intro wz hSw; (try dsimp only at hSw); (try simp only [List.getElem_toArray, List.getElem_cons_succ, List.getElem_cons_zero]); go_simp; try with_reducible rfl)
    try simp only [List.getElem_toArray, List.getElem_cons_succ, List.getElem_cons_zero, Act.put, List.setIfInBounds_toArray, List.set_cons_zero, List.set_cons_succ]
    refine wpAnyH_take (i := 5) (v := ?_) rfl (by kernel_rfl) (by kernel_rfl) (by kernel_rfl) (fun _ _ _ h => h) (Or.inl ⟨by rfl, ?_⟩) hHeld ?_
    rotate_left
    · (intro wz hSw; (try dsimp only at hSw); (try simp only [List.getElem_toArray, List.getElem_cons_succ, List.getElem_cons_zero]); go_simp; try with_reducible rfl)
    try simp only [List.getElem_toArray, List.getElem_cons_succ, List.getElem_cons_zero, Act.put, List.setIfInBounds_toArray, List.set_cons_zero, List.set_cons_succ]
    refine wpAnyH_take (i := 6) (v := ?_) rfl (by kernel_rfl) (by kernel_rfl) (by kernel_rfl) (fun _ _ _ h => h) (Or.inl ⟨by rfl, ?_⟩) hHeld ?_
    rotate_left
    · (intro wz hSw; (try dsimp only at hSw); (try simp only [List.getElem_toArray, List.getElem_cons_succ, List.getElem_cons_zero]); go_simp; try with_reducible rfl)
    try simp only [List.getElem_toArray, List.getElem_cons_succ, List.getElem_cons_zero, Act.put, List.setIfInBounds_toArray, List.set_cons_zero, List.set_cons_succ]
    refine wpAnyH_take (i := 7) (v := ?_) rfl (by kernel_rfl) (by kernel_rfl) (by kernel_rfl) (fun _ _ _ h => h) (Or.inl ⟨by rfl, ?_⟩) hHeld ?_
    rotate_left
    · (intro wz hSw; (try dsimp only at hSw); (try simp only [List.getElem_toArray, List.getElem_cons_succ, List.getElem_cons_zero]); go_simp; try with_reducible rfl)
    try simp only [List.getElem_toArray, List.getElem_cons_succ, List.getElem_cons_zero, Act.put, List.setIfInBounds_toArray, List.set_cons_zero, List.set_cons_succ]
    refine wpAnyH_take (i := 8) (v := ?_) rfl (by kernel_rfl) (by kernel_rfl) (by kernel_rfl) (fun _ _ _ h => h) (Or.inl ⟨by rfl, ?_⟩) hHeld ?_
    rotate_left
    · (intro wz hSw; (try dsimp only at hSw); (try simp only [List.getElem_toArray, List.getElem_cons_succ, List.getElem_cons_zero]); go_simp; try with_reducible rfl)
    try simp only [List.getElem_toArray, List.getElem_cons_succ, List.getElem_cons_zero, Act.put, List.setIfInBounds_toArray, List.set_cons_zero, List.set_cons_succ]
    refine wpAnyH_take (i := 9) (v := ?_) rfl (by kernel_rfl) (by kernel_rfl) (by kernel_rfl) (fun _ _ _ h => h) (Or.inl ⟨by rfl, ?_⟩) hHeld ?_
    rotate_left
    · (intro wz hSw; (try dsimp only at hSw); (try simp only [List.getElem_toArray, List.getElem_cons_succ, List.getElem_cons_zero]); go_simp; try with_reducible rfl)
    try simp only [List.getElem_toArray, List.getElem_cons_succ, List.getElem_cons_zero, Act.put, List.setIfInBounds_toArray, List.set_cons_zero, List.set_cons_succ]
    refine wpAnyH_take (i := 10) (v := ?_) rfl (by kernel_rfl) (by kernel_rfl) (by kernel_rfl) (fun _ _ _ h => h) (Or.inl ⟨by rfl, ?_⟩) hHeld ?_
    rotate_left
    · (intro wz hSw; (try dsimp only at hSw); (try simp only [List.getElem_toArray, List.getElem_cons_succ, List.getElem_cons_zero]); go_simp; try with_reducible rfl)
    try simp only [List.getElem_toArray, List.getElem_cons_succ, List.getElem_cons_zero, Act.put, List.setIfInBounds_toArray, List.set_cons_zero, List.set_cons_succ]
    refine wpAnyH_take (i := 11) (v := ?_) rfl (by kernel_rfl) (by kernel_rfl) (by kernel_rfl) (fun _ _ _ h => h) (Or.inl ⟨by rfl, ?_⟩) hHeld ?_
    rotate_left
    · (intro wz hSw; (try dsimp only at hSw); (try simp only [List.getElem_toArray, List.getElem_cons_succ, List.getElem_cons_zero]); go_simp; try with_reducible rfl)
    try simp only [List.getElem_toArray, List.getElem_cons_succ, List.getElem_cons_zero, Act.put, List.setIfInBounds_toArray, List.set_cons_zero, List.set_cons_succ]
    refine wpAnyH_take (i := 12) (v := ?_) rfl (by kernel_rfl) (by kernel_rfl) (by kernel_rfl) (fun _ _ _ h => h) (Or.inl ⟨by rfl, ?_⟩) hHeld ?_
    rotate_left
    · (intro wz hSw; (try dsimp only at hSw); (try simp only [List.getElem_toArray, List.getElem_cons_succ, List.getElem_cons_zero]); go_simp; try with_reducible rfl)
    try simp only [List.getElem_toArray, List.getElem_cons_succ, List.getElem_cons_zero, Act.put, List.setIfInBounds_toArray, List.set_cons_zero, List.set_cons_succ]
    refine wpAnyH_take (i := 13) (v := ?_) rfl (by kernel_rfl) (by kernel_rfl) (by kernel_rfl) (fun _ _ _ h => h) (Or.inl ⟨by rfl, ?_⟩) hHeld ?_
    rotate_left
    · (intro wz hSw; (try dsimp only at hSw); (try simp only [List.getElem_toArray, List.getElem_cons_succ, List.getElem_cons_zero]); go_simp; try with_reducible rfl)
    try simp only [List.getElem_toArray, List.getElem_cons_succ, List.getElem_cons_zero, Act.put, List.setIfInBounds_toArray, List.set_cons_zero, List.set_cons_succ]
    refine wpAnyH_ready (rs := [14]) (by kernel_rfl) (by simp) ?_; refine AllReadyH.cons rfl (fun K hK => ?_) AllReadyH.nil
    rw [if_pos (by rfl)]
    refine wp_store_mid 48 _ _ (by rfl) Z 0 y.v.toArray (by rfl) (by rfl) (there_of_block (o := 0) (n := 45) HOD.out.z (Nat.le_of_ble_eq_true rfl)) (by kernel_rfl) (one_all rfl) ?_
    have hs := block_setCells y.v 0 HOD.out.z
    obtain ⟨we, hwe⟩ : ∃ z : World, wd.setCells Z 0 y.v = z := ⟨_, rfl⟩
    rw [hwe] at hs
    rw [show (wd.setCells Z 0 y.v.toArray.toList) = we from hwe]
    have hAe := stays_at hs.2 HOD.out.a hZA.symm
    have hRe := stays_at hs.2 hRq hRZ
    refine hK.out _ _ ⟨hAe, block_cells hRe⟩ (fun _ => ?_)
    clear hK K hHeld
    try simp only [List.getElem_toArray, List.getElem_cons_succ, List.getElem_cons_zero, Act.put]
    have hHeld : we.heap[A]? = some (.cells y.v.toArray 48 (0, 0)) ∧ ∀ j, we.cell? ⟨R, j, none⟩ = #[.slice rp ys5.length rcp, .bool false][j]? := ⟨hAe, block_cells hRe⟩
    refine wpAnyH_take (i := 15) (v := ?_) rfl (by kernel_rfl) (by kernel_rfl) (by kernel_rfl) (fun _ _ _ h => h) (Or.inl ⟨by rfl, ?_⟩) hHeld ?_
    rotate_left
    · (intro wz hSw; (try dsimp only at hSw); (try simp only [List.getElem_toArray, List.getElem_cons_succ, List.getElem_cons_zero]); go_simp; try with_reducible rfl)
    try simp only [List.getElem_toArray, List.getElem_cons_succ, List.getElem_cons_zero, Act.put, List.setIfInBounds_toArray, List.set_cons_zero, List.set_cons_succ]
    refine wpAnyH_done (by kernel_rfl) ?_ _
    have hZe : we.heap[Z]? = some (.cells y.v.toArray 48 (0, 0)) := by rw [← hwe]; exact block_all HOD.out.z rfl
    have HZe := Lib.hid hZe
    have HBe := Lib.hid (And.intro (HOD.out.bl.grown hs.2 HOD.out.lt (fun k e => by cases e; omega)) (grown_new HOD.out.g hs.2 (fun k e => by cases e; exact HOD.out.nZ)))
    have HOe := Lib.hid (HOD.out.o.kept hs.2 (own_other HOD.out.o HOD.out.z (by decide)))
    clear hHeld hs hwe hAe hRe hRq hZe
    go_wp2_with fail
    refine bodyPost_ret (v := .tuple #[.agg y.v.toArray, .bool false]) ?_ rfl ?_
    · rw [results_cell_tmp rfl]
      simp [asAddr, run_loadVar_row we Z _ _ _ _ _ HZe.out Try.underlying48 rfl (by kernel_rfl), Result.andThen]
    · refine ⟨y, ?_, HBe.out, ?_⟩
      · rw [HS.out]; simp [allR, HY.out]
      · intro rc h; rw [HS.out] at h; exact ⟨HRC.out rc h, HOe.out⟩
end Go.Proofs.Ytjaabakobpabjaa
