import Derived.Test.YtjaabakobpabjaaHtJ
import Derived.Test.YtjaabakobpabjaaHtH
import Derived.Test.YtjaabakobpabjaaHardE
import Derived.Test.YtjaabakobpabjaaHsA
import Derived.Test.YtjaabakobpabjaaHsG
/- Hard: what is left of two lists of cores when the twins are written over. -/
namespace Go.Proofs.Ytjaabakobpabjaa
open Go.ChangeShapes Go.WideShapes Go.ChangeAt Go.RowKit

theorem BldEnd.two {w w' : World} {o : Option (Int × List Co)} {e : Ending} {life er : Int} {cs : List Co} (h : BldEnd w o e w') (hr : bldR o = (life, er, cs)) : ∃ p l c, e = .returned (.tuple #[.int .i64 life, .slice p l.length c, .int .i64 er]) ∧ l.map CoX.c = cs ∧ CsAt w.heap.size w' (.slice p l.length c) l ∧ Below w.heap.size w w' := by
  obtain ⟨v, l, rfl, h2, h3, h4⟩ := h.one
  rw [hr] at h2 ⊢
  obtain ⟨p, c, rfl⟩ := own_formH h3.own
  exact ⟨p, l, c, rfl, h2, h3, h4⟩
theorem CsAt.form {base : Nat} {w : World} {p : Option Addr} {n c : Nat} {l : List CoX} (h : CsAt base w (.slice p n c) l) {k : Nat} (hk : k < l.length) : ∃ g, p = some ⟨g, 0, none⟩ ∧ n = l.length := by
  rcases h.own.2 with ⟨-, h0⟩ | ⟨g, cap, cur, hv, -⟩
  · omega
  · simp only [Value.slice.injEq] at hv
    exact ⟨g, hv.1, hv.2.1⟩
theorem own_max {w : World} {base : Nat} {e : TypeId} {size n : Nat} {v : Value} {xs : List Value} (h : w.ownsRow base e size v n xs) : n ≤ 9223372036854775807 := by
  rcases h.2 with ⟨-, h0⟩ | ⟨g, cap, cur, hv, -, -, hn, hm, -⟩
  · omega
  · unfold maxLen at hm; omega
theorem stR_app (a b : List (List Int)) : stR (a ++ b) = stR a ++ stR b := by simp [stR]
/-- The twins as records. -/
def twR (M : List (Nat × List Int)) : List RcX := M.map fun x => ⟨some ⟨x.1, 0, none⟩, x.2.length + 3, x.2⟩
theorem twR_len (M : List (Nat × List Int)) : (twR M).length = M.length := List.length_map ..
theorem twR_xs (M : List (Nat × List Int)) : (twR M).map RcX.xs = M.map (·.2) := by unfold twR; rw [List.map_map]; rfl
theorem TwW.rc {base : Nat} {w : World} {p : Option Addr} {c : Nat} {M : List (Nat × List Int)} (h : TwW base w (.slice p M.length c) M) (hl : ∀ x ∈ M, x.2.length ≤ 6000) : RcAt w.heap.size w p (twR M) := fun k hk => by
  rw [twR_len] at hk
  obtain ⟨g, rfl, hg, hc⟩ := own_atH h.own hk
  have he := h.el M[k] (List.getElem_mem hk)
  have h6 := hl M[k] (List.getElem_mem hk)
  have e : (twR M)[k]'(by rw [twR_len]; exact hk) = ⟨some ⟨M[k].1, 0, none⟩, M[k].2.length + 3, M[k].2⟩ := List.getElem_map ..
  refine ⟨g, 0, rfl, hg, ?_, ?_⟩
  · rw [Nat.zero_add, hc k hk, List.getElem?_map, List.getElem?_eq_getElem hk, e]; rfl
  · rw [e]
    show Sl w.heap.size w (.slice (some ⟨(M[k]).1, 0, none⟩) (M[k]).2.length ((M[k]).2.length + 3)) 1 (M[k]).2.length (byt (M[k]).2)
    exact sl_row he.2 (by simp [byt]) (by simp [byt]) (by omega) (by unfold maxLen; omega)
/-- Behind the first twins' being written over: the others, both lists of cores. -/
structure SpI (b b1 b2 : Nat) (w0 : World) (v vl vm : Value) (M : List (Nat × List Int)) (l m : List CoX) (k : Nat) (w : World) : Prop where
  own : w.ownsRow b 32 1 v M.length (M.map twV)
  el : ∀ j, k ≤ j → ∀ hj : j < M.length, b ≤ (M[j]).1 ∧ w.heap[(M[j]).1]? = some (.cells (byt ((M[j]).2 ++ [229, 229, 229])).toArray 5 (0, 0))
  up : M.Pairwise (fun a b => a.1 < b.1)
  l : CsAt b1 w vl l
  m : CsAt b2 w vm m
  b : Below b w0 w
theorem SpI.next {b b1 b2 : Nat} {w0 w w' : World} {v vl vm : Value} {M : List (Nat × List Int)} {l m : List CoX} {k : Nat} (h : SpI b b1 b2 w0 v vl vm M l m k w) (hs : b ≤ w.heap.size) (hk : k < M.length) (hg : w.grownBy w' (some (M[k]).1)) : SpI b b1 b2 w0 v vl vm M l m (k + 1) w' := by
  obtain ⟨hb, hq⟩ := h.el k (Nat.le_refl _) hk
  refine ⟨h.own.kept hg (own_other h.own hq (by decide)), fun j hj hj' => ?_, h.up, h.l.grown hq (by decide) (by decide) hg, h.m.grown hq (by decide) (by decide) hg, h.b.grown hg hs (fun x hx => by cases hx; exact hb)⟩
  obtain ⟨h1, h2⟩ := h.el j (by omega) hj'
  refine ⟨h1, (hg.block _ (block_lt h2) (fun e => ?_)).trans h2⟩
  have hlt := (List.pairwise_iff_getElem.1 h.up) k j hk hj' (by omega)
  simp only [Option.some.injEq] at e
  omega
theorem SpI.row {b b1 b2 : Nat} {w0 w : World} {v vl vm : Value} {M : List (Nat × List Int)} {l m : List CoX} {k : Nat} (h : SpI b b1 b2 w0 v vl vm M l m k w) (hk : k < M.length) (hl : (M[k]).2.length ≤ 6000) : w.ownsRow b 5 1 (twV M[k]) (M[k]).2.length (byt (M[k]).2) := by
  obtain ⟨hb, hq⟩ := h.el k (Nat.le_refl _) hk
  refine ⟨by rw [byt_len, Nat.mul_one], .inr ⟨(M[k]).1, (M[k]).2.length + 3, _, rfl, hb, hq, by omega, by unfold maxLen; omega, ?_, ?_⟩⟩
  · simp [byt]
  · simp [byt]
end Go.Proofs.Ytjaabakobpabjaa
/- Hard: all that must last. -/
namespace Go.Proofs.Ytjaabakobpabjaa
open Go.ChangeShapes Go.WideShapes Go.ChangeAt Go.RowKit

/-- A range's core, and where its entries lie. -/
structure KpX where
  r : Int
  c : Co
  p : Option Addr
  k : Nat
def kpC (x : KpX) : List Value := [.int .i64 x.r, .int .i64 x.c.id, .int .i64 x.c.role, .int .i64 x.c.tm, .int .i64 x.c.vt, .int .i64 x.c.ld, .int .i64 x.c.wt, .int .i64 x.c.cm, .int .i64 x.c.sf, .int .i64 x.c.l.b, .int .i64 x.c.l.bt, .int .u16 x.c.l.j.ov, .int .u16 x.c.l.j.ox, .int .u16 x.c.l.j.ol, .int .i64 x.c.l.j.oe, .int .i64 x.c.l.j.ok, .int .u16 x.c.l.j.nv, .int .u16 x.c.l.j.nx, .int .u16 x.c.l.j.nl, .int .i64 x.c.l.j.ne, .int .i64 x.c.l.j.nk, .bool x.c.l.j.two, .slice x.p x.c.l.es.length x.k, .string x.c.sn, .int .u16 x.c.vs, .int .u16 x.c.hd, .int .i64 (x.c.nx 0), .int .i64 (x.c.nx 1), .int .i64 (x.c.nx 2), .int .i64 (x.c.nx 3), .int .i64 (x.c.nx 4), .int .i64 (x.c.nx 5), .int .i64 (x.c.nx 6), .int .i64 (x.c.nx 7), .int .i64 (x.c.nx 8), .int .i64 (x.c.nx 9), .int .i64 (x.c.mt 0), .int .i64 (x.c.mt 1), .int .i64 (x.c.mt 2), .int .i64 (x.c.mt 3), .int .i64 (x.c.mt 4), .int .i64 (x.c.mt 5), .int .i64 (x.c.mt 6), .int .i64 (x.c.mt 7), .int .i64 (x.c.mt 8), .int .i64 (x.c.mt 9)]
def KpAt (w : World) (q : Option Addr) (l : List KpX) : Prop := ∀ j, (hj : j < l.length) → ∃ g o, q = some ⟨g, o, none⟩ ∧ g < w.heap.size ∧ (∀ i, i < 46 → w.cell? ⟨g, o + j * 46 + i, none⟩ = (kpC l[j])[i]?) ∧ EnSl w (.slice l[j].p l[j].c.l.es.length l[j].k) l[j].c.l.es
theorem KpAt.keep {w w' : World} {q : Option Addr} {l : List KpX} (h : KpAt w q l) (hb : Below w.heap.size w w') : KpAt w' q l := fun j hj => by
  obtain ⟨g, o, e, hg, hc, he⟩ := h j hj
  exact ⟨g, o, e, Nat.lt_of_lt_of_le hg hb.size, fun i hi => (hb.cell (p := ⟨g, o + j * 46 + i, none⟩) hg).trans (hc i hi), he.keep hb (Nat.le_refl _)⟩
theorem BsW.one {base : Nat} {w : World} {v : Value} {M : List (Value × List Int)} (h : BsW base w v M) : ∀ u ∈ M.map (·.1), u.oneCell' = true := fun u hu => by
  obtain ⟨x, hx, rfl⟩ := List.mem_map.1 hu
  obtain ⟨p, c, e⟩ := own_formH (h.el x hx)
  rw [e]; rfl
theorem lg0_fit : LgFit co0.l := ⟨by decide, by decide, by decide⟩
end Go.Proofs.Ytjaabakobpabjaa
/- Hard: does hard do anything yet? -/
namespace Go.Proofs.Ytjaabakobpabjaa
open Go.ChangeShapes Go.WideShapes Go.ChangeAt Go.RowKit

def j3 : Jn := ⟨14, 0, 0, 2, 2, 0, 0, 0, 0, 0, false⟩
def co3 : Co := { co0 with tm := 3, vt := 1 }
theorem Try.infoJn : (Try.prog.info? 42).map (fun i => (i.zero, i.size, i.bytes)) = some (some (.agg #[.int .u16 jn0.ov, .int .u16 jn0.ox, .int .u16 jn0.ol, .int .i64 jn0.oe, .int .i64 jn0.ok, .int .u16 jn0.nv, .int .u16 jn0.nx, .int .u16 jn0.nl, .int .i64 jn0.ne, .int .i64 jn0.nk, .bool jn0.two]), 11, 56) := by kernel_rfl
set_option maxRecDepth 100000 in
theorem three_any (w : World) : Calls Try.prog 25 #[] w fun e w' => e = .returned (.agg (jnL j3).toArray) ∧ Below w.heap.size w w' := by
  go_enter Try.func25, Try.ntmps25
  go_wp2_with fail
  refine bodyPost_ret (v := .agg (jnL j3).toArray) ?_ rfl ⟨rfl, (Below.refl _ _).alloc (Nat.le_refl _) _⟩
  exact results_cell_row rfl _ _ w.heap.size _ _ _ _ (by rfl) (heap_last w _) Try.underlying42 rfl (by kernel_rfl)
theorem bld_B : bld 1 [j3] [recB 76 [7]] = some (7, [newCo 1 j3]) := by
  have h1 : recB 76 [7] = 76 :: encN 7 := by simp [recB]
  have h2 : rdNw (encN 7) false = (7, [], false) := by
    have := rdNw_ok.compl 7 [] (by unfold In64; omega)
    rwa [List.append_nil] at this
  have h3 := bldStep_life (s := (0, [newCo 1 j3])) h2
  unfold bld
  rw [h1]
  exact h3
theorem diff_B : diffB 0 co0 co3 = [recB 72 [0, 3, 1]] := by
  have h1 : hardB co0 co3 = true := by decide +kernel
  have h2 : snapB co0 co3 = false := by decide +kernel
  have h3 : wasL co0 co3 = lg0 := by unfold wasL; rw [h2]; rfl
  have h4 : preN lg0 co3.l.b co3.l.es = 0 := rfl
  have h5 : cutB co0 co3 = false := by unfold cutB; rw [h3, h4]; decide +kernel
  unfold diffB
  rw [h1, h2, h3, h4, h5]
  rfl
theorem co3_fit : CoF co3 := ⟨by unfold In64; decide, by unfold In64; decide, by unfold In64; decide, jo0_ok, by decide, fun e h => by cases h⟩
set_option maxRecDepth 100000 in
set_option maxHeartbeats 4000000 in
theorem begun15_any (w : World) : Calls Try.prog 6 #[] w fun e w' => e = .returned (.bool true) ∧ Below w.heap.size w w' := by
  obtain ⟨i0, hi0, hz0, hz1, hz2⟩ := info_parts Try.infoJn
  go_enter Try.func6, Try.ntmps6
  go_wp2_with fail
  refine (three_any w).mono ?_; rintro e w1 ⟨rfl, b1⟩
  have HB1 := Lib.hid b1
  clear b1
  go_wp2_with (with_reducible refine wpList_slice_one (o := ⟨some 7, _, _, _, _, _⟩) rfl _ 42 _ rfl (jnL j3) 11 i0 (.agg #[.int .u16 jn0.ov, .int .u16 jn0.ox, .int .u16 jn0.ol, .int .i64 jn0.oe, .int .i64 jn0.ok, .int .u16 jn0.nv, .int .u16 jn0.nx, .int .u16 jn0.nl, .int .i64 jn0.ne, .int .i64 jn0.nk, .bool jn0.two]) rfl (by kernel_rfl) (by decide) (by decide) Try.underlying22 hi0 hz0 hz1 ?_)
  obtain ⟨w2, hw⟩ : ∃ z : World, w1.alloc (.cells (jnL j3).toArray 42) = z := ⟨_, rfl⟩
  have b2 : Below w1.heap.size w1 w2 := by rw [← hw]; exact (Below.refl _ _).alloc (Nat.le_refl _) _
  have hJ : w2.heap[w1.heap.size]? = some (.cells (jnL j3).toArray 42 (0, 0)) := by rw [← hw]; exact heap_last w1 _
  (try rw [hw])
  obtain ⟨J, eJ⟩ : ∃ z, w1.heap.size = z := ⟨_, rfl⟩
  (try rw [eJ])
  rw [eJ] at hJ
  have HJ := Lib.hid hJ; have HB2 := Lib.hid (HB1.out.trans (b2.mono HB1.out.size))
  clear hw b2 hJ eJ HB1
  refine (hlife_any 7 w2 (by unfold In64; omega)).mono ?_; rintro e w3 ⟨v3, rfl, ho3, hb3⟩
  obtain ⟨p3, c3, rfl⟩ := own_formH ho3
  have HO3 := Lib.hid ho3; have HJ3 := Lib.hid (below_block hb3 (block_lt HJ.out) HJ.out); have HB3 := Lib.hid (HB2.out.trans (hb3.mono HB2.out.size))
  clear ho3 hb3
  go_wp2_with fail
  obtain ⟨w4, hw⟩ : ∃ z : World, w3.alloc (.cells #[.slice p3 (recB 76 [7]).length c3] 32) = z := ⟨_, rfl⟩
  have b4 : Below w3.heap.size w3 w4 := by rw [← hw]; exact (Below.refl _ _).alloc (Nat.le_refl _) _
  have hR : w4.heap[w3.heap.size]? = some (.cells #[.slice p3 (recB 76 [7]).length c3] 32 (0, 0)) := by rw [← hw]; exact heap_last w3 _
  (try rw [hw])
  have hR0 : w3.heap.size < w4.heap.size := block_lt hR
  obtain ⟨R, eR⟩ : ∃ z, w3.heap.size = z := ⟨_, rfl⟩
  (try rw [eR])
  rw [eR] at hR hR0
  have HR := Lib.hid hR; have HJ4 := Lib.hid (below_block b4 (block_lt HJ3.out) HJ3.out); have HB4 := Lib.hid (HB3.out.trans (b4.mono HB3.out.size)); have HO4 := Lib.hid (own_keptH HO3.out b4)
  clear hw b4 hR eR HO3 HJ3 HB3 HB2 HJ
  have HC := Lib.hid (show Calls Try.prog 9 #[.int .i64 1, .slice (some ⟨J, 0, none⟩) 1 1, .slice (some ⟨R, 0, none⟩) 1 1] w4 _ from hbuild_any 1 [j3] (some ⟨J, 0, none⟩) 1 [⟨p3, c3, recB 76 [7]⟩] (some ⟨R, 0, none⟩) 1 w4 (fun k hk => by
      obtain rfl : k = 0 := by simp at hk; omega
      exact ⟨J, 0, rfl, block_lt HJ4.out, fun i _ => by rw [Nat.zero_mul, Nat.zero_add, block_cells HJ4.out, List.getElem?_toArray]; rfl⟩) (fun k hk => by
      obtain rfl : k = 0 := by simp at hk; omega
      exact ⟨R, 0, rfl, hR0, block_cells HR.out 0, Sl.of_own HO4.out⟩) (fun r hr => by
      rw [List.mem_singleton] at hr
      rw [hr]
      have h1 : recB 76 [7] = 76 :: encN 7 := by simp [recB]
      refine ⟨fun x hx => ?_, ?_⟩
      · dsimp only at hx
        rw [h1] at hx
        rcases List.mem_cons.1 hx with rfl | hx
        · exact ⟨by decide, by decide⟩
        · exact encN_oct _ x hx
      · have := recB_len (c := 76) (l := [7]) (fun x hx => by rw [List.mem_singleton] at hx; rw [hx]; unfold In64; omega)
        simp at this
        dsimp only; omega) (by simp) (by simp))
  clear hR0
  go_wp2_with fail
  refine HC.out.mono ?_; rintro e w5 ⟨hb5, h5⟩
  simp only [List.map_cons, List.map_nil, bld_B] at h5
  obtain ⟨v, l, rfl, hl, hcs⟩ := h5
  obtain ⟨x, rfl, hx⟩ : ∃ x, l = [x] ∧ x.c = endCo (newCo 1 j3) := by
    cases l with
    | nil => simp at hl
    | cons x t =>
      cases t with
      | nil => exact ⟨x, rfl, by simpa using hl⟩
      | cons y t => simp at hl
  obtain ⟨G, cap, rfl⟩ : ∃ G cap, v = .slice (some ⟨G, 0, none⟩) [x].length cap := by
    rcases hcs.own.2 with ⟨-, hz⟩ | ⟨g', cap', cur, h', _⟩
    · simp at hz
    · exact ⟨g', cap', h'⟩
  have HCS := Lib.hid hcs; have HX := Lib.hid hx; have HB5 := Lib.hid (HB4.out.trans (hb5.mono HB4.out.size))
  clear hl hb5 hcs hx HC HR HJ4 HO4 HB4
  have HD := Lib.hid (show Calls Try.prog 16 #[.int .i64 0, .agg #[.int .i64 0, .int .i64 0, .int .i64 0, .int .i64 0, .int .i64 0, .int .i64 0, .int .i64 0, .int .i64 0, .int .i64 0, .int .i64 0, .int .u16 0, .int .u16 0, .int .u16 0, .int .i64 0, .int .i64 0, .int .u16 0, .int .u16 0, .int .u16 0, .int .i64 0, .int .i64 0, .bool false, .slice none 0 0, .string ⟨#[]⟩, .int .u16 0, .int .u16 0, .int .i64 0, .int .i64 0, .int .i64 0, .int .i64 0, .int .i64 0, .int .i64 0, .int .i64 0, .int .i64 0, .int .i64 0, .int .i64 0, .int .i64 0, .int .i64 0, .int .i64 0, .int .i64 0, .int .i64 0, .int .i64 0, .int .i64 0, .int .i64 0, .int .i64 0, .int .i64 0], .agg #[.int .i64 0, .int .i64 0, .int .i64 3, .int .i64 1, .int .i64 0, .int .i64 0, .int .i64 0, .int .i64 0, .int .i64 0, .int .i64 0, .int .u16 0, .int .u16 0, .int .u16 0, .int .i64 0, .int .i64 0, .int .u16 0, .int .u16 0, .int .u16 0, .int .i64 0, .int .i64 0, .bool false, .slice none 0 0, .string ⟨#[]⟩, .int .u16 0, .int .u16 0, .int .i64 0, .int .i64 0, .int .i64 0, .int .i64 0, .int .i64 0, .int .i64 0, .int .i64 0, .int .i64 0, .int .i64 0, .int .i64 0, .int .i64 0, .int .i64 0, .int .i64 0, .int .i64 0, .int .i64 0, .int .i64 0, .int .i64 0, .int .i64 0, .int .i64 0, .int .i64 0]] w5 (BsEnd w5 (diffB 0 co0 co3)) from hdiff_any 0 co0 co3 none none 0 0 w5 lg0_fit ⟨by decide, by decide, by decide⟩ (by unfold In64; omega) co3_fit ⟨rfl, .inl ⟨rfl, rfl⟩⟩ ⟨rfl, .inl ⟨rfl, rfl⟩⟩)
  go_wp2_with fail
  refine HD.out.mono ?_; rintro e w6 ⟨v6, M, rfl, hM, hBs, hb6⟩
  rw [diff_B] at hM
  obtain ⟨u, rfl⟩ : ∃ u, M = [(u, recB 72 [0, 3, 1])] := by
    cases M with
    | nil => simp at hM
    | cons y t =>
      cases t with
      | nil => simp only [List.map_cons, List.map_nil, List.cons.injEq, and_true] at hM; exact ⟨y.1, by rw [← hM]⟩
      | cons z t => simp at hM
  have hu := hBs.el _ (List.mem_singleton.2 rfl)
  dsimp only at hu
  obtain ⟨pu, cu, rfl⟩ := own_formH hu
  obtain ⟨q6, c6, rfl⟩ := own_formH hBs.own
  obtain ⟨D, rfl, -, hD⟩ := own_atH hBs.own (i := 0) (by simp)
  obtain ⟨U, rfl, -, hU⟩ := own_atH hu (i := 0) (by simp [recB])
  have hk2 := hD 0 (by simp)
  have hk3 := hU 0 (by simp [recB])
  have k2 : w6.cell? ⟨D, 0, none⟩ = some (.slice (some ⟨U, 0, none⟩) (recB 72 [0, 3, 1]).length cu) := hk2
  have k3 : w6.cell? ⟨U, 0, none⟩ = some (.int .u8 72) := hk3
  have k1 : w6.cell? ⟨G, 0, none⟩ = some (.int .i64 1) := by
    have := (HCS.out.keep hb6).cell (n := 0) (by simp) 0 (by decide)
    rw [Nat.zero_mul, Nat.zero_add] at this
    rw [this]
    show some (Value.int .i64 x.c.id) = _
    rw [HX.out]; rfl
  have HB6 := Lib.hid (HB5.out.trans (hb6.mono HB5.out.size))
  have hlu : 0 < (recB 72 [0, 3, 1]).length := by simp [recB]
  have hlu2 : (0 : Int) < ((recB 72 [0, 3, 1]).length : Int) := by omega
  clear hM hBs hb6 hu hD hU hk2 hk3 HD HB5 HCS HX
  go_wp2_with fail
  go_ret
  exact ⟨rfl, HB6.out⟩
end Go.Proofs.Ytjaabakobpabjaa
