/- Hard: does hard do anything yet? -/
import Derived.Test.YtjaabakobpabjaaHsG
import Derived.Test.YtjaabakobpabjaaHardG
namespace Go.Proofs.Ytjaabakobpabjaa
open Go.ChangeShapes Go.WideShapes Go.ChangeAt Go.RowKit

def j3 : Jn := ⟨14, 0, 0, 2, 2, 0, 0, 0, 0, 0, false⟩
def co3 : Co := { co0 with tm := 3, vt := 1 }
theorem Try.infoJn : (Try.prog.info? 42).map (fun i => (i.zero, i.size, i.bytes)) = some (some (.agg #[.int .u16 jn0.ov, .int .u16 jn0.ox, .int .u16 jn0.ol, .int .i64 jn0.oe, .int .i64 jn0.ok, .int .u16 jn0.nv, .int .u16 jn0.nx, .int .u16 jn0.nl, .int .i64 jn0.ne, .int .i64 jn0.nk, .bool jn0.two]), 11, 56) := by kernel_rfl
set_option maxRecDepth 100000 in
theorem three_any (w : World) : Calls Try.prog 25 #[] w fun e w' => e = .returned (.agg (jnL j3).toArray) ∧ Below w.heap.size w w' := by
  go_enter Try.func25, Try.ntmps25
  go_wp2_with fail
  refine bodyPost_ret (v := .agg (jnL j3).toArray) ?_ rfl ⟨rfl, (Below.refl _ _).alloc (Nat.le_refl _) _⟩
  exact results_cell_row rfl _ _ w.heap.size _ _ _ _ (by rfl) (heap_last w _) Try.underlying42 rfl (by kernel_rfl)
theorem bld_B : bld 1 [j3] [recB 76 [7]] = some (7, [newCo 1 j3]) := by
  have h1 : recB 76 [7] = 76 :: encN 7 := by simp [recB]
  have h2 : rdNw (encN 7) false = (7, [], false) := by
    have := rdNw_ok.compl 7 [] (by unfold In64; omega)
    rwa [List.append_nil] at this
  have h3 := bldStep_life (s := (0, [newCo 1 j3])) h2
  unfold bld
  rw [h1]
  exact h3
theorem diff_B : diffB 0 co0 co3 = [recB 72 [0, 3, 1]] := by
  have h1 : hardB co0 co3 = true := by decide +kernel
  have h2 : snapB co0 co3 = false := by decide +kernel
  have h3 : wasL co0 co3 = lg0 := by unfold wasL; rw [h2]; rfl
  have h4 : preN lg0 co3.l.b co3.l.es = 0 := rfl
  have h5 : cutB co0 co3 = false := by unfold cutB; rw [h3, h4]; decide +kernel
  unfold diffB
  rw [h1, h2, h3, h4, h5]
  rfl
theorem co3_fit : CoF co3 := ⟨by unfold In64; decide, by unfold In64; decide, by unfold In64; decide, jo0_ok, by decide, fun e h => by cases h⟩
set_option maxRecDepth 100000 in
set_option maxHeartbeats 4000000 in
theorem begun15_any (w : World) : Calls Try.prog 6 #[] w fun e w' => e = .returned (.bool true) ∧ Below w.heap.size w w' := by
  obtain ⟨i0, hi0, hz0, hz1, hz2⟩ := info_parts Try.infoJn
  go_enter Try.func6, Try.ntmps6
  go_wp2_with fail
  refine (three_any w).mono ?_; rintro e w1 ⟨rfl, b1⟩
  have HB1 := Lib.hid b1
  clear b1
  go_wp2_with (with_reducible refine wpList_slice_one (o := ⟨some 7, _, _, _, _, _⟩) rfl _ 42 _ rfl (jnL j3) 11 i0 (.agg #[.int .u16 jn0.ov, .int .u16 jn0.ox, .int .u16 jn0.ol, .int .i64 jn0.oe, .int .i64 jn0.ok, .int .u16 jn0.nv, .int .u16 jn0.nx, .int .u16 jn0.nl, .int .i64 jn0.ne, .int .i64 jn0.nk, .bool jn0.two]) rfl (by kernel_rfl) (by decide) (by decide) Try.underlying22 hi0 hz0 hz1 ?_)
  obtain ⟨w2, hw⟩ : ∃ z : World, w1.alloc (.cells (jnL j3).toArray 42) = z := ⟨_, rfl⟩
  have b2 : Below w1.heap.size w1 w2 := by rw [← hw]; exact (Below.refl _ _).alloc (Nat.le_refl _) _
  have hJ : w2.heap[w1.heap.size]? = some (.cells (jnL j3).toArray 42 (0, 0)) := by rw [← hw]; exact heap_last w1 _
  (try rw [hw])
  obtain ⟨J, eJ⟩ : ∃ z, w1.heap.size = z := ⟨_, rfl⟩
  (try rw [eJ])
  rw [eJ] at hJ
  have HJ := Lib.hid hJ; have HB2 := Lib.hid (HB1.out.trans (b2.mono HB1.out.size))
  clear hw b2 hJ eJ HB1
  refine (hlife_any 7 w2 (by unfold In64; omega)).mono ?_; rintro e w3 ⟨v3, rfl, ho3, hb3⟩
  obtain ⟨p3, c3, rfl⟩ := own_formH ho3
  have HO3 := Lib.hid ho3; have HJ3 := Lib.hid (below_block hb3 (block_lt HJ.out) HJ.out); have HB3 := Lib.hid (HB2.out.trans (hb3.mono HB2.out.size))
  clear ho3 hb3
  go_wp2_with fail
  obtain ⟨w4, hw⟩ : ∃ z : World, w3.alloc (.cells #[.slice p3 (recB 76 [7]).length c3] 32) = z := ⟨_, rfl⟩
  have b4 : Below w3.heap.size w3 w4 := by rw [← hw]; exact (Below.refl _ _).alloc (Nat.le_refl _) _
  have hR : w4.heap[w3.heap.size]? = some (.cells #[.slice p3 (recB 76 [7]).length c3] 32 (0, 0)) := by rw [← hw]; exact heap_last w3 _
  (try rw [hw])
  have hR0 : w3.heap.size < w4.heap.size := block_lt hR
  obtain ⟨R, eR⟩ : ∃ z, w3.heap.size = z := ⟨_, rfl⟩
  (try rw [eR])
  rw [eR] at hR hR0
  have HR := Lib.hid hR; have HJ4 := Lib.hid (below_block b4 (block_lt HJ3.out) HJ3.out); have HB4 := Lib.hid (HB3.out.trans (b4.mono HB3.out.size)); have HO4 := Lib.hid (own_keptH HO3.out b4)
  clear hw b4 hR eR HO3 HJ3 HB3 HB2 HJ
  have HC := Lib.hid (show Calls Try.prog 9 #[.int .i64 1, .slice (some ⟨J, 0, none⟩) 1 1, .slice (some ⟨R, 0, none⟩) 1 1] w4 _ from hbuild_any 1 [j3] (some ⟨J, 0, none⟩) 1 [⟨p3, c3, recB 76 [7]⟩] (some ⟨R, 0, none⟩) 1 w4 (fun k hk => by
      obtain rfl : k = 0 := by simp at hk; omega
      exact ⟨J, 0, rfl, block_lt HJ4.out, fun i _ => by rw [Nat.zero_mul, Nat.zero_add, block_cells HJ4.out, List.getElem?_toArray]; rfl⟩) (fun k hk => by
      obtain rfl : k = 0 := by simp at hk; omega
      exact ⟨R, 0, rfl, hR0, block_cells HR.out 0, Sl.of_own HO4.out⟩) (fun r hr => by
      rw [List.mem_singleton] at hr
      rw [hr]
      have h1 : recB 76 [7] = 76 :: encN 7 := by simp [recB]
      refine ⟨fun x hx => ?_, ?_⟩
      · dsimp only at hx
        rw [h1] at hx
        rcases List.mem_cons.1 hx with rfl | hx
        · exact ⟨by decide, by decide⟩
        · exact encN_oct _ x hx
      · have := recB_len (c := 76) (l := [7]) (fun x hx => by rw [List.mem_singleton] at hx; rw [hx]; unfold In64; omega)
        simp at this
        dsimp only; omega) (by simp) (by simp))
  clear hR0
  go_wp2_with fail
  refine HC.out.mono ?_; rintro e w5 ⟨hb5, h5⟩
  simp only [List.map_cons, List.map_nil, bld_B] at h5
  obtain ⟨v, l, rfl, hl, hcs⟩ := h5
  obtain ⟨x, rfl, hx⟩ : ∃ x, l = [x] ∧ x.c = endCo (newCo 1 j3) := by
    cases l with
    | nil => simp at hl
    | cons x t =>
      cases t with
      | nil => exact ⟨x, rfl, by simpa using hl⟩
      | cons y t => simp at hl
  obtain ⟨G, cap, rfl⟩ : ∃ G cap, v = .slice (some ⟨G, 0, none⟩) [x].length cap := by
    rcases hcs.own.2 with ⟨-, hz⟩ | ⟨g', cap', cur, h', _⟩
    · simp at hz
    · exact ⟨g', cap', h'⟩
  have HCS := Lib.hid hcs; have HX := Lib.hid hx; have HB5 := Lib.hid (HB4.out.trans (hb5.mono HB4.out.size))
  clear hl hb5 hcs hx HC HR HJ4 HO4 HB4
  have HD := Lib.hid (show Calls Try.prog 16 #[.int .i64 0, .agg #[.int .i64 0, .int .i64 0, .int .i64 0, .int .i64 0, .int .i64 0, .int .i64 0, .int .i64 0, .int .i64 0, .int .i64 0, .int .i64 0, .int .u16 0, .int .u16 0, .int .u16 0, .int .i64 0, .int .i64 0, .int .u16 0, .int .u16 0, .int .u16 0, .int .i64 0, .int .i64 0, .bool false, .slice none 0 0, .string ⟨#[]⟩, .int .u16 0, .int .u16 0, .int .i64 0, .int .i64 0, .int .i64 0, .int .i64 0, .int .i64 0, .int .i64 0, .int .i64 0, .int .i64 0, .int .i64 0, .int .i64 0, .int .i64 0, .int .i64 0, .int .i64 0, .int .i64 0, .int .i64 0, .int .i64 0, .int .i64 0, .int .i64 0, .int .i64 0, .int .i64 0], .agg #[.int .i64 0, .int .i64 0, .int .i64 3, .int .i64 1, .int .i64 0, .int .i64 0, .int .i64 0, .int .i64 0, .int .i64 0, .int .i64 0, .int .u16 0, .int .u16 0, .int .u16 0, .int .i64 0, .int .i64 0, .int .u16 0, .int .u16 0, .int .u16 0, .int .i64 0, .int .i64 0, .bool false, .slice none 0 0, .string ⟨#[]⟩, .int .u16 0, .int .u16 0, .int .i64 0, .int .i64 0, .int .i64 0, .int .i64 0, .int .i64 0, .int .i64 0, .int .i64 0, .int .i64 0, .int .i64 0, .int .i64 0, .int .i64 0, .int .i64 0, .int .i64 0, .int .i64 0, .int .i64 0, .int .i64 0, .int .i64 0, .int .i64 0, .int .i64 0, .int .i64 0]] w5 (BsEnd w5 (diffB 0 co0 co3)) from hdiff_any 0 co0 co3 none none 0 0 w5 lg0_fit ⟨by decide, by decide, by decide⟩ (by unfold In64; omega) co3_fit ⟨rfl, .inl ⟨rfl, rfl⟩⟩ ⟨rfl, .inl ⟨rfl, rfl⟩⟩)
  go_wp2_with fail
  refine HD.out.mono ?_; rintro e w6 ⟨v6, M, rfl, hM, hBs, hb6⟩
  rw [diff_B] at hM
  obtain ⟨u, rfl⟩ : ∃ u, M = [(u, recB 72 [0, 3, 1])] := by
    cases M with
    | nil => simp at hM
    | cons y t =>
      cases t with
      | nil => simp only [List.map_cons, List.map_nil, List.cons.injEq, and_true] at hM; exact ⟨y.1, by rw [← hM]⟩
      | cons z t => simp at hM
  have hu := hBs.el _ (List.mem_singleton.2 rfl)
  dsimp only at hu
  obtain ⟨pu, cu, rfl⟩ := own_formH hu
  obtain ⟨q6, c6, rfl⟩ := own_formH hBs.own
  obtain ⟨D, rfl, -, hD⟩ := own_atH hBs.own (i := 0) (by simp)
  obtain ⟨U, rfl, -, hU⟩ := own_atH hu (i := 0) (by simp [recB])
  have hk2 := hD 0 (by simp)
  have hk3 := hU 0 (by simp [recB])
  have k2 : w6.cell? ⟨D, 0, none⟩ = some (.slice (some ⟨U, 0, none⟩) (recB 72 [0, 3, 1]).length cu) := hk2
  have k3 : w6.cell? ⟨U, 0, none⟩ = some (.int .u8 72) := hk3
  have k1 : w6.cell? ⟨G, 0, none⟩ = some (.int .i64 1) := by
    have := (HCS.out.keep hb6).cell (n := 0) (by simp) 0 (by decide)
    rw [Nat.zero_mul, Nat.zero_add] at this
    rw [this]
    show some (Value.int .i64 x.c.id) = _
    rw [HX.out]; rfl
  have HB6 := Lib.hid (HB5.out.trans (hb6.mono HB5.out.size))
  have hlu : 0 < (recB 72 [0, 3, 1]).length := by simp [recB]
  have hlu2 : (0 : Int) < ((recB 72 [0, 3, 1]).length : Int) := by omega
  clear hM hBs hb6 hu hD hU hk2 hk3 HD HB5 HCS HX
  go_wp2_with fail
  go_ret
  exact ⟨rfl, HB6.out⟩
end Go.Proofs.Ytjaabakobpabjaa
