/- script.Decode: all events out of bytes. -/
import Derived.Test.YtihkkoldjllifaaScriptB
import Derived.Test.YtihkkoldjllifaaPlainDec
namespace Go.Proofs.Ytihkkoldjllifaa
open Go.ChangeShapes Go.WideShapes Go.ChangeAt Go.RowKit

theorem Try.infoEv : (Try.prog.info? 41).map (fun i => (i.zero, i.size, i.bytes)) = some (some (.agg #[.int .i64 0, .int .i64 0, .int .i64 0, .int .i64 0, .string ⟨#[]⟩, .slice none 0 0, .int .u16 0, .int .u16 0, .int .u16 0, .int .i64 0, .int .i64 0]), 11, 96) := by kernel_rfl
/-- A row of events. -/
abbrev EvX := Ev × Option Addr × Nat
def evRow (L : List EvX) : List Value := L.flatMap fun x => evC x.1 x.2.1 x.2.2
theorem evRow_snoc (L : List EvX) (e : Ev) (p : Option Addr) (c : Nat) : evRow (L ++ [(e, p, c)]) = evRow L ++ evC e p c := by simp [evRow]
theorem evRow_len (L : List EvX) : (evRow L).length = L.length * 11 := by
  induction L with
  | nil => rfl
  | cons x t ih => simp only [evRow, List.flatMap_cons, List.length_append, List.length_cons] at ih ⊢; rw [ih]; simp [evC]; omega
theorem evC_one (e : Ev) (p : Option Addr) (c : Nat) : ∀ u ∈ evC e p c, u.oneCell' = true := by
  intro u hu
  simp only [evC, List.mem_cons, List.not_mem_nil, or_false] at hu
  rcases hu with rfl | rfl | rfl | rfl | rfl | rfl | rfl | rfl | rfl | rfl | rfl <;> rfl
def Keeps (w : World) (L : List EvX) : Prop := ∀ x ∈ L, KeepAt w x.2.1 x.2.2 x.1.ks
theorem Keeps.below {w w' : World} {B : Nat} {L : List EvX} (h : Keeps w L) (hb : Below B w w') (hB : w.heap.size ≤ B) : Keeps w' L := fun x hx => (h x hx).below hb hB
theorem Keeps.grown {w w' : World} {L : List EvX} {row : Option Nat} (h : Keeps w L) (hg : w.grownBy w' row) (hn : ∀ g cs, row = some g → w.heap[g]? ≠ some (.cells cs 3 (0, 0))) : Keeps w' L := fun x hx => (h x hx).grown hg hn
theorem own_noInt {w : World} {base : Nat} {v : Value} {n : Nat} {xs : List Value} (h : w.ownsRow base 41 11 v n xs) : ∀ g cs, v.ownBlock = some g → w.heap[g]? ≠ some (.cells cs 3 (0, 0)) := by
  intro g cs hg
  rcases h.2 with ⟨rfl, -⟩ | ⟨g', cap, cur, rfl, hb, hgl, hn, hm, hs, ht⟩
  · simp [Value.ownBlock] at hg
  · simp [Value.ownBlock] at hg
    subst hg
    rw [hgl]; simp
def rdLeft (R : Nat) (w : World) : Nat := match w.heap[R]? with
  | some (Obj.cells cs _ _) => match cs[0]? with
    | some (Value.slice _ n _) => n
    | _ => 0
  | _ => 0
theorem RdAt.left {B R : Nat} {w : World} {s : List Int × Bool} {n : Int} (h : RdAt B w R s n) : rdLeft R w = s.1.length := by
  obtain ⟨hBR, p, cap, hR, hS⟩ := h
  unfold rdLeft; rw [hR]; rfl
/-- The answer of Decode. -/
def EvsEnd (B : Nat) (w : World) (l : List Ev) (e : Ending) (w' : World) : Prop :=
  ∃ v L, e = .returned v ∧ L.map (·.1) = l ∧ w'.ownsRow B 41 11 v L.length (evRow L) ∧ Keeps w' L ∧ Below w.heap.size w w'
theorem RdAt.row {B R : Nat} {w w' : World} {s : List Int × Bool} {n : Int} {row : Option Nat} (h : RdAt B w R s n) (hg : w.grownBy w' row) (hR : ∀ g, row = some g → R < g) : RdAt B w' R s n := by
  obtain ⟨hBR, p, cap, hb, hS⟩ := h
  have hlt := block_lt hb
  refine ⟨hBR, p, cap, (hg.block R hlt fun e => ?_).trans hb, hS.keep ⟨hg.os, hg.tape, hg.output, hg.size, fun k hk => hg.block k (by omega) fun e => ?_⟩⟩
  · have := hR R e.symm; omega
  · have := hR k e.symm; omega

theorem below_row {w w' : World} {R : Nat} (h : w.grownBy w' (some R)) (hR : R < w.heap.size) : Below R w w' :=
  ⟨h.os, h.tape, h.output, h.size, fun k hk => h.block k (by omega) (by simp; omega)⟩
theorem own_base {w : World} {base base' : Nat} {t : TypeId} {size : Nat} {v : Value} {n : Nat} {xs : List Value} (h : w.ownsRow base t size v n xs) (hb : base' ≤ base) : w.ownsRow base' t size v n xs := by
  refine ⟨h.1, ?_⟩
  rcases h.2 with h2 | ⟨g, cap, cur, rfl, h3, h4⟩
  · exact .inl h2
  · exact .inr ⟨g, cap, cur, rfl, Nat.le_trans hb h3, h4⟩
theorem own_row {w w' : World} {R : Nat} {t : TypeId} {size : Nat} {v : Value} {n : Nat} {xs : List Value} (h : w.ownsRow (R + 1) t size v n xs) (hg : w.grownBy w' (some R)) : w'.ownsRow (R + 1) t size v n xs := by
  refine h.kept hg ?_
  cases hv : v.ownBlock with
  | none => exact .inl rfl
  | some k => right; have := (h.lt k hv).1; simp; omega
set_option maxRecDepth 100000 in
set_option maxHeartbeats 16000000 in
theorem decode_any (v : Value) (xs : List Int) (nodes : Int) (w : World) (hx : Oct xs) (hs : Sl w.heap.size w v 1 xs.length (byt xs)) (hl : xs.length ≤ 1000000) :
    Calls Try.prog 13 #[v, .int .i64 nodes] w (EvsEnd w.heap.size w (decA nodes xs)) := by
  obtain ⟨i0, hi, hz0, hz1, hz2⟩ := info_parts Try.infoEv
  have HX := Lib.hid hx
  have HS := Lib.hid hs
  obtain ⟨N, hN⟩ : ∃ N, normN nodes = N := ⟨_, rfl⟩
  have hn := normN_fit nodes
  have HD : Hid (decA nodes xs = decE N xs) := by show _ = _; unfold decA; rw [hN]
  rw [hN] at hn
  obtain ⟨p, cap, rfl, h1, h2, -, -⟩ := hs.form
  unfold maxLen at h2
  clear hs hx
  have h3 : nodes < 1 ∧ N = 1 ∨ 1 ≤ nodes ∧ 9 < nodes ∧ N = 1 ∨ 1 ≤ nodes ∧ nodes ≤ 9 ∧ N = nodes := by
    rw [← hN]; unfold normN; split <;> omega
  obtain ⟨hn1, hn9⟩ := hn
  clear hN
  have hR0 : RdAt w.heap.size (w.alloc (.cells #[.slice p xs.length cap, .int .i64 N, .bool false] 64)) w.heap.size (xs, false) N :=
    ⟨Nat.le_refl _, p, cap, heap_last _ _, HS.out.keep ((Below.refl _ _).alloc (Nat.le_refl _) _)⟩
  have HR0 := Lib.hid hR0
  have HB0 : Hid (Below w.heap.size w (w.alloc (.cells #[.slice p xs.length cap, .int .i64 N, .bool false] 64))) := (Below.refl _ _).alloc (Nat.le_refl _) _
  have HRl : Hid (w.heap.size < (w.alloc (.cells #[.slice p xs.length cap, .int .i64 N, .bool false] 64)).heap.size) := by show _ < _; simp
  clear hR0
  go_enter Try.func13, Try.ntmps13
  rcases h3 with ⟨c1, rfl⟩ | ⟨c1, c2, rfl⟩ | ⟨c1, c2, rfl⟩
  · have d1 : decide (nodes < 1) = true := by simpa using c1
    go_upto_region 4 with fail
    obtain ⟨W, hW⟩ : ∃ W, w.alloc (.cells #[.slice p xs.length cap, .int .i64 1, .bool false] 64) = W := ⟨_, rfl⟩
    rw [hW] at HR0 HB0 HRl ⊢
    obtain ⟨R, hR⟩ : ∃ R, w.heap.size = R := ⟨_, rfl⟩
    rw [hR] at HR0 HRl ⊢
    have HR := Lib.hid hR
    have HBW : Hid (Below R w W) := by show Below R w W; rw [← hR]; exact HB0.out
    clear hW hR HB0
    go_wp2_with fail
    go_loopw [6] (fun v wr => ∃ ys L, Hid (RdAt R wr R (ys, false) 1) ∧ Hid (Oct ys) ∧ ys.length + L.length ≤ 1000000 ∧ Hid (wr.ownsRow (R + 1) 41 11 v L.length (evRow L)) ∧ Hid (Keeps wr L) ∧ Hid (L.map (·.1) ++ decE 1 ys = decE 1 xs) ∧ Hid (Below R w wr) ∧ R < wr.heap.size) (fun v wr => rdLeft R wr)
    case atStart => exact ⟨xs, [], HR0, HX, by simpa using hl, ⟨rfl, .inl ⟨rfl, rfl⟩⟩, (fun x hx => absurd hx (by simp)), rfl, HBW, HRl.out⟩
    case round =>
      obtain ⟨ys, L, HRd, HO, hlen, HW, HKp, HEq, HBw, hRl⟩ := hrel
      obtain ⟨wk, rfl⟩ : ∃ wk : World, wk = wr := ⟨_, rfl⟩
      obtain ⟨-, pk, ck, hk, -⟩ := HRd.out
      have kR := block_cells hk
      simp only [] at kR
      clear hk
      cases ys with
      | nil =>
        have hfin : L.map (·.1) = decE 1 xs := by have := HEq.out; rw [decE_nil, List.append_nil] at this; exact this
        have HF := Lib.hid hfin
        clear hfin
        go_wp2_with fail
        go_ret
        rw [HD.out, HR.out]
        exact ⟨_, L, rfl, HF.out, own_base HW.out (by omega), HKp.out, by rw [HR.out]; exact HBw.out⟩
      | cons y yt =>
        obtain ⟨⟨⟨e, is⟩, zs, sh⟩, hev⟩ : ∃ r, evP 1 (y :: yt, false) = r := ⟨_, rfl⟩
        have hless := evP_less (n := 1) (s := (y :: yt, false)) (by simp)
        have HOz : Hid (Oct zs) := by have := evP_oct (n := 1) (s := (y :: yt, false)) HO.out; rw [hev] at this; exact this
        rw [hev] at hless
        simp only [List.length_cons] at hless hlen kR
        have HEV := Lib.hid hev
        clear hev
        go_wp2_with fail
        refine (event_any R R (y :: yt, false) 1 _ HO.out (by first | exact ⟨by decide, by decide⟩ | exact ⟨by assumption, by assumption⟩) HRd.out).mono ?_
        rw [HEV.out]
        rintro r w2 ⟨pe, ce, rfl, hk2, hR2, hg2⟩
        have hE3 := heap_last w2 (.cells (evC e pe ce).toArray 41)
        have hR3 := hR2.below ((Below.refl _ _).alloc (Nat.le_refl _) (.cells (evC e pe ce).toArray 41)) (Nat.le_refl _)
        have hg3 := grown_alloc hg2 (.cells (evC e pe ce).toArray 41)
        have hk3 := hk2.below ((Below.refl _ _).alloc (Nat.le_refl _) (.cells (evC e pe ce).toArray 41)) (Nat.le_refl _)
        have hs2 := hg2.size
        simp only [evC] at hE3 hR3 hg3 hk3 ⊢
        clear hk2 hR2 hg2 kR
        go_upto_region 7 with fail
        obtain ⟨D, hD⟩ : ∃ D, w2.heap.size = D := ⟨_, rfl⟩
        rw [hD] at hE3 hs2 ⊢
        obtain ⟨W3, hW3⟩ : ∃ W3, w2.alloc (.cells #[.int .i64 e.k, .int .i64 e.n, .int .i64 e.i, .int .i64 e.w, .string e.t, .slice pe e.ks.length ce, .int .u16 e.cv, .int .u16 e.cx, .int .u16 e.cl, .int .i64 e.ce, .int .i64 e.ck] 41) = W3 := ⟨_, rfl⟩
        rw [hW3] at hE3 hR3 hg3 hk3 ⊢
        clear hW3 hD
        have kE3 := block_cells hE3
        have kE3' := fun o => block_cells (heap_prev o hE3)
        have HRd3 := Lib.hid hR3
        have hsz3 := block_lt hE3
        obtain ⟨-, p3, c3, hb3, -⟩ := hR3
        have kR3 := block_cells hb3
        simp only [] at kR3
        have HG3 := Lib.hid hg3; have HK3 := Lib.hid hk3
        have HB3 : Hid (Below R w W3) := HBw.out.trans (below_row hg3 hRl)
        have HW3 : Hid (W3.ownsRow (R + 1) 41 11 u6 L.length (evRow L)) := own_row HW.out hg3
        have HKp3 : Hid (Keeps W3 L) := HKp.out.grown HG3.out (fun g cs hg => by injection hg with hg; subst hg; obtain ⟨-, p0, c0, h0, -⟩ := HRd.out; rw [h0]; simp)
        clear hg3 hk3 hb3
        cases sh
        · have hdec := decE_step (n := 1) (xs := y :: yt) (by simp) HEV.out
          cases is
          · have HDE : Hid (L.map (·.1) ++ decE 1 zs = decE 1 xs) := by
              show _ = _; rw [← HEq.out, hdec]; rfl
            clear hdec
            go_wp2_with fail
            go_roundw
            case rel => exact ⟨zs, L, HRd3, HOz, by omega, HW3, HKp3, HDE, HB3, by omega⟩
            case measure => rw [HRd3.out.left, HRd.out.left]; simp; omega
          · have HDE : Hid ((L ++ [(e, pe, ce)]).map (·.1) ++ decE 1 zs = decE 1 xs) := by
              show _ = _; rw [← HEq.out, hdec]; simp
            clear hdec
            have hA := heap_last W3 (.cells (evC e pe ce).toArray 41)
            have HA := Lib.hid hA
            clear hA
            go_wp2_with (at_builtin; refine wpList_append_own _ rfl _ _ 25 rfl (R + 1) 41 i0 (.agg #[.int .i64 0, .int .i64 0, .int .i64 0, .int .i64 0, .string ⟨#[]⟩, .slice none 0 0, .int .u16 0, .int .u16 0, .int .u16 0, .int .i64 0, .int .i64 0]) 11 96 Try.underlying25 hi hz0 hz1 hz2 rfl (by decide) _ _ _ rfl (HW3.out.alloc _) ⟨W3.heap.size, 0, none⟩ 1 1 (evC e pe ce) rfl rfl ?c1 ?c2 ?c3 ?c4 ?c5 ?_)
            case c1 => exact fun j v hv => by rw [add_plain, Nat.zero_add]; exact (block_cells HA.out j).trans (by simpa using hv)
            case c2 => exact evC_one e pe ce
            case c3 => unfold maxLen; omega
            case c4 => omega
            case c5 => simp; omega
            intro v4 w4 hown4 hgrow4 _
            have HO4 : Hid (w4.ownsRow (R + 1) 41 11 v4 (L ++ [(e, pe, ce)]).length (evRow (L ++ [(e, pe, ce)]))) := by
              show w4.ownsRow _ _ _ _ _ _
              rw [evRow_snoc, List.length_append]; exact hown4
            have HA3 := HW3.out.alloc (.cells (evC e pe ce).toArray 41)
            have hks : Keeps (W3.alloc (.cells (evC e pe ce).toArray 41)) (L ++ [(e, pe, ce)]) := fun x hx => by
              rcases List.mem_append.1 hx with hx | hx
              · exact (HKp3.out x hx).below ((Below.refl _ _).alloc (Nat.le_refl _) _) (Nat.le_refl _)
              · obtain rfl : x = (e, pe, ce) := by simpa using hx
                exact HK3.out.below ((Below.refl _ _).alloc (Nat.le_refl _) _) (Nat.le_refl _)
            have HK4 : Hid (Keeps w4 (L ++ [(e, pe, ce)])) := hks.grown hgrow4 (own_noInt HA3)
            have HR4 : Hid (RdAt R w4 R (zs, false) 1) := (HRd3.out.below ((Below.refl _ _).alloc (Nat.le_refl _) _) (Nat.le_refl _)).row hgrow4 (fun g hg => by have := (HA3.lt g hg).1; omega)
            have HB4 : Hid (Below R w w4) := (HB3.out.alloc (by omega) _).grown hgrow4 (by simp; omega) (fun j hj => by have := (HA3.lt j hj).1; omega)
            have hs4 := hgrow4.size
            simp only [World.size_alloc] at hs4
            clear hown4 hgrow4 HA3 hks HA
            go_wp2_with fail
            go_roundw
            case rel => exact ⟨zs, _, HR4, HOz, by simp; omega, HO4, HK4, HDE, HB4, by omega⟩
            case measure => rw [HR4.out.left, HRd.out.left]; simp; omega
        · have HDE : Hid (L.map (·.1) = decE 1 xs) := by
            show _ = _; rw [← HEq.out, decE_short HEV.out, List.append_nil]
          go_wp2_with fail
          go_ret
          rw [HD.out, HR.out]
          exact ⟨_, L, rfl, HDE.out, own_base HW3.out (by omega), HKp3.out, by rw [HR.out]; exact HB3.out⟩
  · have d1 : decide (nodes < 1) = false := by simpa using c1
    have d2 : decide (9 < nodes) = true := by simpa using c2
    go_upto_region 4 with fail
    obtain ⟨W, hW⟩ : ∃ W, w.alloc (.cells #[.slice p xs.length cap, .int .i64 1, .bool false] 64) = W := ⟨_, rfl⟩
    rw [hW] at HR0 HB0 HRl ⊢
    obtain ⟨R, hR⟩ : ∃ R, w.heap.size = R := ⟨_, rfl⟩
    rw [hR] at HR0 HRl ⊢
    have HR := Lib.hid hR
    have HBW : Hid (Below R w W) := by show Below R w W; rw [← hR]; exact HB0.out
    clear hW hR HB0
    go_wp2_with fail
    go_loopw [6] (fun v wr => ∃ ys L, Hid (RdAt R wr R (ys, false) 1) ∧ Hid (Oct ys) ∧ ys.length + L.length ≤ 1000000 ∧ Hid (wr.ownsRow (R + 1) 41 11 v L.length (evRow L)) ∧ Hid (Keeps wr L) ∧ Hid (L.map (·.1) ++ decE 1 ys = decE 1 xs) ∧ Hid (Below R w wr) ∧ R < wr.heap.size) (fun v wr => rdLeft R wr)
    case atStart => exact ⟨xs, [], HR0, HX, by simpa using hl, ⟨rfl, .inl ⟨rfl, rfl⟩⟩, (fun x hx => absurd hx (by simp)), rfl, HBW, HRl.out⟩
    case round =>
      obtain ⟨ys, L, HRd, HO, hlen, HW, HKp, HEq, HBw, hRl⟩ := hrel
      obtain ⟨wk, rfl⟩ : ∃ wk : World, wk = wr := ⟨_, rfl⟩
      obtain ⟨-, pk, ck, hk, -⟩ := HRd.out
      have kR := block_cells hk
      simp only [] at kR
      clear hk
      cases ys with
      | nil =>
        have hfin : L.map (·.1) = decE 1 xs := by have := HEq.out; rw [decE_nil, List.append_nil] at this; exact this
        have HF := Lib.hid hfin
        clear hfin
        go_wp2_with fail
        go_ret
        rw [HD.out, HR.out]
        exact ⟨_, L, rfl, HF.out, own_base HW.out (by omega), HKp.out, by rw [HR.out]; exact HBw.out⟩
      | cons y yt =>
        obtain ⟨⟨⟨e, is⟩, zs, sh⟩, hev⟩ : ∃ r, evP 1 (y :: yt, false) = r := ⟨_, rfl⟩
        have hless := evP_less (n := 1) (s := (y :: yt, false)) (by simp)
        have HOz : Hid (Oct zs) := by have := evP_oct (n := 1) (s := (y :: yt, false)) HO.out; rw [hev] at this; exact this
        rw [hev] at hless
        simp only [List.length_cons] at hless hlen kR
        have HEV := Lib.hid hev
        clear hev
        go_wp2_with fail
        refine (event_any R R (y :: yt, false) 1 _ HO.out (by first | exact ⟨by decide, by decide⟩ | exact ⟨by assumption, by assumption⟩) HRd.out).mono ?_
        rw [HEV.out]
        rintro r w2 ⟨pe, ce, rfl, hk2, hR2, hg2⟩
        have hE3 := heap_last w2 (.cells (evC e pe ce).toArray 41)
        have hR3 := hR2.below ((Below.refl _ _).alloc (Nat.le_refl _) (.cells (evC e pe ce).toArray 41)) (Nat.le_refl _)
        have hg3 := grown_alloc hg2 (.cells (evC e pe ce).toArray 41)
        have hk3 := hk2.below ((Below.refl _ _).alloc (Nat.le_refl _) (.cells (evC e pe ce).toArray 41)) (Nat.le_refl _)
        have hs2 := hg2.size
        simp only [evC] at hE3 hR3 hg3 hk3 ⊢
        clear hk2 hR2 hg2 kR
        go_upto_region 7 with fail
        obtain ⟨D, hD⟩ : ∃ D, w2.heap.size = D := ⟨_, rfl⟩
        rw [hD] at hE3 hs2 ⊢
        obtain ⟨W3, hW3⟩ : ∃ W3, w2.alloc (.cells #[.int .i64 e.k, .int .i64 e.n, .int .i64 e.i, .int .i64 e.w, .string e.t, .slice pe e.ks.length ce, .int .u16 e.cv, .int .u16 e.cx, .int .u16 e.cl, .int .i64 e.ce, .int .i64 e.ck] 41) = W3 := ⟨_, rfl⟩
        rw [hW3] at hE3 hR3 hg3 hk3 ⊢
        clear hW3 hD
        have kE3 := block_cells hE3
        have kE3' := fun o => block_cells (heap_prev o hE3)
        have HRd3 := Lib.hid hR3
        have hsz3 := block_lt hE3
        obtain ⟨-, p3, c3, hb3, -⟩ := hR3
        have kR3 := block_cells hb3
        simp only [] at kR3
        have HG3 := Lib.hid hg3; have HK3 := Lib.hid hk3
        have HB3 : Hid (Below R w W3) := HBw.out.trans (below_row hg3 hRl)
        have HW3 : Hid (W3.ownsRow (R + 1) 41 11 u6 L.length (evRow L)) := own_row HW.out hg3
        have HKp3 : Hid (Keeps W3 L) := HKp.out.grown HG3.out (fun g cs hg => by injection hg with hg; subst hg; obtain ⟨-, p0, c0, h0, -⟩ := HRd.out; rw [h0]; simp)
        clear hg3 hk3 hb3
        cases sh
        · have hdec := decE_step (n := 1) (xs := y :: yt) (by simp) HEV.out
          cases is
          · have HDE : Hid (L.map (·.1) ++ decE 1 zs = decE 1 xs) := by
              show _ = _; rw [← HEq.out, hdec]; rfl
            clear hdec
            go_wp2_with fail
            go_roundw
            case rel => exact ⟨zs, L, HRd3, HOz, by omega, HW3, HKp3, HDE, HB3, by omega⟩
            case measure => rw [HRd3.out.left, HRd.out.left]; simp; omega
          · have HDE : Hid ((L ++ [(e, pe, ce)]).map (·.1) ++ decE 1 zs = decE 1 xs) := by
              show _ = _; rw [← HEq.out, hdec]; simp
            clear hdec
            have hA := heap_last W3 (.cells (evC e pe ce).toArray 41)
            have HA := Lib.hid hA
            clear hA
            go_wp2_with (at_builtin; refine wpList_append_own _ rfl _ _ 25 rfl (R + 1) 41 i0 (.agg #[.int .i64 0, .int .i64 0, .int .i64 0, .int .i64 0, .string ⟨#[]⟩, .slice none 0 0, .int .u16 0, .int .u16 0, .int .u16 0, .int .i64 0, .int .i64 0]) 11 96 Try.underlying25 hi hz0 hz1 hz2 rfl (by decide) _ _ _ rfl (HW3.out.alloc _) ⟨W3.heap.size, 0, none⟩ 1 1 (evC e pe ce) rfl rfl ?d1 ?d2 ?d3 ?d4 ?d5 ?_)
            case d1 => exact fun j v hv => by rw [add_plain, Nat.zero_add]; exact (block_cells HA.out j).trans (by simpa using hv)
            case d2 => exact evC_one e pe ce
            case d3 => unfold maxLen; omega
            case d4 => omega
            case d5 => simp; omega
            intro v4 w4 hown4 hgrow4 _
            have HO4 : Hid (w4.ownsRow (R + 1) 41 11 v4 (L ++ [(e, pe, ce)]).length (evRow (L ++ [(e, pe, ce)]))) := by
              show w4.ownsRow _ _ _ _ _ _
              rw [evRow_snoc, List.length_append]; exact hown4
            have HA3 := HW3.out.alloc (.cells (evC e pe ce).toArray 41)
            have hks : Keeps (W3.alloc (.cells (evC e pe ce).toArray 41)) (L ++ [(e, pe, ce)]) := fun x hx => by
              rcases List.mem_append.1 hx with hx | hx
              · exact (HKp3.out x hx).below ((Below.refl _ _).alloc (Nat.le_refl _) _) (Nat.le_refl _)
              · obtain rfl : x = (e, pe, ce) := by simpa using hx
                exact HK3.out.below ((Below.refl _ _).alloc (Nat.le_refl _) _) (Nat.le_refl _)
            have HK4 : Hid (Keeps w4 (L ++ [(e, pe, ce)])) := hks.grown hgrow4 (own_noInt HA3)
            have HR4 : Hid (RdAt R w4 R (zs, false) 1) := (HRd3.out.below ((Below.refl _ _).alloc (Nat.le_refl _) _) (Nat.le_refl _)).row hgrow4 (fun g hg => by have := (HA3.lt g hg).1; omega)
            have HB4 : Hid (Below R w w4) := (HB3.out.alloc (by omega) _).grown hgrow4 (by simp; omega) (fun j hj => by have := (HA3.lt j hj).1; omega)
            have hs4 := hgrow4.size
            simp only [World.size_alloc] at hs4
            clear hown4 hgrow4 HA3 hks HA
            go_wp2_with fail
            go_roundw
            case rel => exact ⟨zs, _, HR4, HOz, by simp; omega, HO4, HK4, HDE, HB4, by omega⟩
            case measure => rw [HR4.out.left, HRd.out.left]; simp; omega
        · have HDE : Hid (L.map (·.1) = decE 1 xs) := by
            show _ = _; rw [← HEq.out, decE_short HEV.out, List.append_nil]
          go_wp2_with fail
          go_ret
          rw [HD.out, HR.out]
          exact ⟨_, L, rfl, HDE.out, own_base HW3.out (by omega), HKp3.out, by rw [HR.out]; exact HB3.out⟩
  · have d1 : decide (N < 1) = false := by simpa using c1
    have d2 : decide (9 < N) = false := by simpa using c2
    go_upto_region 4 with fail
    obtain ⟨W, hW⟩ : ∃ W, w.alloc (.cells #[.slice p xs.length cap, .int .i64 N, .bool false] 64) = W := ⟨_, rfl⟩
    rw [hW] at HR0 HB0 HRl ⊢
    obtain ⟨R, hR⟩ : ∃ R, w.heap.size = R := ⟨_, rfl⟩
    rw [hR] at HR0 HRl ⊢
    have HR := Lib.hid hR
    have HBW : Hid (Below R w W) := by show Below R w W; rw [← hR]; exact HB0.out
    clear hW hR HB0
    go_wp2_with fail
    go_loopw [6] (fun v wr => ∃ ys L, Hid (RdAt R wr R (ys, false) N) ∧ Hid (Oct ys) ∧ ys.length + L.length ≤ 1000000 ∧ Hid (wr.ownsRow (R + 1) 41 11 v L.length (evRow L)) ∧ Hid (Keeps wr L) ∧ Hid (L.map (·.1) ++ decE N ys = decE N xs) ∧ Hid (Below R w wr) ∧ R < wr.heap.size) (fun v wr => rdLeft R wr)
    case atStart => exact ⟨xs, [], HR0, HX, by simpa using hl, ⟨rfl, .inl ⟨rfl, rfl⟩⟩, (fun x hx => absurd hx (by simp)), rfl, HBW, HRl.out⟩
    case round =>
      obtain ⟨ys, L, HRd, HO, hlen, HW, HKp, HEq, HBw, hRl⟩ := hrel
      obtain ⟨wk, rfl⟩ : ∃ wk : World, wk = wr := ⟨_, rfl⟩
      obtain ⟨-, pk, ck, hk, -⟩ := HRd.out
      have kR := block_cells hk
      simp only [] at kR
      clear hk
      cases ys with
      | nil =>
        have hfin : L.map (·.1) = decE N xs := by have := HEq.out; rw [decE_nil, List.append_nil] at this; exact this
        have HF := Lib.hid hfin
        clear hfin
        go_wp2_with fail
        go_ret
        rw [HD.out, HR.out]
        exact ⟨_, L, rfl, HF.out, own_base HW.out (by omega), HKp.out, by rw [HR.out]; exact HBw.out⟩
      | cons y yt =>
        obtain ⟨⟨⟨e, is⟩, zs, sh⟩, hev⟩ : ∃ r, evP N (y :: yt, false) = r := ⟨_, rfl⟩
        have hless := evP_less (n := N) (s := (y :: yt, false)) (by simp)
        have HOz : Hid (Oct zs) := by have := evP_oct (n := N) (s := (y :: yt, false)) HO.out; rw [hev] at this; exact this
        rw [hev] at hless
        simp only [List.length_cons] at hless hlen kR
        have HEV := Lib.hid hev
        clear hev
        go_wp2_with fail
        refine (event_any R R (y :: yt, false) N _ HO.out (by first | exact ⟨by decide, by decide⟩ | exact ⟨by assumption, by assumption⟩) HRd.out).mono ?_
        rw [HEV.out]
        rintro r w2 ⟨pe, ce, rfl, hk2, hR2, hg2⟩
        have hE3 := heap_last w2 (.cells (evC e pe ce).toArray 41)
        have hR3 := hR2.below ((Below.refl _ _).alloc (Nat.le_refl _) (.cells (evC e pe ce).toArray 41)) (Nat.le_refl _)
        have hg3 := grown_alloc hg2 (.cells (evC e pe ce).toArray 41)
        have hk3 := hk2.below ((Below.refl _ _).alloc (Nat.le_refl _) (.cells (evC e pe ce).toArray 41)) (Nat.le_refl _)
        have hs2 := hg2.size
        simp only [evC] at hE3 hR3 hg3 hk3 ⊢
        clear hk2 hR2 hg2 kR
        go_upto_region 7 with fail
        obtain ⟨D, hD⟩ : ∃ D, w2.heap.size = D := ⟨_, rfl⟩
        rw [hD] at hE3 hs2 ⊢
        obtain ⟨W3, hW3⟩ : ∃ W3, w2.alloc (.cells #[.int .i64 e.k, .int .i64 e.n, .int .i64 e.i, .int .i64 e.w, .string e.t, .slice pe e.ks.length ce, .int .u16 e.cv, .int .u16 e.cx, .int .u16 e.cl, .int .i64 e.ce, .int .i64 e.ck] 41) = W3 := ⟨_, rfl⟩
        rw [hW3] at hE3 hR3 hg3 hk3 ⊢
        clear hW3 hD
        have kE3 := block_cells hE3
        have kE3' := fun o => block_cells (heap_prev o hE3)
        have HRd3 := Lib.hid hR3
        have hsz3 := block_lt hE3
        obtain ⟨-, p3, c3, hb3, -⟩ := hR3
        have kR3 := block_cells hb3
        simp only [] at kR3
        have HG3 := Lib.hid hg3; have HK3 := Lib.hid hk3
        have HB3 : Hid (Below R w W3) := HBw.out.trans (below_row hg3 hRl)
        have HW3 : Hid (W3.ownsRow (R + 1) 41 11 u6 L.length (evRow L)) := own_row HW.out hg3
        have HKp3 : Hid (Keeps W3 L) := HKp.out.grown HG3.out (fun g cs hg => by injection hg with hg; subst hg; obtain ⟨-, p0, c0, h0, -⟩ := HRd.out; rw [h0]; simp)
        clear hg3 hk3 hb3
        cases sh
        · have hdec := decE_step (n := N) (xs := y :: yt) (by simp) HEV.out
          cases is
          · have HDE : Hid (L.map (·.1) ++ decE N zs = decE N xs) := by
              show _ = _; rw [← HEq.out, hdec]; rfl
            clear hdec
            go_wp2_with fail
            go_roundw
            case rel => exact ⟨zs, L, HRd3, HOz, by omega, HW3, HKp3, HDE, HB3, by omega⟩
            case measure => rw [HRd3.out.left, HRd.out.left]; simp; omega
          · have HDE : Hid ((L ++ [(e, pe, ce)]).map (·.1) ++ decE N zs = decE N xs) := by
              show _ = _; rw [← HEq.out, hdec]; simp
            clear hdec
            have hA := heap_last W3 (.cells (evC e pe ce).toArray 41)
            have HA := Lib.hid hA
            clear hA
            go_wp2_with (at_builtin; refine wpList_append_own _ rfl _ _ 25 rfl (R + 1) 41 i0 (.agg #[.int .i64 0, .int .i64 0, .int .i64 0, .int .i64 0, .string ⟨#[]⟩, .slice none 0 0, .int .u16 0, .int .u16 0, .int .u16 0, .int .i64 0, .int .i64 0]) 11 96 Try.underlying25 hi hz0 hz1 hz2 rfl (by decide) _ _ _ rfl (HW3.out.alloc _) ⟨W3.heap.size, 0, none⟩ 1 1 (evC e pe ce) rfl rfl ?e1 ?e2 ?e3 ?e4 ?e5 ?_)
            case e1 => exact fun j v hv => by rw [add_plain, Nat.zero_add]; exact (block_cells HA.out j).trans (by simpa using hv)
            case e2 => exact evC_one e pe ce
            case e3 => unfold maxLen; omega
            case e4 => omega
            case e5 => simp; omega
            intro v4 w4 hown4 hgrow4 _
            have HO4 : Hid (w4.ownsRow (R + 1) 41 11 v4 (L ++ [(e, pe, ce)]).length (evRow (L ++ [(e, pe, ce)]))) := by
              show w4.ownsRow _ _ _ _ _ _
              rw [evRow_snoc, List.length_append]; exact hown4
            have HA3 := HW3.out.alloc (.cells (evC e pe ce).toArray 41)
            have hks : Keeps (W3.alloc (.cells (evC e pe ce).toArray 41)) (L ++ [(e, pe, ce)]) := fun x hx => by
              rcases List.mem_append.1 hx with hx | hx
              · exact (HKp3.out x hx).below ((Below.refl _ _).alloc (Nat.le_refl _) _) (Nat.le_refl _)
              · obtain rfl : x = (e, pe, ce) := by simpa using hx
                exact HK3.out.below ((Below.refl _ _).alloc (Nat.le_refl _) _) (Nat.le_refl _)
            have HK4 : Hid (Keeps w4 (L ++ [(e, pe, ce)])) := hks.grown hgrow4 (own_noInt HA3)
            have HR4 : Hid (RdAt R w4 R (zs, false) N) := (HRd3.out.below ((Below.refl _ _).alloc (Nat.le_refl _) _) (Nat.le_refl _)).row hgrow4 (fun g hg => by have := (HA3.lt g hg).1; omega)
            have HB4 : Hid (Below R w w4) := (HB3.out.alloc (by omega) _).grown hgrow4 (by simp; omega) (fun j hj => by have := (HA3.lt j hj).1; omega)
            have hs4 := hgrow4.size
            simp only [World.size_alloc] at hs4
            clear hown4 hgrow4 HA3 hks HA
            go_wp2_with fail
            go_roundw
            case rel => exact ⟨zs, _, HR4, HOz, by simp; omega, HO4, HK4, HDE, HB4, by omega⟩
            case measure => rw [HR4.out.left, HRd.out.left]; simp; omega
        · have HDE : Hid (L.map (·.1) = decE N xs) := by
            show _ = _; rw [← HEq.out, decE_short HEV.out, List.append_nil]
          go_wp2_with fail
          go_ret
          rw [HD.out, HR.out]
          exact ⟨_, L, rfl, HDE.out, own_base HW3.out (by omega), HKp3.out, by rw [HR.out]; exact HB3.out⟩
end Go.Proofs.Ytihkkoldjllifaa
