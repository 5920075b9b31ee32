import Derived.Test.YtjaabakobpabjaaLogD
import Derived.Lib.AppendZeros
import Derived.Test.YtjaabakobpabjaaCalm
/- slices.Grow of nothing; slices.Concat of two lists of entries. -/
namespace Go.Proofs.Ytjaabakobpabjaa
open Go.ChangeShapes Go.WideShapes Go.ChangeAt Go.RowKit

set_option maxRecDepth 100000 in
set_option maxHeartbeats 4000000 in
theorem grow_nil (n : Nat) (hn : n ≤ 1000000) (w : World) :
    Calls Try.prog 111 #[.slice none 0 0, .int .i64 n] w fun r w' => ∃ v, r = .returned v ∧ w'.ownsRow w.heap.size 85 14 v 0 [] ∧ Below w.heap.size w w' := by
  obtain ⟨i0, hi, hz0, hz1, hz2⟩ := info_parts Try.infoEn
  rcases Nat.eq_zero_or_pos n with h0 | h0
  · subst h0
    rw [show ((0 : Nat) : Int) = 0 from rfl]
    go_enter Try.func111, Try.ntmps111
    go_wp2_with fail
    go_ret
    exact ⟨_, rfl, World.ownsRow_nil _ _ _ _, Below.refl _ _⟩
  · have hr := fun ty => Lib.run_append_nil_zeros (P := Try.prog) w 43 3 ty 85 i0 (.agg #[.int .i64 0, .int .i64 0, .string ⟨#[]⟩, .int .u16 0, .int .u16 0, .int .u16 0, .int .i64 0, .int .i64 0, .int .u16 0, .int .u16 0, .int .u16 0, .int .i64 0, .int .i64 0, .bool false]) .i64 .i64 Try.underlying43 Try.underlying3 hi hz0 n h0 (by rw [hz1]; omega) (by omega) (by rw [hz2]; omega)
    have HR := Lib.hid hr
    have d1 : decide ((n : Int) < 0) = false := by simp
    have d2 : decide ((0 : Int) < (n : Int)) = true := by simp; omega
    clear hr
    go_enter Try.func111, Try.ntmps111
    go_wp2_with (at_builtin; refine Lib.wpList_append_run _ rfl _ _ 43 3 rfl (.slice none 0 0) (.int .i64 n) rfl rfl _ _ (HR.out _) ?_)
    obtain ⟨C, hC⟩ : ∃ C, grownCap w n 0 85 = C := ⟨_, rfl⟩
    have hC1 : n ≤ C := by rw [← hC]; exact grownCap_ge _ _ _ _
    have hC2 : C ≤ maxLen := by rw [← hC]; exact grownCap_le_maxLen _ _ _ _ (by unfold maxLen; omega)
    rw [hC]
    clear hC
    go_wp2_with fail
    go_ret
    refine ⟨_, rfl, World.ownsRow_made w.drew _ C (Nat.le_refl _) hC2 ?_, ((Below.refl _ _).drew).alloc (Nat.le_refl _) _⟩
    rw [Array.size_append, size_zeroCells, size_zeroCells]
    show n * 14 + (C - n) * 14 = C * 14
    omega
set_option maxRecDepth 100000 in
set_option maxHeartbeats 4000000 in
theorem concat_two (L1 L2 : List Ent) (p1 p2 : Option Addr) (c1 c2 : Nat) (w : World) (R : Nat) (hR : w.heap[R]? = some (.cells #[.slice p1 L1.length c1, .slice p2 L2.length c2] 43 (0, 0))) (h1 : EnSl w (.slice p1 L1.length c1) L1) (h2 : EnSl w (.slice p2 L2.length c2) L2) (hn : L1.length + L2.length ≤ 1000000) :
    Calls Try.prog 96 #[.slice (some ⟨R, 0, none⟩) 2 2] w fun r w' => ∃ v, r = .returned v ∧ w'.ownsRow w.heap.size 85 14 v (L1.length + L2.length) (entRow (L1 ++ L2)) ∧ Below w.heap.size w w' := by
  obtain ⟨i0, hi, hz0, hz1, hz2⟩ := info_parts Try.infoEn
  have HR := Lib.hid hR
  have H1 := Lib.hid h1
  have H2 := Lib.hid h2
  have HAPP := Lib.hid (entRow_app L1 L2)
  have HL1 := Lib.hid (entC_one L1)
  have HL2 := Lib.hid (entC_one L2)
  have HG := Lib.hid (fun (W : World) => grow_nil (L1.length + L2.length) hn W)
  have kR := block_cells hR
  obtain ⟨n1, hn1⟩ : ∃ n, L1.length = n := ⟨_, rfl⟩
  obtain ⟨n2, hn2⟩ : ∃ n, L2.length = n := ⟨_, rfl⟩
  have H1' : Hid (Sl w.heap.size w (.slice p1 n1 c1) 14 n1 (entRow L1)) := by have := H1.out; unfold EnSl at this; rw [hn1] at this; exact this
  have H2' : Hid (Sl w.heap.size w (.slice p2 n2 c2) 14 n2 (entRow L2)) := by have := H2.out; unfold EnSl at this; rw [hn2] at this; exact this
  have HR2 : Hid (w.heap[R]? = some (.cells #[.slice p1 n1 c1, .slice p2 n2 c2] 43 (0, 0))) := by have := hR; rw [hn1, hn2] at this; exact this
  rw [hn1, hn2] at kR HG hn ⊢
  rw [Int.natCast_add] at HG
  have HRL := Lib.hid (block_lt hR)
  clear hR h1 h2 hn1 hn2 H1 H2
  go_enter Try.func96, Try.ntmps96
  go_wp2_with fail
  go_loopw [3, 11] (fun s i wr => w = wr ∧ ((i = .int .i64 0 ∧ s = .int .i64 0) ∨ (i = .int .i64 1 ∧ s = .int .i64 n1) ∨ (i = .int .i64 2 ∧ s = .int .i64 ((n1 : Int) + (n2 : Int))))) (fun _ i _ => 2 - (intOf i).toNat)
  case atStart => exact ⟨rfl, .inl ⟨rfl, rfl⟩⟩
  case round =>
    obtain ⟨rfl, ⟨rfl, rfl⟩ | ⟨rfl, rfl⟩ | ⟨rfl, rfl⟩⟩ := hrel
    · go_wp2_with fail
      go_roundw
      case rel => exact ⟨trivial, .inr (.inl ⟨by go_num, by go_num⟩)⟩
      case measure => simp [intOf]
    · go_wp2_with fail
      go_roundw
      case rel => exact ⟨trivial, .inr (.inr ⟨by go_num, by go_num⟩)⟩
      case measure => simp [intOf]
    · go_wp2_with fail
      refine (HG.out _).mono ?_; rintro r w1 ⟨v1, rfl, ho1, hb1⟩
      have HO1 := Lib.hid ho1; have HB1 := Lib.hid hb1
      have kR1 := block_cells (below_block hb1 HRL.out HR2.out)
      clear ho1 hb1 kR
      go_wp2_with fail
      go_loopw [6, 27] (fun v i wr => Hid (Below w.heap.size w wr) ∧ ((i = .int .i64 0 ∧ Hid (wr.ownsRow w.heap.size 85 14 v 0 [])) ∨ (i = .int .i64 1 ∧ Hid (wr.ownsRow w.heap.size 85 14 v n1 (entRow L1))) ∨ (i = .int .i64 2 ∧ Hid (wr.ownsRow w.heap.size 85 14 v (n1 + n2) (entRow L1 ++ entRow L2))))) (fun _ i _ => 2 - (intOf i).toNat)
      case atStart => exact ⟨HB1, .inl ⟨rfl, HO1⟩⟩
      case round =>
        obtain ⟨HB, ⟨rfl, HO⟩ | ⟨rfl, HO⟩ | ⟨rfl, HO⟩⟩ := hrel
        · obtain ⟨wk, rfl⟩ : ∃ wk : World, wk = wr := ⟨_, rfl⟩
          have kRk := block_cells (below_block HB.out HRL.out HR2.out)
          go_wp2_with (at_builtin; refine wpList_append_sl rfl _ _ 43 rfl w.heap.size 85 i0 (.agg #[.int .i64 0, .int .i64 0, .string ⟨#[]⟩, .int .u16 0, .int .u16 0, .int .u16 0, .int .i64 0, .int .i64 0, .int .u16 0, .int .u16 0, .int .u16 0, .int .i64 0, .int .i64 0, .bool false]) 14 88 Try.underlying43 hi hz0 hz1 hz2 rfl (by decide) _ 0 [] rfl HO.out w.heap.size _ n1 (entRow L1) rfl (H1'.out.keep HB.out) HL1.out ?_ ?_ HB.out.size ?_)
          · unfold maxLen; omega
          · omega
          intro v3 w3 hown3 hgrow3
          have HO3 : Hid (w3.ownsRow w.heap.size 85 14 v3 n1 (entRow L1)) := hown3
          have HB3 : Hid (Below w.heap.size w w3) := HB.out.grown hgrow3 HB.out.size (fun j hj => (HO.out.lt j hj).1)
          clear hown3 hgrow3
          go_wp2_with fail
          go_roundw
          case rel => exact ⟨HB3, .inr (.inl ⟨by go_num, HO3⟩)⟩
          case measure => simp [intOf]
        · obtain ⟨wk, rfl⟩ : ∃ wk : World, wk = wr := ⟨_, rfl⟩
          have kRk := block_cells (below_block HB.out HRL.out HR2.out)
          go_wp2_with (at_builtin; refine wpList_append_sl rfl _ _ 43 rfl w.heap.size 85 i0 (.agg #[.int .i64 0, .int .i64 0, .string ⟨#[]⟩, .int .u16 0, .int .u16 0, .int .u16 0, .int .i64 0, .int .i64 0, .int .u16 0, .int .u16 0, .int .u16 0, .int .i64 0, .int .i64 0, .bool false]) 14 88 Try.underlying43 hi hz0 hz1 hz2 rfl (by decide) _ n1 (entRow L1) rfl HO.out w.heap.size _ n2 (entRow L2) rfl (H2'.out.keep HB.out) HL2.out ?_ ?_ HB.out.size ?_)
          · unfold maxLen; omega
          · omega
          intro v3 w3 hown3 hgrow3
          have HO3 := Lib.hid hown3
          have HB3 : Hid (Below w.heap.size w w3) := HB.out.grown hgrow3 HB.out.size (fun j hj => (HO.out.lt j hj).1)
          clear hown3 hgrow3
          go_wp2_with fail
          go_roundw
          case rel => exact ⟨HB3, .inr (.inr ⟨by go_num, HO3⟩)⟩
          case measure => simp [intOf]
        · go_wp2_with fail
          go_ret
          exact ⟨_, rfl, by rw [HAPP.out]; exact HO.out, HB.out⟩
end Go.Proofs.Ytjaabakobpabjaa
/- Logs: the plain law: what is in force at the end of a log. -/
namespace Go.Proofs.Ytjaabakobpabjaa

def confF (j : Jn) (es : List Ent) : Jn := es.foldl (fun j e => if e.k = 2 then e.j else j) j
def confL (l : Lg) : Jn := confF l.j l.es
theorem confF_app (j : Jn) (a b : List Ent) : confF j (a ++ b) = confF (confF j a) b := by simp [confF]
theorem confF_none {j : Jn} {es : List Ent} (h : ∀ e ∈ es, e.k ≠ 2) : confF j es = j := by
  induction es generalizing j with
  | nil => rfl
  | cons x t ih =>
    have h1 : confF j (x :: t) = confF (if x.k = 2 then x.j else j) t := rfl
    rw [h1, if_neg (h x (by simp))]
    exact ih (fun e he => h e (by simp [he]))
theorem confF_at {j : Jn} {es : List Ent} {m : Nat} (hm : m < es.length) (hk : es[m].k = 2) (h : ∀ e ∈ es.drop (m + 1), e.k ≠ 2) : confF j es = es[m].j := by
  have hs : es = es.take m ++ (es[m] :: es.drop (m + 1)) := by rw [List.getElem_cons_drop, List.take_append_drop]
  have h1 : confF j es = confF (confF j (es.take m)) (es[m] :: es.drop (m + 1)) := by
    conv => lhs; rw [hs]
    rw [confF_app]
  have h2 : ∀ j', confF j' (es[m] :: es.drop (m + 1)) = confF (if es[m].k = 2 then es[m].j else j') (es.drop (m + 1)) := fun _ => rfl
  rw [h1, h2, if_pos hk, confF_none h]
end Go.Proofs.Ytjaabakobpabjaa
/- Logs: the plain law: what becomes of a log when another one's entries are merged, and when it is compacted. -/
namespace Go.Proofs.Ytjaabakobpabjaa

def frontL (l : Lg) (n : Nat) (L2 : List Ent) : Lg := ⟨l.b, l.bt, l.j, l.es.take n ++ L2⟩
/-- Entries up tq a number are forgotten. -/
def compactL (l : Lg) (tq : Int) : Lg × Int :=
  if (termL l tq).2 then (⟨tq, (termL l tq).1, confF l.j (l.es.take (tq - l.b).toNat), l.es.drop (tq - l.b).toNat⟩, 0) else (⟨0, 0, jn0, []⟩, 1)
/-- A number that a log knows: it is from its base tq its last. -/
theorem termL_known {l : Lg} {i : Int} (h : (termL l i).2 = true) : l.b ≤ i ∧ i ≤ l.last := by
  unfold termL at h
  split at h
  · subst_vars; unfold Lg.last; omega
  · unfold atL at h
    split at h
    · simp at h
    · split at h
      · rename_i h1 h2 e he
        obtain ⟨hl, -⟩ := List.getElem?_eq_some_iff.1 he
        unfold Lg.last; omega
      · simp at h
end Go.Proofs.Ytjaabakobpabjaa
/- entries: front: a log with its first entries alone, and others behind. -/
namespace Go.Proofs.Ytjaabakobpabjaa
open Go.ChangeShapes Go.WideShapes Go.ChangeAt Go.RowKit

theorem entRow_take (L : List Ent) (n : Nat) : entRow (L.take n) = (entRow L).take (n * 14) := by
  induction L generalizing n with
  | nil => simp [entRow]
  | cons x t ih =>
    cases n with
    | zero => simp [entRow]
    | succ m =>
      have hl : (entC x).length = 14 := rfl
      have h2 : entRow (x :: t) = entC x ++ entRow t := rfl
      have h3 : entRow ((x :: t).take (m + 1)) = entC x ++ entRow (t.take m) := rfl
      rw [h3, h2, ih, List.take_append, hl, List.take_of_length_le (show (entC x).length ≤ (m + 1) * 14 by rw [hl]; omega), show (m + 1) * 14 - 14 = m * 14 by omega]
theorem EnSl.take {w : World} {p : Option Addr} {c : Nat} {L : List Ent} (h : EnSl w (.slice p L.length c) L) {n : Nat} (hn : n ≤ L.length) : EnSl w (.slice p (L.take n).length c) (L.take n) := by
  have hln : (L.take n).length = n := by rw [List.length_take]; omega
  unfold EnSl at h ⊢
  rw [hln]
  refine ⟨by rw [entRow_len, hln], ?_⟩
  rcases h.2 with ⟨h2, h3⟩ | ⟨ad, cap, h2, h3, h4, h5⟩
  · left; refine ⟨?_, by omega⟩
    simp only [Value.slice.injEq] at h2 ⊢
    exact ⟨h2.1, by omega, h2.2.2⟩
  · right
    simp only [Value.slice.injEq] at h2
    obtain ⟨rfl, -, rfl⟩ := h2
    refine ⟨ad, c, rfl, by omega, h4, fun h0 => ?_⟩
    obtain ⟨g, o, h6, h7, h8⟩ := h5 (by omega)
    refine ⟨g, o, h6, h7, fun j hj => ?_⟩
    rw [h8 j (by omega), entRow_take, List.getElem?_take, if_pos hj]
theorem own_slice {w : World} {base : Nat} {e : TypeId} {size : Nat} {v : Value} {n : Nat} {xs : List Value} (h : w.ownsRow base e size v n xs) : ∃ p c, v = .slice p n c := by
  rcases h.2 with ⟨h3, h4⟩ | ⟨g, cap, cur, hv, hb, hg, -⟩
  · subst h4; exact ⟨_, _, h3⟩
  · exact ⟨_, _, hv⟩
theorem heap_atL {w : World} {o : Obj} {n : Nat} (h : w.heap.size = n) : (w.alloc o).heap[n]? = some o := by subst h; exact heap_last w o
set_option maxRecDepth 100000 in
set_option maxHeartbeats 4000000 in
theorem front_any (l : Lg) (p : Option Addr) (c n : Nat) (L2 : List Ent) (p2 : Option Addr) (c2 : Nat) (w : World) (hn : n ≤ l.es.length) (hE : EnSl w (.slice p l.es.length c) l.es) (h2 : EnSl w (.slice p2 L2.length c2) L2) (hl : l.es.length + L2.length ≤ 1000000) :
    Calls Try.prog 83 #[.agg #[.int .i64 l.b, .int .i64 l.bt, .int .u16 l.j.ov, .int .u16 l.j.ox, .int .u16 l.j.ol, .int .i64 l.j.oe, .int .i64 l.j.ok, .int .u16 l.j.nv, .int .u16 l.j.nx, .int .u16 l.j.nl, .int .i64 l.j.ne, .int .i64 l.j.nk, .bool l.j.two, .slice p l.es.length c], .int .i64 n, .slice p2 L2.length c2] w (LgEnd w.heap.size w (frontL l n L2)) := by
  obtain ⟨p', c', he, hc1, hc2⟩ := hE.form
  simp only [Value.slice.injEq] at he
  obtain ⟨rfl, -, rfl⟩ := he
  unfold maxLen at hc2
  have hnc : n ≤ c := by omega
  have hln : (l.es.take n).length = n := by rw [List.length_take]; omega
  have HLN := Lib.hid hln
  have HE1 := Lib.hid (hE.take hn)
  have HE2 := Lib.hid h2
  clear hE h2 hln
  go_enter Try.func83, Try.ntmps83
  go_wp2_with fail
  refine (concat_two (l.es.take n) L2 p p2 c c2 _ (w.heap.size + 1 + 1) ?_ ?_ ?_ ?_).mono ?_
  · rw [HLN.out]; exact heap_atL (by simp)
  · exact HE1.out.keep (B := w.heap.size) ((((Below.refl _ _).alloc (Nat.le_refl _) _).alloc (by simp) _).alloc (by simp; omega) _) (Nat.le_refl _)
  · exact HE2.out.keep (B := w.heap.size) ((((Below.refl _ _).alloc (Nat.le_refl _) _).alloc (by simp) _).alloc (by simp; omega) _) (Nat.le_refl _)
  · rw [HLN.out]; omega
  rintro r w2 ⟨v, rfl, ho, hb⟩
  obtain ⟨p3, c3, rfl⟩ := own_slice ho
  rw [HLN.out] at ho ⊢
  have hA2 := below_block (n := w.heap.size) hb (by simp; omega) (heap_prev _ (heap_prev _ (heap_last w _)))
  have hZ2 := below_block (n := w.heap.size + 1) hb (by simp) (heap_prev _ (heap_atL (by simp)))
  have hbw : Below w.heap.size w w2 := Below.trans ((((Below.refl _ _).alloc (Nat.le_refl _) _).alloc (by simp) _).alloc (by simp; omega) _) (hb.mono (by simp; omega))
  have HO := Lib.hid (ho.mono (base' := w.heap.size + 2) (by simp))
  have HBW := Lib.hid hbw
  have HA2 := Lib.hid hA2
  have HZ2 := Lib.hid hZ2
  have kA := block_cells hA2
  have fA := block_free hA2
  have kZ := block_cells hZ2
  have fZ := block_free hZ2
  clear ho hb hbw hA2 hZ2
  go_wp2_with fail
  obtain ⟨S, hS⟩ : ∃ S, Value.slice p3 (n + L2.length) c3 = S := ⟨_, rfl⟩
  have hZ3 : (w2.setCell ⟨w.heap.size, 13, none⟩ (.slice p3 (n + L2.length) c3)).heap[w.heap.size + 1]? = _ := (Below.heap_setCell _ _ _ _ (by simp)).trans HZ2.out
  have hb3 : Below w.heap.size w (w2.setCell ⟨w.heap.size, 13, none⟩ (.slice p3 (n + L2.length) c3)) := HBW.out.setCell (Nat.le_refl _) _
  have F := put14_ok hZ3 hb3 (Nat.le_succ _) (.int .i64 l.b) (.int .i64 l.bt) (.int .u16 l.j.ov) (.int .u16 l.j.ox) (.int .u16 l.j.ol) (.int .i64 l.j.oe) (.int .i64 l.j.ok) (.int .u16 l.j.nv) (.int .u16 l.j.nx) (.int .u16 l.j.nl) (.int .i64 l.j.ne) (.int .i64 l.j.nk) (.bool l.j.two) (.slice p3 (n + L2.length) c3)
  have kF := block_cells F.1
  have G := own_farL (own_farL HO.out (grown_setL (grown_reflL w2 (some w.heap.size)) 13 (.slice p3 (n + L2.length) c3)) (by omega)) (put14_grown (w2.setCell ⟨w.heap.size, 13, none⟩ (.slice p3 (n + L2.length) c3)) (w.heap.size + 1) (.int .i64 l.b) (.int .i64 l.bt) (.int .u16 l.j.ov) (.int .u16 l.j.ox) (.int .u16 l.j.ol) (.int .i64 l.j.oe) (.int .i64 l.j.ok) (.int .u16 l.j.nv) (.int .u16 l.j.nx) (.int .u16 l.j.nl) (.int .i64 l.j.ne) (.int .i64 l.j.nk) (.bool l.j.two) (.slice p3 (n + L2.length) c3)) (by omega)
  unfold put14 at F kF G
  clear hS
  have hlen : (frontL l n L2).es.length = n + L2.length := by show (l.es.take n ++ L2).length = _; rw [List.length_append, HLN.out]
  refine bodyPost_ret (v := .agg #[.int .i64 l.b, .int .i64 l.bt, .int .u16 l.j.ov, .int .u16 l.j.ox, .int .u16 l.j.ol, .int .i64 l.j.oe, .int .i64 l.j.ok, .int .u16 l.j.nv, .int .u16 l.j.nx, .int .u16 l.j.nl, .int .i64 l.j.ne, .int .i64 l.j.nk, .bool l.j.two, .slice p3 (n + L2.length) c3]) ?_ rfl ?_
  · simp [results, Try.results83, go_sem, kF]
  · refine ⟨p3, c3, by rw [hlen]; rfl, ?_, F.2⟩
    rw [hlen]
    exact G.mono (by omega)
end Go.Proofs.Ytjaabakobpabjaa
