import Derived.Test.YtjaabakobpabjaaHardB
import Derived.Test.YtjaabakobpabjaaHsA
/- Hard: the reference's Diff. -/
namespace Go.Proofs.Ytjaabakobpabjaa
open Go.ChangeShapes Go.WideShapes Go.ChangeAt Go.RowKit

def stR (L : List (List Int)) : List Value := L.map fun l => .string (strOfNums l)
structure DrW (w0 w : World) (A C : Nat) (ca cc : Array Value) (v : Value) (M : List (List Int)) : Prop where
  b : Below w0.heap.size w0 w
  a : w.heap[A]? = some (.cells ca 48 (0, 0))
  c : w.heap[C]? = some (.cells cc 48 (0, 0))
  l : w.ownsRow w0.heap.size 9 1 v M.length (stR M)
theorem DrW.keep {w0 w w' : World} {A C : Nat} {ca cc : Array Value} {v : Value} {M : List (List Int)} (h : DrW w0 w A C ca cc v M) (hb : Below w.heap.size w w') : DrW w0 w' A C ca cc v M :=
  ⟨h.b.trans (hb.mono h.b.size), below_block hb (block_lt h.a) h.a, below_block hb (block_lt h.c) h.c, own_keptH h.l hb⟩
theorem DrW.app {w0 w w' : World} {A C : Nat} {ca cc : Array Value} {v v' : Value} {M : List (List Int)} {l : List Int} (h : DrW w0 w A C ca cc v M) (h2 : w'.ownsRow w0.heap.size 9 1 v' (M.length + 1) (stR M ++ [.string (strOfNums l)])) (h3 : w.grownBy w' v.ownBlock) : DrW w0 w' A C ca cc v' (M ++ [l]) :=
  ⟨h.b.grown h3 h.b.size (fun k hk => (h.l.lt k hk).1), blk_keep h.a h.l (by decide) h3, blk_keep h.c h.l (by decide) h3, by rw [List.length_append, stR, List.map_append]; exact h2⟩
end Go.Proofs.Ytjaabakobpabjaa
/- Hard: records of both, compared. -/
namespace Go.Proofs.Ytjaabakobpabjaa
open Go.ChangeShapes Go.WideShapes Go.ChangeAt Go.RowKit

theorem own_atH {w : World} {base : Nat} {e : TypeId} {n c : Nat} {p : Option Addr} {xs : List Value} (h : w.ownsRow base e 1 (.slice p n c) n xs) {i : Nat} (hi : i < n) : ∃ g, p = some ⟨g, 0, none⟩ ∧ g < w.heap.size ∧ ∀ j, j < n → w.cell? ⟨g, j, none⟩ = xs[j]? := by
  rcases h.2 with ⟨-, h0⟩ | ⟨g, cap, cur, hv, -, hg, -, -, hc, ht⟩
  · subst h0; omega
  · simp only [Value.slice.injEq] at hv
    refine ⟨g, hv.1, block_lt hg, fun j hj => ?_⟩
    rw [block_cells hg, ← ht, List.getElem?_take, if_pos (by omega)]
    simp
theorem own_formH {w : World} {base : Nat} {e : TypeId} {size n : Nat} {v : Value} {xs : List Value} (h : w.ownsRow base e size v n xs) : ∃ p c, v = .slice p n c := by
  rcases h.2 with ⟨rfl, rfl⟩ | ⟨g, cap, cur, rfl, -⟩
  · exact ⟨_, _, rfl⟩
  · exact ⟨_, _, rfl⟩
end Go.Proofs.Ytjaabakobpabjaa
/- Hard: all that must last. -/
namespace Go.Proofs.Ytjaabakobpabjaa
open Go.ChangeShapes Go.WideShapes Go.ChangeAt Go.RowKit

/-- A range's core, and where its entries lie. -/
structure KpX where
  r : Int
  c : Co
  p : Option Addr
  k : Nat
def kpC (x : KpX) : List Value := [.int .i64 x.r, .int .i64 x.c.id, .int .i64 x.c.role, .int .i64 x.c.tm, .int .i64 x.c.vt, .int .i64 x.c.ld, .int .i64 x.c.wt, .int .i64 x.c.cm, .int .i64 x.c.sf, .int .i64 x.c.l.b, .int .i64 x.c.l.bt, .int .u16 x.c.l.j.ov, .int .u16 x.c.l.j.ox, .int .u16 x.c.l.j.ol, .int .i64 x.c.l.j.oe, .int .i64 x.c.l.j.ok, .int .u16 x.c.l.j.nv, .int .u16 x.c.l.j.nx, .int .u16 x.c.l.j.nl, .int .i64 x.c.l.j.ne, .int .i64 x.c.l.j.nk, .bool x.c.l.j.two, .slice x.p x.c.l.es.length x.k, .string x.c.sn, .int .u16 x.c.vs, .int .u16 x.c.hd, .int .i64 (x.c.nx 0), .int .i64 (x.c.nx 1), .int .i64 (x.c.nx 2), .int .i64 (x.c.nx 3), .int .i64 (x.c.nx 4), .int .i64 (x.c.nx 5), .int .i64 (x.c.nx 6), .int .i64 (x.c.nx 7), .int .i64 (x.c.nx 8), .int .i64 (x.c.nx 9), .int .i64 (x.c.mt 0), .int .i64 (x.c.mt 1), .int .i64 (x.c.mt 2), .int .i64 (x.c.mt 3), .int .i64 (x.c.mt 4), .int .i64 (x.c.mt 5), .int .i64 (x.c.mt 6), .int .i64 (x.c.mt 7), .int .i64 (x.c.mt 8), .int .i64 (x.c.mt 9)]
theorem kp_one (x : KpX) : (kpC x).toArray.all (·.oneCell') = true := all_oneCell_toArray (List.all_eq_true.1 (show (kpC x).all (·.oneCell') = true from rfl))
def coV (x : KpX) : List Value := [.int .i64 x.c.id, .int .i64 x.c.role, .int .i64 x.c.tm, .int .i64 x.c.vt, .int .i64 x.c.ld, .int .i64 x.c.wt, .int .i64 x.c.cm, .int .i64 x.c.sf, .int .i64 x.c.l.b, .int .i64 x.c.l.bt, .int .u16 x.c.l.j.ov, .int .u16 x.c.l.j.ox, .int .u16 x.c.l.j.ol, .int .i64 x.c.l.j.oe, .int .i64 x.c.l.j.ok, .int .u16 x.c.l.j.nv, .int .u16 x.c.l.j.nx, .int .u16 x.c.l.j.nl, .int .i64 x.c.l.j.ne, .int .i64 x.c.l.j.nk, .bool x.c.l.j.two, .slice x.p x.c.l.es.length x.k, .string x.c.sn, .int .u16 x.c.vs, .int .u16 x.c.hd, .int .i64 (x.c.nx 0), .int .i64 (x.c.nx 1), .int .i64 (x.c.nx 2), .int .i64 (x.c.nx 3), .int .i64 (x.c.nx 4), .int .i64 (x.c.nx 5), .int .i64 (x.c.nx 6), .int .i64 (x.c.nx 7), .int .i64 (x.c.nx 8), .int .i64 (x.c.nx 9), .int .i64 (x.c.mt 0), .int .i64 (x.c.mt 1), .int .i64 (x.c.mt 2), .int .i64 (x.c.mt 3), .int .i64 (x.c.mt 4), .int .i64 (x.c.mt 5), .int .i64 (x.c.mt 6), .int .i64 (x.c.mt 7), .int .i64 (x.c.mt 8), .int .i64 (x.c.mt 9)]
theorem kp_tail (x : KpX) (j : Nat) : (kpC x).toArray[1 + j]? = (coV x)[j]? := by
  rw [List.getElem?_toArray, show kpC x = .int .i64 x.r :: coV x from rfl, Nat.add_comm, List.getElem?_cons_succ]
def KpAt (w : World) (q : Option Addr) (l : List KpX) : Prop := ∀ j, (hj : j < l.length) → ∃ g o, q = some ⟨g, o, none⟩ ∧ g < w.heap.size ∧ (∀ i, i < 46 → w.cell? ⟨g, o + j * 46 + i, none⟩ = (kpC l[j])[i]?) ∧ EnSl w (.slice l[j].p l[j].c.l.es.length l[j].k) l[j].c.l.es
theorem KpAt.keep {w w' : World} {q : Option Addr} {l : List KpX} (h : KpAt w q l) (hb : Below w.heap.size w w') : KpAt w' q l := fun j hj => by
  obtain ⟨g, o, e, hg, hc, he⟩ := h j hj
  exact ⟨g, o, e, Nat.lt_of_lt_of_le hg hb.size, fun i hi => (hb.cell (p := ⟨g, o + j * 46 + i, none⟩) hg).trans (hc i hi), he.keep hb (Nat.le_refl _)⟩
def wholeB (life : Int) (L : List KpX) : List (List Int) := recB 76 [life] :: L.flatMap fun x => diffB x.r co0 x.c
theorem wholeB_next (life : Int) {L : List KpX} {k : Nat} (h : k < L.length) : wholeB life (L.take (k + 1)) = wholeB life (L.take k) ++ diffB L[k].r co0 L[k].c := by
  unfold wholeB; rw [List.take_succ_eq_append_getElem h, List.flatMap_append]; simp
theorem diffB_len (r : Int) (o n : Co) : (diffB r o n).length ≤ 3 + n.l.es.length := by
  unfold diffB
  rw [List.length_append, List.length_append, List.length_append, entsB_len, List.length_drop]
  have hif : ∀ (b : Bool) (x : List Int), (if b = true then [x] else []).length ≤ 1 := fun b x => by cases b <;> simp
  have := hif (hardB o n) (recB 72 [r, n.tm, n.vt]); have := hif (snapB o n) (recB 83 [r, n.l.b, n.l.bt] ++ encJo (joX n.l.j) ++ encT n.sn); have := hif (cutB o n) (recB 88 [r, n.l.b + preN (wasL o n) n.l.b n.l.es])
  omega
theorem BsW.app2 {base : Nat} {w w' : World} {v u v' : Value} {M L : List (Value × List Int)} (h : BsW base w v M) (hL : BsW base w u L) (h2 : w'.ownsRow base 32 1 v' (M.length + L.length) (M.map (·.1) ++ L.map (·.1))) (h3 : w.grownBy w' v.ownBlock) : BsW base w' v' (M ++ L) := by
  refine ⟨?_, fun y hy => ?_⟩
  · rw [List.length_append, List.map_append]; exact h2
  · rcases List.mem_append.1 hy with hy | hy
    · exact (h.el y hy).kept h3 (own_apartH (h.el y hy) h.own (by decide))
    · exact (hL.el y hy).kept h3 (own_apartH (hL.el y hy) h.own (by decide))
theorem BsW.one {base : Nat} {w : World} {v : Value} {M : List (Value × List Int)} (h : BsW base w v M) : ∀ u ∈ M.map (·.1), u.oneCell' = true := fun u hu => by
  obtain ⟨x, hx, rfl⟩ := List.mem_map.1 hu
  obtain ⟨p, c, e⟩ := own_formH (h.el x hx)
  rw [e]; rfl
theorem lg0_fit : LgFit co0.l := ⟨by decide, by decide, by decide⟩
set_option maxRecDepth 100000 in
set_option maxHeartbeats 8000000 in
theorem hwhole_any (life : Int) (l : List KpX) (q : Option Addr) (cq : Nat) (w : World) (hlf : In64 life) (hq : KpAt w q l) (hx : ∀ x ∈ l, In64 x.r ∧ LgFit x.c.l ∧ CoF x.c) (hl : l.length ≤ 10) :
    Calls Try.prog 17 #[.int .i64 life, .slice q l.length cq] w (BsEnd w (wholeB life l)) := by
  obtain ⟨i0, hi0, hz0, hz1, hz2⟩ := info_parts Try.infoBs
  have HQ := Lib.hid hq; have HX := Lib.hid hx
  have HC := Lib.hid (hlife_any life w hlf)
  clear hlf hq hx
  go_enter Try.func17, Try.ntmps17
  obtain ⟨Q', hQ⟩ : ∃ Q', bodyPost Try.prog Try.f17 (BsEnd w (wholeB life l)) = Q' := ⟨_, rfl⟩
  have HQQ : Hid (∀ (a : Act) (w' : World) (v : Value) (M : List (Value × List Int)), a.tmps.getD 4 undef = v → a.defers = [] → M.map (·.2) = wholeB life l → BsW w.heap.size w' v M → Below w.heap.size w w' → Q' .ret a w') := fun a w' v M h6 hd hm hl hb => by
    rw [← hQ]; exact bodyPost_ret (v := v) (by rw [results_tmp rfl, h6]) hd ⟨v, M, rfl, hm, hl, hb⟩
  rw [hQ]
  clear hQ
  go_wp2_with fail
  refine HC.out.mono ?_; rintro e w1 ⟨v1, rfl, ho1, hb1⟩
  obtain ⟨p1, c1, rfl, -⟩ := (Sl.of_own ho1).form
  have hb2 : Below w1.heap.size w1 (w1.alloc (.cells #[(Value.slice p1 (recB 76 [life]).length c1)] 32)) := (Below.refl _ _).alloc (Nat.le_refl _) _
  have ho2 := own_keptH ho1 hb2
  have HO : Hid (∃ M, M.map (·.2) = wholeB life (l.take 0) ∧ BsW w.heap.size (w1.alloc (.cells #[(Value.slice p1 (recB 76 [life]).length c1)] 32)) (.slice (some ⟨w1.heap.size, 0, none⟩) 1 1) M ∧ M.length ≤ 1 + 0 * 1000003 ∧ Below w.heap.size w (w1.alloc (.cells #[(Value.slice p1 (recB 76 [life]).length c1)] 32))) := ⟨[((Value.slice p1 (recB 76 [life]).length c1), recB 76 [life])], by simp [wholeB], ⟨⟨rfl, .inr ⟨w1.heap.size, 1, _, rfl, hb1.size, heap_last w1 _, Nat.le_refl _, by unfold maxLen; decide, rfl, rfl⟩⟩, fun x hx => by rw [List.mem_singleton] at hx; rw [hx]; exact ho2⟩, by simp, hb1.trans (hb2.mono hb1.size)⟩
  clear ho1 hb1 hb2 ho2 HC
  go_wp2_with fail
  go_loopw [5, 13] (fun u i wr => ∃ k : Nat, k ≤ l.length ∧ i = .int .i64 k ∧ Hid (∃ M, M.map (·.2) = wholeB life (l.take k) ∧ BsW w.heap.size wr u M ∧ M.length ≤ 1 + k * 1000003 ∧ Below w.heap.size w wr)) (fun _ i _ => l.length - (intOf i).toNat)
  case atStart => exact ⟨0, Nat.zero_le _, rfl, HO⟩
  case round =>
    clear HO
    obtain ⟨k, hk, rfl, HO⟩ := hrel
    obtain ⟨wk, rfl⟩ : ∃ wk : World, wk = wr := ⟨_, rfl⟩
    obtain ⟨vk, rfl⟩ : ∃ vk : Value, vk = u5 := ⟨_, rfl⟩
    obtain ⟨M, hM, hB, hml, hbw⟩ := HO.out
    by_cases hlt : k < l.length
    · have hd : decide ((k : Int) < (l.length : Int)) = true := by simp; omega
      obtain ⟨ga, oa, hqe, hga, hca, hen⟩ := (HQ.out.keep hbw) k hlt
      obtain ⟨x, hx⟩ : ∃ x, l[k] = x := ⟨_, rfl⟩
      rw [hx] at hca hen
      obtain ⟨f1, f2, f3⟩ := HX.out x (by rw [← hx]; exact List.getElem_mem hlt)
      subst hqe
      have HRG := Lib.hid (range_of (n := 46) (cs := kpC x) rfl hca)
      have HE := Lib.hid hen; have HF2 : Hid (LgFit x.c.l) := f2; have HF3 := Lib.hid f3; have HF1 := Lib.hid f1
      have HM := Lib.hid hM; have HB := Lib.hid hB; have HBW := Lib.hid hbw; have HXK := Lib.hid hx
      have hdl := diffB_len x.r co0 x.c
      have hes := f2.n
      clear hca hen f1 f2 f3 hM hB hbw hx HO
      go_upto_region 5 with (first | (with_reducible refine wpList_load_mid (op := ⟨some 16, _, _, _, _, _⟩) rfl _ _ rfl ga (oa + k * 46) rfl (kpC x) _ HRG.out Try.underlying55 rfl (by kernel_rfl) ?_) | (with_reducible refine wpList_store_new rfl _ _ _ rfl _ (kpC x).toArray rfl rfl (by kernel_rfl) rfl (kp_one x) ?_))
      have b2 : Below wk.heap.size wk (wk.alloc (.cells (kpC x).toArray 55)) := (Below.refl _ _).alloc (Nat.le_refl _) _
      have hX := heap_last wk (.cells (kpC x).toArray 55)
      obtain ⟨w2, hw⟩ : ∃ z : World, wk.alloc (.cells (kpC x).toArray 55) = z := ⟨_, rfl⟩
      rw [hw] at b2 hX ⊢
      obtain ⟨X, eX⟩ : ∃ z, wk.heap.size = z := ⟨_, rfl⟩
      (try rw [eX])
      rw [eX] at hX
      have k0 : w2.cell? ⟨X, 0, none⟩ = some (.int .i64 x.r) := (block_cells hX 0).trans rfl
      have HRX := Lib.hid (show w2.rangeAt X 1 (coV x) from range_of (n := 45) rfl (fun j _ => (block_cells hX (1 + j)).trans (kp_tail x j)))
      have HB2 := Lib.hid (HB.out.keep b2)
      have HBW2 := Lib.hid (HBW.out.trans (b2.mono HBW.out.size))
      have HC := Lib.hid (show Calls Try.prog 16 #[.int .i64 x.r, .agg #[.int .i64 0, .int .i64 0, .int .i64 0, .int .i64 0, .int .i64 0, .int .i64 0, .int .i64 0, .int .i64 0, .int .i64 0, .int .i64 0, .int .u16 0, .int .u16 0, .int .u16 0, .int .i64 0, .int .i64 0, .int .u16 0, .int .u16 0, .int .u16 0, .int .i64 0, .int .i64 0, .bool false, .slice none 0 0, .string ⟨#[]⟩, .int .u16 0, .int .u16 0, .int .i64 0, .int .i64 0, .int .i64 0, .int .i64 0, .int .i64 0, .int .i64 0, .int .i64 0, .int .i64 0, .int .i64 0, .int .i64 0, .int .i64 0, .int .i64 0, .int .i64 0, .int .i64 0, .int .i64 0, .int .i64 0, .int .i64 0, .int .i64 0, .int .i64 0, .int .i64 0], .agg (coV x).toArray] w2 (BsEnd w2 (diffB x.r co0 x.c)) from hdiff_any x.r co0 x.c none x.p 0 x.k w2 lg0_fit HF2.out HF1.out HF3.out ⟨rfl, .inl ⟨rfl, rfl⟩⟩ (HE.out.keep b2 (Nat.le_refl _)))
      clear hw b2 hX eX HB HBW HE HF1 HF2 HF3 HRG
      go_wp2_with (with_reducible refine wpList_load_mid (op := ⟨some 22, _, _, _, _, _⟩) rfl _ _ rfl X 1 rfl (coV x) _ HRX.out Try.underlying48 rfl (by kernel_rfl) ?_)
      refine HC.out.mono ?_; rintro e w3 ⟨v3, L, rfl, hL, hBL, hb3⟩
      have HB3 := Lib.hid (HB2.out.keep hb3)
      have HBL := Lib.hid (hBL.mono HBW2.out.size)
      have HBW3 := Lib.hid (HBW2.out.trans (hb3.mono HBW2.out.size))
      have HLL := Lib.hid hL
      have hLn : L.length ≤ 1000003 := by
        have := congrArg List.length hL
        rw [List.length_map] at this; omega
      have hmt : M.length + L.length ≤ 1 + (k + 1) * 1000003 := by omega
      clear hL hBL hb3 k0 HC HB2 HBW2 HRX
      go_wp2_with (at_builtin; go_loud (refine wpList_append_sl_at rfl _ _ 23 rfl w.heap.size 32 i0 (.slice none 0 0) 1 24 Try.underlying23 hi0 hz0 hz1 hz2 rfl (by decide) vk M.length (M.map (·.1)) rfl HB3.out.own w3.heap.size _ L.length (L.map (·.1)) rfl (Sl.of_own HBL.out.own) HBL.out.one ?d1 ?d2 ?d3 ?_))
      case d1 => unfold maxLen; omega
      case d2 => omega
      case d3 => exact HBW3.out.size
      intro v4 w4 h2 h3 h4
      have HO2 : Hid (∃ M, M.map (·.2) = wholeB life (l.take (k + 1)) ∧ BsW w.heap.size w4 v4 M ∧ M.length ≤ 1 + (k + 1) * 1000003 ∧ Below w.heap.size w w4) := ⟨M ++ L, by rw [List.map_append, HM.out, HLL.out, wholeB_next life hlt, HXK.out], HB3.out.app2 HBL.out h2 h3, by rw [List.length_append]; exact hmt, HB3.out.below HBW3.out HBW3.out.size (Nat.le_refl _) h3⟩
      clear h2 h3 h4 HB3 HBL HBW3 HLL HM
      go_wp2_with fail
      go_roundw
      case rel => exact ⟨k + 1, by omega, by go_num, HO2⟩
      case measure => simp [intOf]; omega
    · obtain rfl : k = l.length := by omega
      have hd : decide ((l.length : Int) < (l.length : Int)) = false := by simp
      rw [List.take_of_length_le (Nat.le_refl _)] at hM
      have HM := Lib.hid hM; have HB := Lib.hid hB; have HBW := Lib.hid hbw
      clear hM hB hbw HO
      go_wp2_with fail
      exact HQQ.out _ _ vk M rfl rfl HM.out HB.out HBW.out
end Go.Proofs.Ytjaabakobpabjaa
