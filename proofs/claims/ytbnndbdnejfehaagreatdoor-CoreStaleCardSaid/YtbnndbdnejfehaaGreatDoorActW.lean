/- Core: methods of an act that takes others' entries: the log with them (the program's takes). -/
import Derived.Test.YtbnndbdnejfehaaGreatDoorActV
namespace Go.Proofs.YtbnndbdnejfehaaGreatDoor
open Go.ChangeShapes Go.WideShapes Go.ChangeAt Go.RowKit

/-- What takes tells: a log in a row of the call's own, which is the merged one if it may be. -/
def TkLog (w : World) (c : Co) (m : Ms) (e : Ending) (w' : World) : Prop :=
  ∃ (x : Lg × Int × Bool) (q : Option Addr) (d : Nat), e = .returned (.tuple #[.agg #[.int .i64 x.1.b, .int .i64 x.1.bt, .int .u16 x.1.j.ov, .int .u16 x.1.j.ox, .int .u16 x.1.j.ol, .int .i64 x.1.j.oe, .int .i64 x.1.j.ok, .int .u16 x.1.j.nv, .int .u16 x.1.j.nx, .int .u16 x.1.j.nl, .int .i64 x.1.j.ne, .int .i64 x.1.j.nk, .bool x.1.j.two, .slice q x.1.es.length d], .int .i64 x.2.1, .bool x.2.2, .bool (takesB c m)]) ∧ (takesB c m = true → x = mergeL c.l m.ix m.lt m.es) ∧ w'.ownsRow w.heap.size 47 14 (.slice q x.1.es.length d) x.1.es.length (entRow x.1.es) ∧ Below w.heap.size w w'
theorem takes_late {c : Co} {m : Ms} {k : Nat} (hk : k < m.es.length) (h : c.tm < m.es[k].t) : takesB c m = false := by
  unfold takesB
  have : m.es.all (fun e => decide (e.t ≤ c.tm)) = false := by
    rw [List.all_eq_false]
    exact ⟨m.es[k], List.getElem_mem hk, by simp; omega⟩
  rw [this]; rfl
theorem takes_conf {c : Co} {m : Ms} (h : m.es.all enM = false) : takesB c m = false := by
  unfold takesB; rw [h]; simp
theorem takes_in {c : Co} {m : Ms} (h1 : ∀ e ∈ m.es, e.t ≤ c.tm) (h2 : m.es.all enM = true) : takesB c m = (!(mergeL c.l m.ix m.lt m.es).2.2 || (mayL (mergeL c.l m.ix m.lt m.es).1 && decide ((mergeL c.l m.ix m.lt m.es).1.es.length ≤ 4096))) := by
  unfold takesB
  rw [h2, show m.es.all (fun e => decide (e.t ≤ c.tm)) = true from List.all_eq_true.2 (fun e he => by simpa using h1 e he)]; rfl
theorem joinL_max (l : Lg) (P : Int) (E : List Ent) : (joinL l P E).es.length ≤ l.es.length + E.length := by
  unfold joinL
  split
  · unfold frontL
    show (l.es.take _ ++ E.drop _).length ≤ _
    rw [List.length_append, List.length_take, List.length_drop]; omega
  · omega
theorem mergeL_len (l : Lg) (prev term : Int) (es : List Ent) : (mergeL l prev term es).1.es.length ≤ l.es.length + es.length := by
  unfold mergeL
  split
  · show l.es.length ≤ _; omega
  · split
    · show l.es.length ≤ _; omega
    · split
      · have := joinL_max l l.b (es.drop (l.b - prev).toNat)
        show (joinL l l.b (es.drop (l.b - prev).toNat)).es.length ≤ _
        rw [List.length_drop] at this; omega
      · exact joinL_max l prev es
theorem fin4 {W : World} {Z : Nat} {cs : Array Value} {q : Option Addr} {d : Nat} {l : Lg} (hZ : W.heap[Z]? = some (.cells cs 30 (0, 0))) (hs : cs.size = 14) : (W.setCells Z 0 [.int .i64 l.b, .int .i64 l.bt, .int .u16 l.j.ov, .int .u16 l.j.ox, .int .u16 l.j.ol, .int .i64 l.j.oe, .int .i64 l.j.ok, .int .u16 l.j.nv, .int .u16 l.j.nx, .int .u16 l.j.nl, .int .i64 l.j.ne, .int .i64 l.j.nk, .bool l.j.two, .slice q l.es.length d]).heap[Z]? = some (.cells #[.int .i64 l.b, .int .i64 l.bt, .int .u16 l.j.ov, .int .u16 l.j.ox, .int .u16 l.j.ol, .int .i64 l.j.oe, .int .i64 l.j.ok, .int .u16 l.j.nv, .int .u16 l.j.nx, .int .u16 l.j.nl, .int .i64 l.j.ne, .int .i64 l.j.nk, .bool l.j.two, .slice q l.es.length d] 30 (0, 0)) :=
  setCells_full (n := 14) (vs := #[.int .i64 l.b, .int .i64 l.bt, .int .u16 l.j.ov, .int .u16 l.j.ox, .int .u16 l.j.ol, .int .i64 l.j.oe, .int .i64 l.j.ok, .int .u16 l.j.nv, .int .u16 l.j.nx, .int .u16 l.j.nl, .int .i64 l.j.ne, .int .i64 l.j.nk, .bool l.j.two, .slice q l.es.length d]) hZ hs rfl

set_option maxRecDepth 100000 in
set_option maxHeartbeats 16000000 in
theorem takes_act (R : Nat) (c : Co) (p : Option Addr) (k : Nat) (v : Value) (m : Ms) (q : Option Addr) (d : Nat) (w : World) (hR : w.heap[R]? = some (.cells #[.int .i64 c.id, .int .i64 c.role, .int .i64 c.tm, .int .i64 c.vt, .int .i64 c.ld, .int .i64 c.wt, .int .i64 c.cm, .int .i64 c.sf, .int .i64 c.l.b, .int .i64 c.l.bt, .int .u16 c.l.j.ov, .int .u16 c.l.j.ox, .int .u16 c.l.j.ol, .int .i64 c.l.j.oe, .int .i64 c.l.j.ok, .int .u16 c.l.j.nv, .int .u16 c.l.j.nx, .int .u16 c.l.j.nl, .int .i64 c.l.j.ne, .int .i64 c.l.j.nk, .bool c.l.j.two, .slice p c.l.es.length k, .string c.sn, .int .u16 c.vs, .int .u16 c.hd, .int .i64 (c.nx 0), .int .i64 (c.nx 1), .int .i64 (c.nx 2), .int .i64 (c.nx 3), .int .i64 (c.nx 4), .int .i64 (c.nx 5), .int .i64 (c.nx 6), .int .i64 (c.nx 7), .int .i64 (c.nx 8), .int .i64 (c.nx 9), .int .i64 (c.mt 0), .int .i64 (c.mt 1), .int .i64 (c.mt 2), .int .i64 (c.mt 3), .int .i64 (c.mt 4), .int .i64 (c.mt 5), .int .i64 (c.mt 6), .int .i64 (c.mt 7), .int .i64 (c.mt 8), .int .i64 (c.mt 9), v] 69 (0, 0))) (hF : LgFit c.l) (hE : EnSl w (.slice p c.l.es.length k) c.l.es) (hM : EnSl w (.slice q m.es.length d) m.es) (hix : -9223372036854775808 ≤ m.ix ∧ m.ix ≤ 9223372036854775807) (hl : c.l.es.length + m.es.length ≤ 1000000) :
    Calls Tryz.prog 98 #[.pointer (some ⟨R, 0, none⟩), .agg #[.int .i64 m.k, .int .i64 m.fr, .int .i64 m.dst, .int .i64 m.tm, .int .i64 m.ix, .int .i64 m.lt, .int .i64 m.cm, .int .i64 m.sf, .bool m.yes, .slice q m.es.length d, .string m.sn, .int .u16 m.cf.ov, .int .u16 m.cf.ox, .int .u16 m.cf.ol, .int .i64 m.cf.oe, .int .i64 m.cf.ok, .int .u16 m.cf.nv, .int .u16 m.cf.nx, .int .u16 m.cf.nl, .int .i64 m.cf.ne, .int .i64 m.cf.nk, .bool m.cf.two]] w (TkLog w c m) := by
  obtain ⟨W0, hW0⟩ : ∃ z : World, w.alloc (.cells #[.int .i64 m.k, .int .i64 m.fr, .int .i64 m.dst, .int .i64 m.tm, .int .i64 m.ix, .int .i64 m.lt, .int .i64 m.cm, .int .i64 m.sf, .bool m.yes, .slice q m.es.length d, .string m.sn, .int .u16 m.cf.ov, .int .u16 m.cf.ox, .int .u16 m.cf.ol, .int .i64 m.cf.oe, .int .i64 m.cf.ok, .int .u16 m.cf.nv, .int .u16 m.cf.nx, .int .u16 m.cf.nl, .int .i64 m.cf.ne, .int .i64 m.cf.nk, .bool m.cf.two] 39) = z := ⟨_, rfl⟩
  obtain ⟨W, hW⟩ : ∃ z : World, W0.alloc (.cells #[.int .i64 0, .int .i64 0, .int .u16 0, .int .u16 0, .int .u16 0, .int .i64 0, .int .i64 0, .int .u16 0, .int .u16 0, .int .u16 0, .int .i64 0, .int .i64 0, .bool false, .slice none 0 0] 30) = z := ⟨_, rfl⟩
  have hs0 : W0.heap.size = w.heap.size + 1 := by rw [← hW0]; simp
  have b0 : Below w.heap.size w W0 := by rw [← hW0]; exact (Below.refl _ _).alloc (Nat.le_refl _) _
  have b1 : Below W0.heap.size W0 W := by rw [← hW]; exact (Below.refl _ _).alloc (Nat.le_refl _) _
  have bW := b0.trans (b1.mono b0.size)
  have hX : W.heap[w.heap.size]? = some (.cells #[.int .i64 m.k, .int .i64 m.fr, .int .i64 m.dst, .int .i64 m.tm, .int .i64 m.ix, .int .i64 m.lt, .int .i64 m.cm, .int .i64 m.sf, .bool m.yes, .slice q m.es.length d, .string m.sn, .int .u16 m.cf.ov, .int .u16 m.cf.ox, .int .u16 m.cf.ol, .int .i64 m.cf.oe, .int .i64 m.cf.ok, .int .u16 m.cf.nv, .int .u16 m.cf.nx, .int .u16 m.cf.nl, .int .i64 m.cf.ne, .int .i64 m.cf.nk, .bool m.cf.two] 39 (0, 0)) := below_block b1 (by omega) (by rw [← hW0]; exact heap_last w _)
  have hZ : W.heap[w.heap.size + 1]? = some (.cells #[.int .i64 0, .int .i64 0, .int .u16 0, .int .u16 0, .int .u16 0, .int .i64 0, .int .i64 0, .int .u16 0, .int .u16 0, .int .u16 0, .int .i64 0, .int .i64 0, .bool false, .slice none 0 0] 30 (0, 0)) := by rw [← hW, ← hs0]; exact heap_last W0 _
  obtain ⟨X, eX⟩ : ∃ z, w.heap.size = z := ⟨_, rfl⟩
  obtain ⟨Z, eZ⟩ : ∃ z, X + 1 = z := ⟨_, rfl⟩
  rw [eX] at hX hZ
  rw [eZ] at hZ
  have hWs : W.heap.size = Z + 1 := by rw [← hW]; simp only [World.size_alloc]; omega
  have HWG := Lib.hid (show (w.alloc (.cells #[.int .i64 m.k, .int .i64 m.fr, .int .i64 m.dst, .int .i64 m.tm, .int .i64 m.ix, .int .i64 m.lt, .int .i64 m.cm, .int .i64 m.sf, .bool m.yes, .slice q m.es.length d, .string m.sn, .int .u16 m.cf.ov, .int .u16 m.cf.ox, .int .u16 m.cf.ol, .int .i64 m.cf.oe, .int .i64 m.cf.ok, .int .u16 m.cf.nv, .int .u16 m.cf.nx, .int .u16 m.cf.nl, .int .i64 m.cf.ne, .int .i64 m.cf.nk, .bool m.cf.two] 39)).alloc (.cells #[.int .i64 0, .int .i64 0, .int .u16 0, .int .u16 0, .int .u16 0, .int .i64 0, .int .i64 0, .int .u16 0, .int .u16 0, .int .u16 0, .int .i64 0, .int .i64 0, .bool false, .slice none 0 0] 30) = W by rw [hW0]; exact hW)
  have HX := Lib.hid hX; have HZ := Lib.hid hZ; have HBW := Lib.hid bW; have HEX := Lib.hid eX; have HEZ := Lib.hid eZ; have HF : Hid (LgFit c.l) := hF; have HWS := Lib.hid hWs
  have HE := Lib.hid (hE.keep bW (Nat.le_refl _)); have HM := Lib.hid (hM.keep bW (Nat.le_refl _))
  have HR := Lib.hid (below_block bW (block_lt hR) hR)
  have HZF := Lib.hid (show ∀ (wx : World) (l : Lg) (qz : Option Addr) (dz : Nat) (y : Int) (b t : Bool), Below w.heap.size w wx → (∃ cs, wx.heap[Z]? = some (.cells cs 30 (0, 0))) → takesB c m = t → (t = true → (l, y, b) = mergeL c.l m.ix m.lt m.es) → wx.ownsRow w.heap.size 47 14 (.slice qz l.es.length dz) l.es.length (entRow l.es) → TkLog w c m (.returned (.tuple #[.agg #[.int .i64 l.b, .int .i64 l.bt, .int .u16 l.j.ov, .int .u16 l.j.ox, .int .u16 l.j.ol, .int .i64 l.j.oe, .int .i64 l.j.ok, .int .u16 l.j.nv, .int .u16 l.j.nx, .int .u16 l.j.nl, .int .i64 l.j.ne, .int .i64 l.j.nk, .bool l.j.two, .slice qz l.es.length dz], .int .i64 y, .bool b, .bool t])) (wx.setCells Z 0 [.int .i64 l.b, .int .i64 l.bt, .int .u16 l.j.ov, .int .u16 l.j.ox, .int .u16 l.j.ol, .int .i64 l.j.oe, .int .i64 l.j.ok, .int .u16 l.j.nv, .int .u16 l.j.nx, .int .u16 l.j.nl, .int .i64 l.j.ne, .int .i64 l.j.nk, .bool l.j.two, .slice qz l.es.length dz]) from fun wx l qz dz y b t hb ⟨cs, hz⟩ ht hm ho => by
    have hg := (block_setCells [.int .i64 l.b, .int .i64 l.bt, .int .u16 l.j.ov, .int .u16 l.j.ox, .int .u16 l.j.ol, .int .i64 l.j.oe, .int .i64 l.j.ok, .int .u16 l.j.nv, .int .u16 l.j.nx, .int .u16 l.j.nl, .int .i64 l.j.ne, .int .i64 l.j.nk, .bool l.j.two, .slice qz l.es.length dz] 0 hz).2
    refine ⟨(l, y, b), qz, dz, by rw [ht], fun h => hm (ht ▸ h), ho.kept hg (own_other ho hz (by decide)), hb.grown hg hb.size (fun e he => by simp only [Option.some.injEq] at he; omega)⟩)
  have hnm : m.es.length ≤ 1000000 := by omega
  have HRL := Lib.hid (block_lt hR)
  have HLN := Lib.hid hl
  clear hF hE hM hR hW0 hW hs0 b0 b1 bW hX hZ eX eZ hWs hl
  go_enter Tryz.func98, Tryz.ntmps98
  go_upto_region 1 with fail
  rw [HWG.out, HEX.out]
  (try rw [HEZ.out])
  clear HWG
  have kX := block_cells HX.out
  go_wp2_with fail
  clear kX
  go_loopw [13] (fun i wr => ∃ n : Nat, n ≤ m.es.length ∧ i = .int .i64 n ∧ Hid (∀ j, (h : j < n) → (h2 : j < m.es.length) → m.es[j].t ≤ c.tm) ∧ Hid (Below W.heap.size W wr)) (fun i _ => m.es.length - (intOf i).toNat)
  case atStart => exact ⟨0, Nat.zero_le _, rfl, fun j h => absurd h (by omega), Below.refl _ _⟩
  case round =>
    obtain ⟨n, hn, rfl, HT, HB⟩ := hrel
    obtain ⟨wk, rfl⟩ : ∃ wk : World, wk = wr := ⟨_, rfl⟩
    by_cases hlt : n < m.es.length
    · obtain ⟨g, o, cap, hv, hgl, hc⟩ := (HM.out.keep HB.out (Nat.le_refl _)).at n hlt
      simp only [Value.slice.injEq] at hv
      obtain ⟨rfl, -⟩ := hv
      obtain ⟨e, he⟩ : ∃ e, m.es[n] = e := ⟨_, rfl⟩
      rw [he] at hc
      have hq0 : wk.cell? ⟨g, o + n * 14, none⟩ = some (.int .i64 e.t) := hc 0 (by decide)
      have hq1 : wk.cell? ⟨g, o + n * 14 + 1, none⟩ = some (.int .i64 e.k) := hc 1 (by decide)
      have hq2 : wk.cell? ⟨g, o + n * 14 + 2, none⟩ = some (.string e.d) := hc 2 (by decide)
      have hq3 : wk.cell? ⟨g, o + n * 14 + 3, none⟩ = some (.int .u16 e.j.ov) := hc 3 (by decide)
      have hq4 : wk.cell? ⟨g, o + n * 14 + 4, none⟩ = some (.int .u16 e.j.ox) := hc 4 (by decide)
      have hq5 : wk.cell? ⟨g, o + n * 14 + 5, none⟩ = some (.int .u16 e.j.ol) := hc 5 (by decide)
      have hq6 : wk.cell? ⟨g, o + n * 14 + 6, none⟩ = some (.int .i64 e.j.oe) := hc 6 (by decide)
      have hq7 : wk.cell? ⟨g, o + n * 14 + 7, none⟩ = some (.int .i64 e.j.ok) := hc 7 (by decide)
      have hq8 : wk.cell? ⟨g, o + n * 14 + 8, none⟩ = some (.int .u16 e.j.nv) := hc 8 (by decide)
      have hq9 : wk.cell? ⟨g, o + n * 14 + 9, none⟩ = some (.int .u16 e.j.nx) := hc 9 (by decide)
      have hq10 : wk.cell? ⟨g, o + n * 14 + 10, none⟩ = some (.int .u16 e.j.nl) := hc 10 (by decide)
      have hq11 : wk.cell? ⟨g, o + n * 14 + 11, none⟩ = some (.int .i64 e.j.ne) := hc 11 (by decide)
      have hq12 : wk.cell? ⟨g, o + n * 14 + 12, none⟩ = some (.int .i64 e.j.nk) := hc 12 (by decide)
      have hq13 : wk.cell? ⟨g, o + n * 14 + 13, none⟩ = some (.bool e.j.two) := hc 13 (by decide)
      have hd1 : decide ((n : Int) < (m.es.length : Int)) = true := by simp; omega
      have HEE := Lib.hid he
      clear hc he
      go_upto_region 4 with fail
      obtain ⟨W1, hW1⟩ : ∃ W1, wk.alloc (.cells #[.int .i64 e.t, .int .i64 e.k, .string e.d, .int .u16 e.j.ov, .int .u16 e.j.ox, .int .u16 e.j.ol, .int .i64 e.j.oe, .int .i64 e.j.ok, .int .u16 e.j.nv, .int .u16 e.j.nx, .int .u16 e.j.nl, .int .i64 e.j.ne, .int .i64 e.j.nk, .bool e.j.two] 47) = W1 := ⟨_, rfl⟩
      have hX := heap_last wk (.cells #[.int .i64 e.t, .int .i64 e.k, .string e.d, .int .u16 e.j.ov, .int .u16 e.j.ox, .int .u16 e.j.ol, .int .i64 e.j.oe, .int .i64 e.j.ok, .int .u16 e.j.nv, .int .u16 e.j.nx, .int .u16 e.j.nl, .int .i64 e.j.ne, .int .i64 e.j.nk, .bool e.j.two] 47)
      have hb : Below wk.heap.size wk W1 := by rw [← hW1]; exact (Below.refl _ _).alloc (Nat.le_refl _) _
      obtain ⟨Y, eY⟩ : ∃ Y, wk.heap.size = Y := ⟨_, rfl⟩
      rw [hW1] at hX ⊢
      (try rw [eY])
      rw [eY] at hX
      have HY := Lib.hid hX
      have HB1 := Lib.hid (HB.out.trans (hb.mono HB.out.size))
      have HYW := Lib.hid (show W.heap.size ≤ Y from by have := HB.out.size; omega)
      clear hW1 hX hb eY hq0 hq1 hq2 hq3 hq4 hq5 hq6 hq7 hq8 hq9 hq10 hq11 hq12 hq13
      go_upto_region 4 with fail
      have h0 : Below W1.heap.size W1 W1.drew := (Below.refl _ _).drew
      refine wp_region_held_drew (S := fun w' => Below W1.heap.size W1 w') (by kernel_rfl) h0 (fun hHeld => ?_)
      obtain ⟨wd, ewd⟩ : ∃ x, W1.drew = x := ⟨_, rfl⟩
      rewrite [ewd] at h0 hHeld ⊢
      have kY : ∀ w', Below W1.heap.size W1 w' → w'.cell? ⟨Y, 0, none⟩ = some (.int .i64 e.t) := fun w' h => block_cells (below_block h (block_lt HY.out) HY.out) 0
      have k2 : ∀ w', Below W1.heap.size W1 w' → w'.cell? ⟨R, 2, none⟩ = some (.int .i64 c.tm) := fun w' h => block_cells (below_block (HB1.out.trans (h.mono HB1.out.size)) (block_lt HR.out) HR.out) 2
      clear ewd
      refine tkH (i := 0) (v := ?_) rfl (Or.inl ⟨by rfl, ?_⟩) hHeld ?_
      rotate_left
      · (intro wz hSw; (try dsimp only at hSw); (try simp only [zA, zC]); go_simp; try with_reducible rfl)
      try simp only [zA, zC, Act.put, zD, zE, zF]
      refine tkH (i := 1) (v := ?_) rfl (Or.inl ⟨by rfl, ?_⟩) hHeld ?_
      rotate_left
      · (intro wz hSw; (try dsimp only at hSw); (try simp only [zA, zB, zC]); go_simp; try with_reducible rfl)
      try simp only [zA, zB, zC, Act.put, zD, zE, zF]
      refine tkH (i := 2) (v := ?_) rfl (Or.inl ⟨by rfl, ?_⟩) hHeld ?_
      rotate_left
      · (intro wz hSw; (try dsimp only at hSw); (try simp only [zA, zB, zC]); go_simp; try with_reducible rfl)
      try simp only [zA, zB, zC, Act.put, zD, zE, zF]
      refine tkH (i := 3) (v := ?_) rfl (Or.inl ⟨by rfl, ?_⟩) hHeld ?_
      rotate_left
      · (intro wz hSw; (try dsimp only at hSw); (try simp only [zA, zB, zC]); go_simp; try with_reducible rfl)
      try simp only [zA, zB, zC, Act.put, zD, zE, zF]
      refine tkH (i := 4) (v := ?_) rfl (Or.inl ⟨by rfl, ?_⟩) hHeld ?_
      rotate_left
      · (intro wz hSw; (try dsimp only at hSw); (try simp only [zA, zB, zC]); go_simp; try with_reducible rfl)
      try simp only [zA, zB, zC, Act.put, zD, zE, zF]
      refine tkH (i := 5) (v := ?_) rfl (Or.inl ⟨by rfl, ?_⟩) hHeld ?_
      rotate_left
      · (intro wz hSw; (try dsimp only at hSw); (try simp only [zA, zB, zC]); go_simp; try with_reducible rfl)
      try simp only [zA, zB, zC, Act.put, zD, zE, zF]
      refine tkH (i := 6) (v := ?_) rfl (Or.inl ⟨by rfl, ?_⟩) hHeld ?_
      rotate_left
      · (intro wz hSw; (try dsimp only at hSw); (try simp only [zA, zB, zC]); go_simp; try with_reducible rfl)
      try simp only [zA, zB, zC, Act.put, zD, zE, zF]
      refine tkH (i := 7) (v := ?_) rfl (Or.inl ⟨by rfl, ?_⟩) hHeld ?_
      rotate_left
      · (intro wz hSw; (try dsimp only at hSw); (try simp only [zA, zB, zC]); go_simp; try with_reducible rfl)
      try simp only [zA, zB, zC, Act.put, zD, zE, zF]
      refine wpAnyH_done (by kernel_rfl) ?_ _
      have HB2 := Lib.hid (HB1.out.trans (h0.mono HB1.out.size))
      clear hHeld kY k2 h0
      by_cases ht : c.tm < e.t
      · have hd2 : decide (c.tm < e.t) = true := by simp [ht]
        have HTF := Lib.hid (takes_late (c := c) (m := m) hlt (by rw [HEE.out]; exact ht))
        have HZ2 := Lib.hid (below_block HB2.out (block_lt HZ.out) HZ.out)
        have HTH := Lib.hid (there_of_block (o := 0) (n := 14) HZ2.out (by decide))
        go_wp2_with (with_reducible refine wpList_store_at (op := ⟨none, .store 30 _ _, _, _, _, _⟩) rfl _ _ _ rfl Z 0 14 #[.int .i64 0, .int .i64 0, .int .u16 0, .int .u16 0, .int .u16 0, .int .i64 0, .int .i64 0, .int .u16 0, .int .u16 0, .int .u16 0, .int .i64 0, .int .i64 0, .bool false, .slice none 0 0] (by kernel_rfl) rfl rfl HTH.out (by kernel_rfl) (one_all rfl) ?_)
        refine bodyPost_ret (v := .tuple #[.agg #[.int .i64 0, .int .i64 0, .int .u16 0, .int .u16 0, .int .u16 0, .int .i64 0, .int .i64 0, .int .u16 0, .int .u16 0, .int .u16 0, .int .i64 0, .int .i64 0, .bool false, .slice none 0 0], .int .i64 0, .bool false, .bool false]) ?_ rfl ?_
        · have kF := block_cells (show (wd.setCells Z 0 [.int .i64 0, .int .i64 0, .int .u16 0, .int .u16 0, .int .u16 0, .int .i64 0, .int .i64 0, .int .u16 0, .int .u16 0, .int .u16 0, .int .i64 0, .int .i64 0, .bool false, .slice none 0 0]).heap[Z]? = some (.cells #[.int .i64 0, .int .i64 0, .int .u16 0, .int .u16 0, .int .u16 0, .int .i64 0, .int .i64 0, .int .u16 0, .int .u16 0, .int .u16 0, .int .i64 0, .int .i64 0, .bool false, .slice none 0 0] 30 (0, 0)) from fin4 (l := lg0) (q := none) (d := 0) HZ2.out rfl)
          simp [results, Tryz.results98, go_sem, kF]
        · exact HZF.out wd lg0 none 0 0 false false (HBW.out.trans (HB2.out.mono HBW.out.size)) ⟨_, HZ2.out⟩ HTF.out (fun h => by cases h) (World.ownsRow_nil _ _ _ _)
      · have hd2 : decide (c.tm < e.t) = false := by simp; omega
        have HT2 : Hid (∀ j, (h : j < n + 1) → (h2 : j < m.es.length) → m.es[j].t ≤ c.tm) := fun j h h2 => by
          by_cases hj : j < n
          · exact HT.out j hj h2
          · obtain rfl : j = n := by omega
            rw [HEE.out]; omega
        have hle : e.t ≤ c.tm := by omega
        clear ht
        go_wp2_with fail
        go_roundw
        case rel => exact ⟨n + 1, by omega, by go_num, HT2, HB2⟩
        case measure => simp [intOf]; omega
    · obtain rfl : n = m.es.length := by omega
      have hd1 : decide ((m.es.length : Int) < (m.es.length : Int)) = false := by simp
      have HT1 : Hid (∀ e ∈ m.es, e.t ≤ c.tm) := fun e he => by
        obtain ⟨j, hj, rfl⟩ := List.getElem_of_mem he
        exact HT.out j hj hj
      have HX1 := Lib.hid (below_block HB.out (block_lt HX.out) HX.out)
      have kX := block_cells HX1.out
      obtain ⟨cf, hcf⟩ : ∃ b, m.es.all enM = b := ⟨_, rfl⟩
      have HMC := Lib.hid (show Calls Tryz.prog 63 #[.slice q m.es.length d] wk fun r w' => r = .returned (.bool cf) ∧ Below wk.heap.size wk w' from by have := mayConfs_any m.es q d wk hnm (HM.out.keep HB.out (Nat.le_refl _)); rw [hcf] at this; exact this)
      have HCF := Lib.hid hcf
      clear hcf
      go_wp2_with fail
      refine HMC.out.mono ?_; rintro r w2 ⟨rfl, b2⟩
      have HB2 := Lib.hid (HB.out.trans (b2.mono HB.out.size))
      have HZ2 := Lib.hid (below_block HB2.out (block_lt HZ.out) HZ.out)
      have HX2 := Lib.hid (below_block HB2.out (block_lt HX.out) HX.out)
      have HTH := Lib.hid (there_of_block (o := 0) (n := 14) HZ2.out (by decide))
      clear b2 HMC kX HX1
      cases cf with
      | false =>
        have HTF := Lib.hid (takes_conf (c := c) HCF.out)
        go_wp2_with (with_reducible refine wpList_store_at (op := ⟨none, .store 30 _ _, _, _, _, _⟩) rfl _ _ _ rfl Z 0 14 #[.int .i64 0, .int .i64 0, .int .u16 0, .int .u16 0, .int .u16 0, .int .i64 0, .int .i64 0, .int .u16 0, .int .u16 0, .int .u16 0, .int .i64 0, .int .i64 0, .bool false, .slice none 0 0] (by kernel_rfl) rfl rfl HTH.out (by kernel_rfl) (one_all rfl) ?_)
        refine bodyPost_ret (v := .tuple #[.agg #[.int .i64 0, .int .i64 0, .int .u16 0, .int .u16 0, .int .u16 0, .int .i64 0, .int .i64 0, .int .u16 0, .int .u16 0, .int .u16 0, .int .i64 0, .int .i64 0, .bool false, .slice none 0 0], .int .i64 0, .bool false, .bool false]) ?_ rfl ?_
        · have kF := block_cells (show (w2.setCells Z 0 [.int .i64 0, .int .i64 0, .int .u16 0, .int .u16 0, .int .u16 0, .int .i64 0, .int .i64 0, .int .u16 0, .int .u16 0, .int .u16 0, .int .i64 0, .int .i64 0, .bool false, .slice none 0 0]).heap[Z]? = some (.cells #[.int .i64 0, .int .i64 0, .int .u16 0, .int .u16 0, .int .u16 0, .int .i64 0, .int .i64 0, .int .u16 0, .int .u16 0, .int .u16 0, .int .i64 0, .int .i64 0, .bool false, .slice none 0 0] 30 (0, 0)) from fin4 (l := lg0) (q := none) (d := 0) HZ2.out rfl)
          simp [results, Tryz.results98, go_sem, kF]
        · exact HZF.out w2 lg0 none 0 0 false false (HBW.out.trans (HB2.out.mono HBW.out.size)) ⟨_, HZ2.out⟩ HTF.out (fun h => by cases h) (World.ownsRow_nil _ _ _ _)
      | true =>
        have HTI := Lib.hid (takes_in (c := c) (m := m) HT1.out HCF.out)
        have HR2 := Lib.hid (below_block HB2.out (block_lt HR.out) HR.out)
        go_upto_region 9 with fail
        have hd : Below w2.heap.size w2 w2.drew := (Below.refl _ _).drew
        have hR3 := below_block hd (block_lt HR2.out) HR2.out
        have hX3 := below_block hd (block_lt HX2.out) HX2.out
        have hZ3 := below_block hd (block_lt HZ2.out) HZ2.out
        have h0 : SndS R X #[.int .i64 c.id, .int .i64 c.role, .int .i64 c.tm, .int .i64 c.vt, .int .i64 c.ld, .int .i64 c.wt, .int .i64 c.cm, .int .i64 c.sf, .int .i64 c.l.b, .int .i64 c.l.bt, .int .u16 c.l.j.ov, .int .u16 c.l.j.ox, .int .u16 c.l.j.ol, .int .i64 c.l.j.oe, .int .i64 c.l.j.ok, .int .u16 c.l.j.nv, .int .u16 c.l.j.nx, .int .u16 c.l.j.nl, .int .i64 c.l.j.ne, .int .i64 c.l.j.nk, .bool c.l.j.two, .slice p c.l.es.length k, .string c.sn, .int .u16 c.vs, .int .u16 c.hd, .int .i64 (c.nx 0), .int .i64 (c.nx 1), .int .i64 (c.nx 2), .int .i64 (c.nx 3), .int .i64 (c.nx 4), .int .i64 (c.nx 5), .int .i64 (c.nx 6), .int .i64 (c.nx 7), .int .i64 (c.nx 8), .int .i64 (c.nx 9), .int .i64 (c.mt 0), .int .i64 (c.mt 1), .int .i64 (c.mt 2), .int .i64 (c.mt 3), .int .i64 (c.mt 4), .int .i64 (c.mt 5), .int .i64 (c.mt 6), .int .i64 (c.mt 7), .int .i64 (c.mt 8), .int .i64 (c.mt 9), v] #[.int .i64 m.k, .int .i64 m.fr, .int .i64 m.dst, .int .i64 m.tm, .int .i64 m.ix, .int .i64 m.lt, .int .i64 m.cm, .int .i64 m.sf, .bool m.yes, .slice q m.es.length d, .string m.sn, .int .u16 m.cf.ov, .int .u16 m.cf.ox, .int .u16 m.cf.ol, .int .i64 m.cf.oe, .int .i64 m.cf.ok, .int .u16 m.cf.nv, .int .u16 m.cf.nx, .int .u16 m.cf.nl, .int .i64 m.cf.ne, .int .i64 m.cf.nk, .bool m.cf.two] w2.drew := SndS.of hR3 hX3
        refine wp_region_held_drew (S := SndS R X #[.int .i64 c.id, .int .i64 c.role, .int .i64 c.tm, .int .i64 c.vt, .int .i64 c.ld, .int .i64 c.wt, .int .i64 c.cm, .int .i64 c.sf, .int .i64 c.l.b, .int .i64 c.l.bt, .int .u16 c.l.j.ov, .int .u16 c.l.j.ox, .int .u16 c.l.j.ol, .int .i64 c.l.j.oe, .int .i64 c.l.j.ok, .int .u16 c.l.j.nv, .int .u16 c.l.j.nx, .int .u16 c.l.j.nl, .int .i64 c.l.j.ne, .int .i64 c.l.j.nk, .bool c.l.j.two, .slice p c.l.es.length k, .string c.sn, .int .u16 c.vs, .int .u16 c.hd, .int .i64 (c.nx 0), .int .i64 (c.nx 1), .int .i64 (c.nx 2), .int .i64 (c.nx 3), .int .i64 (c.nx 4), .int .i64 (c.nx 5), .int .i64 (c.nx 6), .int .i64 (c.nx 7), .int .i64 (c.nx 8), .int .i64 (c.nx 9), .int .i64 (c.mt 0), .int .i64 (c.mt 1), .int .i64 (c.mt 2), .int .i64 (c.mt 3), .int .i64 (c.mt 4), .int .i64 (c.mt 5), .int .i64 (c.mt 6), .int .i64 (c.mt 7), .int .i64 (c.mt 8), .int .i64 (c.mt 9), v] #[.int .i64 m.k, .int .i64 m.fr, .int .i64 m.dst, .int .i64 m.tm, .int .i64 m.ix, .int .i64 m.lt, .int .i64 m.cm, .int .i64 m.sf, .bool m.yes, .slice q m.es.length d, .string m.sn, .int .u16 m.cf.ov, .int .u16 m.cf.ox, .int .u16 m.cf.ol, .int .i64 m.cf.oe, .int .i64 m.cf.ok, .int .u16 m.cf.nv, .int .u16 m.cf.nx, .int .u16 m.cf.nl, .int .i64 m.cf.ne, .int .i64 m.cf.nk, .bool m.cf.two]) (by kernel_rfl) h0 (fun hHeld => ?_)
        have HB3 := Lib.hid (HB2.out.trans (hd.mono HB2.out.size))
        obtain ⟨wd, ewd⟩ : ∃ x, w2.drew = x := ⟨_, rfl⟩
        rewrite [ewd] at h0 hHeld hR3 hX3 hZ3 HB3 ⊢
        have HR3 := Lib.hid hR3; have HX3 := Lib.hid hX3; have HZ3 := Lib.hid hZ3
        have kl : ∀ w', SndS R X #[.int .i64 c.id, .int .i64 c.role, .int .i64 c.tm, .int .i64 c.vt, .int .i64 c.ld, .int .i64 c.wt, .int .i64 c.cm, .int .i64 c.sf, .int .i64 c.l.b, .int .i64 c.l.bt, .int .u16 c.l.j.ov, .int .u16 c.l.j.ox, .int .u16 c.l.j.ol, .int .i64 c.l.j.oe, .int .i64 c.l.j.ok, .int .u16 c.l.j.nv, .int .u16 c.l.j.nx, .int .u16 c.l.j.nl, .int .i64 c.l.j.ne, .int .i64 c.l.j.nk, .bool c.l.j.two, .slice p c.l.es.length k, .string c.sn, .int .u16 c.vs, .int .u16 c.hd, .int .i64 (c.nx 0), .int .i64 (c.nx 1), .int .i64 (c.nx 2), .int .i64 (c.nx 3), .int .i64 (c.nx 4), .int .i64 (c.nx 5), .int .i64 (c.nx 6), .int .i64 (c.nx 7), .int .i64 (c.nx 8), .int .i64 (c.nx 9), .int .i64 (c.mt 0), .int .i64 (c.mt 1), .int .i64 (c.mt 2), .int .i64 (c.mt 3), .int .i64 (c.mt 4), .int .i64 (c.mt 5), .int .i64 (c.mt 6), .int .i64 (c.mt 7), .int .i64 (c.mt 8), .int .i64 (c.mt 9), v] #[.int .i64 m.k, .int .i64 m.fr, .int .i64 m.dst, .int .i64 m.tm, .int .i64 m.ix, .int .i64 m.lt, .int .i64 m.cm, .int .i64 m.sf, .bool m.yes, .slice q m.es.length d, .string m.sn, .int .u16 m.cf.ov, .int .u16 m.cf.ox, .int .u16 m.cf.ol, .int .i64 m.cf.oe, .int .i64 m.cf.ok, .int .u16 m.cf.nv, .int .u16 m.cf.nx, .int .u16 m.cf.nl, .int .i64 m.cf.ne, .int .i64 m.cf.nk, .bool m.cf.two] w' → w'.rangeAt R 8 [.int .i64 c.l.b, .int .i64 c.l.bt, .int .u16 c.l.j.ov, .int .u16 c.l.j.ox, .int .u16 c.l.j.ol, .int .i64 c.l.j.oe, .int .i64 c.l.j.ok, .int .u16 c.l.j.nv, .int .u16 c.l.j.nx, .int .u16 c.l.j.nl, .int .i64 c.l.j.ne, .int .i64 c.l.j.nk, .bool c.l.j.two, .slice p c.l.es.length k] := fun w' h => range_of (n := 14) rfl (fun j hj => by
          rw [h.r (8 + j) (by omega)]
          rcases (show j = 0 ∨ j = 1 ∨ j = 2 ∨ j = 3 ∨ j = 4 ∨ j = 5 ∨ j = 6 ∨ j = 7 ∨ j = 8 ∨ j = 9 ∨ j = 10 ∨ j = 11 ∨ j = 12 ∨ j = 13 by omega) with rfl | rfl | rfl | rfl | rfl | rfl | rfl | rfl | rfl | rfl | rfl | rfl | rfl | rfl <;> rfl)
        have HKL := Lib.hid kl
        have k4 : ∀ w', SndS R X #[.int .i64 c.id, .int .i64 c.role, .int .i64 c.tm, .int .i64 c.vt, .int .i64 c.ld, .int .i64 c.wt, .int .i64 c.cm, .int .i64 c.sf, .int .i64 c.l.b, .int .i64 c.l.bt, .int .u16 c.l.j.ov, .int .u16 c.l.j.ox, .int .u16 c.l.j.ol, .int .i64 c.l.j.oe, .int .i64 c.l.j.ok, .int .u16 c.l.j.nv, .int .u16 c.l.j.nx, .int .u16 c.l.j.nl, .int .i64 c.l.j.ne, .int .i64 c.l.j.nk, .bool c.l.j.two, .slice p c.l.es.length k, .string c.sn, .int .u16 c.vs, .int .u16 c.hd, .int .i64 (c.nx 0), .int .i64 (c.nx 1), .int .i64 (c.nx 2), .int .i64 (c.nx 3), .int .i64 (c.nx 4), .int .i64 (c.nx 5), .int .i64 (c.nx 6), .int .i64 (c.nx 7), .int .i64 (c.nx 8), .int .i64 (c.nx 9), .int .i64 (c.mt 0), .int .i64 (c.mt 1), .int .i64 (c.mt 2), .int .i64 (c.mt 3), .int .i64 (c.mt 4), .int .i64 (c.mt 5), .int .i64 (c.mt 6), .int .i64 (c.mt 7), .int .i64 (c.mt 8), .int .i64 (c.mt 9), v] #[.int .i64 m.k, .int .i64 m.fr, .int .i64 m.dst, .int .i64 m.tm, .int .i64 m.ix, .int .i64 m.lt, .int .i64 m.cm, .int .i64 m.sf, .bool m.yes, .slice q m.es.length d, .string m.sn, .int .u16 m.cf.ov, .int .u16 m.cf.ox, .int .u16 m.cf.ol, .int .i64 m.cf.oe, .int .i64 m.cf.ok, .int .u16 m.cf.nv, .int .u16 m.cf.nx, .int .u16 m.cf.nl, .int .i64 m.cf.ne, .int .i64 m.cf.nk, .bool m.cf.two] w' → w'.cell? ⟨X, 4, none⟩ = some (.int .i64 m.ix) := fun w' h => h.x 4
        have k5 : ∀ w', SndS R X #[.int .i64 c.id, .int .i64 c.role, .int .i64 c.tm, .int .i64 c.vt, .int .i64 c.ld, .int .i64 c.wt, .int .i64 c.cm, .int .i64 c.sf, .int .i64 c.l.b, .int .i64 c.l.bt, .int .u16 c.l.j.ov, .int .u16 c.l.j.ox, .int .u16 c.l.j.ol, .int .i64 c.l.j.oe, .int .i64 c.l.j.ok, .int .u16 c.l.j.nv, .int .u16 c.l.j.nx, .int .u16 c.l.j.nl, .int .i64 c.l.j.ne, .int .i64 c.l.j.nk, .bool c.l.j.two, .slice p c.l.es.length k, .string c.sn, .int .u16 c.vs, .int .u16 c.hd, .int .i64 (c.nx 0), .int .i64 (c.nx 1), .int .i64 (c.nx 2), .int .i64 (c.nx 3), .int .i64 (c.nx 4), .int .i64 (c.nx 5), .int .i64 (c.nx 6), .int .i64 (c.nx 7), .int .i64 (c.nx 8), .int .i64 (c.nx 9), .int .i64 (c.mt 0), .int .i64 (c.mt 1), .int .i64 (c.mt 2), .int .i64 (c.mt 3), .int .i64 (c.mt 4), .int .i64 (c.mt 5), .int .i64 (c.mt 6), .int .i64 (c.mt 7), .int .i64 (c.mt 8), .int .i64 (c.mt 9), v] #[.int .i64 m.k, .int .i64 m.fr, .int .i64 m.dst, .int .i64 m.tm, .int .i64 m.ix, .int .i64 m.lt, .int .i64 m.cm, .int .i64 m.sf, .bool m.yes, .slice q m.es.length d, .string m.sn, .int .u16 m.cf.ov, .int .u16 m.cf.ox, .int .u16 m.cf.ol, .int .i64 m.cf.oe, .int .i64 m.cf.ok, .int .u16 m.cf.nv, .int .u16 m.cf.nx, .int .u16 m.cf.nl, .int .i64 m.cf.ne, .int .i64 m.cf.nk, .bool m.cf.two] w' → w'.cell? ⟨X, 5, none⟩ = some (.int .i64 m.lt) := fun w' h => h.x 5
        have k9 : ∀ w', SndS R X #[.int .i64 c.id, .int .i64 c.role, .int .i64 c.tm, .int .i64 c.vt, .int .i64 c.ld, .int .i64 c.wt, .int .i64 c.cm, .int .i64 c.sf, .int .i64 c.l.b, .int .i64 c.l.bt, .int .u16 c.l.j.ov, .int .u16 c.l.j.ox, .int .u16 c.l.j.ol, .int .i64 c.l.j.oe, .int .i64 c.l.j.ok, .int .u16 c.l.j.nv, .int .u16 c.l.j.nx, .int .u16 c.l.j.nl, .int .i64 c.l.j.ne, .int .i64 c.l.j.nk, .bool c.l.j.two, .slice p c.l.es.length k, .string c.sn, .int .u16 c.vs, .int .u16 c.hd, .int .i64 (c.nx 0), .int .i64 (c.nx 1), .int .i64 (c.nx 2), .int .i64 (c.nx 3), .int .i64 (c.nx 4), .int .i64 (c.nx 5), .int .i64 (c.nx 6), .int .i64 (c.nx 7), .int .i64 (c.nx 8), .int .i64 (c.nx 9), .int .i64 (c.mt 0), .int .i64 (c.mt 1), .int .i64 (c.mt 2), .int .i64 (c.mt 3), .int .i64 (c.mt 4), .int .i64 (c.mt 5), .int .i64 (c.mt 6), .int .i64 (c.mt 7), .int .i64 (c.mt 8), .int .i64 (c.mt 9), v] #[.int .i64 m.k, .int .i64 m.fr, .int .i64 m.dst, .int .i64 m.tm, .int .i64 m.ix, .int .i64 m.lt, .int .i64 m.cm, .int .i64 m.sf, .bool m.yes, .slice q m.es.length d, .string m.sn, .int .u16 m.cf.ov, .int .u16 m.cf.ox, .int .u16 m.cf.ol, .int .i64 m.cf.oe, .int .i64 m.cf.ok, .int .u16 m.cf.nv, .int .u16 m.cf.nx, .int .u16 m.cf.nl, .int .i64 m.cf.ne, .int .i64 m.cf.nk, .bool m.cf.two] w' → w'.cell? ⟨X, 9, none⟩ = some (.slice q m.es.length d) := fun w' h => h.x 9
        clear ewd hd hR3 hX3 hZ3 kl
        obtain ⟨⟨lg, y, ok⟩, hM⟩ : ∃ x, mergeL c.l m.ix m.lt m.es = x := ⟨_, rfl⟩
        have HMG := Lib.hid (show Calls Tryz.prog 145 #[.agg #[.int .i64 c.l.b, .int .i64 c.l.bt, .int .u16 c.l.j.ov, .int .u16 c.l.j.ox, .int .u16 c.l.j.ol, .int .i64 c.l.j.oe, .int .i64 c.l.j.ok, .int .u16 c.l.j.nv, .int .u16 c.l.j.nx, .int .u16 c.l.j.nl, .int .i64 c.l.j.ne, .int .i64 c.l.j.nk, .bool c.l.j.two, .slice p c.l.es.length k], .int .i64 m.ix, .int .i64 m.lt, .slice q m.es.length d] wd (LgEnd3 wd.heap.size wd (lg, y, ok)) from by have := merge_any c.l p k m.ix m.lt m.es q d wd HF.out hix (HE.out.keep HB3.out (Nat.le_refl _)) (HM.out.keep HB3.out (Nat.le_refl _)) HLN.out; rw [hM] at this; exact this)
        have HTI2 : Hid (takesB c m = (!ok || (mayL lg && decide (lg.es.length ≤ 4096)))) := by show _ = _; rw [HTI.out, hM]
        have HMM := Lib.hid hM
        clear hM HTI
        refine tkH (i := 0) (v := ?_) rfl (Or.inl ⟨by rfl, ?_⟩) hHeld ?_
        rotate_left
        · (intro wz hSw; (try dsimp only at hSw); (try simp only [zA, zC]); go_simp; try with_reducible rfl)
        try simp only [zA, zC, Act.put, zD, zE, zF]
        refine tkH (i := 1) (v := ?_) rfl (Or.inl ⟨by rfl, ?_⟩) hHeld ?_
        rotate_left
        · (intro wz hSw; (try dsimp only at hSw); (try simp only [zA, zB, zC]); go_simp; try with_reducible rfl)
        try simp only [zA, zB, zC, Act.put, zD, zE, zF]
        refine tkH (i := 2) (v := ?_) rfl (Or.inl ⟨by rfl, ?_⟩) hHeld ?_
        rotate_left
        · (intro wz hSw; (try dsimp only at hSw); (try simp only [zA, zB, zC]); go_simp; try with_reducible rfl)
        try simp only [zA, zB, zC, Act.put, zD, zE, zF]
        refine tkH (i := 3) (v := ?_) rfl (Or.inl ⟨by rfl, ?_⟩) hHeld ?_
        rotate_left
        · (intro wz hSw; (try dsimp only at hSw); (try simp only [zA, zB, zC]); go_simp; try with_reducible rfl)
        try simp only [zA, zB, zC, Act.put, zD, zE, zF]
        refine tkH (i := 4) (v := .agg #[.int .i64 c.l.b, .int .i64 c.l.bt, .int .u16 c.l.j.ov, .int .u16 c.l.j.ox, .int .u16 c.l.j.ol, .int .i64 c.l.j.oe, .int .i64 c.l.j.ok, .int .u16 c.l.j.nv, .int .u16 c.l.j.nx, .int .u16 c.l.j.nl, .int .i64 c.l.j.ne, .int .i64 c.l.j.nk, .bool c.l.j.two, .slice p c.l.es.length k]) rfl (yieldsIf_load_mid (by rfl) _ _ rfl R 8 rfl [.int .i64 c.l.b, .int .i64 c.l.bt, .int .u16 c.l.j.ov, .int .u16 c.l.j.ox, .int .u16 c.l.j.ol, .int .i64 c.l.j.oe, .int .i64 c.l.j.ok, .int .u16 c.l.j.nv, .int .u16 c.l.j.nx, .int .u16 c.l.j.nl, .int .i64 c.l.j.ne, .int .i64 c.l.j.nk, .bool c.l.j.two, .slice p c.l.es.length k] _ HKL.out Tryz.underlying30 rfl (by kernel_rfl)) hHeld ?_
        try simp only [zA, zB, zC, Act.put, zD, zE, zF]
        refine tkH (i := 5) (v := ?_) rfl (Or.inl ⟨by rfl, ?_⟩) hHeld ?_
        rotate_left
        · (intro wz hSw; (try dsimp only at hSw); (try simp only [zA, zB, zC]); go_simp; try with_reducible rfl)
        try simp only [zA, zB, zC, Act.put, zD, zE, zF]
        refine tkH (i := 6) (v := ?_) rfl (Or.inl ⟨by rfl, ?_⟩) hHeld ?_
        rotate_left
        · (intro wz hSw; (try dsimp only at hSw); (try simp only [zA, zB, zC]); go_simp; try with_reducible rfl)
        try simp only [zA, zB, zC, Act.put, zD, zE, zF]
        refine tkH (i := 7) (v := ?_) rfl (Or.inl ⟨by rfl, ?_⟩) hHeld ?_
        rotate_left
        · (intro wz hSw; (try dsimp only at hSw); (try simp only [zA, zB, zC]); go_simp; try with_reducible rfl)
        try simp only [zA, zB, zC, Act.put, zD, zE, zF]
        refine tkH (i := 8) (v := ?_) rfl (Or.inl ⟨by rfl, ?_⟩) hHeld ?_
        rotate_left
        · (intro wz hSw; (try dsimp only at hSw); (try simp only [zA, zB, zC]); go_simp; try with_reducible rfl)
        try simp only [zA, zB, zC, Act.put, zD, zE, zF]
        refine tkH (i := 9) (v := ?_) rfl (Or.inl ⟨by rfl, ?_⟩) hHeld ?_
        rotate_left
        · (intro wz hSw; (try dsimp only at hSw); (try simp only [zA, zB, zC]); go_simp; try with_reducible rfl)
        try simp only [zA, zB, zC, Act.put, zD, zE, zF]
        refine tkH (i := 10) (v := ?_) rfl (Or.inl ⟨by rfl, ?_⟩) hHeld ?_
        rotate_left
        · (intro wz hSw; (try dsimp only at hSw); (try simp only [zA, zB, zC]); go_simp; try with_reducible rfl)
        try simp only [zA, zB, zC, Act.put, zD, zE, zF]
        refine wpAnyH_ready (rs := [11]) (by kernel_rfl) (by simp) ?_; refine AllReadyH.cons rfl (fun K hK => ?_) AllReadyH.nil; (try simp only [zA, zB, zC]); go_simp
        refine HMG.out.mono ?_; rintro r0 w3 ⟨q3, d3, rfl, ho, b3⟩
        have hR4 := below_block b3 (block_lt HR3.out) HR3.out
        have hX4 := below_block b3 (block_lt HX3.out) HX3.out
        have hZ4 := below_block b3 (block_lt HZ3.out) HZ3.out
        have s3 : SndS R X #[.int .i64 c.id, .int .i64 c.role, .int .i64 c.tm, .int .i64 c.vt, .int .i64 c.ld, .int .i64 c.wt, .int .i64 c.cm, .int .i64 c.sf, .int .i64 c.l.b, .int .i64 c.l.bt, .int .u16 c.l.j.ov, .int .u16 c.l.j.ox, .int .u16 c.l.j.ol, .int .i64 c.l.j.oe, .int .i64 c.l.j.ok, .int .u16 c.l.j.nv, .int .u16 c.l.j.nx, .int .u16 c.l.j.nl, .int .i64 c.l.j.ne, .int .i64 c.l.j.nk, .bool c.l.j.two, .slice p c.l.es.length k, .string c.sn, .int .u16 c.vs, .int .u16 c.hd, .int .i64 (c.nx 0), .int .i64 (c.nx 1), .int .i64 (c.nx 2), .int .i64 (c.nx 3), .int .i64 (c.nx 4), .int .i64 (c.nx 5), .int .i64 (c.nx 6), .int .i64 (c.nx 7), .int .i64 (c.nx 8), .int .i64 (c.nx 9), .int .i64 (c.mt 0), .int .i64 (c.mt 1), .int .i64 (c.mt 2), .int .i64 (c.mt 3), .int .i64 (c.mt 4), .int .i64 (c.mt 5), .int .i64 (c.mt 6), .int .i64 (c.mt 7), .int .i64 (c.mt 8), .int .i64 (c.mt 9), v] #[.int .i64 m.k, .int .i64 m.fr, .int .i64 m.dst, .int .i64 m.tm, .int .i64 m.ix, .int .i64 m.lt, .int .i64 m.cm, .int .i64 m.sf, .bool m.yes, .slice q m.es.length d, .string m.sn, .int .u16 m.cf.ov, .int .u16 m.cf.ox, .int .u16 m.cf.ol, .int .i64 m.cf.oe, .int .i64 m.cf.ok, .int .u16 m.cf.nv, .int .u16 m.cf.nx, .int .u16 m.cf.nl, .int .i64 m.cf.ne, .int .i64 m.cf.nk, .bool m.cf.two] w3 := SndS.of hR4 hX4
        have hZ5 := (block_setCells [.int .i64 lg.b, .int .i64 lg.bt, .int .u16 lg.j.ov, .int .u16 lg.j.ox, .int .u16 lg.j.ol, .int .i64 lg.j.oe, .int .i64 lg.j.ok, .int .u16 lg.j.nv, .int .u16 lg.j.nx, .int .u16 lg.j.nl, .int .i64 lg.j.ne, .int .i64 lg.j.nk, .bool lg.j.two, .slice q3 lg.es.length d3] 0 hZ4).2
        have hRZ : R ≠ Z := by have := HRL.out; have := HEZ.out; have := HEX.out; omega
        have s4 : SndS R X #[.int .i64 c.id, .int .i64 c.role, .int .i64 c.tm, .int .i64 c.vt, .int .i64 c.ld, .int .i64 c.wt, .int .i64 c.cm, .int .i64 c.sf, .int .i64 c.l.b, .int .i64 c.l.bt, .int .u16 c.l.j.ov, .int .u16 c.l.j.ox, .int .u16 c.l.j.ol, .int .i64 c.l.j.oe, .int .i64 c.l.j.ok, .int .u16 c.l.j.nv, .int .u16 c.l.j.nx, .int .u16 c.l.j.nl, .int .i64 c.l.j.ne, .int .i64 c.l.j.nk, .bool c.l.j.two, .slice p c.l.es.length k, .string c.sn, .int .u16 c.vs, .int .u16 c.hd, .int .i64 (c.nx 0), .int .i64 (c.nx 1), .int .i64 (c.nx 2), .int .i64 (c.nx 3), .int .i64 (c.nx 4), .int .i64 (c.nx 5), .int .i64 (c.nx 6), .int .i64 (c.nx 7), .int .i64 (c.nx 8), .int .i64 (c.nx 9), .int .i64 (c.mt 0), .int .i64 (c.mt 1), .int .i64 (c.mt 2), .int .i64 (c.mt 3), .int .i64 (c.mt 4), .int .i64 (c.mt 5), .int .i64 (c.mt 6), .int .i64 (c.mt 7), .int .i64 (c.mt 8), .int .i64 (c.mt 9), v] #[.int .i64 m.k, .int .i64 m.fr, .int .i64 m.dst, .int .i64 m.tm, .int .i64 m.ix, .int .i64 m.lt, .int .i64 m.cm, .int .i64 m.sf, .bool m.yes, .slice q m.es.length d, .string m.sn, .int .u16 m.cf.ov, .int .u16 m.cf.ox, .int .u16 m.cf.ol, .int .i64 m.cf.oe, .int .i64 m.cf.ok, .int .u16 m.cf.nv, .int .u16 m.cf.nx, .int .u16 m.cf.nl, .int .i64 m.cf.ne, .int .i64 m.cf.nk, .bool m.cf.two] (w3.setCells Z 0 [.int .i64 lg.b, .int .i64 lg.bt, .int .u16 lg.j.ov, .int .u16 lg.j.ox, .int .u16 lg.j.ol, .int .i64 lg.j.oe, .int .i64 lg.j.ok, .int .u16 lg.j.nv, .int .u16 lg.j.nx, .int .u16 lg.j.nl, .int .i64 lg.j.ne, .int .i64 lg.j.nk, .bool lg.j.two, .slice q3 lg.es.length d3]) := SndS.of ((hZ5.block R (block_lt hR4) (fun e => hRZ (by simpa using e))).trans hR4) ((hZ5.block X (block_lt hX4) (fun e => by have := HEZ.out; simp only [Option.some.injEq] at e; omega)).trans hX4)
        have ho2 := ho.mono (show w.heap.size ≤ wd.heap.size from by have := HB3.out.size; have := HBW.out.size; omega)
        have hZ6 := fin4 (l := lg) (q := q3) (d := d3) hZ4 rfl
        have HOO := Lib.hid (ho2.kept hZ5 (own_other ho2 hZ4 (by decide)))
        have HZ6 := Lib.hid hZ6
        have hB4 := HBW.out.trans ((HB3.out.trans (b3.mono HB3.out.size)).mono HBW.out.size)
        have HB5 := Lib.hid (hB4.grown hZ5 hB4.size (fun e he => by simp only [Option.some.injEq] at he; have := HEZ.out; have := HEX.out; omega))
        have HTH := Lib.hid (there_of_block (o := 0) (n := 14) hZ4 (by decide))
        refine hK.out _ _ s3 (fun _ => ?_)
        clear hK K hHeld b3 hR4 hX4 hZ4 hZ5 ho ho2 hZ6 hB4 h0 k4 k5 k9
        try simp only
        have hHeld := s3
        refine tkH (i := 12) (v := ?_) rfl (Or.inl ⟨by rfl, ?_⟩) hHeld ?_
        rotate_left
        · (intro wz hSw; (try dsimp only at hSw); (try simp only [zA, zB, zC]); go_simp; try with_reducible rfl)
        try simp only [zA, zB, zC, Act.put, zD, zE, zF]
        refine tkH (i := 13) (v := ?_) rfl (Or.inl ⟨by rfl, ?_⟩) hHeld ?_
        rotate_left
        · (intro wz hSw; (try dsimp only at hSw); (try simp only [zA, zB, zC]); go_simp; try with_reducible rfl)
        try simp only [zA, zB, zC, Act.put, zD, zE, zF]
        refine tkH (i := 14) (v := ?_) rfl (Or.inl ⟨by rfl, ?_⟩) hHeld ?_
        rotate_left
        · (intro wz hSw; (try dsimp only at hSw); (try simp only [zA, zB, zC]); go_simp; try with_reducible rfl)
        try simp only [zA, zB, zC, Act.put, zD, zE, zF]
        refine tkH (i := 15) (v := ?_) rfl (Or.inl ⟨by rfl, ?_⟩) hHeld ?_
        rotate_left
        · (intro wz hSw; (try dsimp only at hSw); (try simp only [zA, zB, zC]); go_simp; try with_reducible rfl)
        try simp only [zA, zB, zC, Act.put, zD, zE, zF]
        refine wpAnyH_ready (rs := [16]) (by kernel_rfl) (by simp) ?_; refine AllReadyH.cons rfl (fun K hK => ?_) AllReadyH.nil
        rw [if_pos (by rfl)]
        refine wp_store_mid _ _ _ (by rfl) Z 0 #[.int .i64 lg.b, .int .i64 lg.bt, .int .u16 lg.j.ov, .int .u16 lg.j.ox, .int .u16 lg.j.ol, .int .i64 lg.j.oe, .int .i64 lg.j.ok, .int .u16 lg.j.nv, .int .u16 lg.j.nx, .int .u16 lg.j.nl, .int .i64 lg.j.ne, .int .i64 lg.j.nk, .bool lg.j.two, .slice q3 lg.es.length d3] (by rfl) (by rfl) HTH.out (by kernel_rfl) (one_all rfl) ?_
        refine hK.out _ _ s4 (fun _ => ?_)
        clear hK K hHeld s3
        try simp only [zA, zB, zC, Act.put]
        have hHeld := s4
        refine tkH (i := 17) (v := ?_) rfl (Or.inl ⟨by rfl, ?_⟩) hHeld ?_
        rotate_left
        · (intro wz hSw; (try dsimp only at hSw); (try simp only [zA, zB, zC]); go_simp; try with_reducible rfl)
        try simp only [zA, zB, zC, Act.put, zD, zE, zF]
        refine tkH (i := 18) (v := ?_) rfl (Or.inl ⟨by rfl, ?_⟩) hHeld ?_
        rotate_left
        · (intro wz hSw; (try dsimp only at hSw); (try simp only [zA, zB, zC]); go_simp; try with_reducible rfl)
        try simp only [zA, zB, zC, Act.put, zD, zE, zF]
        refine wpAnyH_done (by kernel_rfl) ?_ _
        clear hHeld s4
        obtain ⟨W6, hW6⟩ : ∃ z : World, w3.setCells Z 0 [.int .i64 lg.b, .int .i64 lg.bt, .int .u16 lg.j.ov, .int .u16 lg.j.ox, .int .u16 lg.j.ol, .int .i64 lg.j.oe, .int .i64 lg.j.ok, .int .u16 lg.j.nv, .int .u16 lg.j.nx, .int .u16 lg.j.nl, .int .i64 lg.j.ne, .int .i64 lg.j.nk, .bool lg.j.two, .slice q3 lg.es.length d3] = z := ⟨_, rfl⟩
        rw [hW6] at HOO HZ6 HB5
        (try rw [hW6])
        (try rw [show w3.setCells Z 0 (#[.int .i64 lg.b, .int .i64 lg.bt, .int .u16 lg.j.ov, .int .u16 lg.j.ox, .int .u16 lg.j.ol, .int .i64 lg.j.oe, .int .i64 lg.j.ok, .int .u16 lg.j.nv, .int .u16 lg.j.nx, .int .u16 lg.j.nl, .int .i64 lg.j.ne, .int .i64 lg.j.nk, .bool lg.j.two, .slice q3 lg.es.length d3] : Array Value).toList = W6 from hW6])
        clear hW6 HTH
        go_upto_region 10 with fail
        have b0 : Below W6.heap.size W6 W6.drew := (Below.refl _ _).drew
        have h0 : RAll Z #[.int .i64 lg.b, .int .i64 lg.bt, .int .u16 lg.j.ov, .int .u16 lg.j.ox, .int .u16 lg.j.ol, .int .i64 lg.j.oe, .int .i64 lg.j.ok, .int .u16 lg.j.nv, .int .u16 lg.j.nx, .int .u16 lg.j.nl, .int .i64 lg.j.ne, .int .i64 lg.j.nk, .bool lg.j.two, .slice q3 lg.es.length d3] W6.drew := RAll.of (below_block b0 (block_lt HZ6.out) HZ6.out)
        refine wp_region_held_drew (S := RAll Z #[.int .i64 lg.b, .int .i64 lg.bt, .int .u16 lg.j.ov, .int .u16 lg.j.ox, .int .u16 lg.j.ol, .int .i64 lg.j.oe, .int .i64 lg.j.ok, .int .u16 lg.j.nv, .int .u16 lg.j.nx, .int .u16 lg.j.nl, .int .i64 lg.j.ne, .int .i64 lg.j.nk, .bool lg.j.two, .slice q3 lg.es.length d3]) (by kernel_rfl) h0 (fun hHeld => ?_)
        obtain ⟨we, ewd⟩ : ∃ x, W6.drew = x := ⟨_, rfl⟩
        rewrite [ewd] at h0 hHeld b0 ⊢
        have HKZ := Lib.hid (show ∀ w', RAll Z #[.int .i64 lg.b, .int .i64 lg.bt, .int .u16 lg.j.ov, .int .u16 lg.j.ox, .int .u16 lg.j.ol, .int .i64 lg.j.oe, .int .i64 lg.j.ok, .int .u16 lg.j.nv, .int .u16 lg.j.nx, .int .u16 lg.j.nl, .int .i64 lg.j.ne, .int .i64 lg.j.nk, .bool lg.j.two, .slice q3 lg.es.length d3] w' → w'.rangeAt Z 0 [.int .i64 lg.b, .int .i64 lg.bt, .int .u16 lg.j.ov, .int .u16 lg.j.ox, .int .u16 lg.j.ol, .int .i64 lg.j.oe, .int .i64 lg.j.ok, .int .u16 lg.j.nv, .int .u16 lg.j.nx, .int .u16 lg.j.nl, .int .i64 lg.j.ne, .int .i64 lg.j.nk, .bool lg.j.two, .slice q3 lg.es.length d3] from fun w' h => range_of (n := 14) rfl (fun j hj => by rw [Nat.zero_add, h.r j, List.getElem?_toArray]))
        have k13 : ∀ w', RAll Z #[.int .i64 lg.b, .int .i64 lg.bt, .int .u16 lg.j.ov, .int .u16 lg.j.ox, .int .u16 lg.j.ol, .int .i64 lg.j.oe, .int .i64 lg.j.ok, .int .u16 lg.j.nv, .int .u16 lg.j.nx, .int .u16 lg.j.nl, .int .i64 lg.j.ne, .int .i64 lg.j.nk, .bool lg.j.two, .slice q3 lg.es.length d3] w' → w'.cell? ⟨Z, 13, none⟩ = some (.slice q3 lg.es.length d3) := fun w' h => h.r 13
        clear ewd
        refine tkH (i := 0) (v := .agg #[.int .i64 lg.b, .int .i64 lg.bt, .int .u16 lg.j.ov, .int .u16 lg.j.ox, .int .u16 lg.j.ol, .int .i64 lg.j.oe, .int .i64 lg.j.ok, .int .u16 lg.j.nv, .int .u16 lg.j.nx, .int .u16 lg.j.nl, .int .i64 lg.j.ne, .int .i64 lg.j.nk, .bool lg.j.two, .slice q3 lg.es.length d3]) rfl (yieldsIf_load_mid (by rfl) _ _ rfl Z 0 rfl [.int .i64 lg.b, .int .i64 lg.bt, .int .u16 lg.j.ov, .int .u16 lg.j.ox, .int .u16 lg.j.ol, .int .i64 lg.j.oe, .int .i64 lg.j.ok, .int .u16 lg.j.nv, .int .u16 lg.j.nx, .int .u16 lg.j.nl, .int .i64 lg.j.ne, .int .i64 lg.j.nk, .bool lg.j.two, .slice q3 lg.es.length d3] _ HKZ.out Tryz.underlying30 rfl (by kernel_rfl)) hHeld ?_
        try simp only [zA, zC, Act.put, zD, zE, zF]
        refine tkH (i := 1) (v := ?_) rfl (Or.inl ⟨by rfl, ?_⟩) hHeld ?_
        rotate_left
        · (intro wz hSw; (try dsimp only at hSw); (try simp only [zA, zB, zC]); go_simp; try with_reducible rfl)
        try simp only [zA, zB, zC, Act.put, zD, zE, zF]
        refine tkH (i := 2) (v := ?_) rfl (Or.inl ⟨by rfl, ?_⟩) hHeld ?_
        rotate_left
        · (intro wz hSw; (try dsimp only at hSw); (try simp only [zA, zB, zC]); go_simp; try with_reducible rfl)
        try simp only [zA, zB, zC, Act.put, zD, zE, zF]
        refine tkH (i := 3) (v := ?_) rfl (Or.inl ⟨by rfl, ?_⟩) hHeld ?_
        rotate_left
        · (intro wz hSw; (try dsimp only at hSw); (try simp only [zA, zB, zC]); go_simp; try with_reducible rfl)
        try simp only [zA, zB, zC, Act.put, zD, zE, zF]
        refine tkH (i := 4) (v := ?_) rfl (Or.inl ⟨by rfl, ?_⟩) hHeld ?_
        rotate_left
        · (intro wz hSw; (try dsimp only at hSw); (try simp only [zA, zB, zC]); go_simp; try with_reducible rfl)
        try simp only [zA, zB, zC, Act.put, zD, zE, zF]
        refine tkH (i := 5) (v := ?_) rfl (Or.inl ⟨by rfl, ?_⟩) hHeld ?_
        rotate_left
        · (intro wz hSw; (try dsimp only at hSw); (try simp only [zA, zB, zC]); go_simp; try with_reducible rfl)
        try simp only [zA, zB, zC, Act.put, zD, zE, zF]
        cases ok with
        | false =>
          refine tkH (i := 6) (v := undef) rfl (Or.inr ⟨by rfl, rfl⟩) hHeld ?_
          try simp only [zA, zB, zC, Act.put, zD, zE, zF]
          refine tkH (i := 7) (v := undef) rfl (Or.inr ⟨by rfl, rfl⟩) hHeld ?_
          try simp only [zA, zB, zC, Act.put, zD, zE, zF]
          refine tkH (i := 8) (v := undef) rfl (Or.inr ⟨by rfl, rfl⟩) hHeld ?_
          try simp only [zA, zB, zC, Act.put, zD, zE, zF]
          refine tkH (i := 9) (v := undef) rfl (Or.inr ⟨by rfl, rfl⟩) hHeld ?_
          try simp only [zA, zB, zC, Act.put, zD, zE, zF]
          refine tkH (i := 10) (v := undef) rfl (Or.inr ⟨by rfl, rfl⟩) hHeld ?_
          try simp only [zA, zB, zC, Act.put, zD, zE, zF]
          refine tkH (i := 11) (v := undef) rfl (Or.inr ⟨by rfl, rfl⟩) hHeld ?_
          try simp only [zA, zB, zC, Act.put, zD, zE, zF]
          refine tkH (i := 12) (v := undef) rfl (Or.inr ⟨by rfl, rfl⟩) hHeld ?_
          try simp only [zA, zB, zC, Act.put, zD, zE, zF]
          refine tkH (i := 13) (v := undef) rfl (Or.inr ⟨by rfl, rfl⟩) hHeld ?_
          try simp only [zA, zB, zC, Act.put, zD, zE, zF]
          refine tkH (i := 14) (v := ?_) rfl (Or.inl ⟨by rfl, ?_⟩) hHeld ?_
          rotate_left
          · (intro wz hSw; (try dsimp only at hSw); (try simp only [zA, zB, zC]); go_simp; try with_reducible rfl)
          try simp only [zA, zB, zC, Act.put, zD, zE, zF]
          have hz4 := below_block b0 (block_lt HZ6.out) HZ6.out
          have s5 : RAll Z #[.int .i64 lg.b, .int .i64 lg.bt, .int .u16 lg.j.ov, .int .u16 lg.j.ox, .int .u16 lg.j.ol, .int .i64 lg.j.oe, .int .i64 lg.j.ok, .int .u16 lg.j.nv, .int .u16 lg.j.nx, .int .u16 lg.j.nl, .int .i64 lg.j.ne, .int .i64 lg.j.nk, .bool lg.j.two, .slice q3 lg.es.length d3] (we.setCells Z 0 [.int .i64 lg.b, .int .i64 lg.bt, .int .u16 lg.j.ov, .int .u16 lg.j.ox, .int .u16 lg.j.ol, .int .i64 lg.j.oe, .int .i64 lg.j.ok, .int .u16 lg.j.nv, .int .u16 lg.j.nx, .int .u16 lg.j.nl, .int .i64 lg.j.ne, .int .i64 lg.j.nk, .bool lg.j.two, .slice q3 lg.es.length d3]) := RAll.of (fin4 (l := lg) (q := q3) (d := d3) hz4 rfl)
          have HTH := Lib.hid (there_of_block (o := 0) (n := 14) hz4 (Nat.le_refl 14))
          refine wpAnyH_ready (rs := [15]) (by kernel_rfl) (by simp) ?_; refine AllReadyH.cons rfl (fun K hK => ?_) AllReadyH.nil
          rw [if_pos (by rfl)]
          refine wp_store_mid _ _ _ (by rfl) Z 0 #[.int .i64 lg.b, .int .i64 lg.bt, .int .u16 lg.j.ov, .int .u16 lg.j.ox, .int .u16 lg.j.ol, .int .i64 lg.j.oe, .int .i64 lg.j.ok, .int .u16 lg.j.nv, .int .u16 lg.j.nx, .int .u16 lg.j.nl, .int .i64 lg.j.ne, .int .i64 lg.j.nk, .bool lg.j.two, .slice q3 lg.es.length d3] (by rfl) (by rfl) HTH.out (by kernel_rfl) (one_all rfl) ?_
          refine hK.out _ _ s5 (fun _ => ?_)
          clear hK K hHeld k13
          try simp only [zA, zB, zC, Act.put]
          have hHeld := s5
          refine tkH (i := 16) (v := ?_) rfl (Or.inl ⟨by rfl, ?_⟩) hHeld ?_
          rotate_left
          · (intro wz hSw; (try dsimp only at hSw); (try simp only [zA, zB, zC]); go_simp; try with_reducible rfl)
          try simp only [zA, zB, zC, Act.put, zD, zE, zF]
          refine tkH (i := 17) (v := ?_) rfl (Or.inl ⟨by rfl, ?_⟩) hHeld ?_
          rotate_left
          · (intro wz hSw; (try dsimp only at hSw); (try simp only [zA, zB, zC]); go_simp; try with_reducible rfl)
          try simp only [zA, zB, zC, Act.put, zD, zE, zF]
          refine tkH (i := 18) (v := ?_) rfl (Or.inl ⟨by rfl, ?_⟩) hHeld ?_
          rotate_left
          · (intro wz hSw; (try dsimp only at hSw); (try simp only [zA, zB, zC]); go_simp; try with_reducible rfl)
          try simp only [zA, zB, zC, Act.put, zD, zE, zF]
          refine wpAnyH_done (by kernel_rfl) ?_ _
          have HFI := Lib.hid (HZF.out we lg q3 d3 y false true (HB5.out.trans (b0.mono HB5.out.size)) ⟨_, hz4⟩ (by rw [HTI2.out]; rfl) (fun _ => HMM.out.symm) (own_keptC HOO.out b0))
          clear hHeld s5
          go_wp2_with fail
          refine bodyPost_ret (v := .tuple #[.agg #[.int .i64 lg.b, .int .i64 lg.bt, .int .u16 lg.j.ov, .int .u16 lg.j.ox, .int .u16 lg.j.ol, .int .i64 lg.j.oe, .int .i64 lg.j.ok, .int .u16 lg.j.nv, .int .u16 lg.j.nx, .int .u16 lg.j.nl, .int .i64 lg.j.ne, .int .i64 lg.j.nk, .bool lg.j.two, .slice q3 lg.es.length d3], .int .i64 y, .bool false, .bool true]) ?_ rfl HFI.out
          have kF := block_cells (show (we.setCells Z 0 [.int .i64 lg.b, .int .i64 lg.bt, .int .u16 lg.j.ov, .int .u16 lg.j.ox, .int .u16 lg.j.ol, .int .i64 lg.j.oe, .int .i64 lg.j.ok, .int .u16 lg.j.nv, .int .u16 lg.j.nx, .int .u16 lg.j.nl, .int .i64 lg.j.ne, .int .i64 lg.j.nk, .bool lg.j.two, .slice q3 lg.es.length d3]).heap[Z]? = some (.cells #[.int .i64 lg.b, .int .i64 lg.bt, .int .u16 lg.j.ov, .int .u16 lg.j.ox, .int .u16 lg.j.ol, .int .i64 lg.j.oe, .int .i64 lg.j.ok, .int .u16 lg.j.nv, .int .u16 lg.j.nx, .int .u16 lg.j.nl, .int .i64 lg.j.ne, .int .i64 lg.j.nk, .bool lg.j.two, .slice q3 lg.es.length d3] 30 (0, 0)) from fin4 (l := lg) (q := q3) (d := d3) hz4 rfl)
          simp [results, Tryz.results98, go_sem, kF]
        | true =>
          obtain ⟨b, hb⟩ : ∃ b, mayL lg = b := ⟨_, rfl⟩
          have hlgn : lg.es.length ≤ 1000000 := by
            have := mergeL_len c.l m.ix m.lt m.es
            rw [HMM.out] at this
            have h2 := HLN.out
            simp only at this; omega
          have HCM := Lib.hid (show Calls Tryz.prog 61 #[.agg #[.int .i64 lg.b, .int .i64 lg.bt, .int .u16 lg.j.ov, .int .u16 lg.j.ox, .int .u16 lg.j.ol, .int .i64 lg.j.oe, .int .i64 lg.j.ok, .int .u16 lg.j.nv, .int .u16 lg.j.nx, .int .u16 lg.j.nl, .int .i64 lg.j.ne, .int .i64 lg.j.nk, .bool lg.j.two, .slice q3 lg.es.length d3]] we fun r w' => r = .returned (.bool b) ∧ Below we.heap.size we w' from by have := may_any lg q3 d3 we hlgn ((EnSl.of_own HOO.out).keep b0 (Nat.le_refl _)); rw [hb] at this; exact this)
          have HBB := Lib.hid hb
          clear hb
          refine tkH (i := 6) (v := .agg #[.int .i64 lg.b, .int .i64 lg.bt, .int .u16 lg.j.ov, .int .u16 lg.j.ox, .int .u16 lg.j.ol, .int .i64 lg.j.oe, .int .i64 lg.j.ok, .int .u16 lg.j.nv, .int .u16 lg.j.nx, .int .u16 lg.j.nl, .int .i64 lg.j.ne, .int .i64 lg.j.nk, .bool lg.j.two, .slice q3 lg.es.length d3]) rfl (yieldsIf_load_mid (by rfl) _ _ rfl Z 0 rfl [.int .i64 lg.b, .int .i64 lg.bt, .int .u16 lg.j.ov, .int .u16 lg.j.ox, .int .u16 lg.j.ol, .int .i64 lg.j.oe, .int .i64 lg.j.ok, .int .u16 lg.j.nv, .int .u16 lg.j.nx, .int .u16 lg.j.nl, .int .i64 lg.j.ne, .int .i64 lg.j.nk, .bool lg.j.two, .slice q3 lg.es.length d3] _ HKZ.out Tryz.underlying30 rfl (by kernel_rfl)) hHeld ?_
          try simp only [zA, zB, zC, Act.put, zD, zE, zF]
          refine wpAnyH_ready (rs := [7]) (by kernel_rfl) (by simp) ?_; refine AllReadyH.cons rfl (fun K hK => ?_) AllReadyH.nil; (try simp only [zA, zB, zC]); go_simp
          refine HCM.out.mono ?_; rintro r0 w7 ⟨rfl, b7⟩
          have b8 := b0.trans (b7.mono b0.size)
          have s8 : RAll Z #[.int .i64 lg.b, .int .i64 lg.bt, .int .u16 lg.j.ov, .int .u16 lg.j.ox, .int .u16 lg.j.ol, .int .i64 lg.j.oe, .int .i64 lg.j.ok, .int .u16 lg.j.nv, .int .u16 lg.j.nx, .int .u16 lg.j.nl, .int .i64 lg.j.ne, .int .i64 lg.j.nk, .bool lg.j.two, .slice q3 lg.es.length d3] w7 := RAll.of (below_block b8 (block_lt HZ6.out) HZ6.out)
          refine hK.out _ _ s8 (fun _ => ?_)
          clear hK K hHeld b7 h0
          try simp only [zA, zB, zC, Act.put, zD, zE, zF]
          have hHeld := s8
          refine tkH (i := 8) (v := ?_) rfl (Or.inl ⟨by rfl, ?_⟩) hHeld ?_
          rotate_left
          · (intro wz hSw; (try dsimp only at hSw); (try simp only [zA, zB, zC]); go_simp; try with_reducible rfl)
          try simp only [zA, zB, zC, Act.put, zD, zE, zF]
          cases b with
          | false =>
            refine tkH (i := 9) (v := undef) rfl (Or.inr ⟨by rfl, rfl⟩) hHeld ?_
            try simp only [zA, zB, zC, Act.put, zD, zE, zF]
            refine tkH (i := 10) (v := undef) rfl (Or.inr ⟨by rfl, rfl⟩) hHeld ?_
            try simp only [zA, zB, zC, Act.put, zD, zE, zF]
            refine tkH (i := 11) (v := undef) rfl (Or.inr ⟨by rfl, rfl⟩) hHeld ?_
            try simp only [zA, zB, zC, Act.put, zD, zE, zF]
            refine tkH (i := 12) (v := undef) rfl (Or.inr ⟨by rfl, rfl⟩) hHeld ?_
            try simp only [zA, zB, zC, Act.put, zD, zE, zF]
            refine tkH (i := 13) (v := ?_) rfl (Or.inl ⟨by rfl, ?_⟩) hHeld ?_
            rotate_left
            · (intro wz hSw; (try dsimp only at hSw); (try simp only [zA, zB, zC]); go_simp; try with_reducible rfl)
            try simp only [zA, zB, zC, Act.put, zD, zE, zF]
            refine tkH (i := 14) (v := ?_) rfl (Or.inl ⟨by rfl, ?_⟩) hHeld ?_
            rotate_left
            · (intro wz hSw; (try dsimp only at hSw); (try simp only [zA, zB, zC]); go_simp; try with_reducible rfl)
            try simp only [zA, zB, zC, Act.put, zD, zE, zF]
            have hz4 := below_block b8 (block_lt HZ6.out) HZ6.out
            have s5 : RAll Z #[.int .i64 lg.b, .int .i64 lg.bt, .int .u16 lg.j.ov, .int .u16 lg.j.ox, .int .u16 lg.j.ol, .int .i64 lg.j.oe, .int .i64 lg.j.ok, .int .u16 lg.j.nv, .int .u16 lg.j.nx, .int .u16 lg.j.nl, .int .i64 lg.j.ne, .int .i64 lg.j.nk, .bool lg.j.two, .slice q3 lg.es.length d3] (w7.setCells Z 0 [.int .i64 lg.b, .int .i64 lg.bt, .int .u16 lg.j.ov, .int .u16 lg.j.ox, .int .u16 lg.j.ol, .int .i64 lg.j.oe, .int .i64 lg.j.ok, .int .u16 lg.j.nv, .int .u16 lg.j.nx, .int .u16 lg.j.nl, .int .i64 lg.j.ne, .int .i64 lg.j.nk, .bool lg.j.two, .slice q3 lg.es.length d3]) := RAll.of (fin4 (l := lg) (q := q3) (d := d3) hz4 rfl)
            have HTH := Lib.hid (there_of_block (o := 0) (n := 14) hz4 (Nat.le_refl 14))
            refine wpAnyH_ready (rs := [15]) (by kernel_rfl) (by simp) ?_; refine AllReadyH.cons rfl (fun K hK => ?_) AllReadyH.nil
            rw [if_pos (by rfl)]
            refine wp_store_mid _ _ _ (by rfl) Z 0 #[.int .i64 lg.b, .int .i64 lg.bt, .int .u16 lg.j.ov, .int .u16 lg.j.ox, .int .u16 lg.j.ol, .int .i64 lg.j.oe, .int .i64 lg.j.ok, .int .u16 lg.j.nv, .int .u16 lg.j.nx, .int .u16 lg.j.nl, .int .i64 lg.j.ne, .int .i64 lg.j.nk, .bool lg.j.two, .slice q3 lg.es.length d3] (by rfl) (by rfl) HTH.out (by kernel_rfl) (one_all rfl) ?_
            refine hK.out _ _ s5 (fun _ => ?_)
            clear hK K hHeld k13
            try simp only [zA, zB, zC, Act.put]
            have hHeld := s5
            refine tkH (i := 16) (v := ?_) rfl (Or.inl ⟨by rfl, ?_⟩) hHeld ?_
            rotate_left
            · (intro wz hSw; (try dsimp only at hSw); (try simp only [zA, zB, zC]); go_simp; try with_reducible rfl)
            try simp only [zA, zB, zC, Act.put, zD, zE, zF]
            refine tkH (i := 17) (v := ?_) rfl (Or.inl ⟨by rfl, ?_⟩) hHeld ?_
            rotate_left
            · (intro wz hSw; (try dsimp only at hSw); (try simp only [zA, zB, zC]); go_simp; try with_reducible rfl)
            try simp only [zA, zB, zC, Act.put, zD, zE, zF]
            refine tkH (i := 18) (v := ?_) rfl (Or.inl ⟨by rfl, ?_⟩) hHeld ?_
            rotate_left
            · (intro wz hSw; (try dsimp only at hSw); (try simp only [zA, zB, zC]); go_simp; try with_reducible rfl)
            try simp only [zA, zB, zC, Act.put, zD, zE, zF]
            refine wpAnyH_done (by kernel_rfl) ?_ _
            have HFI := Lib.hid (HZF.out w7 lg q3 d3 y true false (HB5.out.trans (b8.mono HB5.out.size)) ⟨_, hz4⟩ (by rw [HTI2.out]; rw [HBB.out]; rfl) (fun _ => HMM.out.symm) (own_keptC HOO.out b8))
            clear hHeld s5
            go_wp2_with fail
            refine bodyPost_ret (v := .tuple #[.agg #[.int .i64 lg.b, .int .i64 lg.bt, .int .u16 lg.j.ov, .int .u16 lg.j.ox, .int .u16 lg.j.ol, .int .i64 lg.j.oe, .int .i64 lg.j.ok, .int .u16 lg.j.nv, .int .u16 lg.j.nx, .int .u16 lg.j.nl, .int .i64 lg.j.ne, .int .i64 lg.j.nk, .bool lg.j.two, .slice q3 lg.es.length d3], .int .i64 y, .bool true, .bool false]) ?_ rfl HFI.out
            have kF := block_cells (show (w7.setCells Z 0 [.int .i64 lg.b, .int .i64 lg.bt, .int .u16 lg.j.ov, .int .u16 lg.j.ox, .int .u16 lg.j.ol, .int .i64 lg.j.oe, .int .i64 lg.j.ok, .int .u16 lg.j.nv, .int .u16 lg.j.nx, .int .u16 lg.j.nl, .int .i64 lg.j.ne, .int .i64 lg.j.nk, .bool lg.j.two, .slice q3 lg.es.length d3]).heap[Z]? = some (.cells #[.int .i64 lg.b, .int .i64 lg.bt, .int .u16 lg.j.ov, .int .u16 lg.j.ox, .int .u16 lg.j.ol, .int .i64 lg.j.oe, .int .i64 lg.j.ok, .int .u16 lg.j.nv, .int .u16 lg.j.nx, .int .u16 lg.j.nl, .int .i64 lg.j.ne, .int .i64 lg.j.nk, .bool lg.j.two, .slice q3 lg.es.length d3] 30 (0, 0)) from fin4 (l := lg) (q := q3) (d := d3) hz4 rfl)
            simp [results, Tryz.results98, go_sem, kF]
          | true =>
            by_cases hle : lg.es.length ≤ 4096
            · have hd4 : decide ((lg.es.length : Int) ≤ 4096) = true := by simp; omega
              have hle2 : (lg.es.length : Int) ≤ 4096 := by omega
              refine tkH (i := 9) (v := ?_) rfl (Or.inl ⟨by rfl, ?_⟩) hHeld ?_
              rotate_left
              · (intro wz hSw; (try dsimp only at hSw); (try simp only [zA, zB, zC]); go_simp; try with_reducible rfl)
              try simp only [zA, zB, zC, Act.put, zD, zE, zF]
              refine tkH (i := 10) (v := ?_) rfl (Or.inl ⟨by rfl, ?_⟩) hHeld ?_
              rotate_left
              · (intro wz hSw; (try dsimp only at hSw); (try simp only [zA, zB, zC]); go_simp; try with_reducible rfl)
              try simp only [zA, zB, zC, Act.put, zD, zE, zF]
              refine tkH (i := 11) (v := ?_) rfl (Or.inl ⟨by rfl, ?_⟩) hHeld ?_
              rotate_left
              · (intro wz hSw; (try dsimp only at hSw); (try simp only [zA, zB, zC]); go_simp; try with_reducible rfl)
              try simp only [zA, zB, zC, Act.put, zD, zE, zF]
              refine tkH (i := 12) (v := ?_) rfl (Or.inl ⟨by rfl, ?_⟩) hHeld ?_
              rotate_left
              · (intro wz hSw; (try dsimp only at hSw); (try simp only [zA, zB, zC]); go_simp; try with_reducible rfl)
              try simp only [zA, zB, zC, Act.put, zD, zE, zF]
              refine tkH (i := 13) (v := ?_) rfl (Or.inl ⟨by rfl, ?_⟩) hHeld ?_
              rotate_left
              · (intro wz hSw; (try dsimp only at hSw); (try simp only [zA, zB, zC]); go_simp; try with_reducible rfl)
              try simp only [zA, zB, zC, Act.put, zD, zE, zF]
              refine tkH (i := 14) (v := ?_) rfl (Or.inl ⟨by rfl, ?_⟩) hHeld ?_
              rotate_left
              · (intro wz hSw; (try dsimp only at hSw); (try simp only [zA, zB, zC]); go_simp; try with_reducible rfl)
              try simp only [zA, zB, zC, Act.put, zD, zE, zF]
              have hz4 := below_block b8 (block_lt HZ6.out) HZ6.out
              have s5 : RAll Z #[.int .i64 lg.b, .int .i64 lg.bt, .int .u16 lg.j.ov, .int .u16 lg.j.ox, .int .u16 lg.j.ol, .int .i64 lg.j.oe, .int .i64 lg.j.ok, .int .u16 lg.j.nv, .int .u16 lg.j.nx, .int .u16 lg.j.nl, .int .i64 lg.j.ne, .int .i64 lg.j.nk, .bool lg.j.two, .slice q3 lg.es.length d3] (w7.setCells Z 0 [.int .i64 lg.b, .int .i64 lg.bt, .int .u16 lg.j.ov, .int .u16 lg.j.ox, .int .u16 lg.j.ol, .int .i64 lg.j.oe, .int .i64 lg.j.ok, .int .u16 lg.j.nv, .int .u16 lg.j.nx, .int .u16 lg.j.nl, .int .i64 lg.j.ne, .int .i64 lg.j.nk, .bool lg.j.two, .slice q3 lg.es.length d3]) := RAll.of (fin4 (l := lg) (q := q3) (d := d3) hz4 rfl)
              have HTH := Lib.hid (there_of_block (o := 0) (n := 14) hz4 (Nat.le_refl 14))
              refine wpAnyH_ready (rs := [15]) (by kernel_rfl) (by simp) ?_; refine AllReadyH.cons rfl (fun K hK => ?_) AllReadyH.nil
              rw [if_pos (by rfl)]
              refine wp_store_mid _ _ _ (by rfl) Z 0 #[.int .i64 lg.b, .int .i64 lg.bt, .int .u16 lg.j.ov, .int .u16 lg.j.ox, .int .u16 lg.j.ol, .int .i64 lg.j.oe, .int .i64 lg.j.ok, .int .u16 lg.j.nv, .int .u16 lg.j.nx, .int .u16 lg.j.nl, .int .i64 lg.j.ne, .int .i64 lg.j.nk, .bool lg.j.two, .slice q3 lg.es.length d3] (by rfl) (by rfl) HTH.out (by kernel_rfl) (one_all rfl) ?_
              refine hK.out _ _ s5 (fun _ => ?_)
              clear hK K hHeld k13
              try simp only [zA, zB, zC, Act.put]
              have hHeld := s5
              refine tkH (i := 16) (v := ?_) rfl (Or.inl ⟨by rfl, ?_⟩) hHeld ?_
              rotate_left
              · (intro wz hSw; (try dsimp only at hSw); (try simp only [zA, zB, zC]); go_simp; try with_reducible rfl)
              try simp only [zA, zB, zC, Act.put, zD, zE, zF]
              refine tkH (i := 17) (v := ?_) rfl (Or.inl ⟨by rfl, ?_⟩) hHeld ?_
              rotate_left
              · (intro wz hSw; (try dsimp only at hSw); (try simp only [zA, zB, zC]); go_simp; try with_reducible rfl)
              try simp only [zA, zB, zC, Act.put, zD, zE, zF]
              refine tkH (i := 18) (v := ?_) rfl (Or.inl ⟨by rfl, ?_⟩) hHeld ?_
              rotate_left
              · (intro wz hSw; (try dsimp only at hSw); (try simp only [zA, zB, zC]); go_simp; try with_reducible rfl)
              try simp only [zA, zB, zC, Act.put, zD, zE, zF]
              refine wpAnyH_done (by kernel_rfl) ?_ _
              have HFI := Lib.hid (HZF.out w7 lg q3 d3 y true true (HB5.out.trans (b8.mono HB5.out.size)) ⟨_, hz4⟩ (by rw [HTI2.out]; rw [HBB.out, decide_eq_true hle]; rfl) (fun _ => HMM.out.symm) (own_keptC HOO.out b8))
              clear hHeld s5
              go_wp2_with fail
              refine bodyPost_ret (v := .tuple #[.agg #[.int .i64 lg.b, .int .i64 lg.bt, .int .u16 lg.j.ov, .int .u16 lg.j.ox, .int .u16 lg.j.ol, .int .i64 lg.j.oe, .int .i64 lg.j.ok, .int .u16 lg.j.nv, .int .u16 lg.j.nx, .int .u16 lg.j.nl, .int .i64 lg.j.ne, .int .i64 lg.j.nk, .bool lg.j.two, .slice q3 lg.es.length d3], .int .i64 y, .bool true, .bool true]) ?_ rfl HFI.out
              have kF := block_cells (show (w7.setCells Z 0 [.int .i64 lg.b, .int .i64 lg.bt, .int .u16 lg.j.ov, .int .u16 lg.j.ox, .int .u16 lg.j.ol, .int .i64 lg.j.oe, .int .i64 lg.j.ok, .int .u16 lg.j.nv, .int .u16 lg.j.nx, .int .u16 lg.j.nl, .int .i64 lg.j.ne, .int .i64 lg.j.nk, .bool lg.j.two, .slice q3 lg.es.length d3]).heap[Z]? = some (.cells #[.int .i64 lg.b, .int .i64 lg.bt, .int .u16 lg.j.ov, .int .u16 lg.j.ox, .int .u16 lg.j.ol, .int .i64 lg.j.oe, .int .i64 lg.j.ok, .int .u16 lg.j.nv, .int .u16 lg.j.nx, .int .u16 lg.j.nl, .int .i64 lg.j.ne, .int .i64 lg.j.nk, .bool lg.j.two, .slice q3 lg.es.length d3] 30 (0, 0)) from fin4 (l := lg) (q := q3) (d := d3) hz4 rfl)
              simp [results, Tryz.results98, go_sem, kF]
            · have hd4 : decide ((lg.es.length : Int) ≤ 4096) = false := by simp; omega
              have hle2 : ¬ (lg.es.length : Int) ≤ 4096 := by omega
              refine tkH (i := 9) (v := ?_) rfl (Or.inl ⟨by rfl, ?_⟩) hHeld ?_
              rotate_left
              · (intro wz hSw; (try dsimp only at hSw); (try simp only [zA, zB, zC]); go_simp; try with_reducible rfl)
              try simp only [zA, zB, zC, Act.put, zD, zE, zF]
              refine tkH (i := 10) (v := ?_) rfl (Or.inl ⟨by rfl, ?_⟩) hHeld ?_
              rotate_left
              · (intro wz hSw; (try dsimp only at hSw); (try simp only [zA, zB, zC]); go_simp; try with_reducible rfl)
              try simp only [zA, zB, zC, Act.put, zD, zE, zF]
              refine tkH (i := 11) (v := ?_) rfl (Or.inl ⟨by rfl, ?_⟩) hHeld ?_
              rotate_left
              · (intro wz hSw; (try dsimp only at hSw); (try simp only [zA, zB, zC]); go_simp; try with_reducible rfl)
              try simp only [zA, zB, zC, Act.put, zD, zE, zF]
              refine tkH (i := 12) (v := ?_) rfl (Or.inl ⟨by rfl, ?_⟩) hHeld ?_
              rotate_left
              · (intro wz hSw; (try dsimp only at hSw); (try simp only [zA, zB, zC]); go_simp; try with_reducible rfl)
              try simp only [zA, zB, zC, Act.put, zD, zE, zF]
              refine tkH (i := 13) (v := ?_) rfl (Or.inl ⟨by rfl, ?_⟩) hHeld ?_
              rotate_left
              · (intro wz hSw; (try dsimp only at hSw); (try simp only [zA, zB, zC]); go_simp; try with_reducible rfl)
              try simp only [zA, zB, zC, Act.put, zD, zE, zF]
              refine tkH (i := 14) (v := ?_) rfl (Or.inl ⟨by rfl, ?_⟩) hHeld ?_
              rotate_left
              · (intro wz hSw; (try dsimp only at hSw); (try simp only [zA, zB, zC]); go_simp; try with_reducible rfl)
              try simp only [zA, zB, zC, Act.put, zD, zE, zF]
              have hz4 := below_block b8 (block_lt HZ6.out) HZ6.out
              have s5 : RAll Z #[.int .i64 lg.b, .int .i64 lg.bt, .int .u16 lg.j.ov, .int .u16 lg.j.ox, .int .u16 lg.j.ol, .int .i64 lg.j.oe, .int .i64 lg.j.ok, .int .u16 lg.j.nv, .int .u16 lg.j.nx, .int .u16 lg.j.nl, .int .i64 lg.j.ne, .int .i64 lg.j.nk, .bool lg.j.two, .slice q3 lg.es.length d3] (w7.setCells Z 0 [.int .i64 lg.b, .int .i64 lg.bt, .int .u16 lg.j.ov, .int .u16 lg.j.ox, .int .u16 lg.j.ol, .int .i64 lg.j.oe, .int .i64 lg.j.ok, .int .u16 lg.j.nv, .int .u16 lg.j.nx, .int .u16 lg.j.nl, .int .i64 lg.j.ne, .int .i64 lg.j.nk, .bool lg.j.two, .slice q3 lg.es.length d3]) := RAll.of (fin4 (l := lg) (q := q3) (d := d3) hz4 rfl)
              have HTH := Lib.hid (there_of_block (o := 0) (n := 14) hz4 (Nat.le_refl 14))
              refine wpAnyH_ready (rs := [15]) (by kernel_rfl) (by simp) ?_; refine AllReadyH.cons rfl (fun K hK => ?_) AllReadyH.nil
              rw [if_pos (by rfl)]
              refine wp_store_mid _ _ _ (by rfl) Z 0 #[.int .i64 lg.b, .int .i64 lg.bt, .int .u16 lg.j.ov, .int .u16 lg.j.ox, .int .u16 lg.j.ol, .int .i64 lg.j.oe, .int .i64 lg.j.ok, .int .u16 lg.j.nv, .int .u16 lg.j.nx, .int .u16 lg.j.nl, .int .i64 lg.j.ne, .int .i64 lg.j.nk, .bool lg.j.two, .slice q3 lg.es.length d3] (by rfl) (by rfl) HTH.out (by kernel_rfl) (one_all rfl) ?_
              refine hK.out _ _ s5 (fun _ => ?_)
              clear hK K hHeld k13
              try simp only [zA, zB, zC, Act.put]
              have hHeld := s5
              refine tkH (i := 16) (v := ?_) rfl (Or.inl ⟨by rfl, ?_⟩) hHeld ?_
              rotate_left
              · (intro wz hSw; (try dsimp only at hSw); (try simp only [zA, zB, zC]); go_simp; try with_reducible rfl)
              try simp only [zA, zB, zC, Act.put, zD, zE, zF]
              refine tkH (i := 17) (v := ?_) rfl (Or.inl ⟨by rfl, ?_⟩) hHeld ?_
              rotate_left
              · (intro wz hSw; (try dsimp only at hSw); (try simp only [zA, zB, zC]); go_simp; try with_reducible rfl)
              try simp only [zA, zB, zC, Act.put, zD, zE, zF]
              refine tkH (i := 18) (v := ?_) rfl (Or.inl ⟨by rfl, ?_⟩) hHeld ?_
              rotate_left
              · (intro wz hSw; (try dsimp only at hSw); (try simp only [zA, zB, zC]); go_simp; try with_reducible rfl)
              try simp only [zA, zB, zC, Act.put, zD, zE, zF]
              refine wpAnyH_done (by kernel_rfl) ?_ _
              have HFI := Lib.hid (HZF.out w7 lg q3 d3 y true false (HB5.out.trans (b8.mono HB5.out.size)) ⟨_, hz4⟩ (by rw [HTI2.out]; rw [HBB.out, decide_eq_false hle]; rfl) (fun _ => HMM.out.symm) (own_keptC HOO.out b8))
              clear hHeld s5
              go_wp2_with fail
              refine bodyPost_ret (v := .tuple #[.agg #[.int .i64 lg.b, .int .i64 lg.bt, .int .u16 lg.j.ov, .int .u16 lg.j.ox, .int .u16 lg.j.ol, .int .i64 lg.j.oe, .int .i64 lg.j.ok, .int .u16 lg.j.nv, .int .u16 lg.j.nx, .int .u16 lg.j.nl, .int .i64 lg.j.ne, .int .i64 lg.j.nk, .bool lg.j.two, .slice q3 lg.es.length d3], .int .i64 y, .bool true, .bool false]) ?_ rfl HFI.out
              have kF := block_cells (show (w7.setCells Z 0 [.int .i64 lg.b, .int .i64 lg.bt, .int .u16 lg.j.ov, .int .u16 lg.j.ox, .int .u16 lg.j.ol, .int .i64 lg.j.oe, .int .i64 lg.j.ok, .int .u16 lg.j.nv, .int .u16 lg.j.nx, .int .u16 lg.j.nl, .int .i64 lg.j.ne, .int .i64 lg.j.nk, .bool lg.j.two, .slice q3 lg.es.length d3]).heap[Z]? = some (.cells #[.int .i64 lg.b, .int .i64 lg.bt, .int .u16 lg.j.ov, .int .u16 lg.j.ox, .int .u16 lg.j.ol, .int .i64 lg.j.oe, .int .i64 lg.j.ok, .int .u16 lg.j.nv, .int .u16 lg.j.nx, .int .u16 lg.j.nl, .int .i64 lg.j.ne, .int .i64 lg.j.nk, .bool lg.j.two, .slice q3 lg.es.length d3] 30 (0, 0)) from fin4 (l := lg) (q := q3) (d := d3) hz4 rfl)
              simp [results, Tryz.results98, go_sem, kF]
end Go.Proofs.YtbnndbdnejfehaaGreatDoor
