import Derived.Test.YtjaabakobpabjaaHtF
import Derived.Test.YtjaabakobpabjaaHsG
import Derived.ChangeKeysEq
import Derived.Test.YtjaabakobpabjaaLogR
import Derived.Test.YtjaabakobpabjaaHardB
/- Hard: what a record says to a core, the document's, whatever the letter; a new core. -/
namespace Go.Proofs.Ytjaabakobpabjaa
open Go.ChangeShapes Go.WideShapes Go.ChangeAt Go.RowKit

theorem one_any (a : Int) (B0 B R : Nat) (hB0 : B0 ≤ B) (x : CoX) (xs : List Int) (w : World) (hf : LgFit x.c.l) (ho : CoOwn B0 w x) (hr : RfW B w R xs false) :
    Calls Try.prog 34 #[.int .u8 a, .pointer (some ⟨R, 0, none⟩), .agg x.v.toArray] w (OneE B0 B R w x (sayR a xs)) := by
  by_cases h72 : a = 72
  · subst h72; exact one_H B0 B R hB0 x xs w hf ho hr
  by_cases h83 : a = 83
  · subst h83; exact one_S B0 B R hB0 x xs w hf ho hr
  by_cases h69 : a = 69
  · subst h69
    by_cases hk : (rd2 rfNm (rd2 rfNm (rd2 rfN rfT)) xs false).1.2.2.1 = 2
    · exact one_E1 B0 B R hB0 x xs w hf ho hr hk
    · exact one_E0 B0 B R hB0 x xs w hf ho hr hk
  by_cases h88 : a = 88
  · subst h88; exact one_X B0 B R hB0 x xs w hf ho hr
  exact one_none a h72 h83 h69 h88 B0 B R hB0 x xs w hf ho hr
set_option maxRecDepth 100000 in
set_option maxHeartbeats 4000000 in
theorem rcnew_any (id : Int) (j : Jn) (w : World) :
    Calls Try.prog 32 #[.int .i64 id, .agg #[.int .u16 j.ov, .int .u16 j.ox, .int .u16 j.ol, .int .i64 j.oe, .int .i64 j.ok, .int .u16 j.nv, .int .u16 j.nx, .int .u16 j.nl, .int .i64 j.ne, .int .i64 j.nk, .bool j.two]] w fun e w' => e = .returned (.agg (coL (newCo id j) none 0).toArray) ∧ Below w.heap.size w w' := by
  obtain ⟨W, hW⟩ : ∃ z : World, w.alloc (.cells #[.int .u16 j.ov, .int .u16 j.ox, .int .u16 j.ol, .int .i64 j.oe, .int .i64 j.ok, .int .u16 j.nv, .int .u16 j.nx, .int .u16 j.nl, .int .i64 j.ne, .int .i64 j.nk, .bool j.two] 42) = z := ⟨_, rfl⟩
  have hb : Below w.heap.size w W := by rw [← hW]; exact (Below.refl _ _).alloc (Nat.le_refl _) _
  have hq : W.heap[w.heap.size]? = some (.cells #[.int .u16 j.ov, .int .u16 j.ox, .int .u16 j.ol, .int .i64 j.oe, .int .i64 j.ok, .int .u16 j.nv, .int .u16 j.nx, .int .u16 j.nl, .int .i64 j.ne, .int .i64 j.nk, .bool j.two] 42 (0, 0)) := by rw [← hW]; exact heap_last w _
  have hz : W.heap.size = w.heap.size + 1 := by rw [← hW]; simp
  have HB := Lib.hid hb; have HW := Lib.hid hW; have HZ := Lib.hid hz; have HQ := Lib.hid hq
  clear hb hW hz hq
  go_enter Try.func32, Try.ntmps32
  go_upto_region 1 with fail
  rw [HW.out, ← HZ.out]
  have hq2 := heap_prev (.cells #[.int .i64 0, .int .i64 0, .int .i64 0, .int .i64 0, .int .i64 0, .int .i64 0, .int .i64 0, .int .i64 0, .int .i64 0, .int .i64 0, .int .u16 0, .int .u16 0, .int .u16 0, .int .i64 0, .int .i64 0, .int .u16 0, .int .u16 0, .int .u16 0, .int .i64 0, .int .i64 0, .bool false, .slice none 0 0, .string ⟨#[]⟩, .int .u16 0, .int .u16 0, .int .i64 0, .int .i64 0, .int .i64 0, .int .i64 0, .int .i64 0, .int .i64 0, .int .i64 0, .int .i64 0, .int .i64 0, .int .i64 0, .int .i64 0, .int .i64 0, .int .i64 0, .int .i64 0, .int .i64 0, .int .i64 0, .int .i64 0, .int .i64 0, .int .i64 0, .int .i64 0] 48) HQ.out
  have kJ := block_cells hq2
  clear hq2
  go_wp2_with (with_reducible refine wpList_store_new (op := ⟨none, .store 48 _ _, _, _, _, _⟩) rfl _ _ _ rfl _ (coL (newCo id j) none 0).toArray rfl rfl (by kernel_rfl) rfl (one_all rfl) ?_)
  have hC := heap_last W (.cells (coL (newCo id j) none 0).toArray 48)
  refine bodyPost_ret (v := .agg (coL (newCo id j) none 0).toArray) ?_ rfl ⟨rfl, HB.out.trans ((Below.refl _ _).alloc HB.out.size _)⟩
  exact results_cell_row rfl _ _ W.heap.size _ _ _ _ (by rfl) hC Try.underlying48 rfl (by kernel_rfl)
end Go.Proofs.Ytjaabakobpabjaa
/- Hard: a string's first byte; a row of strings; a row of cores apart. -/
namespace Go.Proofs.Ytjaabakobpabjaa
open Go.ChangeShapes Go.WideShapes Go.ChangeAt Go.RowKit

theorem run_ix0 {s : ByteArray} {c : Int} {l : List Int} (h : txW s = c :: l) (w : World) : (Instr.index 9 (.string s) (.int .i64 0)).run Try.prog w = .ok (.int .u8 c) w := by
  have hs : 0 < s.size := by rw [← txW_len, h]; simp
  rw [run_index_string w _ _ _ _ Try.underlying9, dif_pos ⟨Int.le_refl 0, by omega⟩]
  have hd : 0 < s.data.size := hs
  have h0 : (txW s)[0]? = some c := by rw [h]; rfl
  unfold txW at h0
  rw [List.getElem?_map, Array.getElem?_toList, Array.getElem?_eq_getElem hd, Option.map_some, Option.some.injEq] at h0
  rw [← h0]
  rfl
theorem run_ixo {o : Oper} {a : Act} (w : World) (x y : Operand) (ho : o.op = .index 9 x y) {s : ByteArray} {c : Int} {l : List Int} (h : txW s = c :: l) (hx : a.eval x = .string s) (hy : a.eval y = .int .i64 0) :
    (execOp a.eval o).run Try.prog w = .ok (.value (.int .u8 c)) w := by
  unfold execOp
  simp only [ho, hx, hy, Sem.run_bind, run_ix0 h, Result.andThen_ok]
  rfl
theorem wpList_ix {ops : Array Oper} {rest : List Oper} {o : Oper} {a : Act} {w : World} {Q : Exit → Act → World → Prop} (hg : o.guard = none) (x y : Operand) (ho : o.op = .index 9 x y) {s : ByteArray} {c : Int} {l : List Int} (h : txW s = c :: l) (hx : a.eval x = .string s) (hy : a.eval y = .int .i64 0)
    (hn : wpList Try.prog ops Q rest (a.put o.dst (.int .u8 c)) w) : wpList Try.prog ops Q (o :: rest) a w :=
  wpList_plain hg fun _ hK => by
    unfold Oper.wp
    rw [run_ixo w x y ho h hx hy]
    exact hK _ _ hn
theorem yields_ix {ops : Array Oper} {S : World → Prop} {o : Oper} {a : Act} (hw : Region.wanted o (yielded ops a.tmps) = true) (x y : Operand) (ho : o.op = .index 9 x y) {s : ByteArray} {c : Int} {l : List Int} (h : txW s = c :: l) (hx : a.eval x = .string s) (hy : a.eval y = .int .i64 0) : YieldsIf Try.prog ops S o (.int .u8 c) a :=
  .inl ⟨hw, fun w _ => run_ixo w x y ho h hx hy⟩
/-- A list of strings. -/
def SrAt (B : Nat) (w : World) (q : Option Addr) (L : List ByteArray) : Prop := ∀ k, (hk : k < L.length) → ∃ g o, q = some ⟨g, o, none⟩ ∧ g < B ∧ w.cell? ⟨g, o + k, none⟩ = some (.string L[k])
theorem SrAt.keep {B : Nat} {w w' : World} {q : Option Addr} {L : List ByteArray} (h : SrAt B w q L) (hb : Below B w w') : SrAt B w' q L := fun k hk => by
  obtain ⟨g, o, e, hg, hc⟩ := h k hk
  exact ⟨g, o, e, hg, (hb.cell (p := ⟨g, o + k, none⟩) hg).trans hc⟩
/-- A core of the row is replaced whole. -/
theorem CsAt.whole {base : Nat} {w : World} {g cap : Nat} {l : List CoX} (h : CsAt base w (.slice (some ⟨g, 0, none⟩) l.length cap) l) {n : Nat} (hn : n < l.length) (y : CoX) (he : CoOwn base w y) :
    CsAt base (w.setCells g (n * 45) y.v) (.slice (some ⟨g, 0, none⟩) l.length cap) (l.set n y) ∧ Below base w (w.setCells g (n * 45) y.v) := by
  have ha : y.v.length = 45 := rfl
  have hb : l[n].v.length = 45 := rfl
  have h1 := h.puts hn 0 y.v (by rw [ha]; decide) y (setL_all (ha.trans hb.symm)).symm he
  rw [List.length_set] at h1
  exact h1
theorem CsAt.range {base : Nat} {w : World} {g cap : Nat} {l : List CoX} (h : CsAt base w (.slice (some ⟨g, 0, none⟩) l.length cap) l) {n : Nat} (hn : n < l.length) : w.rangeAt g (n * 45) l[n].v := range_of (n := 45) rfl (fun j hj => h.cell hn j hj)
end Go.Proofs.Ytjaabakobpabjaa
/- Hard: an array of ten numbers is equal to itself. -/
namespace Go.Proofs.Ytjaabakobpabjaa
open Go.ChangeShapes Go.WideShapes Go.ChangeAt Go.RowKit

set_option maxRecDepth 100000 in
theorem eq_ten (a b c d e f g h i j : Int) (w : World) : (Op.equalIn 10000 46 (.agg #[.int .i64 a, .int .i64 b, .int .i64 c, .int .i64 d, .int .i64 e, .int .i64 f, .int .i64 g, .int .i64 h, .int .i64 i, .int .i64 j]) (.agg #[.int .i64 a, .int .i64 b, .int .i64 c, .int .i64 d, .int .i64 e, .int .i64 f, .int .i64 g, .int .i64 h, .int .i64 i, .int .i64 j])).run Try.prog w = .ok true w := by
  have hi0 : (Try.prog.info? 3).isSome = true := by kernel_rfl
  obtain ⟨x, hx⟩ := Option.isSome_iff_exists.1 hi0
  rw [run_equalIn_array (P := Try.prog) w 9999 _ _ Try.underlying46 hx]
  have hc : Try.prog.cellsOf 3 = 1 := by kernel_rfl
  rw [hc, show List.range 10 = [0, 1, 2, 3, 4, 5, 6, 7, 8, 9] from rfl]
  simp only [Op.eqItems]
  go_simp
end Go.Proofs.Ytjaabakobpabjaa
/- Hard: two equal cores are the same (the reference's Same). -/
namespace Go.Proofs.Ytjaabakobpabjaa
open Go.ChangeShapes Go.WideShapes Go.ChangeAt Go.RowKit

set_option maxRecDepth 100000 in
set_option maxHeartbeats 16000000 in
theorem rsame13_any (c : Co) (p q : Option Addr) (k d : Nat) (w : World) (hl : c.l.es.length ≤ 1000000) (h1 : EnSl w (.slice p c.l.es.length k) c.l.es) (h2 : EnSl w (.slice q c.l.es.length d) c.l.es) :
    Calls Try.prog 13 #[.agg #[.int .i64 c.id, .int .i64 c.role, .int .i64 c.tm, .int .i64 c.vt, .int .i64 c.ld, .int .i64 c.wt, .int .i64 c.cm, .int .i64 c.sf, .int .i64 c.l.b, .int .i64 c.l.bt, .int .u16 c.l.j.ov, .int .u16 c.l.j.ox, .int .u16 c.l.j.ol, .int .i64 c.l.j.oe, .int .i64 c.l.j.ok, .int .u16 c.l.j.nv, .int .u16 c.l.j.nx, .int .u16 c.l.j.nl, .int .i64 c.l.j.ne, .int .i64 c.l.j.nk, .bool c.l.j.two, .slice p c.l.es.length k, .string c.sn, .int .u16 c.vs, .int .u16 c.hd, .int .i64 (c.nx 0), .int .i64 (c.nx 1), .int .i64 (c.nx 2), .int .i64 (c.nx 3), .int .i64 (c.nx 4), .int .i64 (c.nx 5), .int .i64 (c.nx 6), .int .i64 (c.nx 7), .int .i64 (c.nx 8), .int .i64 (c.nx 9), .int .i64 (c.mt 0), .int .i64 (c.mt 1), .int .i64 (c.mt 2), .int .i64 (c.mt 3), .int .i64 (c.mt 4), .int .i64 (c.mt 5), .int .i64 (c.mt 6), .int .i64 (c.mt 7), .int .i64 (c.mt 8), .int .i64 (c.mt 9)], .agg #[.int .i64 c.id, .int .i64 c.role, .int .i64 c.tm, .int .i64 c.vt, .int .i64 c.ld, .int .i64 c.wt, .int .i64 c.cm, .int .i64 c.sf, .int .i64 c.l.b, .int .i64 c.l.bt, .int .u16 c.l.j.ov, .int .u16 c.l.j.ox, .int .u16 c.l.j.ol, .int .i64 c.l.j.oe, .int .i64 c.l.j.ok, .int .u16 c.l.j.nv, .int .u16 c.l.j.nx, .int .u16 c.l.j.nl, .int .i64 c.l.j.ne, .int .i64 c.l.j.nk, .bool c.l.j.two, .slice q c.l.es.length d, .string c.sn, .int .u16 c.vs, .int .u16 c.hd, .int .i64 (c.nx 0), .int .i64 (c.nx 1), .int .i64 (c.nx 2), .int .i64 (c.nx 3), .int .i64 (c.nx 4), .int .i64 (c.nx 5), .int .i64 (c.nx 6), .int .i64 (c.nx 7), .int .i64 (c.nx 8), .int .i64 (c.nx 9), .int .i64 (c.mt 0), .int .i64 (c.mt 1), .int .i64 (c.mt 2), .int .i64 (c.mt 3), .int .i64 (c.mt 4), .int .i64 (c.mt 5), .int .i64 (c.mt 6), .int .i64 (c.mt 7), .int .i64 (c.mt 8), .int .i64 (c.mt 9)]] w fun r w' => r = .returned (.bool true) ∧ Below w.heap.size w w' := by
  obtain ⟨W0, hW0⟩ : ∃ z : World, w.alloc (.cells #[.int .i64 c.id, .int .i64 c.role, .int .i64 c.tm, .int .i64 c.vt, .int .i64 c.ld, .int .i64 c.wt, .int .i64 c.cm, .int .i64 c.sf, .int .i64 c.l.b, .int .i64 c.l.bt, .int .u16 c.l.j.ov, .int .u16 c.l.j.ox, .int .u16 c.l.j.ol, .int .i64 c.l.j.oe, .int .i64 c.l.j.ok, .int .u16 c.l.j.nv, .int .u16 c.l.j.nx, .int .u16 c.l.j.nl, .int .i64 c.l.j.ne, .int .i64 c.l.j.nk, .bool c.l.j.two, .slice p c.l.es.length k, .string c.sn, .int .u16 c.vs, .int .u16 c.hd, .int .i64 (c.nx 0), .int .i64 (c.nx 1), .int .i64 (c.nx 2), .int .i64 (c.nx 3), .int .i64 (c.nx 4), .int .i64 (c.nx 5), .int .i64 (c.nx 6), .int .i64 (c.nx 7), .int .i64 (c.nx 8), .int .i64 (c.nx 9), .int .i64 (c.mt 0), .int .i64 (c.mt 1), .int .i64 (c.mt 2), .int .i64 (c.mt 3), .int .i64 (c.mt 4), .int .i64 (c.mt 5), .int .i64 (c.mt 6), .int .i64 (c.mt 7), .int .i64 (c.mt 8), .int .i64 (c.mt 9)] 48) = z := ⟨_, rfl⟩
  obtain ⟨W, hW⟩ : ∃ z : World, W0.alloc (.cells #[.int .i64 c.id, .int .i64 c.role, .int .i64 c.tm, .int .i64 c.vt, .int .i64 c.ld, .int .i64 c.wt, .int .i64 c.cm, .int .i64 c.sf, .int .i64 c.l.b, .int .i64 c.l.bt, .int .u16 c.l.j.ov, .int .u16 c.l.j.ox, .int .u16 c.l.j.ol, .int .i64 c.l.j.oe, .int .i64 c.l.j.ok, .int .u16 c.l.j.nv, .int .u16 c.l.j.nx, .int .u16 c.l.j.nl, .int .i64 c.l.j.ne, .int .i64 c.l.j.nk, .bool c.l.j.two, .slice q c.l.es.length d, .string c.sn, .int .u16 c.vs, .int .u16 c.hd, .int .i64 (c.nx 0), .int .i64 (c.nx 1), .int .i64 (c.nx 2), .int .i64 (c.nx 3), .int .i64 (c.nx 4), .int .i64 (c.nx 5), .int .i64 (c.nx 6), .int .i64 (c.nx 7), .int .i64 (c.nx 8), .int .i64 (c.nx 9), .int .i64 (c.mt 0), .int .i64 (c.mt 1), .int .i64 (c.mt 2), .int .i64 (c.mt 3), .int .i64 (c.mt 4), .int .i64 (c.mt 5), .int .i64 (c.mt 6), .int .i64 (c.mt 7), .int .i64 (c.mt 8), .int .i64 (c.mt 9)] 48) = z := ⟨_, rfl⟩
  have hs0 : W0.heap.size = w.heap.size + 1 := by rw [← hW0]; simp
  have b0 : Below w.heap.size w W0 := by rw [← hW0]; exact (Below.refl _ _).alloc (Nat.le_refl _) _
  have b1 : Below W0.heap.size W0 W := by rw [← hW]; exact (Below.refl _ _).alloc (Nat.le_refl _) _
  have bW := b0.trans (b1.mono b0.size)
  have HS := Lib.hid (same_any c.l c.l p q k d W hl hl (h1.keep bW (Nat.le_refl _)) (h2.keep bW (Nat.le_refl _)))
  rw [decide_eq_true (rfl : c.l = c.l)] at HS
  have HB := Lib.hid bW
  clear hs0 b0 b1 bW h1 h2
  subst hW; subst hW0
  have E1 := fun w => eq_ten (c.nx 0) (c.nx 1) (c.nx 2) (c.nx 3) (c.nx 4) (c.nx 5) (c.nx 6) (c.nx 7) (c.nx 8) (c.nx 9) w
  have E2 := fun w => eq_ten (c.mt 0) (c.mt 1) (c.mt 2) (c.mt 3) (c.mt 4) (c.mt 5) (c.mt 6) (c.mt 7) (c.mt 8) (c.mt 9) w
  go_enter Try.func13, Try.ntmps13
  go_wp2_with fail
  refine HS.out.mono ?_; rintro r w' ⟨rfl, hb⟩
  have HB2 := Lib.hid (HB.out.trans (hb.mono HB.out.size))
  clear hb HS HB
  go_wp2_with fail
  go_ret
  exact ⟨rfl, HB2.out⟩
end Go.Proofs.Ytjaabakobpabjaa
/- Hard: the reference's Diff. -/
namespace Go.Proofs.Ytjaabakobpabjaa
open Go.ChangeShapes Go.WideShapes Go.ChangeAt Go.RowKit

theorem Try.infoStr : (Try.prog.info? 9).map (fun i => (i.zero, i.size, i.bytes)) = some (some (.string ⟨#[]⟩), 1, 16) := by kernel_rfl
def stR (L : List (List Int)) : List Value := L.map fun l => .string (strOfNums l)
structure DrW (w0 w : World) (A C : Nat) (ca cc : Array Value) (v : Value) (M : List (List Int)) : Prop where
  b : Below w0.heap.size w0 w
  a : w.heap[A]? = some (.cells ca 48 (0, 0))
  c : w.heap[C]? = some (.cells cc 48 (0, 0))
  l : w.ownsRow w0.heap.size 9 1 v M.length (stR M)
theorem DrW.keep {w0 w w' : World} {A C : Nat} {ca cc : Array Value} {v : Value} {M : List (List Int)} (h : DrW w0 w A C ca cc v M) (hb : Below w.heap.size w w') : DrW w0 w' A C ca cc v M :=
  ⟨h.b.trans (hb.mono h.b.size), below_block hb (block_lt h.a) h.a, below_block hb (block_lt h.c) h.c, own_keptH h.l hb⟩
theorem DrW.app {w0 w w' : World} {A C : Nat} {ca cc : Array Value} {v v' : Value} {M : List (List Int)} {l : List Int} (h : DrW w0 w A C ca cc v M) (h2 : w'.ownsRow w0.heap.size 9 1 v' (M.length + 1) (stR M ++ [.string (strOfNums l)])) (h3 : w.grownBy w' v.ownBlock) : DrW w0 w' A C ca cc v' (M ++ [l]) :=
  ⟨h.b.grown h3 h.b.size (fun k hk => (h.l.lt k hk).1), blk_keep h.a h.l (by decide) h3, blk_keep h.c h.l (by decide) h3, by rw [List.length_append, stR, List.map_append]; exact h2⟩
end Go.Proofs.Ytjaabakobpabjaa
/- Hard: records of both, compared. -/
namespace Go.Proofs.Ytjaabakobpabjaa
open Go.ChangeShapes Go.WideShapes Go.ChangeAt Go.RowKit

theorem own_atH {w : World} {base : Nat} {e : TypeId} {n c : Nat} {p : Option Addr} {xs : List Value} (h : w.ownsRow base e 1 (.slice p n c) n xs) {i : Nat} (hi : i < n) : ∃ g, p = some ⟨g, 0, none⟩ ∧ g < w.heap.size ∧ ∀ j, j < n → w.cell? ⟨g, j, none⟩ = xs[j]? := by
  rcases h.2 with ⟨-, h0⟩ | ⟨g, cap, cur, hv, -, hg, -, -, hc, ht⟩
  · subst h0; omega
  · simp only [Value.slice.injEq] at hv
    refine ⟨g, hv.1, block_lt hg, fun j hj => ?_⟩
    rw [block_cells hg, ← ht, List.getElem?_take, if_pos (by omega)]
    simp
theorem own_formH {w : World} {base : Nat} {e : TypeId} {size n : Nat} {v : Value} {xs : List Value} (h : w.ownsRow base e size v n xs) : ∃ p c, v = .slice p n c := by
  rcases h.2 with ⟨rfl, rfl⟩ | ⟨g, cap, cur, rfl, -⟩
  · exact ⟨_, _, rfl⟩
  · exact ⟨_, _, rfl⟩
end Go.Proofs.Ytjaabakobpabjaa
