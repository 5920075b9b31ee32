import Derived.Test.YtjaabakobpabjaaProg
import Derived.Deep.RegionHeld
import Derived.WalkKit
import Derived.Test.YtjaabakobpabjaaWireA
import Derived.Deep.RegionHeld3
import Derived.Maps.AppendAt
/- Regions walked operation by operation: the class of worlds may be made narrower as the walk goes on. -/
namespace Go.Proofs.Ytjaabakobpabjaa
open Go.RowKit

end Go.Proofs.Ytjaabakobpabjaa
/- Wire: how numbers, texts, truths, stamps and attempts are laid behind bytes: package wire's and the reference's. -/
namespace Go.Proofs.Ytjaabakobpabjaa
open Go.ChangeShapes Go.WideShapes Go.ChangeAt Go.RowKit

def TxtsAt (w : World) (p : Option Addr) (ss : List ByteArray) : Prop := ∀ j, (hj : j < ss.length) → ∃ g o, p = some ⟨g, o, none⟩ ∧ g < w.heap.size ∧ w.cell? ⟨g, o + j, none⟩ = some (.string ss[j])
theorem TxtsAt.keep {w w' : World} {p : Option Addr} {ss : List ByteArray} (h : TxtsAt w p ss) {B : Nat} (hb : Below B w w') (hB : w.heap.size ≤ B) : TxtsAt w' p ss := fun j hj => by
  obtain ⟨g, o, e, hg, h1⟩ := h j hj
  exact ⟨g, o, e, Nat.lt_of_lt_of_le hg hb.size, (hb.cell (p := ⟨g, o + j, none⟩) (by show g < B; omega)).trans h1⟩
/-- An append in place: what is below the row's base stays. -/
theorem wend_grown {base : Nat} {w w1 w2 : World} {v v2 : Value} {xs ys : List Int} (hb1 : Below w.heap.size w w1) (_ho1 : w1.ownsRow base 5 1 v xs.length (byt xs)) (hg : w1.grownBy w2 v.ownBlock) (ho2 : w2.ownsRow base 5 1 v2 (xs.length + ys.length) (byt xs ++ byt ys)) :
    w2.ownsRow base 5 1 v2 (xs ++ ys).length (byt (xs ++ ys)) ∧ w.grownBy w2 v.ownBlock := by
  refine ⟨by rw [List.length_append, ← byt_app]; exact ho2, ?_⟩
  exact ⟨hg.os.trans hb1.os, hg.tape.trans hb1.tape, hg.output.trans hb1.output, Nat.le_trans hb1.size hg.size, fun k hk hn => (hg.block k (Nat.lt_of_lt_of_le hk hb1.size) hn).trans (hb1.block k hk)⟩
theorem sl_oneW {w : World} {g : Nat} {x : Int} {t : TypeId} (h : w.heap[g]? = some (.cells #[.int .u8 x] t (0, 0))) : Sl (g + 1) w (.slice (some ⟨g, 0, none⟩) 1 1) 1 [x].length (byt [x]) :=
  ⟨rfl, .inr ⟨_, 1, rfl, Nat.le_refl _, by unfold maxLen; decide, fun _ => ⟨g, 0, rfl, Nat.lt_succ_self _, fun j hj => by
    obtain rfl : j = 0 := by simp at hj; omega
    rw [block_cells h]; rfl⟩⟩⟩
end Go.Proofs.Ytjaabakobpabjaa
/- Wire: the reference's bytes of a command. -/
namespace Go.Proofs.Ytjaabakobpabjaa
open Go.ChangeShapes Go.WideShapes Go.ChangeAt Go.RowKit

def SpsAt (w : World) (p : Option Addr) (L : List SpX) : Prop := ∀ j, (hj : j < L.length) → ∃ g o, p = some ⟨g, o, none⟩ ∧ g < w.heap.size ∧ w.cell? ⟨g, o + j * 2, none⟩ = some (.string L[j].lo) ∧ w.cell? ⟨g, o + j * 2 + 1, none⟩ = some (.string L[j].hi)
theorem SpsAt.keep {w w' : World} {p : Option Addr} {L : List SpX} (h : SpsAt w p L) {B : Nat} (hb : Below B w w') (hB : w.heap.size ≤ B) : SpsAt w' p L := fun j hj => by
  obtain ⟨g, o, e, hg, h1, h2⟩ := h j hj
  exact ⟨g, o, e, Nat.lt_of_lt_of_le hg hb.size, (hb.cell (p := ⟨g, o + j * 2, none⟩) (by show g < B; omega)).trans h1, (hb.cell (p := ⟨g, o + j * 2 + 1, none⟩) (by show g < B; omega)).trans h2⟩
def WrsAt (w : World) (p : Option Addr) (L : List WrX) : Prop := ∀ j, (hj : j < L.length) → ∃ g o, p = some ⟨g, o, none⟩ ∧ g < w.heap.size ∧ w.cell? ⟨g, o + j * 3, none⟩ = some (.string L[j].k) ∧ w.cell? ⟨g, o + j * 3 + 1, none⟩ = some (.bool L[j].r) ∧ w.cell? ⟨g, o + j * 3 + 2, none⟩ = some (.string L[j].d)
theorem WrsAt.keep {w w' : World} {p : Option Addr} {L : List WrX} (h : WrsAt w p L) {B : Nat} (hb : Below B w w') (hB : w.heap.size ≤ B) : WrsAt w' p L := fun j hj => by
  obtain ⟨g, o, e, hg, h1, h2, h3⟩ := h j hj
  exact ⟨g, o, e, Nat.lt_of_lt_of_le hg hb.size, (hb.cell (p := ⟨g, o + j * 3, none⟩) (by show g < B; omega)).trans h1, (hb.cell (p := ⟨g, o + j * 3 + 1, none⟩) (by show g < B; omega)).trans h2, (hb.cell (p := ⟨g, o + j * 3 + 2, none⟩) (by show g < B; omega)).trans h3⟩
theorem own_oneW (w : World) (x : Int) : (w.alloc (.cells #[.int .u8 x] 5)).ownsRow w.heap.size 5 1 (.slice (some ⟨w.heap.size, 0, none⟩) 1 1) [x].length (byt [x]) :=
  ⟨rfl, .inr ⟨w.heap.size, 1, _, rfl, Nat.le_refl _, heap_last w _, Nat.le_refl _, by unfold maxLen; decide, rfl, rfl⟩⟩
end Go.Proofs.Ytjaabakobpabjaa
/- Wire: writers in one form: their result has a row of its own, all blocks but the old row's are as they were, and the row is the old one or a new one. -/
namespace Go.Proofs.Ytjaabakobpabjaa
open Go.ChangeShapes Go.WideShapes Go.ChangeAt Go.RowKit

theorem wpList_append_sl_at {P : Program} {w : World} {ops : Array Oper} {rest : List Oper} {o : Oper} {a : Act} {Q : Exit → Act → World → Prop} (hgd : o.guard = none) (s x : Operand) (t : TypeId)
    (ho : o.op = .call { callee := .builtin .append, args := #[s, x], argTypes := #[t, t] })
    (base : Nat) (e : TypeId) (i : TypeInfo) (z : Value) (size bytes : Nat) (ht : P.underlying t = some (.slice e)) (hi : P.info? e = some i) (hz : i.zero = some z)
    (hsize : i.size = size) (hby : i.bytes = bytes) (hzs : z.cells.size = size) (hsz : 0 < size)
    (v : Value) (n : Nat) (xs : List Value) (hs : a.eval s = v) (hown : w.ownsRow base e size v n xs)
    (B : Nat) (u : Value) (m : Nat) (news : List Value) (hx : a.eval x = u) (hsl : Sl B w u size m news) (h1 : ∀ u ∈ news, u.oneCell' = true)
    (h63 : n + m ≤ maxLen) (hbytes : (n + m) * bytes ≤ 140737488355328) (hbase : base ≤ w.heap.size)
    (h : ∀ v' w', w'.ownsRow base e size v' (n + m) (xs ++ news) → w.grownBy w' v.ownBlock → (v'.ownBlock = v.ownBlock ∨ v'.ownBlock = some w.heap.size) → wpList P ops Q rest (a.put o.dst v') w') : wpList P ops Q (o :: rest) a w := by
  obtain ⟨hl, hc⟩ := hsl
  rcases hc with ⟨rfl, rfl⟩ | ⟨ad, cap, rfl, _, _, hcell⟩
  · have hn : news = [] := List.eq_nil_of_length_eq_zero (by simpa using hl)
    subst hn
    refine wpList_append_own_none hgd s x t ho base e i size ht hi v n xs hs hown hx ?_
    exact h v w (by simpa using hown) ⟨rfl, rfl, rfl, Nat.le_refl _, fun _ _ _ => rfl⟩ (.inl rfl)
  · refine wpList_append_own_at _ hgd s x t ho base e i z size bytes ht hi hz hsize hby hzs hsz v n xs hs hown ad m cap news hx hl ?_ h1 h63 hbytes hbase (fun v' w' h2 h3 _ h5 => h v' w' h2 h3 h5)
    intro j u hu
    have hj : j < m * size := by rw [← hl]; exact (List.getElem?_eq_some_iff.1 hu).1
    have hm : 0 < m := Nat.pos_of_ne_zero (fun h => by rw [h] at hj; omega)
    obtain ⟨g, off, rfl, _, hcell⟩ := hcell hm
    have hadd : (⟨g, off, none⟩ : Addr).add j = ⟨g, off + j, none⟩ := by unfold Addr.add; split <;> simp_all
    rw [hadd, hcell j hj]; exact hu
/-- From the world X with the row v0 to the world w with the row v. -/
structure Gw (base : Nat) (v0 : Value) (X : World) (v : Value) (w : World) (ys : List Int) : Prop where
  own : w.ownsRow base 5 1 v ys.length (byt ys)
  gr : X.grownBy w v0.ownBlock
  ob : ∀ k, v.ownBlock = some k → v0.ownBlock = some k ∨ X.heap.size ≤ k
def GwE (base : Nat) (v0 : Value) (X : World) (ys : List Int) (e : Ending) (w : World) : Prop := ∃ v, e = .returned v ∧ Gw base v0 X v w ys
theorem ob_at {v0 v : Value} {n m : Nat} (h : n ≤ m) (ha : v.ownBlock = v0.ownBlock ∨ v.ownBlock = some m) : ∀ k, v.ownBlock = some k → v0.ownBlock = some k ∨ n ≤ k := fun k hk => by
  rcases ha with e | e
  · exact .inl (by rw [← e]; exact hk)
  · rw [e] at hk; cases hk; exact .inr h
theorem grown_below {X w : World} (h : Below X.heap.size X w) (row : Option Nat) : X.grownBy w row := ⟨h.os, h.tape, h.output, h.size, fun k hk _ => h.block k hk⟩
section
variable {base : Nat} {v0 v v1 : Value} {X w w1 : World} {xs ys : List Int}
theorem Gw.refl (h : X.ownsRow base 5 1 v0 xs.length (byt xs)) : Gw base v0 X v0 X xs := ⟨h, ⟨rfl, rfl, rfl, Nat.le_refl _, fun _ _ _ => rfl⟩, fun _k hk => .inl hk⟩
theorem Gw.hz (h : Gw base v0 X v w xs) (hb : base ≤ X.heap.size) : base ≤ w.heap.size := Nat.le_trans hb h.gr.size
theorem Gw.trans (h : Gw base v0 X v w xs) (k : Gw base v w v1 w1 ys) : Gw base v0 X v1 w1 ys :=
  ⟨k.own, ⟨k.gr.os.trans h.gr.os, k.gr.tape.trans h.gr.tape, k.gr.output.trans h.gr.output, Nat.le_trans h.gr.size k.gr.size, fun i hi hn => (k.gr.block i (Nat.lt_of_lt_of_le hi h.gr.size) (fun e => by
    rcases h.ob i e.symm with e2 | e2
    · exact hn e2.symm
    · omega)).trans (h.gr.block i hi hn)⟩, fun i hi => by
    rcases k.ob i hi with e | e
    · exact h.ob i e
    · exact .inr (Nat.le_trans h.gr.size e)⟩
theorem Gw.below (h : Gw base v0 X v w xs) (hb : Below w.heap.size w w1) : Gw base v0 X v w1 xs :=
  ⟨own_less h.own hb, ⟨hb.os.trans h.gr.os, hb.tape.trans h.gr.tape, hb.output.trans h.gr.output, Nat.le_trans h.gr.size hb.size, fun i hi hn => (hb.block i (Nat.lt_of_lt_of_le hi h.gr.size)).trans (h.gr.block i hi hn)⟩, h.ob⟩
theorem Gw.drew (h : Gw base v0 X v w xs) : Gw base v0 X v w.drew xs := h.below (Below.refl _ _).drew
theorem Gw.alloc (h : Gw base v0 X v w xs) (o : Obj) : Gw base v0 X v (w.alloc o) xs := h.below ((Below.refl _ _).alloc (Nat.le_refl _) _)
theorem Gw.mono {base' : Nat} (h : Gw base v0 X v w xs) (hb : base' ≤ base) : Gw base' v0 X v w xs := ⟨h.own.mono hb, h.gr, h.ob⟩
/-- A block that is there and is not the row's stays. -/
theorem Gw.keep (h : Gw base v0 X v w xs) {g : Nat} {o : Obj} (hq : X.heap[g]? = some o) (hn : v0.ownBlock ≠ some g) : w.heap[g]? = some o ∧ v.ownBlock ≠ some g := by
  have hg := block_lt hq
  refine ⟨(h.gr.block g hg (fun e => hn e.symm)).trans hq, fun e => ?_⟩
  rcases h.ob g e with e2 | e2
  · exact hn e2
  · omega
theorem Gw.fresh (h : Gw base v0 X v w xs) : v.ownBlock ≠ some w.heap.size := fun e => by have := (h.own.lt _ e).2; omega
/-- If the first row was none, all that was there stays. -/
theorem Gw.all (h : Gw base v0 X v w xs) (hn : v0.ownBlock = none) : Below X.heap.size X w :=
  ⟨h.gr.os, h.gr.tape, h.gr.output, h.gr.size, fun k hk => h.gr.block k hk (by rw [hn]; intro e; cases e)⟩
theorem GwE.of_wend {e : Ending} (hb : base ≤ X.heap.size) (h : WEnd X.heap.size X.heap.size X ys e w) : GwE base v0 X ys e w := by
  obtain ⟨v, he, ho, hB⟩ := h
  exact ⟨v, he, ho.mono hb, grown_below hB _, fun k hk => .inr (ho.lt k hk).1⟩
end
set_option maxRecDepth 100000 in
set_option maxHeartbeats 2000000 in
theorem flag_gw (base : Nat) (v : Value) (xs : List Int) (b : Bool) (w : World) (ho : w.ownsRow base 5 1 v xs.length (byt xs)) (hB : base ≤ w.heap.size) (hb : (xs.length : Int) ≤ 140737488350000) :
    Calls Try.prog 73 #[v, .bool b] w (GwE base v w (xs ++ encF b)) := by
  obtain ⟨i0, hi, hz0, hz1, hz2⟩ := info_parts Try.infoU8
  have HO := Lib.hid ho
  clear ho
  cases b
  · go_enter Try.func73, Try.ntmps73
    go_wp2_with (at_builtin; refine wpList_append_sl_at rfl _ _ 32 rfl base 5 i0 (.int .u8 0) 1 1 Try.underlying32 hi hz0 hz1 hz2 rfl (by decide) v xs.length (byt xs) rfl (HO.out.alloc _) (w.heap.size + 1) _ 1 (byt [0]) rfl (sl_oneW (heap_last w _)) (byt_one _) ?d1 ?d2 ?d3 ?_)
    case d1 => unfold maxLen; omega
    case d2 => omega
    case d3 => simp; omega
    intro v2 w2 ho2 hg2 hat2
    have HE := Lib.hid (wend_grown (ys := [0]) ((Below.refl w.heap.size w).alloc (Nat.le_refl _) _) (HO.out.alloc _) hg2 ho2)
    have HT := Lib.hid hat2
    clear ho2 hg2 hat2
    go_wp2_with fail
    go_ret
    exact ⟨_, rfl, HE.out.1, HE.out.2, ob_at (by simp) HT.out⟩
  · go_enter Try.func73, Try.ntmps73
    go_wp2_with (at_builtin; refine wpList_append_sl_at rfl _ _ 32 rfl base 5 i0 (.int .u8 0) 1 1 Try.underlying32 hi hz0 hz1 hz2 rfl (by decide) v xs.length (byt xs) rfl (HO.out.alloc _) (w.heap.size + 1) _ 1 (byt [1]) rfl (sl_oneW (heap_last w _)) (byt_one _) ?d1 ?d2 ?d3 ?_)
    case d1 => unfold maxLen; omega
    case d2 => omega
    case d3 => simp; omega
    intro v2 w2 ho2 hg2 hat2
    have HE := Lib.hid (wend_grown (ys := [1]) ((Below.refl w.heap.size w).alloc (Nat.le_refl _) _) (HO.out.alloc _) hg2 ho2)
    have HT := Lib.hid hat2
    clear ho2 hg2 hat2
    go_wp2_with fail
    go_ret
    exact ⟨_, rfl, HE.out.1, HE.out.2, ob_at (by simp) HT.out⟩
theorem nums_two {w : World} {g : Nat} {x y : Int} {t : TypeId} (hq : w.heap[g]? = some (.cells #[.int .i64 x, .int .i64 y] t (0, 0))) : NumsAt w (some ⟨g, 0, none⟩) [x, y] := NumsAt.of_cells hq (by
  intro j hj
  have : j = 0 ∨ j = 1 := by simp at hj; omega
  rcases this with rfl | rfl <;> rfl)
theorem ints_gw2 (base : Nat) (v : Value) (xs : List Int) (x y : Int) (c g : Nat) {t : TypeId} (w : World) (ho : w.ownsRow base 5 1 v xs.length (byt xs)) (hB : base ≤ w.heap.size) (hq : w.heap[g]? = some (.cells #[.int .i64 x, .int .i64 y] t (0, 0))) (hx : In64 x) (hy : In64 y) (hb : (xs.length : Int) ≤ 140737488330000) :
    Calls Try.prog 72 #[v, .slice (some ⟨g, 0, none⟩) 2 c] w (GwE base v w (xs ++ (encN x ++ encN y))) := by
  have := ints_any base v xs (some ⟨g, 0, none⟩) c [x, y] w ho hB (nums_two hq) (fun z hz => by simp only [List.mem_cons, List.not_mem_nil, or_false] at hz; rcases hz with rfl | rfl <;> assumption) (by simp) (by omega)
  simp only [List.flatMap_cons, List.flatMap_nil, List.append_nil, List.length_cons, List.length_nil] at this
  exact this.mono fun _ _ h => GwE.of_wend hB h
end Go.Proofs.Ytjaabakobpabjaa
