import Derived.WalkKit
import Derived.Test.YtmhmlpfkdpjlaaaProg
import Derived.WalkSpells
import Derived.WalkLawsBesides
import Derived.BigQuiet
import Derived.Deep.QuietTactic
import Derived.Lib.Hide
import Derived.IntWalk
import Derived.Outline
import Derived.Deep.RegionWith
import Derived.StillTailTactics
import Derived.StillTail
import Derived.ProofKit
import Derived.OpenShut
import Derived.Laws.AppendOwnNone
import Derived.Lib.Tables
import Derived.Lib.BitFns
/- What stamps and attempts compute, in plain words: which one is ahead, the later one, ties, clocks. -/
namespace Go.Proofs.Ytmhmlpfkdpjlaaa

end Go.Proofs.Ytmhmlpfkdpjlaaa
/- Regions that draw their order and whose calls only make memory: one walk in the order of the text. 'f u': the worlds that are, below a block number, as the region found them. -/
namespace Go.Proofs.Ytmhmlpfkdpjlaaa
open Go.RowKit

/-- The worlds that are as W is below W's own size, as the values of a function on a type that is not empty. -/
theorem calm_class (W : World) : ∃ (U : Type) (f : U → World), Nonempty U ∧ (∀ u, Below W.heap.size W (f u)) ∧ (∀ w', Below W.heap.size W w' → ∃ u, w' = f u) :=
  ⟨{ w' : World // Below W.heap.size W w' }, fun u => u.val, ⟨⟨W, Below.refl _ _⟩⟩, fun u => u.property, fun w' h => ⟨⟨w', h⟩, rfl⟩⟩

/-- A region that draws its order, its operations written out, walked in the class of such worlds. -/
theorem wp_region_calm {P : Program} {id : Nat} {Q : Exit → Act → World → Prop} {a : Act} {w : World} {l : List Oper} {U : Type} (f : U → World) (hm : P.follows .mixedOrders = true) (hB : Region.lexB .any l.toArray = true)
    (h0 : ∃ u, w.drew = f u) (h : wpQuiet P l.toArray (fun w' => ∃ n, w' = f n) (fun a' => ∀ w', (∃ n, w' = f n) → Q .normal a' w') l a) : (Code.region id l.toArray true).wp P Q a w :=
  wp_region_quiet (C := fun w' => ∃ n, w' = f n) hm hB h0 (by simpa using h)

theorem heap_last (w : World) (o : Obj) : (w.alloc o).heap[w.heap.size]? = some o := heap_alloc_new w o
theorem heap_prev {w : World} {o' : Obj} {n : Nat} (o : Obj) (h : w.heap[n]? = some o') : (w.alloc o).heap[n]? = some o' :=
  (heap_alloc_old w o (Array.getElem?_eq_some_iff.1 h).1).trans h
/-- A block of the old world is there, whole, in a later one; its cells; that none is frozen. -/
theorem below_block {B : Nat} {W w1 : World} {n : Nat} {o : Obj} (h : Below B W w1) (hn : n < B) (hc : W.heap[n]? = some o) : w1.heap[n]? = some o := (h.block n hn).trans hc
theorem block_cells {w : World} {n : Nat} {cs : Array Value} {t : TypeId} (h : w.heap[n]? = some (.cells cs t (0, 0))) : ∀ j, w.cell? ⟨n, j, none⟩ = cs[j]? := fun j => cell_of_row w n j cs t (0, 0) h
theorem block_free {w : World} {n : Nat} {cs : Array Value} {t : TypeId} (h : w.heap[n]? = some (.cells cs t (0, 0))) : ∀ j, w.frozen? ⟨n, j, none⟩ = false := fun j => frozen_of_row w n j cs t h
theorem block_lt {w : World} {n : Nat} {o : Obj} (h : w.heap[n]? = some o) : n < w.heap.size := (Array.getElem?_eq_some_iff.1 h).1
theorem calm_drew {W : World} {U : Type} {f : U → World} (hf : ∀ u, Below W.heap.size W (f u)) (hg : ∀ w', Below W.heap.size W w' → ∃ u, w' = f u) (u : U) : ∃ u', (f u).drew = f u' := hg _ (hf u).drew
/-- A block of the old world is there, whole, in each world of the class. -/
theorem calm_heap {W : World} {U : Type} {f : U → World} (hf : ∀ u, Below W.heap.size W (f u)) {n : Nat} {o : Obj} (h : W.heap[n]? = some o) : ∀ u, (f u).heap[n]? = some o := fun u =>
  ((hf u).block n (Array.getElem?_eq_some_iff.1 h).1).trans h
end Go.Proofs.Ytmhmlpfkdpjlaaa
/- Contracts of package stamp and of its reference: which stamp, which attempt is ahead; the later one. -/
namespace Go.Proofs.Ytmhmlpfkdpjlaaa
open Go.RowKit

end Go.Proofs.Ytmhmlpfkdpjlaaa
/- A region that draws its order: a head whose operations are quiet in a class of worlds (calls that make memory among them), and a tail in one forced order, walked in whatever world of the class the head leaves. -/
namespace Go.Proofs.Ytmhmlpfkdpjlaaa
open Go.RowKit

section
variable {P : Program} {ops : Array Oper} {md : Region.Mode} {C : World → Prop}

end
end Go.Proofs.Ytmhmlpfkdpjlaaa
/- Contracts of stamp.Less, of the reference's, and of the two of attempts. -/
namespace Go.Proofs.Ytmhmlpfkdpjlaaa
open Go.RowKit

end Go.Proofs.Ytmhmlpfkdpjlaaa
/- Contracts of package stamp and of its reference: the later one of two stamps; ties. -/
namespace Go.Proofs.Ytmhmlpfkdpjlaaa
open Go.RowKit

end Go.Proofs.Ytmhmlpfkdpjlaaa
/- Slices, whoever owns them: their elements' cells; append from any source; arguments that are slices of numbers. -/
namespace Go.Proofs.Ytmhmlpfkdpjlaaa
open Go.ChangeShapes Go.WideShapes Go.ChangeAt Go.RowKit

/-- A slice of n elements: its cells; it lies below block number B. -/
def Sl (B : Nat) (w : World) (v : Value) (size n : Nat) (xs : List Value) : Prop :=
  xs.length = n * size ∧ ((v = .slice none 0 0 ∧ n = 0) ∨ ∃ ad cap, v = .slice (some ad) n cap ∧ n ≤ cap ∧ cap ≤ maxLen ∧ (0 < n → ∃ g o, ad = ⟨g, o, none⟩ ∧ g < B ∧ ∀ j, j < n * size → w.cell? ⟨g, o + j, none⟩ = xs[j]?))

theorem Sl.keep {B : Nat} {w w' : World} {v : Value} {size n : Nat} {xs : List Value} (h : Sl B w v size n xs) (hb : Below B w w') : Sl B w' v size n xs := by
  obtain ⟨h1, h2⟩ := h
  refine ⟨h1, ?_⟩
  rcases h2 with h2 | ⟨ad, cap, e, h3, h4, h5⟩
  · exact .inl h2
  · refine .inr ⟨ad, cap, e, h3, h4, fun hn => ?_⟩
    obtain ⟨g, o, e1, h6, h7⟩ := h5 hn
    exact ⟨g, o, e1, h6, fun j hj => by rw [hb.cell (by exact h6)]; exact h7 j hj⟩
theorem Sl.mono {B B' : Nat} {w : World} {v : Value} {size n : Nat} {xs : List Value} (h : Sl B w v size n xs) (hB : B ≤ B') : Sl B' w v size n xs := by
  obtain ⟨h1, h2⟩ := h
  refine ⟨h1, ?_⟩
  rcases h2 with h2 | ⟨ad, cap, e, h3, h4, h5⟩
  · exact .inl h2
  · refine .inr ⟨ad, cap, e, h3, h4, fun hn => ?_⟩
    obtain ⟨g, o, e1, h6, h7⟩ := h5 hn
    exact ⟨g, o, e1, by omega, h7⟩
theorem Sl.of_own {w : World} {base : Nat} {e : TypeId} {size : Nat} {v : Value} {n : Nat} {xs : List Value} (h : w.ownsRow base e size v n xs) : Sl w.heap.size w v size n xs := by
  have h0 := h
  obtain ⟨h1, h2⟩ := h
  refine ⟨h1, ?_⟩
  rcases h2 with h2 | ⟨g, cap, cur, rfl, hb, hg, hn, hm, hs, ht⟩
  · exact .inl h2
  · exact .inr ⟨_, cap, rfl, hn, hm, fun _ => ⟨g, 0, rfl, (Array.getElem?_eq_some_iff.1 hg).1, fun j hj => by rw [Nat.zero_add]; exact h0.cellAt j hj⟩⟩
/-- Its value's shape, and where an element lies. -/
theorem Sl.form {B : Nat} {w : World} {v : Value} {n : Nat} {xs : List Value} (h : Sl B w v 1 n xs) :
    ∃ a cap, v = .slice a n cap ∧ n ≤ cap ∧ cap ≤ maxLen ∧ (a = none → n = 0 ∧ cap = 0) ∧ ∀ j, j < n → ∃ g o, a = some ⟨g, o, none⟩ ∧ g < B ∧ w.cell? ⟨g, o + j, none⟩ = xs[j]? := by
  obtain ⟨h1, h2⟩ := h
  rcases h2 with ⟨rfl, rfl⟩ | ⟨ad, cap, rfl, h3, h4, h5⟩
  · exact ⟨none, 0, rfl, Nat.le_refl _, Nat.zero_le _, fun _ => ⟨rfl, rfl⟩, fun j hj => absurd hj (by omega)⟩
  · refine ⟨_, cap, rfl, h3, h4, (by intro h; cases h), fun j hj => ?_⟩
    obtain ⟨g, o, rfl, h6, h7⟩ := h5 (by omega)
    exact ⟨g, o, rfl, h6, h7 j (by omega)⟩

/-- Append to a row of the call's own, from whatever source. -/
theorem wpList_append_sl {P : Program} {w : World} {ops : Array Oper} {rest : List Oper} {o : Oper} {a : Act} {Q : Exit → Act → World → Prop} (hgd : o.guard = none) (s x : Operand) (t : TypeId)
    (ho : o.op = .call { callee := .builtin .append, args := #[s, x], argTypes := #[t, t] })
    (base : Nat) (e : TypeId) (i : TypeInfo) (z : Value) (size bytes : Nat) (ht : P.underlying t = some (.slice e)) (hi : P.info? e = some i) (hz : i.zero = some z)
    (hsize : i.size = size) (hby : i.bytes = bytes) (hzs : z.cells.size = size) (hsz : 0 < size)
    (v : Value) (n : Nat) (xs : List Value) (hs : a.eval s = v) (hown : w.ownsRow base e size v n xs)
    (B : Nat) (u : Value) (m : Nat) (news : List Value) (hx : a.eval x = u) (hsl : Sl B w u size m news) (h1 : ∀ u ∈ news, u.oneCell' = true)
    (h63 : n + m ≤ maxLen) (hbytes : (n + m) * bytes ≤ 140737488355328) (hbase : base ≤ w.heap.size)
    (h : ∀ v' w', w'.ownsRow base e size v' (n + m) (xs ++ news) → w.grownBy w' v.ownBlock → wpList P ops Q rest (a.put o.dst v') w') : wpList P ops Q (o :: rest) a w := by
  obtain ⟨hl, hc⟩ := hsl
  rcases hc with ⟨rfl, rfl⟩ | ⟨ad, cap, rfl, _, _, hcell⟩
  · have hn : news = [] := List.eq_nil_of_length_eq_zero (by simpa using hl)
    subst hn
    refine wpList_append_own_none hgd s x t ho base e i size ht hi v n xs hs hown hx ?_
    exact h v w (by simpa using hown) ⟨rfl, rfl, rfl, Nat.le_refl _, fun _ _ _ => rfl⟩
  · refine wpList_append_own _ hgd s x t ho base e i z size bytes ht hi hz hsize hby hzs hsz v n xs hs hown ad m cap news hx hl ?_ h1 h63 hbytes hbase (fun v' w' h2 h3 _ => h v' w' h2 h3)
    intro j u hu
    have hj : j < m * size := by rw [← hl]; exact (List.getElem?_eq_some_iff.1 hu).1
    have hm : 0 < m := Nat.pos_of_ne_zero (fun h => by rw [h] at hj; omega)
    obtain ⟨g, off, rfl, _, hcell⟩ := hcell hm
    have hadd : (⟨g, off, none⟩ : Addr).add j = ⟨g, off + j, none⟩ := by unfold Addr.add; split <;> simp_all
    rw [hadd, hcell j hj]; exact hu

section
variable {H : Type} {enc : TypeId × Value → H} {P : Program} {w : World}
/-- An argument that is a slice of numbers of one kind. -/
theorem open_nums {b0 : Nat} {t e : TypeId} {k : IntKind} {v : Value} {d : DataW H} {ps : List MemPlace} (ht : P.underlying t = some (.slice e)) (he : P.underlying e = some (.int k)) (hc : P.cellsOf e = 1)
    (hv : Value.okWide P w .any b0 t v) (h : DataW.Trod enc P w 0 (fun _ => true) true t v d ps) :
    ∃ xs : List Int, Sl w.heap.size w v 1 xs.length (xs.map (.int k)) ∧ (∀ x ∈ xs, (Lit.int k x).wf = true) := by
  obtain ⟨a0, len, cap, rfl⟩ := okWide_slice ht hv
  obtain ⟨fuel, hf⟩ := h
  rcases open_ints ht he hc hf with ⟨hcs, _⟩ | ⟨a, len', cap', zs, hcs, _, hl, hm, hz, hx, hcell, hwz⟩
  · simp [Value.cells] at hcs
    obtain ⟨rfl, rfl, rfl⟩ := hcs
    exact ⟨[], ⟨by simp, .inl ⟨rfl, rfl⟩⟩, fun x hx => by cases hx⟩
  · simp [Value.cells] at hcs
    obtain ⟨rfl, rfl, rfl⟩ := hcs
    simp only [if_true] at hz
    have hlen : (zs.take len).length = len := by rw [List.length_take]; omega
    refine ⟨zs.take len, ?_, fun x hx => hwz x (List.mem_of_mem_take hx)⟩
    rw [hlen]
    refine ⟨by simp; omega, .inr ⟨_, cap, rfl, hl, hm, fun hn => ?_⟩⟩
    obtain ⟨b, off, spot⟩ := a
    have hspot : spot = none := by simpa [Addr.add] using World.cell?_spot (hcell 0 (by omega))
    subst hspot
    have hb := World.block_lt_of_cell? w _ (hcell 0 (by omega))
    have hb' : b < w.heap.size := by simpa [Addr.add] using hb
    refine ⟨b, off, rfl, hb', fun j hj => ?_⟩
    rw [← add_plain, hcell j (by omega), List.getElem?_map, List.getElem?_take, if_pos (by omega), List.getElem?_eq_getElem (by omega)]
    simp [List.getD, List.getElem?_eq_getElem (show j < zs.length by omega)]
end
end Go.Proofs.Ytmhmlpfkdpjlaaa
/- Contracts of package bits: bytes laid behind bytes. -/
namespace Go.Proofs.Ytmhmlpfkdpjlaaa
open Go.RowKit

theorem Try.infoU8 : (Try.prog.info? 5).map (fun i => (i.zero, i.size, i.bytes)) = some (some (.int .u8 0), 1, 1) := by kernel_rfl
/-- Bytes as cells. -/
def byt (xs : List Int) : List Value := xs.map (.int .u8)
theorem byt_len (xs : List Int) : (byt xs).length = xs.length := by simp [byt]
theorem byt_app (xs ys : List Int) : byt xs ++ byt ys = byt (xs ++ ys) := by simp [byt]
theorem byt_one (xs : List Int) : ∀ u ∈ byt xs, u.oneCell' = true := by intro u hu; simp [byt] at hu; obtain ⟨x, _, rfl⟩ := hu; rfl

set_option maxHeartbeats 1000000 in
theorem room_any (B : Nat) (v : Value) (xs : List Int) (n : Int) (w : World) (hs : Sl B w v 1 xs.length (byt xs)) (hB : B ≤ w.heap.size) (hn : 0 ≤ n) (hb : (xs.length : Int) + n ≤ 140737488355328) :
    Calls Try.prog 84 #[v, .int .i64 n] w fun e w' => ∃ v', e = .returned v' ∧ w'.ownsRow w.heap.size 5 1 v' xs.length (byt xs) ∧ Below w.heap.size w w' := by
  obtain ⟨i0, hi, hz0, hz1, hz2⟩ := info_parts Try.infoU8
  have hs0 := hs
  obtain ⟨a, cap, rfl, h1, h2, h3, -⟩ := hs.form
  clear hs
  have HS := Lib.hid hs0; clear hs0 h3
  go_enter Try.func84, Try.ntmps84
  go_wp2_with (at_make; refine wpList_make_own _ rfl _ _ 46 rfl w.heap.size 5 i0 (.int .u8 0) 1 Try.underlying46 hi hz0 hz1 .i64 .i64 ((xs.length : Int) + n) (xs.length + n.toNat) rfl rfl ?c1 ?c2 ?c3 ?c4 ?_)
  case c1 => omega
  case c2 => rw [hz2]; omega
  case c3 => unfold maxLen; omega
  case c4 => exact Nat.le_refl _
  intro w1 hown hgrow
  have hb1 : Below w.heap.size w w1 := (Below.refl _ _).grown hgrow (Nat.le_refl _) (fun k h => by cases h)
  have HS1 := Lib.hid (HS.out.keep (hb1.mono hB))
  have hsz := hb1.size
  clear HS
  go_wp2_with (at_builtin; refine wpList_append_sl rfl _ _ 46 rfl w.heap.size 5 i0 (.int .u8 0) 1 1 Try.underlying46 hi hz0 hz1 hz2 rfl (by decide) _ 0 [] rfl hown B _ xs.length (byt xs) rfl HS1.out (byt_one _) ?d1 ?d2 ?d3 ?_)
  case d1 => unfold maxLen; omega
  case d2 => omega
  case d3 => exact hsz
  intro v' w2 hown2 hgrow2
  have hb2 : Below w.heap.size w w2 := hb1.grown hgrow2 hsz (fun k h => (hown.lt k h).1)
  clear hgrow hgrow2 hown HS1
  go_wp2
  go_ret
  exact ⟨v', rfl, hown2, hb2⟩
end Go.Proofs.Ytmhmlpfkdpjlaaa
