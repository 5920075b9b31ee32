/- An argument that is a log, an entry, a list of entries: what it is. -/
import Derived.Test.YtabiccpodnjieaaFrame
import Derived.Test.YtabiccpodnjieaaProg
import Derived.Test.YtabiccpodnjieaaLogX0
import Derived.Deep.Slices
import Derived.Deep.Fields
import Derived.ChangeSame
namespace Go.Proofs.Ytabiccpodnjieaa
open Go.ChangeShapes Go.WideShapes Go.ChangeAt Go.RowKit Go.Deep

section
variable {H : Type} {enc : TypeId × Value → H} {P : Program} {w : World} {base : Nat} {spare : Nat → Bool} {held : Bool} {fuel : Nat} {t : TypeId} {cs : List Value} {o : Nat}
theorem leaf_atL {x : Value} (h : (cs.drop o).take 1 = [x]) : cs[o]? = some x := by
  have := congrArg (·[0]?) h
  simpa using this
theorem leaf_intL {k : IntKind} {x : DataW H × List MemPlace} (ht : P.underlying t = some (.int k)) (h : DataW.trod enc P w base spare held fuel t ((cs.drop o).take 1) = some x) : ∃ n, cs[o]? = some (.int k n) ∧ (Lit.int k n).wf = true := by
  obtain ⟨n, h1, _, h3⟩ := DataW.trod_int ht h
  exact ⟨n, leaf_atL h1, h3⟩
theorem leaf_boolL {x : DataW H × List MemPlace} (ht : P.underlying t = some .bool) (h : DataW.trod enc P w base spare held fuel t ((cs.drop o).take 1) = some x) : ∃ b, cs[o]? = some (.bool b) := by
  obtain ⟨n, h1, _⟩ := DataW.trod_bool ht h
  exact ⟨n, leaf_atL h1⟩
theorem leaf_strL {x : DataW H × List MemPlace} (ht : P.underlying t = some .string) (h : DataW.trod enc P w base spare held fuel t ((cs.drop o).take 1) = some x) : ∃ s, cs[o]? = some (.string s) := by
  obtain ⟨s, h1, _, h3⟩ := DataW.trod_string ht h
  exact ⟨s, leaf_atL h1⟩
theorem some_of_lengthL {α : Type} {xs : List α} {n i : Nat} (h : xs.length = n) (hi : i < n) : ∃ x, xs[i]? = some x := ⟨xs[i]'(by omega), List.getElem?_eq_getElem (by omega)⟩
end
section
variable {H : Type} {enc : TypeId × Value → H} {w : World} {base : Nat} {spare : Nat → Bool} {held : Bool}
/-- The numbers of a configuration, at its cells. -/
def CellsL (cs : List Value) (o : Nat) (v x l e k : Int) : Prop :=
  cs[o]? = some (.int .u16 v) ∧ cs[o + 1]? = some (.int .u16 x) ∧ cs[o + 2]? = some (.int .u16 l) ∧ cs[o + 3]? = some (.int .i64 e) ∧ cs[o + 4]? = some (.int .i64 k)
theorem cells_cfgL {fuel : Nat} {cs : List Value} {x : DataW H × List MemPlace} (h : DataW.trod enc Try.prog w base spare held fuel 27 cs = some x) :
    ∃ v x l e k, CellsL cs 0 v x l e k := by
  obtain ⟨xs, n, _, _, _, hlen, hf⟩ := DataW.trod_struct Try.underlying27 h
  obtain ⟨y0, e0⟩ := some_of_lengthL hlen (i := 0) (by decide)
  obtain ⟨y1, e1⟩ := some_of_lengthL hlen (i := 1) (by decide)
  obtain ⟨y2, e2⟩ := some_of_lengthL hlen (i := 2) (by decide)
  obtain ⟨y3, e3⟩ := some_of_lengthL hlen (i := 3) (by decide)
  obtain ⟨y4, e4⟩ := some_of_lengthL hlen (i := 4) (by decide)
  obtain ⟨v, c0, w0⟩ := leaf_intL Try.underlying25 ((hf 0 _ rfl).trans e0)
  obtain ⟨x, c1, w1⟩ := leaf_intL Try.underlying25 ((hf 1 _ rfl).trans e1)
  obtain ⟨l, c2, w2⟩ := leaf_intL Try.underlying25 ((hf 2 _ rfl).trans e2)
  obtain ⟨e, c3, w3⟩ := leaf_intL Try.underlying3 ((hf 3 _ rfl).trans e3)
  obtain ⟨k, c4, w4⟩ := leaf_intL Try.underlying3 ((hf 4 _ rfl).trans e4)
  exact ⟨v, x, l, e, k, c0, c1, c2, c3, c4⟩
theorem cells_jnL {fuel : Nat} {cs : List Value} {x : DataW H × List MemPlace} (h : DataW.trod enc Try.prog w base spare held fuel 29 cs = some x) :
    ∃ j : Jn, cs = [.int .u16 j.ov, .int .u16 j.ox, .int .u16 j.ol, .int .i64 j.oe, .int .i64 j.ok, .int .u16 j.nv, .int .u16 j.nx, .int .u16 j.nl, .int .i64 j.ne, .int .i64 j.nk, .bool j.two] := by
  obtain ⟨xs, n, _, _, hsz, hlen, hf⟩ := DataW.trod_struct Try.underlying29 h
  obtain ⟨y0, e0⟩ := some_of_lengthL hlen (i := 0) (by decide)
  obtain ⟨y1, e1⟩ := some_of_lengthL hlen (i := 1) (by decide)
  obtain ⟨y2, e2⟩ := some_of_lengthL hlen (i := 2) (by decide)
  obtain ⟨av, ax, al, ae, ak, a0, a1, a2, a3, a4⟩ := cells_cfgL ((hf 0 _ rfl).trans e0)
  obtain ⟨bv, bx, bl, be, bk, b0, b1, b2, b3, b4⟩ := cells_cfgL ((hf 1 _ rfl).trans e1)
  obtain ⟨t, c0⟩ := leaf_boolL Try.underlying4 ((hf 2 _ rfl).trans e2)
  have hsz' : cs.length = 11 := hsz.trans (by kernel_rfl)
  match cs, hsz' with
  | [x0, x1, x2, x3, x4, x5, x6, x7, x8, x9, x10], _ =>
    refine ⟨⟨av, ax, al, ae, ak, bv, bx, bl, be, bk, t⟩, ?_⟩
    change some x0 = _ at a0; change some x1 = _ at a1; change some x2 = _ at a2; change some x3 = _ at a3; change some x4 = _ at a4
    change some x5 = _ at b0; change some x6 = _ at b1; change some x7 = _ at b2; change some x8 = _ at b3; change some x9 = _ at b4
    change some x10 = _ at c0
    simp only [Option.some.injEq] at a0 a1 a2 a3 a4 b0 b1 b2 b3 b4 c0
    rw [a0, a1, a2, a3, a4, b0, b1, b2, b3, b4, c0]
theorem cells_entL {fuel : Nat} {cs : List Value} {x : DataW H × List MemPlace} (h : DataW.trod enc Try.prog w base spare held fuel 47 cs = some x) :
    ∃ e : Ent, cs = entC e := by
  obtain ⟨xs, n, _, _, hsz, hlen, hf⟩ := DataW.trod_struct Try.underlying47 h
  obtain ⟨y0, e0⟩ := some_of_lengthL hlen (i := 0) (by decide)
  obtain ⟨y1, e1⟩ := some_of_lengthL hlen (i := 1) (by decide)
  obtain ⟨y2, e2⟩ := some_of_lengthL hlen (i := 2) (by decide)
  obtain ⟨y3, e3⟩ := some_of_lengthL hlen (i := 3) (by decide)
  obtain ⟨t, c0, -⟩ := leaf_intL Try.underlying3 ((hf 0 _ rfl).trans e0)
  obtain ⟨k, c1, -⟩ := leaf_intL Try.underlying3 ((hf 1 _ rfl).trans e1)
  obtain ⟨d, c2⟩ := leaf_strL Try.underlying9 ((hf 2 _ rfl).trans e2)
  obtain ⟨j, hj⟩ := cells_jnL ((hf 3 _ rfl).trans e3)
  have hsz' : cs.length = 14 := hsz.trans (by kernel_rfl)
  match cs, hsz' with
  | [x0, x1, x2, x3, x4, x5, x6, x7, x8, x9, x10, x11, x12, x13], _ =>
    refine ⟨⟨t, k, d, j⟩, ?_⟩
    change some x0 = _ at c0; change some x1 = _ at c1; change some x2 = _ at c2
    change [x3, x4, x5, x6, x7, x8, x9, x10, x11, x12, x13] = _ at hj
    simp only [Option.some.injEq] at c0 c1 c2
    rw [c0, c1, c2, hj]
    rfl
end
section
variable {H : Type} {enc : TypeId × Value → H} {w : World}
theorem field_ents {n : Nat} {v : Value} {y : DataW H × List MemPlace} (h : DataW.trod enc Try.prog w 0 (fun _ => true) true n 30 [v] = some y) :
    ∃ (L : List Ent) (p : Option Addr) (c : Nat), v = .slice p L.length c ∧ EnSl w (.slice p L.length c) L := by
  have hC : Try.prog.cellsOf 47 = 14 := by kernel_rfl
  rcases open_slice Try.underlying30 h with ⟨hcs, _⟩ | ⟨a, len, cap, m, n, D, Pl, hcs, _, hl, hm, hmm, _, hi⟩
  · simp at hcs
    subst hcs
    exact ⟨[], none, 0, rfl, rfl, .inl ⟨rfl, rfl⟩⟩
  · simp at hcs
    subst hcs
    simp only [if_true] at hmm
    subst hmm
    have key : ∀ j : Fin len, ∃ e : Ent, ∀ i, i < 14 → w.cell? ((a.add (j.val * 14)).add i) = (entC e)[i]? := fun j => by
      obtain ⟨cs', hc, ht⟩ := hi j.val (by omega)
      rw [hC] at hc
      obtain ⟨_, hcl, hat⟩ := World.cells?_some hc
      obtain ⟨e, rfl⟩ := cells_entL ht
      exact ⟨e, fun i hi => hat i (by omega)⟩
    obtain ⟨F, hF⟩ := Classical.axiomOfChoice key
    clear key hi
    have hlen : (List.ofFn F).length = len := List.length_ofFn
    refine ⟨List.ofFn F, some a, m, by rw [hlen], ?_⟩
    rw [hlen]
    refine ⟨by rw [entRow_len], .inr ⟨a, _, by rw [hlen], by rw [hlen]; exact hl, hm, fun hpos => ?_⟩⟩
    obtain ⟨b, off, spot⟩ := a
    have hpos' : 0 < len := by rw [hlen] at hpos; exact hpos
    have h00 := hF ⟨0, hpos'⟩ 0 (by decide)
    have hspot : spot = none := by
      have h01 : w.cell? ((Addr.add ⟨b, off, spot⟩ (0 * 14)).add 0) = some (.int .i64 (F ⟨0, hpos'⟩).t) := h00
      simpa [Addr.add] using World.cell?_spot h01
    subst hspot
    have h01 : w.cell? ⟨b, off + 0 * 14 + 0, none⟩ = some (.int .i64 (F ⟨0, hpos'⟩).t) := by simpa [add_plain, entC] using h00
    have hb := World.block_lt_of_cell? w _ h01
    refine ⟨b, off, rfl, hb, fun i hi => ?_⟩
    rw [hlen] at hi
    have hj : i / 14 < len := by omega
    have h1 := hF ⟨i / 14, hj⟩ (i % 14) (Nat.mod_lt _ (by decide))
    simp only [add_plain] at h1
    have hr : off + i / 14 * 14 + i % 14 = off + i := by omega
    rw [hr] at h1
    rw [h1]
    have h2 := entRow_get (L := List.ofFn F) (k := i / 14) (j := i % 14) (by rw [hlen]; exact hj) (Nat.mod_lt _ (by decide))
    rw [show i / 14 * 14 + i % 14 = i by omega] at h2
    rw [h2]
    simp
theorem open_log {b0 : Nat} {v : Value} {d : DataW H} {ps : List MemPlace} (hv : Value.okWide Try.prog w .any b0 32 v) (h : DataW.Trod enc Try.prog w 0 (fun _ => true) true 32 v d ps) :
    ∃ (l : Lg) (p : Option Addr) (c : Nat), v = .agg #[.int .i64 l.b, .int .i64 l.bt, .int .u16 l.j.ov, .int .u16 l.j.ox, .int .u16 l.j.ol, .int .i64 l.j.oe, .int .i64 l.j.ok, .int .u16 l.j.nv, .int .u16 l.j.nx, .int .u16 l.j.nl, .int .i64 l.j.ne, .int .i64 l.j.nk, .bool l.j.two, .slice p l.es.length c] ∧ EnSl w (.slice p l.es.length c) l.es := by
  obtain ⟨cs, rfl, hsz⟩ := okWide_struct Try.underlying32 hv
  obtain ⟨fuel, hf⟩ := h
  obtain ⟨xs, n, _, _, _, hlen, hf⟩ := DataW.trod_struct Try.underlying32 hf
  obtain ⟨y0, e0⟩ := some_of_lengthL hlen (i := 0) (by decide)
  obtain ⟨y1, e1⟩ := some_of_lengthL hlen (i := 1) (by decide)
  obtain ⟨y2, e2⟩ := some_of_lengthL hlen (i := 2) (by decide)
  obtain ⟨y3, e3⟩ := some_of_lengthL hlen (i := 3) (by decide)
  obtain ⟨b, c0, -⟩ := leaf_intL Try.underlying3 ((hf 0 _ rfl).trans e0)
  obtain ⟨bt, c1, -⟩ := leaf_intL Try.underlying3 ((hf 1 _ rfl).trans e1)
  obtain ⟨j, hj⟩ := cells_jnL ((hf 2 _ rfl).trans e2)
  have f3 := (hf 3 _ rfl).trans e3
  obtain ⟨cs⟩ := cs
  have hsz' : cs.length = 14 := hsz
  match cs, hsz' with
  | [x0, x1, x2, x3, x4, x5, x6, x7, x8, x9, x10, x11, x12, x13], _ =>
    obtain ⟨L, p, c, hx, hE⟩ := field_ents (show DataW.trod enc Try.prog w 0 (fun _ => true) true n 30 [x13] = some y3 from f3)
    refine ⟨⟨b, bt, j, L⟩, p, c, ?_, hE⟩
    change some x0 = _ at c0; change some x1 = _ at c1
    change [x2, x3, x4, x5, x6, x7, x8, x9, x10, x11, x12] = _ at hj
    simp only [Option.some.injEq] at c0 c1
    simp only [List.cons.injEq, and_true] at hj
    obtain ⟨h2, h3, h4, h5, h6, h7, h8, h9, h10, h11, h12⟩ := hj
    rw [c0, c1, h2, h3, h4, h5, h6, h7, h8, h9, h10, h11, h12, hx]
end
end Go.Proofs.Ytabiccpodnjieaa
