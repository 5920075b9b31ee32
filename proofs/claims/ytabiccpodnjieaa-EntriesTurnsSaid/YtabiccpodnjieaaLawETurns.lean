import Derived.WalkKit
import Derived.ProofKit
import Derived.OpenShut
import Derived.SizedLaws
import Derived.Test.YtabiccpodnjieaaProg
import Derived.Test.YtabiccpodnjieaaLogX0
import Derived.Deep.Slices
import Derived.Deep.Fields
import Derived.ChangeSame
import Derived.Deep.RegionHeld
import Derived.Test.YtabiccpodnjieaaLogS0
import Derived.Laws.MakeOwn
import Derived.Test.YtabiccpodnjieaaPlainRefM
import Derived.Test.YtabiccpodnjieaaPlainCompactW
import Derived.Test.YtabiccpodnjieaaPlainMergeM
import Derived.Test.YtabiccpodnjieaaLogG
import Derived.Test.YtabiccpodnjieaaLogP
import Derived.Test.YtabiccpodnjieaaLogM
import Derived.Test.YtabiccpodnjieaaLogK
import Derived.Lib.MinMax
import Derived.Test.YtabiccpodnjieaaLogO
import Derived.Test.YtabiccpodnjieaaLogR
import Derived.Test.YtabiccpodnjieaaLogZb
import Derived.Test.YtabiccpodnjieaaLogZc
import Derived.Deep.RegionHeld3
import Derived.Test.YtabiccpodnjieaaRows
/- The frame of a law's row, whatever the law: from a walk that ends in 'true' and turns nothing of the old memory to the row. -/
namespace Go.Proofs.Ytabiccpodnjieaa
open Go.ChangeShapes Go.WideShapes Go.ChangeAt Go.RowKit

section
variable {H : Type} {enc : TypeId × Value → H} {P : Program}
/-- All arguments read behind the call as they did before. -/
theorem trodAll_below (hl : laidOutB P = true) {W W' : World} (hb : Below W.heap.size W W') : ∀ (ts : List TypeId) (vs : List Value) (ds : List (DataW H)) (ps : List MemPlace), (ts.all fun t => P.readableRec t && decide (t < P.types.size)) = true →
    DataW.TrodAll enc P W 0 (fun _ => true) true ts vs ds ps → (∀ x ∈ ps, x.block < W.heap.size) → DataW.TrodAll enc P W' 0 (fun b => decide (b < W.heap.size)) true ts vs ds ps
  | [], vs, ds, ps, _, h, _ => by
    obtain ⟨rfl, rfl, rfl⟩ := trodAll_nil h
    exact trodAll_mk0
  | t :: ts, vs, ds, ps, hr, h, hlt => by
    obtain ⟨v, vs', d, ds', p, q, rfl, rfl, rfl, h0, h1⟩ := trodAll_cons h
    simp only [List.all_cons, Bool.and_eq_true, decide_eq_true_eq] at hr
    exact ⟨p, q, Below.trod hl hr.1.1 hr.1.2 h0 hb (fun x hx => hlt x (List.mem_append_left _ hx)), trodAll_below hl hb ts vs' ds' q hr.2 h1 (fun x hx => hlt x (List.mem_append_right _ hx)), rfl⟩
theorem trodAll_length {W : World} {b : Nat} {sp : Nat → Bool} {hd : Bool} : ∀ (ts : List TypeId) (vs : List Value) (ds : List (DataW H)) (ps : List MemPlace), DataW.TrodAll enc P W b sp hd ts vs ds ps → ds.length = ts.length
  | [], vs, ds, ps, h => by obtain ⟨rfl, rfl, rfl⟩ := trodAll_nil h; rfl
  | t :: ts, vs, ds, ps, h => by
    obtain ⟨v, vs', d, ds', p, q, rfl, rfl, rfl, h0, h1⟩ := trodAll_cons h
    simp [trodAll_length ts vs' ds' q h1]

/-- The row's step of a law: nothing is left but the walk. -/
theorem lift_law {C : Checked} {os : Os} {F : FuncId} {fF : Func} {s : ChangeSpec} {tb : TypeId} (own : ownKnob C.prog.godebug = none) (started : os.Started) (noInit : C.prog.inits.idxOf? F = none) (hfn : C.prog.funcs[F]? = some fF)
    (witness : ∃ (w : World) (tape : Tape) (i : Input), w.os = os ∧ (w.forCall tape i).Shaped C.prog ∧ i.vars = [] ∧ Input.okWide C.prog (w.forCall tape i) .any w.heap.size F i ∧
      s.pre6 enc C.prog fF [] false (w.forCall tape i).memory i.args ∧ Assume.holds {} C.prog (lone (Frame.enter C.prog F i.args .normal) [] (w.forCall tape i)))
    (hl : laidOutB C.prog = true) (hr : (fF.params.toList.all fun t => C.prog.readableRec t && decide (t < C.prog.types.size)) = true) (hres : fF.resultTypes = #[tb]) (hb : C.prog.underlying tb = some .bool)
    (hvars : s.vars = []) (hspec : ∀ ds : List (DataW H), ds.length = fF.params.toList.length → s.fn H (ds ++ []) = { results := [.lit (.bool true)], args := ds })
    (walk : ∀ (W : World) (base : Nat) (args : Array Value) (ds : List (DataW H)) (ps : List MemPlace), (∀ (j : Nat) t v, fF.params[j]? = some t → args[j]? = some v → Value.okWide C.prog W .any base t v) →
      DataW.TrodAll enc C.prog W 0 (fun _ => true) true fF.params.toList args.toList ds ps → (∀ x ∈ ps, x.block < W.heap.size) →
      (DataW.weightsEach C.prog (fF.params.toList ++ s.plain.varTypes C.prog) (ds ++ [])).all (· ≤ reachBytes) = true →
      Calls C.prog F args W fun e W' => e = .returned (.bool true) ∧ Below W.heap.size W W') :
    ReturnsInHanded {} C os F .any (s.pre6 enc C.prog fF [] false) (s.post enc C.prog fF false true false false) := by
  refine returnsInHanded_of_change_sized (C := C) own started noInit hfn witness ?_
  intro W base args ds gs before hval hW hcnd hsz _
  have hW' := hW
  obtain ⟨p, q, hA, hV, rfl, _, _⟩ := hW
  rw [hvars] at hV
  obtain ⟨rfl, rfl⟩ := trodVars_none hV
  have hlt : ∀ x ∈ p, x.block < W.heap.size := fun x hx => hW'.lt x (List.mem_append_left _ hx)
  refine (walk W base args ds p hval hA hlt hsz).mono fun e W' ⟨he, hb'⟩ => ?_
  subst he
  have e := hspec ds (trodAll_length _ _ _ _ hA)
  refine ⟨_, rfl, ds, [], p ++ [], [], p, [], hW', ?_, ?_, ?_, hb'.frame _, fun h => by cases h⟩
  · rw [e, hres]; exact trodAll_mk1 (shut_bool hb true)
  · rw [e]; exact trodAll_below hl hb' _ _ _ _ hr hA hlt
  · rw [hvars, e]; rfl

end
end Go.Proofs.Ytabiccpodnjieaa
/- An argument that is a log, an entry, a list of entries: what it is. -/
namespace Go.Proofs.Ytabiccpodnjieaa
open Go.ChangeShapes Go.WideShapes Go.ChangeAt Go.RowKit Go.Deep

section
variable {H : Type} {enc : TypeId × Value → H} {P : Program} {w : World} {base : Nat} {spare : Nat → Bool} {held : Bool} {fuel : Nat} {t : TypeId} {cs : List Value} {o : Nat}
theorem leaf_atL {x : Value} (h : (cs.drop o).take 1 = [x]) : cs[o]? = some x := by
  have := congrArg (·[0]?) h
  simpa using this
theorem leaf_intL {k : IntKind} {x : DataW H × List MemPlace} (ht : P.underlying t = some (.int k)) (h : DataW.trod enc P w base spare held fuel t ((cs.drop o).take 1) = some x) : ∃ n, cs[o]? = some (.int k n) ∧ (Lit.int k n).wf = true := by
  obtain ⟨n, h1, _, h3⟩ := DataW.trod_int ht h
  exact ⟨n, leaf_atL h1, h3⟩
theorem leaf_boolL {x : DataW H × List MemPlace} (ht : P.underlying t = some .bool) (h : DataW.trod enc P w base spare held fuel t ((cs.drop o).take 1) = some x) : ∃ b, cs[o]? = some (.bool b) := by
  obtain ⟨n, h1, _⟩ := DataW.trod_bool ht h
  exact ⟨n, leaf_atL h1⟩
theorem leaf_strL {x : DataW H × List MemPlace} (ht : P.underlying t = some .string) (h : DataW.trod enc P w base spare held fuel t ((cs.drop o).take 1) = some x) : ∃ s, cs[o]? = some (.string s) := by
  obtain ⟨s, h1, _, h3⟩ := DataW.trod_string ht h
  exact ⟨s, leaf_atL h1⟩
theorem some_of_lengthL {α : Type} {xs : List α} {n i : Nat} (h : xs.length = n) (hi : i < n) : ∃ x, xs[i]? = some x := ⟨xs[i]'(by omega), List.getElem?_eq_getElem (by omega)⟩
end
section
variable {H : Type} {enc : TypeId × Value → H} {w : World} {base : Nat} {spare : Nat → Bool} {held : Bool}
/-- The numbers of a configuration, at its cells. -/
def CellsL (cs : List Value) (o : Nat) (v x l e k : Int) : Prop :=
  cs[o]? = some (.int .u16 v) ∧ cs[o + 1]? = some (.int .u16 x) ∧ cs[o + 2]? = some (.int .u16 l) ∧ cs[o + 3]? = some (.int .i64 e) ∧ cs[o + 4]? = some (.int .i64 k)
theorem cells_cfgL {fuel : Nat} {cs : List Value} {x : DataW H × List MemPlace} (h : DataW.trod enc Try.prog w base spare held fuel 27 cs = some x) :
    ∃ v x l e k, CellsL cs 0 v x l e k := by
  obtain ⟨xs, n, _, _, _, hlen, hf⟩ := DataW.trod_struct Try.underlying27 h
  obtain ⟨y0, e0⟩ := some_of_lengthL hlen (i := 0) (by decide)
  obtain ⟨y1, e1⟩ := some_of_lengthL hlen (i := 1) (by decide)
  obtain ⟨y2, e2⟩ := some_of_lengthL hlen (i := 2) (by decide)
  obtain ⟨y3, e3⟩ := some_of_lengthL hlen (i := 3) (by decide)
  obtain ⟨y4, e4⟩ := some_of_lengthL hlen (i := 4) (by decide)
  obtain ⟨v, c0, w0⟩ := leaf_intL Try.underlying25 ((hf 0 _ rfl).trans e0)
  obtain ⟨x, c1, w1⟩ := leaf_intL Try.underlying25 ((hf 1 _ rfl).trans e1)
  obtain ⟨l, c2, w2⟩ := leaf_intL Try.underlying25 ((hf 2 _ rfl).trans e2)
  obtain ⟨e, c3, w3⟩ := leaf_intL Try.underlying3 ((hf 3 _ rfl).trans e3)
  obtain ⟨k, c4, w4⟩ := leaf_intL Try.underlying3 ((hf 4 _ rfl).trans e4)
  exact ⟨v, x, l, e, k, c0, c1, c2, c3, c4⟩
theorem cells_jnL {fuel : Nat} {cs : List Value} {x : DataW H × List MemPlace} (h : DataW.trod enc Try.prog w base spare held fuel 29 cs = some x) :
    ∃ j : Jn, cs = [.int .u16 j.ov, .int .u16 j.ox, .int .u16 j.ol, .int .i64 j.oe, .int .i64 j.ok, .int .u16 j.nv, .int .u16 j.nx, .int .u16 j.nl, .int .i64 j.ne, .int .i64 j.nk, .bool j.two] := by
  obtain ⟨xs, n, _, _, hsz, hlen, hf⟩ := DataW.trod_struct Try.underlying29 h
  obtain ⟨y0, e0⟩ := some_of_lengthL hlen (i := 0) (by decide)
  obtain ⟨y1, e1⟩ := some_of_lengthL hlen (i := 1) (by decide)
  obtain ⟨y2, e2⟩ := some_of_lengthL hlen (i := 2) (by decide)
  obtain ⟨av, ax, al, ae, ak, a0, a1, a2, a3, a4⟩ := cells_cfgL ((hf 0 _ rfl).trans e0)
  obtain ⟨bv, bx, bl, be, bk, b0, b1, b2, b3, b4⟩ := cells_cfgL ((hf 1 _ rfl).trans e1)
  obtain ⟨t, c0⟩ := leaf_boolL Try.underlying4 ((hf 2 _ rfl).trans e2)
  have hsz' : cs.length = 11 := hsz.trans (by kernel_rfl)
  match cs, hsz' with
  | [x0, x1, x2, x3, x4, x5, x6, x7, x8, x9, x10], _ =>
    refine ⟨⟨av, ax, al, ae, ak, bv, bx, bl, be, bk, t⟩, ?_⟩
    change some x0 = _ at a0; change some x1 = _ at a1; change some x2 = _ at a2; change some x3 = _ at a3; change some x4 = _ at a4
    change some x5 = _ at b0; change some x6 = _ at b1; change some x7 = _ at b2; change some x8 = _ at b3; change some x9 = _ at b4
    change some x10 = _ at c0
    simp only [Option.some.injEq] at a0 a1 a2 a3 a4 b0 b1 b2 b3 b4 c0
    rw [a0, a1, a2, a3, a4, b0, b1, b2, b3, b4, c0]
theorem cells_entL {fuel : Nat} {cs : List Value} {x : DataW H × List MemPlace} (h : DataW.trod enc Try.prog w base spare held fuel 47 cs = some x) :
    ∃ e : Ent, cs = entC e := by
  obtain ⟨xs, n, _, _, hsz, hlen, hf⟩ := DataW.trod_struct Try.underlying47 h
  obtain ⟨y0, e0⟩ := some_of_lengthL hlen (i := 0) (by decide)
  obtain ⟨y1, e1⟩ := some_of_lengthL hlen (i := 1) (by decide)
  obtain ⟨y2, e2⟩ := some_of_lengthL hlen (i := 2) (by decide)
  obtain ⟨y3, e3⟩ := some_of_lengthL hlen (i := 3) (by decide)
  obtain ⟨t, c0, -⟩ := leaf_intL Try.underlying3 ((hf 0 _ rfl).trans e0)
  obtain ⟨k, c1, -⟩ := leaf_intL Try.underlying3 ((hf 1 _ rfl).trans e1)
  obtain ⟨d, c2⟩ := leaf_strL Try.underlying9 ((hf 2 _ rfl).trans e2)
  obtain ⟨j, hj⟩ := cells_jnL ((hf 3 _ rfl).trans e3)
  have hsz' : cs.length = 14 := hsz.trans (by kernel_rfl)
  match cs, hsz' with
  | [x0, x1, x2, x3, x4, x5, x6, x7, x8, x9, x10, x11, x12, x13], _ =>
    refine ⟨⟨t, k, d, j⟩, ?_⟩
    change some x0 = _ at c0; change some x1 = _ at c1; change some x2 = _ at c2
    change [x3, x4, x5, x6, x7, x8, x9, x10, x11, x12, x13] = _ at hj
    simp only [Option.some.injEq] at c0 c1 c2
    rw [c0, c1, c2, hj]
    rfl
end
section
variable {H : Type} {enc : TypeId × Value → H} {w : World}
theorem field_ents {n : Nat} {v : Value} {y : DataW H × List MemPlace} (h : DataW.trod enc Try.prog w 0 (fun _ => true) true n 30 [v] = some y) :
    ∃ (L : List Ent) (p : Option Addr) (c : Nat), v = .slice p L.length c ∧ EnSl w (.slice p L.length c) L := by
  have hC : Try.prog.cellsOf 47 = 14 := by kernel_rfl
  rcases open_slice Try.underlying30 h with ⟨hcs, _⟩ | ⟨a, len, cap, m, n, D, Pl, hcs, _, hl, hm, hmm, _, hi⟩
  · simp at hcs
    subst hcs
    exact ⟨[], none, 0, rfl, rfl, .inl ⟨rfl, rfl⟩⟩
  · simp at hcs
    subst hcs
    simp only [if_true] at hmm
    subst hmm
    have key : ∀ j : Fin len, ∃ e : Ent, ∀ i, i < 14 → w.cell? ((a.add (j.val * 14)).add i) = (entC e)[i]? := fun j => by
      obtain ⟨cs', hc, ht⟩ := hi j.val (by omega)
      rw [hC] at hc
      obtain ⟨_, hcl, hat⟩ := World.cells?_some hc
      obtain ⟨e, rfl⟩ := cells_entL ht
      exact ⟨e, fun i hi => hat i (by omega)⟩
    obtain ⟨F, hF⟩ := Classical.axiomOfChoice key
    clear key hi
    have hlen : (List.ofFn F).length = len := List.length_ofFn
    refine ⟨List.ofFn F, some a, m, by rw [hlen], ?_⟩
    rw [hlen]
    refine ⟨by rw [entRow_len], .inr ⟨a, _, by rw [hlen], by rw [hlen]; exact hl, hm, fun hpos => ?_⟩⟩
    obtain ⟨b, off, spot⟩ := a
    have hpos' : 0 < len := by rw [hlen] at hpos; exact hpos
    have h00 := hF ⟨0, hpos'⟩ 0 (by decide)
    have hspot : spot = none := by
      have h01 : w.cell? ((Addr.add ⟨b, off, spot⟩ (0 * 14)).add 0) = some (.int .i64 (F ⟨0, hpos'⟩).t) := h00
      simpa [Addr.add] using World.cell?_spot h01
    subst hspot
    have h01 : w.cell? ⟨b, off + 0 * 14 + 0, none⟩ = some (.int .i64 (F ⟨0, hpos'⟩).t) := by simpa [add_plain, entC] using h00
    have hb := World.block_lt_of_cell? w _ h01
    refine ⟨b, off, rfl, hb, fun i hi => ?_⟩
    rw [hlen] at hi
    have hj : i / 14 < len := by omega
    have h1 := hF ⟨i / 14, hj⟩ (i % 14) (Nat.mod_lt _ (by decide))
    simp only [add_plain] at h1
    have hr : off + i / 14 * 14 + i % 14 = off + i := by omega
    rw [hr] at h1
    rw [h1]
    have h2 := entRow_get (L := List.ofFn F) (k := i / 14) (j := i % 14) (by rw [hlen]; exact hj) (Nat.mod_lt _ (by decide))
    rw [show i / 14 * 14 + i % 14 = i by omega] at h2
    rw [h2]
    simp
theorem open_log {b0 : Nat} {v : Value} {d : DataW H} {ps : List MemPlace} (hv : Value.okWide Try.prog w .any b0 32 v) (h : DataW.Trod enc Try.prog w 0 (fun _ => true) true 32 v d ps) :
    ∃ (l : Lg) (p : Option Addr) (c : Nat), v = .agg #[.int .i64 l.b, .int .i64 l.bt, .int .u16 l.j.ov, .int .u16 l.j.ox, .int .u16 l.j.ol, .int .i64 l.j.oe, .int .i64 l.j.ok, .int .u16 l.j.nv, .int .u16 l.j.nx, .int .u16 l.j.nl, .int .i64 l.j.ne, .int .i64 l.j.nk, .bool l.j.two, .slice p l.es.length c] ∧ EnSl w (.slice p l.es.length c) l.es := by
  obtain ⟨cs, rfl, hsz⟩ := okWide_struct Try.underlying32 hv
  obtain ⟨fuel, hf⟩ := h
  obtain ⟨xs, n, _, _, _, hlen, hf⟩ := DataW.trod_struct Try.underlying32 hf
  obtain ⟨y0, e0⟩ := some_of_lengthL hlen (i := 0) (by decide)
  obtain ⟨y1, e1⟩ := some_of_lengthL hlen (i := 1) (by decide)
  obtain ⟨y2, e2⟩ := some_of_lengthL hlen (i := 2) (by decide)
  obtain ⟨y3, e3⟩ := some_of_lengthL hlen (i := 3) (by decide)
  obtain ⟨b, c0, -⟩ := leaf_intL Try.underlying3 ((hf 0 _ rfl).trans e0)
  obtain ⟨bt, c1, -⟩ := leaf_intL Try.underlying3 ((hf 1 _ rfl).trans e1)
  obtain ⟨j, hj⟩ := cells_jnL ((hf 2 _ rfl).trans e2)
  have f3 := (hf 3 _ rfl).trans e3
  obtain ⟨cs⟩ := cs
  have hsz' : cs.length = 14 := hsz
  match cs, hsz' with
  | [x0, x1, x2, x3, x4, x5, x6, x7, x8, x9, x10, x11, x12, x13], _ =>
    obtain ⟨L, p, c, hx, hE⟩ := field_ents (show DataW.trod enc Try.prog w 0 (fun _ => true) true n 30 [x13] = some y3 from f3)
    refine ⟨⟨b, bt, j, L⟩, p, c, ?_, hE⟩
    change some x0 = _ at c0; change some x1 = _ at c1
    change [x2, x3, x4, x5, x6, x7, x8, x9, x10, x11, x12] = _ at hj
    simp only [Option.some.injEq] at c0 c1
    simp only [List.cons.injEq, and_true] at hj
    obtain ⟨h2, h3, h4, h5, h6, h7, h8, h9, h10, h11, h12⟩ := hj
    rw [c0, c1, h2, h3, h4, h5, h6, h7, h8, h9, h10, h11, h12, hx]
end
end Go.Proofs.Ytabiccpodnjieaa
/- Arguments that are an entry, a list of entries. -/
namespace Go.Proofs.Ytabiccpodnjieaa
open Go.ChangeShapes Go.WideShapes Go.ChangeAt Go.RowKit Go.Deep

section
variable {H : Type} {enc : TypeId × Value → H} {w : World}
theorem open_ent {b0 : Nat} {v : Value} {d : DataW H} {ps : List MemPlace} (hv : Value.okWide Try.prog w .any b0 47 v) (h : DataW.Trod enc Try.prog w 0 (fun _ => true) true 47 v d ps) :
    ∃ e : Ent, v = .agg #[.int .i64 e.t, .int .i64 e.k, .string e.d, .int .u16 e.j.ov, .int .u16 e.j.ox, .int .u16 e.j.ol, .int .i64 e.j.oe, .int .i64 e.j.ok, .int .u16 e.j.nv, .int .u16 e.j.nx, .int .u16 e.j.nl, .int .i64 e.j.ne, .int .i64 e.j.nk, .bool e.j.two] := by
  obtain ⟨cs, rfl, hsz⟩ := okWide_struct Try.underlying47 hv
  obtain ⟨fuel, hf⟩ := h
  obtain ⟨e, he⟩ := cells_entL hf
  refine ⟨e, ?_⟩
  obtain ⟨cs⟩ := cs
  change cs = _ at he
  rw [he]; rfl
theorem open_ents {b0 : Nat} {v : Value} {d : DataW H} {ps : List MemPlace} (hv : Value.okWide Try.prog w .any b0 30 v) (h : DataW.Trod enc Try.prog w 0 (fun _ => true) true 30 v d ps) :
    ∃ (L : List Ent) (p : Option Addr) (c : Nat), v = .slice p L.length c ∧ EnSl w (.slice p L.length c) L := by
  obtain ⟨a0, len, cap, rfl⟩ := okWide_slice Try.underlying30 hv
  obtain ⟨fuel, hf⟩ := h
  exact field_ents (show DataW.trod enc Try.prog w 0 (fun _ => true) true fuel 30 [.slice a0 len cap] = some (d, ps) from hf)
end
end Go.Proofs.Ytabiccpodnjieaa
/- Regions walked operation by operation: the class of worlds may be made narrower as the walk goes on. -/
namespace Go.Proofs.Ytabiccpodnjieaa
open Go.RowKit

theorem wpAnyH_sub {P : Program} {md : Region.Mode} {ops : Array Oper} {Q : Exit → Act → World → Prop} {S S' : World → Prop} (h : ∀ w, S' w → S w) :
    ∀ {fuel : Nat} {listed : Array Bool} {a : Act} {w : World}, wpAnyH P md ops Q S' fuel listed a w → wpAnyH P md ops Q S fuel listed a w
  | 0, _, _, _, hh => hh
  | _ + 1, _, _, _, hh => ⟨hh.1, fun i hi => wpOp_mono (fun _ _ hx => ⟨h _ hx.1, wpAnyH_sub h hx.2⟩) (hh.2 i hi)⟩
end Go.Proofs.Ytabiccpodnjieaa
/- Entries that lie apart from a block: they stay when it is written. -/
namespace Go.Proofs.Ytabiccpodnjieaa
open Go.ChangeShapes Go.WideShapes Go.ChangeAt Go.RowKit

structure FarE (A : Nat) (w : World) (p : Option Addr) (c : Nat) (L : List Ent) : Prop where
  e : EnSl w (.slice p L.length c) L
  f : 0 < L.length → ∀ a, p = some a → a.block ≠ A
theorem FarE.keep {A B : Nat} {w w' : World} {p : Option Addr} {c : Nat} {L : List Ent} (h : FarE A w p c L) (hb : Below B w w') (hB : w.heap.size ≤ B) : FarE A w' p c L := ⟨h.e.keep hb hB, h.f⟩
theorem cell_eqL {w w' : World} {a : Addr} (h : w'.heap[a.block]? = w.heap[a.block]?) : w'.cell? a = w.cell? a := by
  unfold World.cell?; rw [h]
theorem FarE.grown {A : Nat} {w w' : World} {p : Option Addr} {c : Nat} {L : List Ent} (h : FarE A w p c L) (hg : w.grownBy w' (some A)) : FarE A w' p c L := by
  refine ⟨?_, h.f⟩
  obtain ⟨h1, h2⟩ := h.e
  refine ⟨h1, ?_⟩
  rcases h2 with h2 | ⟨ad, cap, e, h3, h4, h5⟩
  · exact .inl h2
  · refine .inr ⟨ad, cap, e, h3, h4, fun hn => ?_⟩
    obtain ⟨g, o, e1, h6, h7⟩ := h5 hn
    have he : p = some ad := by simp only [Value.slice.injEq] at e; exact e.1
    have hne := h.f hn ad he
    subst e1
    refine ⟨g, o, rfl, Nat.lt_of_lt_of_le h6 hg.size, fun j hj => ?_⟩
    rw [← h7 j hj]
    exact cell_eqL (hg.block g h6 (fun x => hne (by simpa using x)))
theorem FarE.of_own {A B : Nat} {w : World} {t : TypeId} {p : Option Addr} {c : Nat} {L : List Ent} (h : w.ownsRow B t 14 (.slice p L.length c) L.length (entRow L)) (hB : A < B) : FarE A w p c L := by
  refine ⟨EnSl.of_own h, fun _ a ha => ?_⟩
  subst ha
  have := (own_geL h a.block (by simp [Value.ownBlock])).1
  omega
theorem FarE.of_below {A : Nat} {w : World} {p : Option Addr} {c : Nat} {L : List Ent} (h : EnSl w (.slice p L.length c) L) (hA : w.heap.size ≤ A) : FarE A w p c L := by
  refine ⟨h, fun hn a ha => ?_⟩
  obtain ⟨h1, h2⟩ := h
  rcases h2 with ⟨h2, h3⟩ | ⟨ad, cap, e, h3, h4, h5⟩
  · omega
  · obtain ⟨g, o, e1, h6, h7⟩ := h5 hn
    simp only [Value.slice.injEq] at e
    obtain ⟨rfl, -⟩ := e
    simp only [Option.some.injEq] at ha
    subst ha e1
    show g ≠ A; omega
/-- Another log is written into the block. -/
theorem put_log {A B : Nat} {w wk : World} {l m : Lg} {p p2 : Option Addr} {c c2 : Nat} (hl : Lies wk A l p c) (hb : Below B w wk) (hB : B ≤ A) (hm : FarE A wk p2 c2 m.es) :
    Lies (put14 wk A (.int .i64 m.b) (.int .i64 m.bt) (.int .u16 m.j.ov) (.int .u16 m.j.ox) (.int .u16 m.j.ol) (.int .i64 m.j.oe) (.int .i64 m.j.ok) (.int .u16 m.j.nv) (.int .u16 m.j.nx) (.int .u16 m.j.nl) (.int .i64 m.j.ne) (.int .i64 m.j.nk) (.bool m.j.two) (.slice p2 m.es.length c2)) A m p2 c2 ∧ Below B w (put14 wk A (.int .i64 m.b) (.int .i64 m.bt) (.int .u16 m.j.ov) (.int .u16 m.j.ox) (.int .u16 m.j.ol) (.int .i64 m.j.oe) (.int .i64 m.j.ok) (.int .u16 m.j.nv) (.int .u16 m.j.nx) (.int .u16 m.j.nl) (.int .i64 m.j.ne) (.int .i64 m.j.nk) (.bool m.j.two) (.slice p2 m.es.length c2)) ∧ FarE A (put14 wk A (.int .i64 m.b) (.int .i64 m.bt) (.int .u16 m.j.ov) (.int .u16 m.j.ox) (.int .u16 m.j.ol) (.int .i64 m.j.oe) (.int .i64 m.j.ok) (.int .u16 m.j.nv) (.int .u16 m.j.nx) (.int .u16 m.j.nl) (.int .i64 m.j.ne) (.int .i64 m.j.nk) (.bool m.j.two) (.slice p2 m.es.length c2)) p2 c2 m.es := by
  have F := put14_ok hl.h hb hB (.int .i64 m.b) (.int .i64 m.bt) (.int .u16 m.j.ov) (.int .u16 m.j.ox) (.int .u16 m.j.ol) (.int .i64 m.j.oe) (.int .i64 m.j.ok) (.int .u16 m.j.nv) (.int .u16 m.j.nx) (.int .u16 m.j.nl) (.int .i64 m.j.ne) (.int .i64 m.j.nk) (.bool m.j.two) (.slice p2 m.es.length c2)
  have G := hm.grown (put14_grown wk A (.int .i64 m.b) (.int .i64 m.bt) (.int .u16 m.j.ov) (.int .u16 m.j.ox) (.int .u16 m.j.ol) (.int .i64 m.j.oe) (.int .i64 m.j.ok) (.int .u16 m.j.nv) (.int .u16 m.j.nx) (.int .u16 m.j.nl) (.int .i64 m.j.ne) (.int .i64 m.j.nk) (.bool m.j.two) (.slice p2 m.es.length c2))
  exact ⟨⟨F.1, G.e⟩, F.2, G⟩
end Go.Proofs.Ytabiccpodnjieaa
/- append of a list to a row of the call's own that has room for it: where it lies, and what stands behind it. -/
namespace Go.Proofs.Ytabiccpodnjieaa
open Go.ChangeShapes Go.WideShapes Go.ChangeAt Go.RowKit

theorem wp_append_fit {P : Program} {w : World} {o : Oper} {a : Act} {K : Act → World → Prop} {Q : Exit → Act → World → Prop} (s x : Operand) (t : TypeId)
    (ho : o.op = .call { callee := .builtin .append, args := #[s, x], argTypes := #[t, t] })
    (e : TypeId) (i : TypeInfo) (size : Nat) (ht : P.underlying t = some (.slice e)) (hi : P.info? e = some i) (hsize : i.size = size)
    (g cap : Nat) (cur : Array Value) (hs : a.eval s = .slice (some ⟨g, 0, none⟩) 0 cap) (hg : w.heap[g]? = some (.cells cur e (0, 0))) (hcs : cur.size = cap * size) (hcm : cap ≤ maxLen)
    (B : Nat) (u : Value) (m : Nat) (news : List Value) (hx : a.eval x = u) (hsl : Sl B w u size m news) (h1 : ∀ u ∈ news, u.oneCell' = true) (hroom : m ≤ cap)
    (h : ∀ w', w'.heap[g]? = some (.cells (news ++ cur.toList.drop (m * size)).toArray e (0, 0)) → w.grownBy w' (some g) → K (a.put o.dst (.slice (some ⟨g, 0, none⟩) m cap)) w') : o.wp P a w K Q := by
  subst hsize
  obtain ⟨hl, hc⟩ := hsl
  rcases hc with ⟨rfl, rfl⟩ | ⟨ad, c2, rfl, _, _, hcell⟩
  · have hn : news = [] := List.eq_nil_of_length_eq_zero (by simpa using hl)
    subst hn
    have hown : w.ownsRow g e i.size (.slice (some ⟨g, 0, none⟩) 0 cap) 0 [] := ⟨by simp, .inr ⟨g, cap, cur, rfl, Nat.le_refl _, hg, Nat.zero_le _, hcm, hcs, by simp⟩⟩
    have hrun := run_append_owned_none (P := P) (w := w) g t o.type e i i.size ht hi _ 0 [] hown
    unfold Oper.wp
    simp [execOp, ho, resolve, invoke, builtin, hs, hx, hrun, Result.andThen]
    exact h w (by simpa using hg) ⟨rfl, rfl, rfl, Nat.le_refl _, fun _ _ _ => rfl⟩
  · have hnews : ∀ j u, news[j]? = some u → w.cell? (ad.add j) = some u := by
      intro j u hu
      have hj : j < m * i.size := by rw [← hl]; exact (List.getElem?_eq_some_iff.1 hu).1
      have hm : 0 < m := Nat.pos_of_ne_zero (fun h => by rw [h] at hj; omega)
      obtain ⟨g, off, rfl, _, hcell⟩ := hcell hm
      have hadd : (⟨g, off, none⟩ : Addr).add j = ⟨g, off + j, none⟩ := by unfold Addr.add; split <;> simp_all
      rw [hadd, hcell j hj]; exact hu
    have hfit : 0 * i.size + news.length ≤ cur.size := by rw [hl, hcs, Nat.zero_mul, Nat.zero_add]; exact Nat.mul_le_mul_right _ hroom
    have hr := run_append_room (P := P) w t o.type e i ht hi g 0 cap cur hg ad m c2 news hl hnews h1 (by omega) hfit
    unfold Oper.wp execOp
    simp only [ho, resolve, invoke, builtin, Sem.run_bind, Sem.run_pure, Result.andThen_ok, List.map_toArray, List.map_cons, List.map_nil, hs, hx, hr]
    rw [Nat.zero_add]
    refine h _ ?_ ⟨rfl, rfl, rfl, by simp [World.setRow], fun k _ hk => setRow_other w g k _ (fun e => hk (by rw [e]))⟩
    rw [setRow_heap w g cur _ e _ hg, hl]
    simp
theorem step_append_fit {P : Program} {w : World} {ops : Array Oper} {o : Oper} {a : Act} {K : Act → World → Prop} {Q : Exit → Act → World → Prop} {E : Prop} (hgd : o.guard = none) (s x : Operand) (t : TypeId)
    (ho : o.op = .call { callee := .builtin .append, args := #[s, x], argTypes := #[t, t] })
    (e : TypeId) (i : TypeInfo) (size : Nat) (ht : P.underlying t = some (.slice e)) (hi : P.info? e = some i) (hsize : i.size = size)
    (g cap : Nat) (cur : Array Value) (hs : a.eval s = .slice (some ⟨g, 0, none⟩) 0 cap) (hg : w.heap[g]? = some (.cells cur e (0, 0))) (hcs : cur.size = cap * size) (hcm : cap ≤ maxLen)
    (B : Nat) (u : Value) (m : Nat) (news : List Value) (hx : a.eval x = u) (hsl : Sl B w u size m news) (h1 : ∀ u ∈ news, u.oneCell' = true) (hroom : m ≤ cap)
    (h : ∀ w', w'.heap[g]? = some (.cells (news ++ cur.toList.drop (m * size)).toArray e (0, 0)) → w.grownBy w' (some g) → K (a.put o.dst (.slice (some ⟨g, 0, none⟩) m cap)) w') :
    if Region.wanted o (yielded ops a.tmps) = true then Oper.wp P o a w K Q else E := by
  have hw : Region.wanted o (yielded ops a.tmps) = true := by simp [Region.wanted, hgd]
  rw [if_pos hw]
  exact wp_append_fit s x t ho e i size ht hi hsize g cap cur hs hg hcs hcm B u m news hx hsl h1 hroom h
end Go.Proofs.Ytabiccpodnjieaa
/- The memory of the law of turns: what stands at the loop's head. -/
namespace Go.Proofs.Ytabiccpodnjieaa
open Go.ChangeShapes Go.WideShapes Go.ChangeAt Go.RowKit

theorem cutW {R : World → Prop} {P : World → Prop} {Q : Prop} (h : (∀ w, R w → P w) → Q) (p : ∀ w, R w → P w) : Q := h p
/-- The spare cells of a row that was made with room for two more. -/
theorem spareC {w : World} {G n : Nat} {E : List Value} (hE : E.length = n * 14) (h : w.heap[G]? = some (.cells (E ++ (madeCells #[.int .i64 0, .int .i64 0, .string ⟨#[]⟩, .int .u16 0, .int .u16 0, .int .u16 0, .int .i64 0, .int .i64 0, .int .u16 0, .int .u16 0, .int .u16 0, .int .i64 0, .int .i64 0, .bool false] ((n + 2) * 14)).toList.drop (n * 14)).toArray 47 (0, 0))) :
    ∀ j, j < 14 → w.cell? ⟨G, n * 14 + j, none⟩ = (#[.int .i64 0, .int .i64 0, .string ⟨#[]⟩, .int .u16 0, .int .u16 0, .int .u16 0, .int .i64 0, .int .i64 0, .int .u16 0, .int .u16 0, .int .u16 0, .int .i64 0, .int .i64 0, .bool false] : Array Value)[j]? := by
  intro j hj
  rw [block_cells h]
  simp only [List.getElem?_toArray]
  rw [List.getElem?_append_right (by rw [hE]; omega), hE, List.getElem?_drop, show n * 14 + (n * 14 + j - n * 14) = n * 14 + j by omega]
  unfold madeCells
  simp only [Array.toList_map, Array.toList_range, List.getElem?_map]
  rw [List.getElem?_range (by omega)]
  have hm : (n * 14 + j) % 14 = j := by omega
  show some ((#[.int .i64 0, .int .i64 0, .string ⟨#[]⟩, .int .u16 0, .int .u16 0, .int .u16 0, .int .i64 0, .int .i64 0, .int .u16 0, .int .u16 0, .int .u16 0, .int .i64 0, .int .i64 0, .bool false] : Array Value)[(n * 14 + j) % 14]!) = _
  rw [hm]
  clear hm
  match j, hj with
  | 0, _ => rfl | 1, _ => rfl | 2, _ => rfl | 3, _ => rfl | 4, _ => rfl | 5, _ => rfl | 6, _ => rfl | 7, _ => rfl | 8, _ => rfl | 9, _ => rfl | 10, _ => rfl | 11, _ => rfl | 12, _ => rfl | 13, _ => rfl
theorem wiped_box {V V1 : World} {A : Nat} {o : Obj} {row : Option Nat} (hg : V.grownBy V1 row) (h : V.heap[A]? = some o) (hr : ∀ k, row = some k → k < A) : V1.heap[A]? = some o :=
  (hg.block A (block_lt h) (fun e => by have := hr A e.symm; omega)).trans h
theorem wiped_own {V V1 : World} {row : Option Nat} {base : Nat} {e : TypeId} {size : Nat} {v : Value} {n : Nat} {xs : List Value} (hg : V.grownBy V1 row) (h : V.ownsRow base e size v n xs) (hr : ∀ k, row = some k → k < base) : V1.ownsRow base e size v n xs := by
  refine h.kept hg ?_
  cases hv : v.ownBlock with
  | none => exact .inl rfl
  | some g =>
    right
    intro e
    have h1 := (own_geL h g hv).1
    have h2 := hr g e.symm
    omega
/-- What stands at the loop's head. -/
structure TurnW (A D G : Nat) (l : Lg) (e : Ent) (q : Option Addr) (cc : Nat) (es : List Ent) (p2 : Option Addr) (c2 : Nat) (w : World) : Prop where
  la : Lies w A l (some ⟨G, 0, none⟩) (l.es.length + 2)
  en : w.heap[A + 1]? = some (.cells #[.int .i64 e.t, .int .i64 e.k, .string e.d, .int .u16 e.j.ov, .int .u16 e.j.ox, .int .u16 e.j.ol, .int .i64 e.j.oe, .int .i64 e.j.ok, .int .u16 e.j.nv, .int .u16 e.j.nx, .int .u16 e.j.nl, .int .i64 e.j.ne, .int .i64 e.j.nk, .bool e.j.two] 47 (0, 0))
  ld : Lies w D l q cc
  es : EnSl w (.slice p2 es.length c2) es
  sp : ∀ j, j < 14 → w.cell? ⟨G, l.es.length * 14 + j, none⟩ = (#[.int .i64 0, .int .i64 0, .string ⟨#[]⟩, .int .u16 0, .int .u16 0, .int .u16 0, .int .i64 0, .int .i64 0, .int .u16 0, .int .u16 0, .int .u16 0, .int .i64 0, .int .i64 0, .bool false] : Array Value)[j]?
  gl : G < w.heap.size
theorem TurnW.keep {A D G : Nat} {l : Lg} {e : Ent} {q : Option Addr} {cc : Nat} {es : List Ent} {p2 : Option Addr} {c2 : Nat} {w w' : World} (h : TurnW A D G l e q cc es p2 c2 w) (hb : Below w.heap.size w w') : TurnW A D G l e q cc es p2 c2 w' :=
  ⟨h.la.keep hb, below_block hb (block_lt h.en) h.en, h.ld.keep hb, h.es.keep hb (Nat.le_refl _), fun j hj => (hb.cell (p := ⟨G, l.es.length * 14 + j, none⟩) h.gl).trans (h.sp j hj), Nat.lt_of_lt_of_le h.gl hb.size⟩
theorem turn_made {W4 w' : World} {A D G : Nat} {l : Lg} {e : Ent} {p q : Option Addr} {c cc : Nat} {es : List Ent} {p2 : Option Addr} {c2 : Nat}
    (la : Lies W4 A l p c) (en : W4.heap[A + 1]? = some (.cells #[.int .i64 e.t, .int .i64 e.k, .string e.d, .int .u16 e.j.ov, .int .u16 e.j.ox, .int .u16 e.j.ol, .int .i64 e.j.oe, .int .i64 e.j.ok, .int .u16 e.j.nv, .int .u16 e.j.nx, .int .u16 e.j.nl, .int .i64 e.j.ne, .int .i64 e.j.nk, .bool e.j.two] 47 (0, 0))) (hD : A < D) (ld : W4.heap[D]? = some (.cells #[.int .i64 l.b, .int .i64 l.bt, .int .u16 l.j.ov, .int .u16 l.j.ox, .int .u16 l.j.ol, .int .i64 l.j.oe, .int .i64 l.j.ok, .int .u16 l.j.nv, .int .u16 l.j.nx, .int .u16 l.j.nl, .int .i64 l.j.ne, .int .i64 l.j.nk, .bool l.j.two, .slice q l.es.length cc] 32 (0, 0)))
    (fq : FarE A W4 q cc l.es) (fe : FarE A W4 p2 c2 es) (hG : W4.heap.size = G) (hb : Below G W4 w') (hn : l.es.length ≤ 60)
    (h : w'.heap[G]? = some (.cells (entRow l.es ++ (madeCells #[.int .i64 0, .int .i64 0, .string ⟨#[]⟩, .int .u16 0, .int .u16 0, .int .u16 0, .int .i64 0, .int .i64 0, .int .u16 0, .int .u16 0, .int .u16 0, .int .i64 0, .int .i64 0, .bool false] ((l.es.length + 2) * 14)).toList.drop (l.es.length * 14)).toArray 47 (0, 0))) :
    TurnW A D G l e q cc es p2 c2 (w'.setCell ⟨A, 13, none⟩ (.slice (some ⟨G, 0, none⟩) l.es.length (l.es.length + 2))) ∧ Below A W4 (w'.setCell ⟨A, 13, none⟩ (.slice (some ⟨G, 0, none⟩) l.es.length (l.es.length + 2))) := by
  have hAG : A < G := by rw [← hG]; exact block_lt la.h
  have hb0 : Below W4.heap.size W4 w' := by rw [hG]; exact hb
  have hgr := grown_setL (grown_reflL w' (some A)) 13 (.slice (some ⟨G, 0, none⟩) l.es.length (l.es.length + 2))
  have hA := cells_setL (below_block hb0 (block_lt la.h) la.h) 13 (.slice (some ⟨G, 0, none⟩) l.es.length (l.es.length + 2))
  simp only [List.setIfInBounds_toArray, List.set_cons_zero, List.set_cons_succ] at hA
  have hE1 := below_block hb0 (block_lt en) en
  have hD1 := below_block hb0 (block_lt ld) ld
  have far : ∀ {k : Nat} {o : Obj}, k ≠ A → w'.heap[k]? = some o → (w'.setCell ⟨A, 13, none⟩ (.slice (some ⟨G, 0, none⟩) l.es.length (l.es.length + 2))).heap[k]? = some o := fun hk ho => (hgr.block _ (block_lt ho) (by simpa using hk)).trans ho
  have hGG := far (by omega) h
  have hls : l.es.length = l.es.length := rfl
  have hrl : (entRow l.es).length = l.es.length * 14 := entRow_len l.es
  have how : (w'.setCell ⟨A, 13, none⟩ (.slice (some ⟨G, 0, none⟩) l.es.length (l.es.length + 2))).ownsRow G 47 14 (.slice (some ⟨G, 0, none⟩) l.es.length (l.es.length + 2)) l.es.length (entRow l.es) := by
    refine ⟨hrl, .inr ⟨G, l.es.length + 2, _, rfl, Nat.le_refl _, hGG, by omega, by unfold maxLen; omega, ?_, ?_⟩⟩
    · simp only [List.size_toArray, List.length_append, hrl, List.length_drop, Array.length_toList, size_madeCells]; omega
    · show List.take _ (entRow l.es ++ _) = _
      rw [← hrl, List.take_left]
  refine ⟨⟨⟨hA, EnSl.of_own how⟩, far (by omega) hE1, ⟨far (by omega) hD1, ((fq.keep hb0 (Nat.le_refl _)).grown hgr).e⟩, ((fe.keep hb0 (Nat.le_refl _)).grown hgr).e, spareC hrl hGG, block_lt hGG⟩, ?_⟩
  have hbA : Below A W4 w' := hb.mono (Nat.le_of_lt hAG)
  exact hbA.setCell (p := ⟨A, 13, none⟩) (Nat.le_refl _) _
/-- A log of the round's own, in its box. -/
structure BoxL (S B C : Nat) (m : Lg) (q : Option Addr) (k : Nat) (V : World) : Prop where
  h : V.heap[C]? = some (.cells #[.int .i64 m.b, .int .i64 m.bt, .int .u16 m.j.ov, .int .u16 m.j.ox, .int .u16 m.j.ol, .int .i64 m.j.oe, .int .i64 m.j.ok, .int .u16 m.j.nv, .int .u16 m.j.nx, .int .u16 m.j.nl, .int .i64 m.j.ne, .int .i64 m.j.nk, .bool m.j.two, .slice q m.es.length k] 32 (0, 0))
  o : V.ownsRow B 47 14 (.slice q m.es.length k) m.es.length (entRow m.es)
  s : S ≤ B
  b : B ≤ C
  r : ∀ x, (Value.slice q m.es.length k).ownBlock = some x → x < C
theorem BoxL.e {S B C : Nat} {m : Lg} {q : Option Addr} {k : Nat} {V : World} (h : BoxL S B C m q k V) : EnSl V (.slice q m.es.length k) m.es := EnSl.of_own h.o
theorem BoxL.cell {S B C : Nat} {m : Lg} {q : Option Addr} {k : Nat} {V : World} (h : BoxL S B C m q k V) : ∀ j, V.cell? ⟨C, j, none⟩ = #[.int .i64 m.b, .int .i64 m.bt, .int .u16 m.j.ov, .int .u16 m.j.ox, .int .u16 m.j.ol, .int .i64 m.j.oe, .int .i64 m.j.ok, .int .u16 m.j.nv, .int .u16 m.j.nx, .int .u16 m.j.nl, .int .i64 m.j.ne, .int .i64 m.j.nk, .bool m.j.two, .slice q m.es.length k][j]? := block_cells h.h
theorem BoxL.new {S : Nat} {wk w1 V : World} {m : Lg} {q : Option Addr} {k : Nat} (hs : S ≤ wk.heap.size) (hb : Below wk.heap.size wk w1) (o : w1.ownsRow wk.heap.size 47 14 (.slice q m.es.length k) m.es.length (entRow m.es)) (hV : w1.alloc (.cells #[.int .i64 m.b, .int .i64 m.bt, .int .u16 m.j.ov, .int .u16 m.j.ox, .int .u16 m.j.ol, .int .i64 m.j.oe, .int .i64 m.j.ok, .int .u16 m.j.nv, .int .u16 m.j.nx, .int .u16 m.j.nl, .int .i64 m.j.ne, .int .i64 m.j.nk, .bool m.j.two, .slice q m.es.length k] 32) = V) : BoxL S wk.heap.size w1.heap.size m q k V :=
  ⟨by rw [← hV]; exact heap_last _ _, own_belowL o (below_new _ _ hV) (Nat.le_refl _), hs, hb.size, fun x hx => (own_geL o x hx).2⟩
theorem BoxL.keep {S B C : Nat} {m : Lg} {q : Option Addr} {k : Nat} {V V' : World} (h : BoxL S B C m q k V) (hb : Below V.heap.size V V') : BoxL S B C m q k V' :=
  ⟨below_block hb (block_lt h.h) h.h, own_belowL h.o hb (Nat.le_refl _), h.s, h.b, h.r⟩
/-- Another one's row is written over. -/
theorem BoxL.wiped {S B C B0 C0 : Nat} {m m0 : Lg} {q q0 : Option Addr} {k k0 : Nat} {V V1 V0 : World} (h : BoxL S B C m q k V) (h0 : BoxL S B0 C0 m0 q0 k0 V0) (hC : C0 ≤ B) (hg : V.grownBy V1 (Value.slice q0 m0.es.length k0).ownBlock) : BoxL S B C m q k V1 :=
  ⟨wiped_box hg h.h (fun x hx => by have := h0.r x hx; have := h.b; omega), wiped_own hg h.o (fun x hx => by have := h0.r x hx; omega), h.s, h.b, h.r⟩
theorem BoxL.below {B0 C0 : Nat} {m0 : Lg} {q0 : Option Addr} {k0 : Nat} {W V V1 V0 : World} (h0 : BoxL W.heap.size B0 C0 m0 q0 k0 V0) (hb : Below W.heap.size W V) (hg : V.grownBy V1 (Value.slice q0 m0.es.length k0).ownBlock) (ho : V.ownsRow B0 47 14 (.slice q0 m0.es.length k0) m0.es.length (entRow m0.es)) : Below W.heap.size W V1 :=
  hb.grown hg hb.size (fun x hx => Nat.le_trans h0.s (own_geL ho x hx).1)
end Go.Proofs.Ytabiccpodnjieaa
/- Logs: where Merge refuses, as the document has it; how long what is told may be. -/
namespace Go.Proofs.Ytabiccpodnjieaa

theorem mergeL_refuse {l : Lg} {prev term : Int} {es : List Ent}
    (hc : l.last < prev ∨ (prev ≤ l.last ∧ prev < 0) ∨ (prev ≤ l.last ∧ 0 ≤ prev ∧ l.b ≤ prev ∧ (termL l prev).1 ≠ term) ∨ (prev ≤ l.last ∧ 0 ≤ prev ∧ prev < l.b ∧ (es.length : Int) < l.b - prev)) :
    mergeL l prev term es = (l, 0, false) := by
  unfold mergeL
  rcases hc with h | ⟨_, h⟩ | ⟨h1, h2, h3, h4⟩ | ⟨h1, h2, h3, h4⟩
  · rw [if_pos (.inl h)]
  · rw [if_pos (.inr h)]
  · rw [if_neg (by omega), if_pos]
    unfold refusedL; simp [h3, h4]
  · rw [if_neg (by omega), if_pos]
    unfold refusedL; simp [h3, h4]
theorem merge_cases (l : Lg) (prev term : Int) (es : List Ent) :
    (l.last < prev ∨ (prev ≤ l.last ∧ prev < 0) ∨ (prev ≤ l.last ∧ 0 ≤ prev ∧ l.b ≤ prev ∧ (termL l prev).1 ≠ term) ∨ (prev ≤ l.last ∧ 0 ≤ prev ∧ prev < l.b ∧ (es.length : Int) < l.b - prev)) ∨
    (prev ≤ l.last ∧ 0 ≤ prev ∧ ∃ s : Nat, (l.b ≤ prev ∧ s = 0 ∧ (termL l prev).1 = term) ∨ (prev < l.b ∧ prev + s = l.b ∧ s ≤ es.length)) := by
  by_cases h1 : l.last < prev
  · exact .inl (.inl h1)
  by_cases h2 : prev < 0
  · exact .inl (.inr (.inl ⟨by omega, h2⟩))
  by_cases h3 : l.b ≤ prev
  · by_cases h4 : (termL l prev).1 = term
    · exact .inr ⟨by omega, by omega, 0, .inl ⟨h3, rfl, h4⟩⟩
    · exact .inl (.inr (.inr (.inl ⟨by omega, by omega, h3, h4⟩)))
  · by_cases h4 : (es.length : Int) < l.b - prev
    · exact .inl (.inr (.inr (.inr ⟨by omega, by omega, by omega, h4⟩)))
    · exact .inr ⟨by omega, by omega, (l.b - prev).toNat, .inr ⟨by omega, by omega, by omega⟩⟩
theorem mergeL_size {l : Lg} {prev term : Int} {es : List Ent} : (mergeL l prev term es).1.es.length ≤ l.es.length + es.length := by
  rcases merge_cases l prev term es with h | ⟨h1, h0, s, hs⟩
  · rw [mergeL_refuse h]; show l.es.length ≤ _; omega
  · rw [mergeL_from h1 h0 hs]
    show (joinL l (prev + s) (es.drop s)).es.length ≤ _
    have h2 : prev + (s : Int) ≤ l.last := by
      rcases hs with h | h
      · omega
      · unfold Lg.last; omega
    have := joinL_size (l := l) (P := prev + s) (es := es.drop s) (by omega) h2
    rw [List.length_drop] at this; omega
theorem pushL_size (l : Lg) (e : Ent) : (pushL l e).es.length = l.es.length + 1 := by unfold pushL; simp
theorem compactL_size {l : Lg} {tv : Int} : (compactL l tv).1.es.length ≤ l.es.length := by
  unfold compactL
  split
  · show (l.es.drop _).length ≤ _; rw [List.length_drop]; omega
  · show 0 ≤ _; omega
end Go.Proofs.Ytabiccpodnjieaa
/- The law's own wipe: what was told is written over; nothing else is. -/
namespace Go.Proofs.Ytabiccpodnjieaa
open Go.ChangeShapes Go.WideShapes Go.ChangeAt Go.RowKit

/-- A block of so many cells, and nothing else that was there turned. -/
structure KpN (w : World) (g N : Nat) (t : TypeId) (wk : World) : Prop where
  blk : ∃ cs, wk.heap[g]? = some (.cells cs t (0, 0)) ∧ cs.size = N
  gr : w.grownBy wk (some g)
theorem KpN.step {w wk : World} {g N : Nat} {t : TypeId} (h : KpN w g N t wk) (j : Nat) (v : Value) : KpN w g N t (wk.setCell ⟨g, j, none⟩ v) := by
  obtain ⟨⟨cs, h1, h2⟩, h3⟩ := h
  exact ⟨⟨_, cells_setL h1 j v, by simpa using h2⟩, grown_setL h3 j v⟩
theorem KpN.cell {w wk : World} {g N : Nat} {t : TypeId} (h : KpN w g N t wk) : ∀ j, j < N → ∃ v, wk.cell? ⟨g, j, none⟩ = some v := by
  obtain ⟨⟨cs, h1, h2⟩, -⟩ := h
  intro j hj
  exact ⟨cs[j]'(by omega), by rw [block_cells h1 j]; exact Array.getElem?_eq_getElem (by omega)⟩
theorem KpN.free {w wk : World} {g N : Nat} {t : TypeId} (h : KpN w g N t wk) : ∀ j, wk.frozen? ⟨g, j, none⟩ = false := by
  obtain ⟨⟨cs, h1, h2⟩, -⟩ := h
  exact block_free h1
theorem heap_prevE {w : World} {k : Nat} {o : Obj} (h : k < w.heap.size) : (w.alloc o).heap[k]? = w.heap[k]? := by
  obtain ⟨x, hx⟩ : ∃ x, w.heap[k]? = some x := ⟨w.heap[k], Array.getElem?_eq_getElem h⟩
  rw [hx]; exact heap_prev o hx
set_option maxRecDepth 100000 in
set_option maxHeartbeats 4000000 in
theorem wipe_any (l : Lg) (p : Option Addr) (c : Nat) (B : Nat) (w : World) (hn : l.es.length ≤ 1000000) (ho : w.ownsRow B 47 14 (.slice p l.es.length c) l.es.length (entRow l.es)) :
    Calls Try.prog 25 #[.agg #[.int .i64 l.b, .int .i64 l.bt, .int .u16 l.j.ov, .int .u16 l.j.ox, .int .u16 l.j.ol, .int .i64 l.j.oe, .int .i64 l.j.ok, .int .u16 l.j.nv, .int .u16 l.j.nx, .int .u16 l.j.nl, .int .i64 l.j.ne, .int .i64 l.j.nk, .bool l.j.two, .slice p l.es.length c]] w fun r w' => r = .returned (.tuple #[]) ∧ w.grownBy w' (Value.slice p l.es.length c).ownBlock := by
  obtain ⟨L, hL⟩ : ∃ n, l.es.length = n := ⟨_, rfl⟩
  obtain ⟨h1, h2⟩ := ho
  rw [hL] at h1 h2 hn ⊢
  clear hL
  go_enter Try.func25, Try.ntmps25
  go_upto_region 1 with fail
  obtain ⟨W, hW⟩ : ∃ W, w.alloc (.cells #[.int .i64 l.b, .int .i64 l.bt, .int .u16 l.j.ov, .int .u16 l.j.ox, .int .u16 l.j.ol, .int .i64 l.j.oe, .int .i64 l.j.ok, .int .u16 l.j.nv, .int .u16 l.j.nx, .int .u16 l.j.nl, .int .i64 l.j.ne, .int .i64 l.j.nk, .bool l.j.two, .slice p L c] 32) = W := ⟨_, rfl⟩
  have hA : W.heap[w.heap.size]? = some (.cells #[.int .i64 l.b, .int .i64 l.bt, .int .u16 l.j.ov, .int .u16 l.j.ox, .int .u16 l.j.ol, .int .i64 l.j.oe, .int .i64 l.j.ok, .int .u16 l.j.nv, .int .u16 l.j.nx, .int .u16 l.j.nl, .int .i64 l.j.ne, .int .i64 l.j.nk, .bool l.j.two, .slice p L c] 32 (0, 0)) := by rw [← hW]; exact heap_last _ _
  have hG : ∀ row, w.grownBy W row := fun row => by rw [← hW]; exact ⟨rfl, rfl, rfl, by simp, fun k hk _ => heap_prevE hk⟩
  rw [hW]
  rcases h2 with ⟨h2, h3⟩ | ⟨g, cap, cur, hv, hb, hg, hcn, hm, hs, ht⟩
  · simp only [Value.slice.injEq] at h2
    obtain ⟨rfl, rfl, rfl⟩ := h2
    have kA := block_cells hA
    have HG := Lib.hid (hG none)
    clear hA hG hW h3 h1
    go_wp2_with fail
    refine wp_loop_rounds 1 ?_
    rw [rounds_succ]
    go_wp2_with fail
    go_end0
    exact ⟨rfl, HG.out⟩
  · simp only [Value.slice.injEq] at hv
    obtain ⟨rfl, -, rfl⟩ := hv
    have hsz : L * 14 ≤ cur.size := by rw [hs]; omega
    have HG : Hid (KpN w g cur.size 47 W) := ⟨⟨cur, ((hG none).block g (block_lt hg) (by simp)).trans hg, rfl⟩, hG (some g)⟩
    have HA := Lib.hid hA
    have hgl := block_lt hg
    have hne : w.heap.size ≠ g := by omega
    have hne2 : g ≠ w.heap.size := by omega
    obtain ⟨A, eA⟩ : ∃ A, w.heap.size = A := ⟨_, rfl⟩
    unfold maxLen at hm
    clear hA hG hW hg hb h1 ht hs
    rw [eA] at HA hne hne2 hgl ⊢
    clear eA
    have kA := block_cells HA.out
    go_wp2_with fail
    clear kA
    go_loopw [2] (fun i wr => ∃ k : Nat, k ≤ L ∧ i = .int .i64 k ∧ Hid (wr.heap[A]? = some (.cells #[.int .i64 l.b, .int .i64 l.bt, .int .u16 l.j.ov, .int .u16 l.j.ox, .int .u16 l.j.ol, .int .i64 l.j.oe, .int .i64 l.j.ok, .int .u16 l.j.nv, .int .u16 l.j.nx, .int .u16 l.j.nl, .int .i64 l.j.ne, .int .i64 l.j.nk, .bool l.j.two, .slice (some ⟨g, 0, none⟩) L c] 32 (0, 0))) ∧ Hid (KpN w g cur.size 47 wr)) (fun i _ => L - (intOf i).toNat)
    case atStart => exact ⟨0, Nat.zero_le _, rfl, HA, HG⟩
    case round =>
      clear HA HG
      obtain ⟨k, hk, rfl, HA, HC⟩ := hrel
      obtain ⟨wk, rfl⟩ : ∃ wk : World, wk = wr := ⟨_, rfl⟩
      have kA := block_cells HA.out
      by_cases hlt : k < L
      · have hd1 : decide ((k : Int) < (L : Int)) = true := by simp; omega
        have fq := HC.out.free
        obtain ⟨v0, q0⟩ := HC.out.cell (k * 14) (by omega)
        obtain ⟨v1, q1⟩ := HC.out.cell (k * 14 + 1) (by omega)
        obtain ⟨v2, q2⟩ := HC.out.cell (k * 14 + 2) (by omega)
        obtain ⟨v3, q3⟩ := HC.out.cell (k * 14 + 3) (by omega)
        obtain ⟨v4, q4⟩ := HC.out.cell (k * 14 + 4) (by omega)
        obtain ⟨v5, q5⟩ := HC.out.cell (k * 14 + 5) (by omega)
        obtain ⟨v6, q6⟩ := HC.out.cell (k * 14 + 6) (by omega)
        obtain ⟨v7, q7⟩ := HC.out.cell (k * 14 + 7) (by omega)
        obtain ⟨v8, q8⟩ := HC.out.cell (k * 14 + 8) (by omega)
        obtain ⟨v9, q9⟩ := HC.out.cell (k * 14 + 9) (by omega)
        obtain ⟨v10, q10⟩ := HC.out.cell (k * 14 + 10) (by omega)
        obtain ⟨v11, q11⟩ := HC.out.cell (k * 14 + 11) (by omega)
        obtain ⟨v12, q12⟩ := HC.out.cell (k * 14 + 12) (by omega)
        obtain ⟨v13, q13⟩ := HC.out.cell (k * 14 + 13) (by omega)
        have HK := Lib.hid (((((((((((((((((((((((((((((HC.out).step (k * 14) (.int .i64 0))).step (k * 14 + 1) (.int .i64 0))).step (k * 14 + 2) (.string ⟨#[]⟩))).step (k * 14 + 3) (.int .u16 0))).step (k * 14 + 4) (.int .u16 0))).step (k * 14 + 5) (.int .u16 0))).step (k * 14 + 6) (.int .i64 0))).step (k * 14 + 7) (.int .i64 0))).step (k * 14 + 8) (.int .u16 0))).step (k * 14 + 9) (.int .u16 0))).step (k * 14 + 10) (.int .u16 0))).step (k * 14 + 11) (.int .i64 0))).step (k * 14 + 12) (.int .i64 0))).step (k * 14 + 13) (.bool false)))
        have hA := HA.out
        have HAN := Lib.hid (((Below.heap_setCell _ ⟨g, k * 14 + 13, none⟩ (.bool false) _ hne).trans ((Below.heap_setCell _ ⟨g, k * 14 + 12, none⟩ (.int .i64 0) _ hne).trans ((Below.heap_setCell _ ⟨g, k * 14 + 11, none⟩ (.int .i64 0) _ hne).trans ((Below.heap_setCell _ ⟨g, k * 14 + 10, none⟩ (.int .u16 0) _ hne).trans ((Below.heap_setCell _ ⟨g, k * 14 + 9, none⟩ (.int .u16 0) _ hne).trans ((Below.heap_setCell _ ⟨g, k * 14 + 8, none⟩ (.int .u16 0) _ hne).trans ((Below.heap_setCell _ ⟨g, k * 14 + 7, none⟩ (.int .i64 0) _ hne).trans ((Below.heap_setCell _ ⟨g, k * 14 + 6, none⟩ (.int .i64 0) _ hne).trans ((Below.heap_setCell _ ⟨g, k * 14 + 5, none⟩ (.int .u16 0) _ hne).trans ((Below.heap_setCell _ ⟨g, k * 14 + 4, none⟩ (.int .u16 0) _ hne).trans ((Below.heap_setCell _ ⟨g, k * 14 + 3, none⟩ (.int .u16 0) _ hne).trans ((Below.heap_setCell _ ⟨g, k * 14 + 2, none⟩ (.string ⟨#[]⟩) _ hne).trans ((Below.heap_setCell _ ⟨g, k * 14 + 1, none⟩ (.int .i64 0) _ hne).trans ((Below.heap_setCell _ ⟨g, k * 14, none⟩ (.int .i64 0) _ hne).trans hA)))))))))))))))
        clear hA HC HA
        go_wp2_with fail
        go_roundw
        case rel => exact ⟨k + 1, by omega, by go_num, HAN, HK⟩
        case measure => simp [intOf]; omega
      · obtain rfl : k = L := by omega
        have hd1 : decide ((k : Int) < (k : Int)) = false := by simp
        have HG := Lib.hid HC.out.gr
        go_wp2_with fail
        go_end0
        exact ⟨rfl, HG.out⟩
end Go.Proofs.Ytabiccpodnjieaa
/- The references: a log pushed, a log copied. -/
namespace Go.Proofs.Ytabiccpodnjieaa
open Go.ChangeShapes Go.WideShapes Go.ChangeAt Go.RowKit

set_option maxRecDepth 100000 in
set_option maxHeartbeats 8000000 in
theorem copy_any (l : Lg) (p : Option Addr) (c : Nat) (w : World) (hn : l.es.length ≤ 1000000) (hE : EnSl w (.slice p l.es.length c) l.es) :
    Calls Try.prog 20 #[.agg #[.int .i64 l.b, .int .i64 l.bt, .int .u16 l.j.ov, .int .u16 l.j.ox, .int .u16 l.j.ol, .int .i64 l.j.oe, .int .i64 l.j.ok, .int .u16 l.j.nv, .int .u16 l.j.nx, .int .u16 l.j.nl, .int .i64 l.j.ne, .int .i64 l.j.nk, .bool l.j.two, .slice p l.es.length c]] w (LgEnd w.heap.size w l) := by
  obtain ⟨i0, hi, hz0, hz1, hz2⟩ := info_parts Try.infoEn
  have hA : ((w.alloc (.cells #[.int .i64 l.b, .int .i64 l.bt, .int .u16 l.j.ov, .int .u16 l.j.ox, .int .u16 l.j.ol, .int .i64 l.j.oe, .int .i64 l.j.ok, .int .u16 l.j.nv, .int .u16 l.j.nx, .int .u16 l.j.nl, .int .i64 l.j.ne, .int .i64 l.j.nk, .bool l.j.two, .slice p l.es.length c] 32)).alloc (.cells #[.int .i64 0, .int .i64 0, .int .u16 0, .int .u16 0, .int .u16 0, .int .i64 0, .int .i64 0, .int .u16 0, .int .u16 0, .int .u16 0, .int .i64 0, .int .i64 0, .bool false, .slice none 0 0] 32)).heap[w.heap.size]? = some (.cells #[.int .i64 l.b, .int .i64 l.bt, .int .u16 l.j.ov, .int .u16 l.j.ox, .int .u16 l.j.ol, .int .i64 l.j.oe, .int .i64 l.j.ok, .int .u16 l.j.nv, .int .u16 l.j.nx, .int .u16 l.j.nl, .int .i64 l.j.ne, .int .i64 l.j.nk, .bool l.j.two, .slice p l.es.length c] 32 (0, 0)) := heap_prev _ (heap_last w _)
  have hZ : ((w.alloc (.cells #[.int .i64 l.b, .int .i64 l.bt, .int .u16 l.j.ov, .int .u16 l.j.ox, .int .u16 l.j.ol, .int .i64 l.j.oe, .int .i64 l.j.ok, .int .u16 l.j.nv, .int .u16 l.j.nx, .int .u16 l.j.nl, .int .i64 l.j.ne, .int .i64 l.j.nk, .bool l.j.two, .slice p l.es.length c] 32)).alloc (.cells #[.int .i64 0, .int .i64 0, .int .u16 0, .int .u16 0, .int .u16 0, .int .i64 0, .int .i64 0, .int .u16 0, .int .u16 0, .int .u16 0, .int .i64 0, .int .i64 0, .bool false, .slice none 0 0] 32)).heap[w.heap.size + 1]? = some (.cells #[.int .i64 0, .int .i64 0, .int .u16 0, .int .u16 0, .int .u16 0, .int .i64 0, .int .i64 0, .int .u16 0, .int .u16 0, .int .u16 0, .int .i64 0, .int .i64 0, .bool false, .slice none 0 0] 32 (0, 0)) := heap_atL (by simp)
  have hB : Below w.heap.size w ((w.alloc (.cells #[.int .i64 l.b, .int .i64 l.bt, .int .u16 l.j.ov, .int .u16 l.j.ox, .int .u16 l.j.ol, .int .i64 l.j.oe, .int .i64 l.j.ok, .int .u16 l.j.nv, .int .u16 l.j.nx, .int .u16 l.j.nl, .int .i64 l.j.ne, .int .i64 l.j.nk, .bool l.j.two, .slice p l.es.length c] 32)).alloc (.cells #[.int .i64 0, .int .i64 0, .int .u16 0, .int .u16 0, .int .u16 0, .int .i64 0, .int .i64 0, .int .u16 0, .int .u16 0, .int .u16 0, .int .i64 0, .int .i64 0, .bool false, .slice none 0 0] 32)) := ((Below.refl _ w).alloc (Nat.le_refl _) _).alloc (by simp) _
  have HS := Lib.hid (hE.keep hB (Nat.le_refl _))
  have HL := Lib.hid (entC_one l.es)
  have hs2 : w.heap.size + 2 = ((w.alloc (.cells #[.int .i64 l.b, .int .i64 l.bt, .int .u16 l.j.ov, .int .u16 l.j.ox, .int .u16 l.j.ol, .int .i64 l.j.oe, .int .i64 l.j.ok, .int .u16 l.j.nv, .int .u16 l.j.nx, .int .u16 l.j.nl, .int .i64 l.j.ne, .int .i64 l.j.nk, .bool l.j.two, .slice p l.es.length c] 32)).alloc (.cells #[.int .i64 0, .int .i64 0, .int .u16 0, .int .u16 0, .int .u16 0, .int .i64 0, .int .i64 0, .int .u16 0, .int .u16 0, .int .u16 0, .int .i64 0, .int .i64 0, .bool false, .slice none 0 0] 32)).heap.size := by simp
  have HW := Lib.hid (And.intro hA (And.intro hZ (And.intro hB hs2)))
  clear hA hZ hB hE hs2
  go_enter Try.func20, Try.ntmps20
  go_upto_region 1 with fail
  obtain ⟨W, hW⟩ : ∃ W, (w.alloc (.cells #[.int .i64 l.b, .int .i64 l.bt, .int .u16 l.j.ov, .int .u16 l.j.ox, .int .u16 l.j.ol, .int .i64 l.j.oe, .int .i64 l.j.ok, .int .u16 l.j.nv, .int .u16 l.j.nx, .int .u16 l.j.nl, .int .i64 l.j.ne, .int .i64 l.j.nk, .bool l.j.two, .slice p l.es.length c] 32)).alloc (.cells #[.int .i64 0, .int .i64 0, .int .u16 0, .int .u16 0, .int .u16 0, .int .i64 0, .int .i64 0, .int .u16 0, .int .u16 0, .int .u16 0, .int .i64 0, .int .i64 0, .bool false, .slice none 0 0] 32) = W := ⟨_, rfl⟩
  rw [hW] at HW HS ⊢
  clear hW
  have kA := block_cells HW.out.1
  have fA := block_free HW.out.1
  have hAW := block_lt HW.out.1
  have hne : w.heap.size ≠ W.heap.size := by omega
  go_wp2_with (at_builtin; refine wpList_append_sl rfl _ _ 30 rfl W.heap.size 47 i0 (.agg #[.int .i64 0, .int .i64 0, .string ⟨#[]⟩, .int .u16 0, .int .u16 0, .int .u16 0, .int .i64 0, .int .i64 0, .int .u16 0, .int .u16 0, .int .u16 0, .int .i64 0, .int .i64 0, .bool false]) 14 88 Try.underlying30 hi hz0 hz1 hz2 rfl (by decide) _ 0 [] rfl (World.ownsRow_made W #[] 0 (Nat.le_refl _) (Nat.zero_le _) (by simp)) W.heap.size _ l.es.length (entRow l.es) rfl (Sl.keep HS.out (((Below.refl _ _).alloc (Nat.le_refl _) _))) HL.out ?_ ?_ (by simp) ?_)
  · unfold maxLen; omega
  · omega
  intro v3 w3 hown3 hgrow3
  obtain ⟨q, cc, rfl⟩ := own_slice hown3
  have HO3 := Lib.hid hown3
  clear hown3
  have hA1 : (W.alloc (.cells #[] 47)).heap[w.heap.size]? = some (.cells #[.int .i64 l.b, .int .i64 l.bt, .int .u16 l.j.ov, .int .u16 l.j.ox, .int .u16 l.j.ol, .int .i64 l.j.oe, .int .i64 l.j.ok, .int .u16 l.j.nv, .int .u16 l.j.nx, .int .u16 l.j.nl, .int .i64 l.j.ne, .int .i64 l.j.nk, .bool l.j.two, .slice p l.es.length c] 32 (0, 0)) := heap_prev _ HW.out.1
  have hZ1 : (W.alloc (.cells #[] 47)).heap[w.heap.size + 1]? = some (.cells #[.int .i64 0, .int .i64 0, .int .u16 0, .int .u16 0, .int .u16 0, .int .i64 0, .int .i64 0, .int .u16 0, .int .u16 0, .int .u16 0, .int .i64 0, .int .i64 0, .bool false, .slice none 0 0] 32 (0, 0)) := heap_prev _ HW.out.2.1
  have hA3 := (hgrow3.block _ (block_lt hA1) (by simp [Value.ownBlock]; omega)).trans hA1
  have hZ3 := (hgrow3.block _ (block_lt hZ1) (by have := HW.out.2.2.2; simp [Value.ownBlock]; omega)).trans hZ1
  have hB3 : Below w.heap.size w w3 := (HW.out.2.2.1.alloc (by omega) _).grown hgrow3 (by simp; omega) (by intro k hk; simp [Value.ownBlock] at hk; omega)
  have hA4 := cells_setL hA3 13 (.slice q l.es.length cc)
  simp only [List.setIfInBounds_toArray, List.set_cons_zero, List.set_cons_succ] at hA4
  have hZ4 : (w3.setCell ⟨w.heap.size, 13, none⟩ (.slice q l.es.length cc)).heap[w.heap.size + 1]? = some (.cells #[.int .i64 0, .int .i64 0, .int .u16 0, .int .u16 0, .int .u16 0, .int .i64 0, .int .i64 0, .int .u16 0, .int .u16 0, .int .u16 0, .int .i64 0, .int .i64 0, .bool false, .slice none 0 0] 32 (0, 0)) := (Below.heap_setCell _ _ _ _ (by show w.heap.size + 1 ≠ w.heap.size; omega)).trans hZ3
  have hO4 := own_farL HO3.out (grown_setL (grown_reflL w3 (some w.heap.size)) 13 (.slice q l.es.length cc)) hAW
  have hB4 := hB3.setCell (p := ⟨w.heap.size, 13, none⟩) (Nat.le_refl _) (.slice q l.es.length cc)
  have hbs := HW.out.2.2.2
  have H4 := Lib.hid (And.intro hA4 (And.intro hZ4 (And.intro hO4 hB4)))
  have kA3 := block_cells hA3
  have fA3 := block_free hA3
  clear hA1 hZ1 hA4 hZ4 hO4 hB4 hB3 hZ3 kA fA HO3 hgrow3 hA3
  go_upto_region 2 with fail
  obtain ⟨W4, hW4⟩ : ∃ W4, w3.setCell ⟨w.heap.size, 13, none⟩ (.slice q l.es.length cc) = W4 := ⟨_, rfl⟩
  rw [hW4] at H4 ⊢
  have kA := block_cells H4.out.1
  have kZ := block_cells H4.out.2.1
  have fZ := block_free H4.out.2.1
  clear hW4 kA3 fA3
  go_wp2_with fail
  have F := put14_ok H4.out.2.1 H4.out.2.2.2 (Nat.le_succ _) (.int .i64 l.b) (.int .i64 l.bt) (.int .u16 l.j.ov) (.int .u16 l.j.ox) (.int .u16 l.j.ol) (.int .i64 l.j.oe) (.int .i64 l.j.ok) (.int .u16 l.j.nv) (.int .u16 l.j.nx) (.int .u16 l.j.nl) (.int .i64 l.j.ne) (.int .i64 l.j.nk) (.bool l.j.two) (.slice q l.es.length cc)
  have G := own_farL H4.out.2.2.1 (put14_grown W4 (w.heap.size + 1) (.int .i64 l.b) (.int .i64 l.bt) (.int .u16 l.j.ov) (.int .u16 l.j.ox) (.int .u16 l.j.ol) (.int .i64 l.j.oe) (.int .i64 l.j.ok) (.int .u16 l.j.nv) (.int .u16 l.j.nx) (.int .u16 l.j.nl) (.int .i64 l.j.ne) (.int .i64 l.j.nk) (.bool l.j.two) (.slice q l.es.length cc)) (by omega)
  have kF := block_cells F.1
  obtain ⟨W5, hW5⟩ : ∃ W5, put14 W4 (w.heap.size + 1) (.int .i64 l.b) (.int .i64 l.bt) (.int .u16 l.j.ov) (.int .u16 l.j.ox) (.int .u16 l.j.ol) (.int .i64 l.j.oe) (.int .i64 l.j.ok) (.int .u16 l.j.nv) (.int .u16 l.j.nx) (.int .u16 l.j.nl) (.int .i64 l.j.ne) (.int .i64 l.j.nk) (.bool l.j.two) (.slice q l.es.length cc) = W5 := ⟨_, rfl⟩
  rw [hW5] at F G kF
  unfold put14 at hW5
  rw [hW5]
  refine bodyPost_ret (v := .agg #[.int .i64 l.b, .int .i64 l.bt, .int .u16 l.j.ov, .int .u16 l.j.ox, .int .u16 l.j.ol, .int .i64 l.j.oe, .int .i64 l.j.ok, .int .u16 l.j.nv, .int .u16 l.j.nx, .int .u16 l.j.nl, .int .i64 l.j.ne, .int .i64 l.j.nk, .bool l.j.two, .slice q l.es.length cc]) ?_ rfl ⟨q, cc, rfl, G.mono (by omega), F.2⟩
  simp [results, Try.results20, go_sem, kF]
end Go.Proofs.Ytabiccpodnjieaa
/- The reference of entries: Slice. -/
namespace Go.Proofs.Ytabiccpodnjieaa
open Go.ChangeShapes Go.WideShapes Go.ChangeAt Go.RowKit

theorem own_slice0 {w : World} {base : Nat} {e : TypeId} {size : Nat} {v : Value} {n : Nat} {xs : List Value} (h : w.ownsRow base e size v n xs) : ∃ p c, v = .slice p n c := own_slice h
/-- Where a slice begins: the number of entries that are passed over. -/
theorem rsl_from {l : Lg} {fr : Int} (h : l.b < fr) : ∃ s : Nat, fr = l.b + 1 + s := ⟨(fr - l.b - 1).toNat, by omega⟩
theorem rsl_fromK {l : Lg} {fr : Int} {s : Nat} (h : (l.b < fr ∧ fr = l.b + 1 + s) ∨ (fr ≤ l.b ∧ s = 0)) (L : List Ent) (hL : L = l.es) : L.drop (fromK l fr) = L.drop s := by
  subst hL
  unfold fromK
  rcases h with ⟨h1, h2⟩ | ⟨h1, h2⟩
  · rw [if_pos h1, show (fr - l.b - 1).toNat = s by omega]
    rcases Nat.le_total s l.es.length with g | g
    · rw [Nat.min_eq_left g]
    · rw [Nat.min_eq_right g, List.drop_length, List.drop_eq_nil_of_le g]
  · rw [if_neg (by omega), h2]
theorem rsl_end {L : List Ent} {s k : Nat} {n : Int} (hk : (k : Int) ≤ n ∨ k = 0) (h : L.length ≤ s + k ∨ n ≤ k) : (L.drop s).take k = (L.drop s).take n.toNat := by
  rcases h with h | h
  · rw [List.take_of_length_le (by rw [List.length_drop]; omega)]
    rcases hk with hk | hk
    · rw [List.take_of_length_le (by rw [List.length_drop]; omega)]
    · subst hk; rw [List.drop_eq_nil_of_le (by omega)]; simp
  · have : k = n.toNat := by omega
    rw [this]
theorem rsl_next {L : List Ent} {s k : Nat} (h : s + k < L.length) : (L.drop s).take (k + 1) = (L.drop s).take k ++ [L[s + k]] := by
  rw [List.take_succ_eq_append_getElem (by rw [List.length_drop]; omega), List.getElem_drop]
theorem rsl_len {L : List Ent} {s k : Nat} (h : k = 0 ∨ s + k ≤ L.length) : ((L.drop s).take k).length = k := by
  rw [List.length_take, List.length_drop]; omega
set_option maxRecDepth 100000 in
set_option maxHeartbeats 8000000 in
theorem rslice_any (l : Lg) (p : Option Addr) (c : Nat) (fr n : Int) (w : World) (hF : LgFit l) (f1 : fr ≤ 9223372036854775807) (n1 : n ≤ 9223372036854775807) (hE : EnSl w (.slice p l.es.length c) l.es) :
    Calls Try.prog 34 #[.agg #[.int .i64 l.b, .int .i64 l.bt, .int .u16 l.j.ov, .int .u16 l.j.ox, .int .u16 l.j.ol, .int .i64 l.j.oe, .int .i64 l.j.ok, .int .u16 l.j.nv, .int .u16 l.j.nx, .int .u16 l.j.nl, .int .i64 l.j.ne, .int .i64 l.j.nk, .bool l.j.two, .slice p l.es.length c], .int .i64 fr, .int .i64 n] w fun r w' => ∃ v, r = .returned v ∧ w'.ownsRow w.heap.size 47 14 v (sliceL l fr n).length (entRow (sliceL l fr n)) ∧ Below w.heap.size w w' := by
  obtain ⟨i0, hi, hz0, hz1, hz2⟩ := info_parts Try.infoEn
  have HF : Hid (LgFit l) := hF
  have HE := Lib.hid hE
  have hb0 := hF.b0; have hb1 := hF.b1; have hn2 := hF.n
  have HA0 := Lib.hid (heap_last w (.cells #[.int .i64 l.b, .int .i64 l.bt, .int .u16 l.j.ov, .int .u16 l.j.ox, .int .u16 l.j.ol, .int .i64 l.j.oe, .int .i64 l.j.ok, .int .u16 l.j.nv, .int .u16 l.j.nx, .int .u16 l.j.nl, .int .i64 l.j.ne, .int .i64 l.j.nk, .bool l.j.two, .slice p l.es.length c] 32))
  have HB0 := Lib.hid ((Below.refl _ w).alloc (Nat.le_refl _) (.cells #[.int .i64 l.b, .int .i64 l.bt, .int .u16 l.j.ov, .int .u16 l.j.ox, .int .u16 l.j.ol, .int .i64 l.j.oe, .int .i64 l.j.ok, .int .u16 l.j.nv, .int .u16 l.j.nx, .int .u16 l.j.nl, .int .i64 l.j.ne, .int .i64 l.j.nk, .bool l.j.two, .slice p l.es.length c] 32))
  have hsz0 : w.heap.size < (w.alloc (.cells #[.int .i64 l.b, .int .i64 l.bt, .int .u16 l.j.ov, .int .u16 l.j.ox, .int .u16 l.j.ol, .int .i64 l.j.oe, .int .i64 l.j.ok, .int .u16 l.j.nv, .int .u16 l.j.nx, .int .u16 l.j.nl, .int .i64 l.j.ne, .int .i64 l.j.nk, .bool l.j.two, .slice p l.es.length c] 32)).heap.size := by simp
  clear hF hE
  have hs : ∃ s : Nat, max fr (l.b + 1) = l.b + 1 + s ∧ ((l.b < fr ∧ fr = l.b + 1 + s) ∨ (fr ≤ l.b ∧ s = 0)) := by
    by_cases h : l.b < fr
    · obtain ⟨s, hs⟩ := rsl_from h; exact ⟨s, by omega, .inl ⟨h, hs⟩⟩
    · exact ⟨0, by omega, .inr ⟨by omega, rfl⟩⟩
  obtain ⟨s, hm, hs⟩ := hs
  have hsb : l.b + 1 + s ≤ 9223372036854775807 := by omega
  have HD := Lib.hid (rsl_fromK hs l.es rfl)
  clear hs
  go_enter Try.func34, Try.ntmps34
  go_upto_region 2 with fail
  obtain ⟨W, hW⟩ : ∃ W, w.alloc (.cells #[.int .i64 l.b, .int .i64 l.bt, .int .u16 l.j.ov, .int .u16 l.j.ox, .int .u16 l.j.ol, .int .i64 l.j.oe, .int .i64 l.j.ok, .int .u16 l.j.nv, .int .u16 l.j.nx, .int .u16 l.j.nl, .int .i64 l.j.ne, .int .i64 l.j.nk, .bool l.j.two, .slice p l.es.length c] 32) = W := ⟨_, rfl⟩
  rw [hW] at HA0 HB0 hsz0 ⊢
  clear hW
  obtain ⟨A, eA⟩ : ∃ A, w.heap.size = A := ⟨_, rfl⟩
  rw [eA] at HA0 hsz0 ⊢
  have HB1 : Hid (∀ wr, Below W.heap.size W wr → Below w.heap.size w wr) := fun wr h => HB0.out.trans (h.mono HB0.out.size)
  clear eA
  have kA := block_cells HA0.out
  go_wp2_with fail
  clear kA hm
  go_loopw [7, 8] (fun v i wr => ∃ (k : Nat) (q : Option Addr) (cc : Nat), ((k : Int) ≤ n ∨ k = 0) ∧ (k = 0 ∨ s + k ≤ l.es.length) ∧ v = .slice q k cc ∧ i = .int .i64 (l.b + 1 + s + k) ∧ Hid (wr.ownsRow W.heap.size 47 14 (.slice q k cc) k (entRow ((l.es.drop s).take k))) ∧ Hid (Below W.heap.size W wr)) (fun _ i _ => (l.b + 1 + l.es.length - intOf i).toNat)
  case atStart => exact ⟨0, none, 0, .inr rfl, .inl rfl, rfl, by simp, World.ownsRow_nil _ _ _ _, Below.refl _ _⟩
  case round =>
    obtain ⟨k, q, cc, hkn, hkl, rfl, rfl, HO, HB⟩ := hrel
    obtain ⟨wk, rfl⟩ : ∃ wk : World, wk = wr := ⟨_, rfl⟩
    have HAk := Lib.hid (below_block HB.out (block_lt HA0.out) HA0.out)
    have kA := block_cells HAk.out
    have HLA := Lib.hid (rlast_any l p c wk hb0 hb1 hn2)
    have hsk : Hid (l.last = l.b + l.es.length) := rfl
    have HEk := Lib.hid (HE.out.keep (HB1.out _ HB.out) (Nat.le_refl _))
    obtain ⟨X, hX⟩ : ∃ X, l.last = X := ⟨_, rfl⟩
    rw [hX] at HLA hsk
    have hX1 : X ≤ l.b + l.es.length := by have := hsk.out; omega
    have hX2 : l.b + l.es.length ≤ X := by have := hsk.out; omega
    clear hX
    have hend : l.es.length ≤ s + k ∨ n ≤ k ∨ (s + k < l.es.length ∧ (k : Int) < n) := by omega
    by_cases hlt : s + k < l.es.length
    · have hd1 : decide (l.b + 1 + (s : Int) + (k : Int) ≤ X) = true := by simp; omega
      by_cases hn : (k : Int) < n
      · have hd2 : decide ((k : Int) < n) = true := by simpa using hn
        obtain ⟨e, he⟩ : ∃ e, l.es[s + k] = e := ⟨_, rfl⟩
        have hat : atL l (l.b + 1 + s + k) = (e, true) := by rw [atL_in (k := s + k) (by omega) hlt, he]
        have hnx := rsl_next hlt
        rw [he] at hnx
        have HNX := Lib.hid hnx
        have HAT := Lib.hid hat
        clear he hat hnx hend
        go_wp2_with fail
        refine HLA.out.mono ?_; rintro r w5 ⟨rfl, hb5⟩
        have HA5 := Lib.hid (below_block hb5 (block_lt HAk.out) HAk.out)
        have HB5 := Lib.hid (HB.out.trans (hb5.mono HB.out.size))
        have HO5 := Lib.hid (own_belowL HO.out hb5 (Nat.le_refl _))
        have hAT := rat_any l p c (l.b + 1 + s + k) w5 hb0 hb1 hn2 (by omega) (by omega) (HEk.out.keep hb5 (Nat.le_refl _)) HAT.out
        have HA := Lib.hid hAT
        clear hAT hb5 kA HLA HO HEk HAk
        have kA := block_cells HA5.out
        go_wp2_with fail
        refine HA.out.mono ?_; rintro r w6 ⟨rfl, hb6⟩
        have HB6 := Lib.hid (HB5.out.trans (hb6.mono HB5.out.size))
        have HO6 := Lib.hid (own_belowL HO5.out hb6 (Nat.le_refl _))
        clear hb6 kA HA HA5 HO5 HB5
        go_upto_region 6 with fail
        obtain ⟨W7, hW7⟩ : ∃ W10, w6.alloc (.cells #[.int .i64 e.t, .int .i64 e.k, .string e.d, .int .u16 e.j.ov, .int .u16 e.j.ox, .int .u16 e.j.ol, .int .i64 e.j.oe, .int .i64 e.j.ok, .int .u16 e.j.nv, .int .u16 e.j.nx, .int .u16 e.j.nl, .int .i64 e.j.ne, .int .i64 e.j.nk, .bool e.j.two] 47) = W10 := ⟨_, rfl⟩
        have hE7 : W7.heap[w6.heap.size]? = some (.cells #[.int .i64 e.t, .int .i64 e.k, .string e.d, .int .u16 e.j.ov, .int .u16 e.j.ox, .int .u16 e.j.ol, .int .i64 e.j.oe, .int .i64 e.j.ok, .int .u16 e.j.nv, .int .u16 e.j.nx, .int .u16 e.j.nl, .int .i64 e.j.ne, .int .i64 e.j.nk, .bool e.j.two] 47 (0, 0)) := by rw [← hW7]; exact heap_last _ _
        have HB7 := Lib.hid (HB6.out.trans ((below_new _ _ hW7).mono HB6.out.size))
        have HO7 := Lib.hid (own_belowL HO6.out (below_new _ _ hW7) (Nat.le_refl _))
        rw [hW7]
        obtain ⟨F, eF⟩ : ∃ D, w6.heap.size = D := ⟨_, rfl⟩
        rw [eF] at hE7 ⊢
        have kE := block_cells hE7
        clear hW7 eF hE7 HB6 HO6
        have HO8 := Lib.hid (own_belowL HO7.out (below_new W7 (.cells #[.int .i64 e.t, .int .i64 e.k, .string e.d, .int .u16 e.j.ov, .int .u16 e.j.ox, .int .u16 e.j.ol, .int .i64 e.j.oe, .int .i64 e.j.ok, .int .u16 e.j.nv, .int .u16 e.j.nx, .int .u16 e.j.nl, .int .i64 e.j.ne, .int .i64 e.j.nk, .bool e.j.two] 47) rfl) (Nat.le_refl _))
        have HB8 := Lib.hid (HB7.out.trans ((below_new W7 (.cells #[.int .i64 e.t, .int .i64 e.k, .string e.d, .int .u16 e.j.ov, .int .u16 e.j.ox, .int .u16 e.j.ol, .int .i64 e.j.oe, .int .i64 e.j.ok, .int .u16 e.j.nv, .int .u16 e.j.nx, .int .u16 e.j.nl, .int .i64 e.j.ne, .int .i64 e.j.nk, .bool e.j.two] 47) rfl).mono HB7.out.size))
        have HS8 := Lib.hid (EnSl.one (e := e) (heap_last W7 (.cells #[.int .i64 e.t, .int .i64 e.k, .string e.d, .int .u16 e.j.ov, .int .u16 e.j.ox, .int .u16 e.j.ol, .int .i64 e.j.oe, .int .i64 e.j.ok, .int .u16 e.j.nv, .int .u16 e.j.nx, .int .u16 e.j.nl, .int .i64 e.j.ne, .int .i64 e.j.nk, .bool e.j.two] 47)))
        have hL8 := entC_one [e]
        have HL8 := Lib.hid hL8
        clear hL8
        go_wp2_with (at_builtin; refine wpList_append_sl rfl _ _ 30 rfl W.heap.size 47 i0 (.agg #[.int .i64 0, .int .i64 0, .string ⟨#[]⟩, .int .u16 0, .int .u16 0, .int .u16 0, .int .i64 0, .int .i64 0, .int .u16 0, .int .u16 0, .int .u16 0, .int .i64 0, .int .i64 0, .bool false]) 14 88 Try.underlying30 hi hz0 hz1 hz2 rfl (by decide) _ k (entRow ((l.es.drop s).take k)) rfl HO8.out _ _ 1 (entRow [e]) rfl HS8.out HL8.out ?_ ?_ (by have := HB8.out.size; exact this) ?_)
        · unfold maxLen; omega
        · omega
        intro v3 w3 hown3 hgrow3
        obtain ⟨q3, cc3, rfl⟩ := own_slice hown3
        have HO3 : Hid (w3.ownsRow W.heap.size 47 14 (.slice q3 (k + 1) cc3) (k + 1) (entRow ((l.es.drop s).take (k + 1)))) := by
          show World.ownsRow _ _ _ _ _ _ _; rw [HNX.out, entRow_app]; exact hown3
        have HB3 : Hid (Below W.heap.size W w3) := HB8.out.grown hgrow3 HB8.out.size (fun j hj => (own_geL HO8.out j hj).1)
        clear hown3 hgrow3 HO8 HS8 HL8 kE HB8 HO7
        go_wp2_with fail
        go_roundw
        case rel => exact ⟨k + 1, q3, cc3, .inl (by omega), .inr (by omega), rfl, by go_num, HO3, HB3⟩
        case measure => simp [intOf]; omega
      · have hd2 : decide ((k : Int) < n) = false := by simp; omega
        have HSL : Hid (sliceL l fr n = (l.es.drop s).take k) := by
          show _ = _; unfold sliceL; rw [HD.out]; exact (rsl_end hkn (.inr (by omega))).symm
        have hlen : ((l.es.drop s).take k).length = k := rsl_len hkl
        have HLE := Lib.hid hlen
        clear hlen hend
        go_wp2_with fail
        refine HLA.out.mono ?_; rintro r w5 ⟨rfl, hb5⟩
        have HB5 := Lib.hid (HB1.out _ (HB.out.trans (hb5.mono HB.out.size)))
        have HO5 := Lib.hid ((own_belowL HO.out hb5 (Nat.le_refl _)).mono (base' := w.heap.size) HB0.out.size)
        clear hb5 kA HLA HO HB
        go_wp2_with fail
        go_ret
        rw [HSL.out, HLE.out]
        exact ⟨_, rfl, HO5.out, HB5.out⟩
    · have hd1 : decide (l.b + 1 + (s : Int) + (k : Int) ≤ X) = false := by simp; omega
      have HSL : Hid (sliceL l fr n = (l.es.drop s).take k) := by
        show _ = _; unfold sliceL; rw [HD.out]; exact (rsl_end hkn (.inl (by omega))).symm
      have hlen : ((l.es.drop s).take k).length = k := rsl_len hkl
      have HLE := Lib.hid hlen
      clear hlen hend
      go_wp2_with fail
      refine HLA.out.mono ?_; rintro r w5 ⟨rfl, hb5⟩
      have HB5 := Lib.hid (HB1.out _ (HB.out.trans (hb5.mono HB.out.size)))
      have HO5 := Lib.hid ((own_belowL HO.out hb5 (Nat.le_refl _)).mono (base' := w.heap.size) HB0.out.size)
      clear hb5 kA HLA HO HB
      go_wp2_with fail
      go_ret
      rw [HSL.out, HLE.out]
      exact ⟨_, rfl, HO5.out, HB5.out⟩
end Go.Proofs.Ytabiccpodnjieaa
/- EntriesTurns: for every log, entry, list of entries and numbers: a log that is pushed, merged, compacted becomes what the document's answer becomes, twice, whatever is done to what was told; and what was handed in is as it was (of logs of at most 60 entries; others are let through); no condition. -/
namespace Go.Proofs.Ytabiccpodnjieaa
open Go.ChangeShapes Go.WideShapes Go.ChangeAt Go.RowKit

theorem mayL_fitT {l : Lg} (h : mayL l = true) (hn : l.es.length ≤ 60) : LgFit l := by
  unfold mayL at h
  simp only [Bool.and_eq_true, decide_eq_true_eq] at h
  exact ⟨h.1, by omega, by omega⟩
theorem lightB_fitT {l : Lg} {es : List Ent} (h : lightB l es = true) : l.es.length ≤ 60 ∧ es.length ≤ 60 := by
  unfold lightB at h
  simp only [Bool.and_eq_true, decide_eq_true_eq] at h
  exact ⟨h.1, h.2.1⟩
theorem rmerge_any (l : Lg) (p : Option Addr) (c : Nat) (prev term : Int) (es : List Ent) (p2 : Option Addr) (c2 : Nat) (w : World) (hF : LgFit l) (hp : -9223372036854775808 ≤ prev ∧ prev ≤ 9223372036854775807) (hE : EnSl w (.slice p l.es.length c) l.es) (h2E : EnSl w (.slice p2 es.length c2) es) (hl : l.es.length + es.length ≤ 1000000) :
    Calls Try.prog 22 #[.agg #[.int .i64 l.b, .int .i64 l.bt, .int .u16 l.j.ov, .int .u16 l.j.ox, .int .u16 l.j.ol, .int .i64 l.j.oe, .int .i64 l.j.ok, .int .u16 l.j.nv, .int .u16 l.j.nx, .int .u16 l.j.nl, .int .i64 l.j.ne, .int .i64 l.j.nk, .bool l.j.two, .slice p l.es.length c], .int .i64 prev, .int .i64 term, .slice p2 es.length c2] w (LgRef3 w (mergeL l prev term es)) := by
  rcases merge_cases l prev term es with h | ⟨h1, h0, s, hs | hs⟩
  · rw [mergeL_refuse h]; exact rmerge_no l p c prev term es p2 c2 w hF hp hE (by omega) h
  · rw [mergeL_from h1 h0 (.inl hs)]; exact rmerge_yesA l p c prev term es p2 c2 s w hF hp hE h2E hl h1 h0 hs
  · rw [mergeL_from h1 h0 (.inr hs)]; exact rmerge_yesB l p c prev term es p2 c2 s w hF hp hE h2E hl h1 h0 hs
set_option maxRecDepth 100000 in
set_option maxHeartbeats 16000000 in
theorem eturns_walk (l : Lg) (p : Option Addr) (c : Nat) (e : Ent) (prev term : Int) (es : List Ent) (p2 : Option Addr) (c2 : Nat) (tv : Int) (w : World) (hp : -9223372036854775808 ≤ prev ∧ prev ≤ 9223372036854775807) (ht : -9223372036854775808 ≤ tv ∧ tv ≤ 9223372036854775807) (hE : EnSl w (.slice p l.es.length c) l.es) (h2E : EnSl w (.slice p2 es.length c2) es) :
    Calls Try.prog 5 #[.agg #[.int .i64 l.b, .int .i64 l.bt, .int .u16 l.j.ov, .int .u16 l.j.ox, .int .u16 l.j.ol, .int .i64 l.j.oe, .int .i64 l.j.ok, .int .u16 l.j.nv, .int .u16 l.j.nx, .int .u16 l.j.nl, .int .i64 l.j.ne, .int .i64 l.j.nk, .bool l.j.two, .slice p l.es.length c], .agg #[.int .i64 e.t, .int .i64 e.k, .string e.d, .int .u16 e.j.ov, .int .u16 e.j.ox, .int .u16 e.j.ol, .int .i64 e.j.oe, .int .i64 e.j.ok, .int .u16 e.j.nv, .int .u16 e.j.nx, .int .u16 e.j.nl, .int .i64 e.j.ne, .int .i64 e.j.nk, .bool e.j.two], .int .i64 prev, .int .i64 term, .slice p2 es.length c2, .int .i64 tv] w fun r w' => r = .returned (.bool true) ∧ Below w.heap.size w w' := by
  obtain ⟨i0, hi0, hz0, hz1, hz2⟩ := info_parts Try.infoEn
  have HE := Lib.hid hE; have HE2 := Lib.hid h2E
  clear hE h2E
  go_enter Try.func5, Try.ntmps5
  obtain ⟨Q', hQ⟩ : ∃ Q', bodyPost Try.prog Try.f5 (fun r w' => r = .returned (.bool true) ∧ Below w.heap.size w w') = Q' := ⟨_, rfl⟩
  have HQ : Hid (∀ (a : Act) (w' : World), a.tmps.getD 12 undef = .bool true → a.defers = [] → Below w.heap.size w w' → Q' .ret a w') := fun a w' h6 hd hb => by
    rw [← hQ]; exact bodyPost_ret (v := .bool true) (by rw [results_tmp rfl, h6]) hd ⟨rfl, hb⟩
  rw [hQ]
  clear hQ
  go_upto_region 1 with fail
  obtain ⟨W0, hW0⟩ : ∃ W0, w.alloc (.cells #[.int .i64 l.b, .int .i64 l.bt, .int .u16 l.j.ov, .int .u16 l.j.ox, .int .u16 l.j.ol, .int .i64 l.j.oe, .int .i64 l.j.ok, .int .u16 l.j.nv, .int .u16 l.j.nx, .int .u16 l.j.nl, .int .i64 l.j.ne, .int .i64 l.j.nk, .bool l.j.two, .slice p l.es.length c] 32) = W0 := ⟨_, rfl⟩
  obtain ⟨W, hW⟩ : ∃ W, W0.alloc (.cells #[.int .i64 e.t, .int .i64 e.k, .string e.d, .int .u16 e.j.ov, .int .u16 e.j.ox, .int .u16 e.j.ol, .int .i64 e.j.oe, .int .i64 e.j.ok, .int .u16 e.j.nv, .int .u16 e.j.nx, .int .u16 e.j.nl, .int .i64 e.j.ne, .int .i64 e.j.nk, .bool e.j.two] 47) = W := ⟨_, rfl⟩
  have hs0 : W0.heap.size = w.heap.size + 1 := by rw [← hW0]; simp
  have hE1 : W.heap[w.heap.size + 1]? = some (.cells #[.int .i64 e.t, .int .i64 e.k, .string e.d, .int .u16 e.j.ov, .int .u16 e.j.ox, .int .u16 e.j.ol, .int .i64 e.j.oe, .int .i64 e.j.ok, .int .u16 e.j.nv, .int .u16 e.j.nx, .int .u16 e.j.nl, .int .i64 e.j.ne, .int .i64 e.j.nk, .bool e.j.two] 47 (0, 0)) := by rw [← hW, ← hs0]; exact heap_last _ _
  have LL := Lib.hid ((Lies.new HE.out hW0).keep (below_new _ _ hW))
  have hbw : Below w.heap.size w W := (below_new _ _ hW0).trans ((below_new _ _ hW).mono (by omega))
  have FE := Lib.hid ((FarE.of_below HE2.out (Nat.le_refl _)).keep hbw (Nat.le_refl _))
  have HBW : Hid (∀ w', Below W.heap.size W w' → Below w.heap.size w w') := fun w' h => hbw.trans (h.mono hbw.size)
  have HSZ : Hid (w.heap.size + 2 ≤ W.heap.size) := by show _ ≤ _; rw [← hW]; simp; omega
  rw [hW0, hW]
  obtain ⟨A, eA⟩ : ∃ A, w.heap.size = A := ⟨_, rfl⟩
  have HEA := Lib.hid eA
  rw [eA] at LL hE1 HSZ FE ⊢
  have HE1 := Lib.hid hE1
  clear hW0 hW hs0 hbw eA HE HE2 hE1
  obtain ⟨U, f, hU, hf, hg⟩ := calm_class (W); obtain ⟨u0, hu0⟩ := hg _ (Below.refl _ _); rw [hu0]; clear hu0
  have kA := fun u => block_cells (calm_heap hf LL.out.h u)
  have kE := fun u => block_cells (calm_heap hf HE1.out u)
  obtain ⟨lb, hlb⟩ : ∃ b, lightB l es = b := ⟨_, rfl⟩
  have BG : Hid (∀ u, Calls Try.prog 9 #[] (f u) fun r w' => r = .returned (.bool true) ∧ Below (f u).heap.size (f u) w') := fun u => begun_any (f u)
  have LT : Hid (∀ u, Calls Try.prog 18 #[.agg #[.int .i64 l.b, .int .i64 l.bt, .int .u16 l.j.ov, .int .u16 l.j.ox, .int .u16 l.j.ol, .int .i64 l.j.oe, .int .i64 l.j.ok, .int .u16 l.j.nv, .int .u16 l.j.nx, .int .u16 l.j.nl, .int .i64 l.j.ne, .int .i64 l.j.nk, .bool l.j.two, .slice p l.es.length c], .slice p2 es.length c2] (f u) fun r w' => r = .returned (.bool lb) ∧ Below (f u).heap.size (f u) w') := fun u => by
    have := light_any l p c es p2 c2 (f u) (LL.out.e.keep (hf u) (Nat.le_refl _)) (FE.out.e.keep (hf u) (Nat.le_refl _)); rw [hlb] at this; exact this
  cases lb with
  | false =>
    go_wp2_with (first | (go_at_call 9; refine (BG.out _).mono ?_; rintro r w' ⟨rfl, hb⟩; obtain ⟨u, rfl⟩ := calm_step hf hg hb; clear hb) | (go_at_call 18; refine (LT.out _).mono ?_; rintro r w' ⟨rfl, hb⟩; obtain ⟨u, rfl⟩ := calm_step hf hg hb; clear hb))
    exact HQ.out _ _ rfl rfl (HBW.out _ (hf _))
  | true =>
  obtain ⟨hln, hen⟩ := lightB_fitT hlb
  clear hlb
  obtain ⟨mb, hmb⟩ : ∃ b, mayL l = b := ⟨_, rfl⟩
  have RM : Hid (∀ u, Calls Try.prog 19 #[.agg #[.int .i64 l.b, .int .i64 l.bt, .int .u16 l.j.ov, .int .u16 l.j.ox, .int .u16 l.j.ol, .int .i64 l.j.oe, .int .i64 l.j.ok, .int .u16 l.j.nv, .int .u16 l.j.nx, .int .u16 l.j.nl, .int .i64 l.j.ne, .int .i64 l.j.nk, .bool l.j.two, .slice p l.es.length c]] (f u) fun r w' => r = .returned (.bool mb) ∧ Below (f u).heap.size (f u) w') := fun u => by
    have := rmay_any l p c (f u) (by omega) (LL.out.e.keep (hf u) (Nat.le_refl _)); rw [hmb] at this; exact this
  cases mb with
  | false =>
    go_wp2_with (first | (go_at_call 9; refine (BG.out _).mono ?_; rintro r w' ⟨rfl, hb⟩; obtain ⟨u, rfl⟩ := calm_step hf hg hb; clear hb) | (go_at_call 18; refine (LT.out _).mono ?_; rintro r w' ⟨rfl, hb⟩; obtain ⟨u, rfl⟩ := calm_step hf hg hb; clear hb) | (go_at_call 19; refine (RM.out _).mono ?_; rintro r w' ⟨rfl, hb⟩; obtain ⟨u, rfl⟩ := calm_step hf hg hb; clear hb))
    exact HQ.out _ _ rfl rfl (HBW.out _ (hf _))
  | true =>
  have FL : Hid (LgFit l) := mayL_fitT hmb hln
  clear hmb
  by_cases hds : 200 < e.d.size
  · have hd1 : decide ((200 : Int) < (e.d.size : Int)) = true := by simp; omega
    go_wp2_with (first | (go_at_call 9; refine (BG.out _).mono ?_; rintro r w' ⟨rfl, hb⟩; obtain ⟨u, rfl⟩ := calm_step hf hg hb; clear hb) | (go_at_call 18; refine (LT.out _).mono ?_; rintro r w' ⟨rfl, hb⟩; obtain ⟨u, rfl⟩ := calm_step hf hg hb; clear hb) | (go_at_call 19; refine (RM.out _).mono ?_; rintro r w' ⟨rfl, hb⟩; obtain ⟨u, rfl⟩ := calm_step hf hg hb; clear hb))
    exact HQ.out _ _ rfl rfl (HBW.out _ (hf _))
  have hd1 : decide ((200 : Int) < (e.d.size : Int)) = false := by simp; omega
  go_upto_region 5 with (first | (go_at_call 9; refine (BG.out _).mono ?_; rintro r w' ⟨rfl, hb⟩; obtain ⟨u, rfl⟩ := calm_step hf hg hb; clear hb) | (go_at_call 18; refine (LT.out _).mono ?_; rintro r w' ⟨rfl, hb⟩; obtain ⟨u, rfl⟩ := calm_step hf hg hb; clear hb) | (go_at_call 19; refine (RM.out _).mono ?_; rintro r w' ⟨rfl, hb⟩; obtain ⟨u, rfl⟩ := calm_step hf hg hb; clear hb))
  have HC := Lib.hid (copy_any l p c (f u) (by omega) (LL.out.e.keep (hf u) (Nat.le_refl _)))
  go_wp2_with fail
  refine HC.out.mono ?_; rintro r w3 ⟨q, cc, rfl, ho3, hb3⟩
  have HB3 := Lib.hid ((hf u).trans (hb3.mono (hf u).size))
  have FQ3 := Lib.hid (FarE.of_own (A := A) ho3 (by have := HSZ.out; have := (hf u).size; omega))
  clear ho3 hb3 kA kE BG LT RM HC
  go_upto_region 6 with fail
  obtain ⟨W4, hW4⟩ : ∃ W4, w3.alloc (.cells #[.int .i64 l.b, .int .i64 l.bt, .int .u16 l.j.ov, .int .u16 l.j.ox, .int .u16 l.j.ol, .int .i64 l.j.oe, .int .i64 l.j.ok, .int .u16 l.j.nv, .int .u16 l.j.nx, .int .u16 l.j.nl, .int .i64 l.j.ne, .int .i64 l.j.nk, .bool l.j.two, .slice q l.es.length cc] 32) = W4 := ⟨_, rfl⟩
  have hb4 := HB3.out.trans ((below_new _ _ hW4).mono HB3.out.size)
  have hD4 : W4.heap[w3.heap.size]? = some (.cells #[.int .i64 l.b, .int .i64 l.bt, .int .u16 l.j.ov, .int .u16 l.j.ox, .int .u16 l.j.ol, .int .i64 l.j.oe, .int .i64 l.j.ok, .int .u16 l.j.nv, .int .u16 l.j.nx, .int .u16 l.j.nl, .int .i64 l.j.ne, .int .i64 l.j.nk, .bool l.j.two, .slice q l.es.length cc] 32 (0, 0)) := by rw [← hW4]; exact heap_last _ _
  have hAD : A < w3.heap.size := by have := HSZ.out; have := HB3.out.size; omega
  have L4 := Lib.hid (LL.out.keep hb4)
  have HE4 := Lib.hid (below_block hb4 (block_lt HE1.out) HE1.out)
  have FQ4 := Lib.hid (FQ3.out.keep (below_new _ _ hW4) (Nat.le_refl _))
  have FE4 := Lib.hid (FE.out.keep hb4 (Nat.le_refl _))
  have HB4 := Lib.hid hb4
  rw [hW4]
  obtain ⟨D, eD⟩ : ∃ D, w3.heap.size = D := ⟨_, rfl⟩
  rw [eD] at hD4 hAD ⊢
  have HD4 := Lib.hid hD4
  clear hW4 eD hD4 hb4 HB3 FQ3 LL HE1 FE hU hf hg
  obtain ⟨MC, hMC⟩ : ∃ MC, madeCells #[.int .i64 0, .int .i64 0, .string ⟨#[]⟩, .int .u16 0, .int .u16 0, .int .u16 0, .int .i64 0, .int .i64 0, .int .u16 0, .int .u16 0, .int .u16 0, .int .i64 0, .int .i64 0, .bool false] ((l.es.length + 2) * 14) = MC := ⟨_, rfl⟩
  have hms : MC.size = (l.es.length + 2) * 14 := by rw [← hMC]; exact size_madeCells _ _
  have HMS := Lib.hid hms
  have HMC := Lib.hid hMC
  have hmk : ∀ w, (Instr.makeSlice 30 (.int .i64 0) (.int .i64 ((l.es.length : Int) + 2))).run Try.prog w = .ok (.slice (some ⟨w.heap.size, 0, none⟩) 0 (l.es.length + 2)) (w.alloc (.cells MC 47)) := fun w => by
    have := run_make (P := Try.prog) w 30 47 i0 (.agg #[.int .i64 0, .int .i64 0, .string ⟨#[]⟩, .int .u16 0, .int .u16 0, .int .u16 0, .int .i64 0, .int .i64 0, .int .u16 0, .int .u16 0, .int .u16 0, .int .i64 0, .int .i64 0, .bool false]) Try.underlying30 hi0 hz0 .i64 .i64 0 ((l.es.length : Int) + 2) (by omega) (by omega) (by rw [hz2]; omega) (by omega)
    rw [hz1, show ((l.es.length : Int) + 2).toNat = l.es.length + 2 by omega] at this
    rw [← hMC]; exact this
  clear hMC hms
  have kA := L4.out.cell
  have fA := block_free L4.out.h
  have HFE : Hid (EnSl (W4.alloc (.cells MC 47)).drew (.slice p l.es.length c) l.es) := (L4.out.e.keep (below_new _ _ rfl) (Nat.le_refl _)).keep (Below.refl _ _).drew (Nat.le_refl _)
  have HGW : Hid ((W4.alloc (.cells MC 47)).drew.heap[W4.heap.size]? = some (.cells MC 47 (0, 0))) := heap_last _ _
  have HGB : Hid (Below W4.heap.size W4 (W4.alloc (.cells MC 47)).drew) := (below_new _ _ rfl).drew
  have HCL := Lib.hid (entC_one l.es)
  have hAG : A < W4.heap.size := block_lt L4.out.h
  have hw2 : IntKind.i64.wrap ((l.es.length : Int) + 2) = (l.es.length : Int) + 2 := wrap_ok (by omega) (by omega)
  go_upto_region 7 with fail
  apply cutW (R := fun w' => w'.heap[W4.heap.size]? = some (.cells (entRow l.es ++ MC.toList.drop (l.es.length * 14)).toArray 47 (0, 0)) ∧ Below W4.heap.size W4 w')
  · intro h
    refine wp_region_noPanic ?_
    go_region_law ((refine step_append_fit (by rfl) _ _ 30 (by rfl) 47 i0 14 Try.underlying30 hi0 hz1 W4.heap.size (l.es.length + 2) MC (by rfl) HGW.out HMS.out (by unfold maxLen; omega) _ _ l.es.length (entRow l.es) (by rfl) HFE.out HCL.out (by omega) ?_; intro w8 hg8 hgr8; have hb8 := HGB.out.grown hgr8 HGB.out.size (fun k hk => by cases hk; exact Nat.le_refl _); have kA8 := block_cells (below_block hb8 (block_lt L4.out.h) L4.out.h); have fA8 := block_free (below_block hb8 (block_lt L4.out.h) L4.out.h)))
    all_goals
      try refine NoPanic.normal ?_
      exact h w8 ⟨hg8, hb8⟩
  intro w8 hR
  obtain ⟨hg8, hb8⟩ := hR
  rw [← HMC.out] at hg8
  obtain ⟨G, eG⟩ : ∃ G, W4.heap.size = G := ⟨_, rfl⟩
  rw [eG] at hg8 hb8 ⊢
  have TM := turn_made L4.out HE4.out hAD HD4.out FQ4.out FE4.out eG hb8 hln hg8
  obtain ⟨W6, hW6⟩ : ∃ W6, w8.setCell ⟨A, 13, none⟩ (.slice (some ⟨G, 0, none⟩) l.es.length (l.es.length + 2)) = W6 := ⟨_, rfl⟩
  rw [hW6] at TM ⊢
  have HT := Lib.hid TM.1
  have hb6 : Below w.heap.size w W6 := (HBW.out _ HB4.out).trans (by have := TM.2; rw [← HEA.out] at this; exact this)
  have HB6 : Hid (∀ w', Below W6.heap.size W6 w' → Below w.heap.size w w') := fun w' h => hb6.trans (h.mono hb6.size)
  clear hb6 TM hW6 hg8 hb8 eG kA fA hmk HFE HGW HGB HCL hAG hw2 HMS HMC L4 HE4 FQ4 FE4 HB4 HD4 HBW HSZ HEA hAD
  as_aux_lemma =>
    obtain ⟨a, ha⟩ : ∃ a, pushL l e = a := ⟨_, rfl⟩
    obtain ⟨⟨m, la, ok⟩, hm⟩ : ∃ x, mergeL l prev term es = x := ⟨_, rfl⟩
    obtain ⟨⟨cm, fe⟩, hcm⟩ : ∃ x, compactL l tv = x := ⟨_, rfl⟩
    have hal : a.es.length ≤ 61 := by rw [← ha, pushL_size]; omega
    have hml : m.es.length ≤ 120 := by have := mergeL_size (l := l) (prev := prev) (term := term) (es := es); rw [hm] at this; dsimp only at this; omega
    have hcl : cm.es.length ≤ 60 := by have := compactL_size (l := l) (tv := tv); rw [hcm] at this; dsimp only at this; omega
    have HA := Lib.hid ha; have HM := Lib.hid hm; have HCM := Lib.hid hcm
    have HP : Hid (-9223372036854775808 ≤ prev ∧ prev ≤ 9223372036854775807) := hp
    have HTV : Hid (-9223372036854775808 ≤ tv ∧ tv ≤ 9223372036854775807) := ht
    clear ha hm hcm hp ht
    go_wp2_with fail
    go_loopw [14] (fun i wr => ∃ k : Nat, k ≤ 2 ∧ i = .int .i64 k ∧ Hid (Below W6.heap.size W6 wr)) (fun i _ => 2 - (intOf i).toNat)
    case atStart => exact ⟨0, by omega, rfl, Below.refl _ _⟩
    case round =>
      obtain ⟨k, hk, rfl, HK⟩ := hrel
      obtain ⟨wk, rfl⟩ : ∃ wk : World, wk = wr := ⟨_, rfl⟩
      by_cases hlt : k < 2
      · have hd2 : decide ((k : Int) < 2) = true := by simp; omega
        have T1 := Lib.hid (HT.out.keep HK.out)
        have kA := T1.out.la.cell
        have kE := block_cells T1.out.en
        have hpu := push_any l (some ⟨G, 0, none⟩) (l.es.length + 2) e wk T1.out.la.e (by omega)
        rw [HA.out] at hpu
        have HPU := Lib.hid hpu
        clear hpu
        go_wp2_with fail
        refine HPU.out.mono ?_; rintro r w1 ⟨qa, ka, rfl, oa, ba⟩
        have OA := Lib.hid oa; have BA := Lib.hid ba
        have T2 := Lib.hid (T1.out.keep ba)
        clear oa ba kA kE HPU T1
        go_upto_region 11 with fail
        obtain ⟨V1, hV1⟩ : ∃ V1, w1.alloc (.cells #[.int .i64 a.b, .int .i64 a.bt, .int .u16 a.j.ov, .int .u16 a.j.ox, .int .u16 a.j.ol, .int .i64 a.j.oe, .int .i64 a.j.ok, .int .u16 a.j.nv, .int .u16 a.j.nx, .int .u16 a.j.nl, .int .i64 a.j.ne, .int .i64 a.j.nk, .bool a.j.two, .slice qa a.es.length ka] 32) = V1 := ⟨_, rfl⟩
        have XA1 := Lib.hid (BoxL.new HK.out.size BA.out OA.out hV1)
        have T3 := Lib.hid (T2.out.keep (below_new _ _ hV1))
        have B3 := Lib.hid ((HK.out.trans (BA.out.mono HK.out.size)).trans ((below_new _ _ hV1).mono (HK.out.trans (BA.out.mono HK.out.size)).size))
        have hx1 : w1.heap.size + 1 ≤ V1.heap.size := by rw [← hV1]; simp
        rw [hV1]
        obtain ⟨C1, eC1⟩ : ∃ C, w1.heap.size = C := ⟨_, rfl⟩
        rw [eC1] at hx1 XA1 ⊢
        clear hV1 eC1 T2 OA BA
        have hmg := merge_any l (some ⟨G, 0, none⟩) (l.es.length + 2) prev term es p2 c2 V1 FL.out HP.out T3.out.la.e T3.out.es (by omega)
        rw [HM.out] at hmg
        have HMG := Lib.hid hmg
        clear hmg
        have kA := T3.out.la.cell
        go_wp2_with fail
        refine HMG.out.mono ?_; rintro r w2 ⟨qm, km, rfl, om, bm⟩
        dsimp only at om ⊢
        have OM := Lib.hid om; have BM := Lib.hid bm
        have T4 := Lib.hid (T3.out.keep bm)
        have XA2 := Lib.hid (XA1.out.keep bm)
        clear om bm kA HMG T3 XA1
        go_upto_region 12 with fail
        obtain ⟨V2, hV2⟩ : ∃ V2, w2.alloc (.cells #[.int .i64 m.b, .int .i64 m.bt, .int .u16 m.j.ov, .int .u16 m.j.ox, .int .u16 m.j.ol, .int .i64 m.j.oe, .int .i64 m.j.ok, .int .u16 m.j.nv, .int .u16 m.j.nx, .int .u16 m.j.nl, .int .i64 m.j.ne, .int .i64 m.j.nk, .bool m.j.two, .slice qm m.es.length km] 32) = V2 := ⟨_, rfl⟩
        have XM2 := Lib.hid (BoxL.new B3.out.size BM.out OM.out hV2)
        have XA3 := Lib.hid (XA2.out.keep (below_new _ _ hV2))
        have T5 := Lib.hid (T4.out.keep (below_new _ _ hV2))
        have B5 := Lib.hid ((B3.out.trans (BM.out.mono B3.out.size)).trans ((below_new _ _ hV2).mono (B3.out.trans (BM.out.mono B3.out.size)).size))
        rw [hV2]
        obtain ⟨C2, eC2⟩ : ∃ C, w2.heap.size = C := ⟨_, rfl⟩
        obtain ⟨b2, eb2⟩ : ∃ b, V1.heap.size = b := ⟨_, rfl⟩
        rw [eb2] at hx1
        rw [eC2, eb2] at XM2
        rw [eC2]
        clear hV2 eC2 eb2 T4 OM BM B3 XA2
        have hrm := rmerge_any l q cc prev term es p2 c2 V2 FL.out HP.out T5.out.ld.e T5.out.es (by omega)
        rw [HM.out] at hrm
        have HRM := Lib.hid hrm
        clear hrm
        have kD := T5.out.ld.cell
        go_wp2_with fail
        refine HRM.out.mono ?_; rintro r w3 ⟨qn, kn, rfl, en, bn⟩
        dsimp only at en ⊢
        have EN3 := Lib.hid en; have BN := Lib.hid bn
        have T6 := Lib.hid (T5.out.keep bn)
        have XA4 := Lib.hid (XA3.out.keep bn)
        have XM4 := Lib.hid (XM2.out.keep bn)
        clear en bn kD HRM T5 XA3 XM2
        go_upto_region 13 with fail
        obtain ⟨V3, hV3⟩ : ∃ V3, w3.alloc (.cells #[.int .i64 m.b, .int .i64 m.bt, .int .u16 m.j.ov, .int .u16 m.j.ox, .int .u16 m.j.ol, .int .i64 m.j.oe, .int .i64 m.j.ok, .int .u16 m.j.nv, .int .u16 m.j.nx, .int .u16 m.j.nl, .int .i64 m.j.ne, .int .i64 m.j.nk, .bool m.j.two, .slice qn m.es.length kn] 32) = V3 := ⟨_, rfl⟩
        have XN5 := Lib.hid (Lies.new EN3.out hV3)
        have XA5 := Lib.hid (XA4.out.keep (below_new _ _ hV3))
        have XM5 := Lib.hid (XM4.out.keep (below_new _ _ hV3))
        have T7 := Lib.hid (T6.out.keep (below_new _ _ hV3))
        have B7 := Lib.hid ((B5.out.trans (BN.out.mono B5.out.size)).trans ((below_new _ _ hV3).mono (B5.out.trans (BN.out.mono B5.out.size)).size))
        rw [hV3]
        obtain ⟨C3, eC3⟩ : ∃ C, w3.heap.size = C := ⟨_, rfl⟩
        rw [eC3] at XN5 ⊢
        clear hV3 eC3 T6 EN3 BN B5 XA4 XM4
        have hco := compact_any l (some ⟨G, 0, none⟩) (l.es.length + 2) tv V3 FL.out HTV.out T7.out.la.e
        rw [HCM.out] at hco
        have HCO := Lib.hid hco
        clear hco
        have kA := T7.out.la.cell
        go_wp2_with fail
        refine HCO.out.mono ?_; rintro r w4 ⟨qc, kc, rfl, oc, bc⟩
        dsimp only at oc ⊢
        have OC := Lib.hid oc; have BC := Lib.hid bc
        have T8 := Lib.hid (T7.out.keep bc)
        have XA6 := Lib.hid (XA5.out.keep bc)
        have XM6 := Lib.hid (XM5.out.keep bc)
        have XN6 := Lib.hid (XN5.out.keep bc)
        have hmV : C2 ≤ V3.heap.size := Nat.le_of_lt (block_lt XM5.out.h)
        clear oc bc kA HCO T7 XA5 XM5 XN5
        go_upto_region 14 with fail
        obtain ⟨V4, hV4⟩ : ∃ V4, w4.alloc (.cells #[.int .i64 cm.b, .int .i64 cm.bt, .int .u16 cm.j.ov, .int .u16 cm.j.ox, .int .u16 cm.j.ol, .int .i64 cm.j.oe, .int .i64 cm.j.ok, .int .u16 cm.j.nv, .int .u16 cm.j.nx, .int .u16 cm.j.nl, .int .i64 cm.j.ne, .int .i64 cm.j.nk, .bool cm.j.two, .slice qc cm.es.length kc] 32) = V4 := ⟨_, rfl⟩
        have XC7 := Lib.hid (BoxL.new B7.out.size BC.out OC.out hV4)
        have XA7 := Lib.hid (XA6.out.keep (below_new _ _ hV4))
        have XM7 := Lib.hid (XM6.out.keep (below_new _ _ hV4))
        have XN7 := Lib.hid (XN6.out.keep (below_new _ _ hV4))
        have T9 := Lib.hid (T8.out.keep (below_new _ _ hV4))
        have B9 := Lib.hid ((B7.out.trans (BC.out.mono B7.out.size)).trans ((below_new _ _ hV4).mono (B7.out.trans (BC.out.mono B7.out.size)).size))
        rw [hV4]
        obtain ⟨C4, eC4⟩ : ∃ C, w4.heap.size = C := ⟨_, rfl⟩
        obtain ⟨b4, eb4⟩ : ∃ b, V3.heap.size = b := ⟨_, rfl⟩
        rw [eb4] at hmV
        rw [eC4, eb4] at XC7
        rw [eC4]
        clear hV4 eC4 eb4 T8 OC BC B7 XA6 XM6 XN6
        have hrc := rcompact_any l q cc tv V4 FL.out HTV.out T9.out.ld.e
        rw [HCM.out] at hrc
        have HRC := Lib.hid hrc
        clear hrc
        have kD := T9.out.ld.cell
        go_wp2_with fail
        refine HRC.out.mono ?_; rintro r w5 ⟨qd, kd, rfl, od, bd⟩
        dsimp only at od ⊢
        have ED := Lib.hid (EnSl.of_own od); have BD := Lib.hid bd
        have T10 := Lib.hid (T9.out.keep bd)
        have XA8 := Lib.hid (XA7.out.keep bd)
        have XM8 := Lib.hid (XM7.out.keep bd)
        have XN8 := Lib.hid (XN7.out.keep bd)
        have XC8 := Lib.hid (XC7.out.keep bd)
        clear od bd kD HRC T9 XA7 XM7 XN7 XC7
        go_upto_region 15 with fail
        obtain ⟨V, hV5⟩ : ∃ V4, w5.alloc (.cells #[.int .i64 cm.b, .int .i64 cm.bt, .int .u16 cm.j.ov, .int .u16 cm.j.ox, .int .u16 cm.j.ol, .int .i64 cm.j.oe, .int .i64 cm.j.ok, .int .u16 cm.j.nv, .int .u16 cm.j.nx, .int .u16 cm.j.nl, .int .i64 cm.j.ne, .int .i64 cm.j.nk, .bool cm.j.two, .slice qd cm.es.length kd] 32) = V4 := ⟨_, rfl⟩
        have XD := Lib.hid (Lies.new ED.out hV5)
        have XA := Lib.hid (XA8.out.keep (below_new _ _ hV5))
        have XM := Lib.hid (XM8.out.keep (below_new _ _ hV5))
        have XN := Lib.hid (XN8.out.keep (below_new _ _ hV5))
        have XC := Lib.hid (XC8.out.keep (below_new _ _ hV5))
        have T := Lib.hid (T10.out.keep (below_new _ _ hV5))
        have BB := Lib.hid ((B9.out.trans (BD.out.mono B9.out.size)).trans ((below_new _ _ hV5).mono (B9.out.trans (BD.out.mono B9.out.size)).size))
        rw [hV5]
        obtain ⟨C5, eC5⟩ : ∃ C, w5.heap.size = C := ⟨_, rfl⟩
        rw [eC5] at XD ⊢
        clear hV5 eC5 T10 ED BD B9 XA8 XM8 XN8 XC8
        have PU : Hid (∀ w', Below V.heap.size V w' → Calls Try.prog 24 #[.agg #[.int .i64 l.b, .int .i64 l.bt, .int .u16 l.j.ov, .int .u16 l.j.ox, .int .u16 l.j.ol, .int .i64 l.j.oe, .int .i64 l.j.ok, .int .u16 l.j.nv, .int .u16 l.j.nx, .int .u16 l.j.nl, .int .i64 l.j.ne, .int .i64 l.j.nk, .bool l.j.two, .slice q l.es.length cc], .agg #[.int .i64 e.t, .int .i64 e.k, .string e.d, .int .u16 e.j.ov, .int .u16 e.j.ox, .int .u16 e.j.ol, .int .i64 e.j.oe, .int .i64 e.j.ok, .int .u16 e.j.nv, .int .u16 e.j.nx, .int .u16 e.j.nl, .int .i64 e.j.ne, .int .i64 e.j.nk, .bool e.j.two]] w' (LgEnd w'.heap.size w' a)) := fun w' h => by
          have := rpush_any l q cc e w' (T.out.keep h).ld.e (by omega); rw [HA.out] at this; exact this
        have SM : Hid (∀ w', Below V.heap.size V w' → Calls Try.prog 16 #[.agg #[.int .i64 m.b, .int .i64 m.bt, .int .u16 m.j.ov, .int .u16 m.j.ox, .int .u16 m.j.ol, .int .i64 m.j.oe, .int .i64 m.j.ok, .int .u16 m.j.nv, .int .u16 m.j.nx, .int .u16 m.j.nl, .int .i64 m.j.ne, .int .i64 m.j.nk, .bool m.j.two, .slice qm m.es.length km], .agg #[.int .i64 m.b, .int .i64 m.bt, .int .u16 m.j.ov, .int .u16 m.j.ox, .int .u16 m.j.ol, .int .i64 m.j.oe, .int .i64 m.j.ok, .int .u16 m.j.nv, .int .u16 m.j.nx, .int .u16 m.j.nl, .int .i64 m.j.ne, .int .i64 m.j.nk, .bool m.j.two, .slice qn m.es.length kn]] w' fun r w'' => r = .returned (.bool true) ∧ Below w'.heap.size w' w'') := fun w' h => by
          have := same_any m m qm qn km kn w' (by omega) (by omega) (XM.out.keep h).e (XN.out.keep h).e; rw [decide_eq_true (rfl : m = m)] at this; exact this
        have SC : Hid (∀ w', Below V.heap.size V w' → Calls Try.prog 16 #[.agg #[.int .i64 cm.b, .int .i64 cm.bt, .int .u16 cm.j.ov, .int .u16 cm.j.ox, .int .u16 cm.j.ol, .int .i64 cm.j.oe, .int .i64 cm.j.ok, .int .u16 cm.j.nv, .int .u16 cm.j.nx, .int .u16 cm.j.nl, .int .i64 cm.j.ne, .int .i64 cm.j.nk, .bool cm.j.two, .slice qc cm.es.length kc], .agg #[.int .i64 cm.b, .int .i64 cm.bt, .int .u16 cm.j.ov, .int .u16 cm.j.ox, .int .u16 cm.j.ol, .int .i64 cm.j.oe, .int .i64 cm.j.ok, .int .u16 cm.j.nv, .int .u16 cm.j.nx, .int .u16 cm.j.nl, .int .i64 cm.j.ne, .int .i64 cm.j.nk, .bool cm.j.two, .slice qd cm.es.length kd]] w' fun r w'' => r = .returned (.bool true) ∧ Below w'.heap.size w' w'') := fun w' h => by
          have := same_any cm cm qc qd kc kd w' (by omega) (by omega) (XC.out.keep h).e (XD.out.keep h).e; rw [decide_eq_true (rfl : cm = cm)] at this; exact this
        have SL : Hid (∀ w', Below V.heap.size V w' → Calls Try.prog 16 #[.agg #[.int .i64 l.b, .int .i64 l.bt, .int .u16 l.j.ov, .int .u16 l.j.ox, .int .u16 l.j.ol, .int .i64 l.j.oe, .int .i64 l.j.ok, .int .u16 l.j.nv, .int .u16 l.j.nx, .int .u16 l.j.nl, .int .i64 l.j.ne, .int .i64 l.j.nk, .bool l.j.two, .slice (some ⟨G, 0, none⟩) l.es.length (l.es.length + 2)], .agg #[.int .i64 l.b, .int .i64 l.bt, .int .u16 l.j.ov, .int .u16 l.j.ox, .int .u16 l.j.ol, .int .i64 l.j.oe, .int .i64 l.j.ok, .int .u16 l.j.nv, .int .u16 l.j.nx, .int .u16 l.j.nl, .int .i64 l.j.ne, .int .i64 l.j.nk, .bool l.j.two, .slice q l.es.length cc]] w' fun r w'' => r = .returned (.bool true) ∧ Below w'.heap.size w' w'') := fun w' h => by
          have := same_any l l (some ⟨G, 0, none⟩) q (l.es.length + 2) cc w' (by omega) (by omega) (T.out.keep h).la.e (T.out.keep h).ld.e; rw [decide_eq_true (rfl : l = l)] at this; exact this
        have h0 : Below V.heap.size V V.drew := (Below.refl _ _).drew
        have kA : ∀ w', Below V.heap.size V w' → ∀ j, w'.cell? ⟨A, j, none⟩ = #[.int .i64 l.b, .int .i64 l.bt, .int .u16 l.j.ov, .int .u16 l.j.ox, .int .u16 l.j.ol, .int .i64 l.j.oe, .int .i64 l.j.ok, .int .u16 l.j.nv, .int .u16 l.j.nx, .int .u16 l.j.nl, .int .i64 l.j.ne, .int .i64 l.j.nk, .bool l.j.two, .slice (some ⟨G, 0, none⟩) l.es.length (l.es.length + 2)][j]? := fun w' h => (T.out.keep h).la.cell
        have kE : ∀ w', Below V.heap.size V w' → ∀ j, w'.cell? ⟨A + 1, j, none⟩ = #[.int .i64 e.t, .int .i64 e.k, .string e.d, .int .u16 e.j.ov, .int .u16 e.j.ox, .int .u16 e.j.ol, .int .i64 e.j.oe, .int .i64 e.j.ok, .int .u16 e.j.nv, .int .u16 e.j.nx, .int .u16 e.j.nl, .int .i64 e.j.ne, .int .i64 e.j.nk, .bool e.j.two][j]? := fun w' h => block_cells (T.out.keep h).en
        have kD : ∀ w', Below V.heap.size V w' → ∀ j, w'.cell? ⟨D, j, none⟩ = #[.int .i64 l.b, .int .i64 l.bt, .int .u16 l.j.ov, .int .u16 l.j.ox, .int .u16 l.j.ol, .int .i64 l.j.oe, .int .i64 l.j.ok, .int .u16 l.j.nv, .int .u16 l.j.nx, .int .u16 l.j.nl, .int .i64 l.j.ne, .int .i64 l.j.nk, .bool l.j.two, .slice q l.es.length cc][j]? := fun w' h => (T.out.keep h).ld.cell
        have k1 : ∀ w', Below V.heap.size V w' → ∀ j, w'.cell? ⟨C1, j, none⟩ = #[.int .i64 a.b, .int .i64 a.bt, .int .u16 a.j.ov, .int .u16 a.j.ox, .int .u16 a.j.ol, .int .i64 a.j.oe, .int .i64 a.j.ok, .int .u16 a.j.nv, .int .u16 a.j.nx, .int .u16 a.j.nl, .int .i64 a.j.ne, .int .i64 a.j.nk, .bool a.j.two, .slice qa a.es.length ka][j]? := fun w' h => (XA.out.keep h).cell
        have k2 : ∀ w', Below V.heap.size V w' → ∀ j, w'.cell? ⟨C2, j, none⟩ = #[.int .i64 m.b, .int .i64 m.bt, .int .u16 m.j.ov, .int .u16 m.j.ox, .int .u16 m.j.ol, .int .i64 m.j.oe, .int .i64 m.j.ok, .int .u16 m.j.nv, .int .u16 m.j.nx, .int .u16 m.j.nl, .int .i64 m.j.ne, .int .i64 m.j.nk, .bool m.j.two, .slice qm m.es.length km][j]? := fun w' h => (XM.out.keep h).cell
        have k3 : ∀ w', Below V.heap.size V w' → ∀ j, w'.cell? ⟨C3, j, none⟩ = #[.int .i64 m.b, .int .i64 m.bt, .int .u16 m.j.ov, .int .u16 m.j.ox, .int .u16 m.j.ol, .int .i64 m.j.oe, .int .i64 m.j.ok, .int .u16 m.j.nv, .int .u16 m.j.nx, .int .u16 m.j.nl, .int .i64 m.j.ne, .int .i64 m.j.nk, .bool m.j.two, .slice qn m.es.length kn][j]? := fun w' h => (XN.out.keep h).cell
        have k4 : ∀ w', Below V.heap.size V w' → ∀ j, w'.cell? ⟨C4, j, none⟩ = #[.int .i64 cm.b, .int .i64 cm.bt, .int .u16 cm.j.ov, .int .u16 cm.j.ox, .int .u16 cm.j.ol, .int .i64 cm.j.oe, .int .i64 cm.j.ok, .int .u16 cm.j.nv, .int .u16 cm.j.nx, .int .u16 cm.j.nl, .int .i64 cm.j.ne, .int .i64 cm.j.nk, .bool cm.j.two, .slice qc cm.es.length kc][j]? := fun w' h => (XC.out.keep h).cell
        have k5 : ∀ w', Below V.heap.size V w' → ∀ j, w'.cell? ⟨C5, j, none⟩ = #[.int .i64 cm.b, .int .i64 cm.bt, .int .u16 cm.j.ov, .int .u16 cm.j.ox, .int .u16 cm.j.ol, .int .i64 cm.j.oe, .int .i64 cm.j.ok, .int .u16 cm.j.nv, .int .u16 cm.j.nx, .int .u16 cm.j.nl, .int .i64 cm.j.ne, .int .i64 cm.j.nk, .bool cm.j.two, .slice qd cm.es.length kd][j]? := fun w' h => (XD.out.keep h).cell
        have z0 : ∀ w', Below V.heap.size V w' → w'.cell? ⟨G, l.es.length * 14, none⟩ = some (.int .i64 0) := fun w' h => (T.out.keep h).sp 0 (by decide)
        have z1 : ∀ w', Below V.heap.size V w' → w'.cell? ⟨G, l.es.length * 14 + 1, none⟩ = some (.int .i64 0) := fun w' h => (T.out.keep h).sp 1 (by decide)
        have z2 : ∀ w', Below V.heap.size V w' → w'.cell? ⟨G, l.es.length * 14 + 2, none⟩ = some (.string ⟨#[]⟩) := fun w' h => (T.out.keep h).sp 2 (by decide)
        have z3 : ∀ w', Below V.heap.size V w' → w'.cell? ⟨G, l.es.length * 14 + 3, none⟩ = some (.int .u16 0) := fun w' h => (T.out.keep h).sp 3 (by decide)
        have z4 : ∀ w', Below V.heap.size V w' → w'.cell? ⟨G, l.es.length * 14 + 4, none⟩ = some (.int .u16 0) := fun w' h => (T.out.keep h).sp 4 (by decide)
        have z5 : ∀ w', Below V.heap.size V w' → w'.cell? ⟨G, l.es.length * 14 + 5, none⟩ = some (.int .u16 0) := fun w' h => (T.out.keep h).sp 5 (by decide)
        have z6 : ∀ w', Below V.heap.size V w' → w'.cell? ⟨G, l.es.length * 14 + 6, none⟩ = some (.int .i64 0) := fun w' h => (T.out.keep h).sp 6 (by decide)
        have z7 : ∀ w', Below V.heap.size V w' → w'.cell? ⟨G, l.es.length * 14 + 7, none⟩ = some (.int .i64 0) := fun w' h => (T.out.keep h).sp 7 (by decide)
        have z8 : ∀ w', Below V.heap.size V w' → w'.cell? ⟨G, l.es.length * 14 + 8, none⟩ = some (.int .u16 0) := fun w' h => (T.out.keep h).sp 8 (by decide)
        have z9 : ∀ w', Below V.heap.size V w' → w'.cell? ⟨G, l.es.length * 14 + 9, none⟩ = some (.int .u16 0) := fun w' h => (T.out.keep h).sp 9 (by decide)
        have z10 : ∀ w', Below V.heap.size V w' → w'.cell? ⟨G, l.es.length * 14 + 10, none⟩ = some (.int .u16 0) := fun w' h => (T.out.keep h).sp 10 (by decide)
        have z11 : ∀ w', Below V.heap.size V w' → w'.cell? ⟨G, l.es.length * 14 + 11, none⟩ = some (.int .i64 0) := fun w' h => (T.out.keep h).sp 11 (by decide)
        have z12 : ∀ w', Below V.heap.size V w' → w'.cell? ⟨G, l.es.length * 14 + 12, none⟩ = some (.int .i64 0) := fun w' h => (T.out.keep h).sp 12 (by decide)
        have z13 : ∀ w', Below V.heap.size V w' → w'.cell? ⟨G, l.es.length * 14 + 13, none⟩ = some (.bool false) := fun w' h => (T.out.keep h).sp 13 (by decide)
        have hqz : ∀ w, (binOp .neq 47 (.agg #[.int .i64 0, .int .i64 0, .string ⟨#[]⟩, .int .u16 0, .int .u16 0, .int .u16 0, .int .i64 0, .int .i64 0, .int .u16 0, .int .u16 0, .int .u16 0, .int .i64 0, .int .i64 0, .bool false]) (.agg #[.int .i64 0, .int .i64 0, .string ⟨#[]⟩, .int .u16 0, .int .u16 0, .int .u16 0, .int .i64 0, .int .i64 0, .int .u16 0, .int .u16 0, .int .u16 0, .int .i64 0, .int .i64 0, .bool false])).run Try.prog w = .ok (.bool false) w := fun _ => by kernel_rfl
        have hw1 : IntKind.i64.wrap ((l.es.length : Int) + 1) = (l.es.length : Int) + 1 := wrap_ok (by omega) (by omega)
        have hn1 : l.es.length + 1 ≤ l.es.length + 2 := by omega
        have hn2 : l.es.length < l.es.length + 1 := by omega
        have hge : 0 ≤ (l.es.length : Int) + 1 := by omega
        have hgt : (l.es.length : Int) < (l.es.length : Int) + 1 := by omega
        as_aux_lemma =>
          refine wp_region_noPanic ?_
          refine wp_region_held_drew (S := fun w' => Below V.heap.size V w') (by kernel_rfl) h0 (fun hHeld => ?_)
          refine wpAnyH_take (i := 0) (v := ?_) rfl (by kernel_rfl) (by kernel_rfl) (by kernel_rfl) (fun _ _ _ h => h) (Or.inl ⟨by rfl, ?_⟩) hHeld ?_
          rotate_left
          · (intro wz hSw; (try dsimp only at hSw); (try simp only [List.getElem_toArray, List.getElem_cons_zero]); go_simp; try with_reducible rfl)
          try simp only [List.getElem_toArray, List.getElem_cons_zero, Act.put, List.setIfInBounds_toArray, List.set_cons_zero, List.set_cons_succ]
          refine wpAnyH_take (i := 1) (v := ?_) rfl (by kernel_rfl) (by kernel_rfl) (by kernel_rfl) (fun _ _ _ h => h) (Or.inl ⟨by rfl, ?_⟩) hHeld ?_
          rotate_left
          · (intro wz hSw; (try dsimp only at hSw); (try simp only [List.getElem_toArray, List.getElem_cons_succ, List.getElem_cons_zero]); go_simp; try with_reducible rfl)
          try simp only [List.getElem_toArray, List.getElem_cons_succ, List.getElem_cons_zero, Act.put, List.setIfInBounds_toArray, List.set_cons_zero, List.set_cons_succ]
          refine wpAnyH_take (i := 2) (v := ?_) rfl (by kernel_rfl) (by kernel_rfl) (by kernel_rfl) (fun _ _ _ h => h) (Or.inl ⟨by rfl, ?_⟩) hHeld ?_
          rotate_left
          · (intro wz hSw; (try dsimp only at hSw); (try simp only [List.getElem_toArray, List.getElem_cons_succ, List.getElem_cons_zero]); go_simp; try with_reducible rfl)
          try simp only [List.getElem_toArray, List.getElem_cons_succ, List.getElem_cons_zero, Act.put, List.setIfInBounds_toArray, List.set_cons_zero, List.set_cons_succ]
          refine wpAnyH_ready (rs := [3]) (by kernel_rfl) (by simp) ?_; refine AllReadyH.cons rfl (fun K hK => ?_) AllReadyH.nil; (try simp only [List.getElem_toArray, List.getElem_cons_succ, List.getElem_cons_zero]); go_simp
          refine (PU.out _ h0).mono ?_; rintro r w11 ⟨qb, kb, rfl, ob, hb⟩
          have h1 := h0.trans (hb.mono h0.size)
          refine hK.out _ _ h1 (fun _ => ?_)
          clear hK K hHeld
          try simp only [List.getElem_toArray, List.getElem_cons_succ, List.getElem_cons_zero, Act.put, List.setIfInBounds_toArray, List.set_cons_zero, List.set_cons_succ]
          have hHeld := h1
          have SA : Hid (Calls Try.prog 16 #[.agg #[.int .i64 a.b, .int .i64 a.bt, .int .u16 a.j.ov, .int .u16 a.j.ox, .int .u16 a.j.ol, .int .i64 a.j.oe, .int .i64 a.j.ok, .int .u16 a.j.nv, .int .u16 a.j.nx, .int .u16 a.j.nl, .int .i64 a.j.ne, .int .i64 a.j.nk, .bool a.j.two, .slice qa a.es.length ka], .agg #[.int .i64 a.b, .int .i64 a.bt, .int .u16 a.j.ov, .int .u16 a.j.ox, .int .u16 a.j.ol, .int .i64 a.j.oe, .int .i64 a.j.ok, .int .u16 a.j.nv, .int .u16 a.j.nx, .int .u16 a.j.nl, .int .i64 a.j.ne, .int .i64 a.j.nk, .bool a.j.two, .slice qb a.es.length kb]] w11 fun r w'' => r = .returned (.bool true) ∧ Below w11.heap.size w11 w'') := by
            have := same_any a a qa qb ka kb w11 (by omega) (by omega) (XA.out.keep h1).e (EnSl.of_own ob); rw [decide_eq_true (rfl : a = a)] at this; exact this
          clear ob hb PU
          refine wpAnyH_ready (rs := [4]) (by kernel_rfl) (by simp) ?_; refine AllReadyH.cons rfl (fun K hK => ?_) AllReadyH.nil; (try simp only [List.getElem_toArray, List.getElem_cons_succ, List.getElem_cons_zero]); go_simp
          refine SA.out.mono ?_; rintro r w12 ⟨rfl, hb⟩
          have h2 := h1.trans (hb.mono h1.size)
          refine hK.out _ _ h2 (fun _ => ?_)
          clear hK K hHeld
          try simp only [List.getElem_toArray, List.getElem_cons_succ, List.getElem_cons_zero, Act.put, List.setIfInBounds_toArray, List.set_cons_zero, List.set_cons_succ]
          have hHeld := h2
          clear hb SA
          refine wpAnyH_take (i := 5) (v := ?_) rfl (by kernel_rfl) (by kernel_rfl) (by kernel_rfl) (fun _ _ _ h => h) (Or.inl ⟨by rfl, ?_⟩) hHeld ?_
          rotate_left
          · (intro wz hSw; (try dsimp only at hSw); (try simp only [List.getElem_toArray, List.getElem_cons_succ, List.getElem_cons_zero]); go_simp; try with_reducible rfl)
          try simp only [List.getElem_toArray, List.getElem_cons_succ, List.getElem_cons_zero, Act.put, List.setIfInBounds_toArray, List.set_cons_zero, List.set_cons_succ]
          refine wpAnyH_take (i := 6) (v := ?_) rfl (by kernel_rfl) (by kernel_rfl) (by kernel_rfl) (fun _ _ _ h => h) (Or.inl ⟨by rfl, ?_⟩) hHeld ?_
          rotate_left
          · (intro wz hSw; (try dsimp only at hSw); (try simp only [List.getElem_toArray, List.getElem_cons_succ, List.getElem_cons_zero]); go_simp; try with_reducible rfl)
          try simp only [List.getElem_toArray, List.getElem_cons_succ, List.getElem_cons_zero, Act.put, List.setIfInBounds_toArray, List.set_cons_zero, List.set_cons_succ]
          refine wpAnyH_take (i := 7) (v := ?_) rfl (by kernel_rfl) (by kernel_rfl) (by kernel_rfl) (fun _ _ _ h => h) (Or.inl ⟨by rfl, ?_⟩) hHeld ?_
          rotate_left
          · (intro wz hSw; (try dsimp only at hSw); (try simp only [List.getElem_toArray, List.getElem_cons_succ, List.getElem_cons_zero]); go_simp; try with_reducible rfl)
          try simp only [List.getElem_toArray, List.getElem_cons_succ, List.getElem_cons_zero, Act.put, List.setIfInBounds_toArray, List.set_cons_zero, List.set_cons_succ]
          refine wpAnyH_take (i := 8) (v := ?_) rfl (by kernel_rfl) (by kernel_rfl) (by kernel_rfl) (fun _ _ _ h => h) (Or.inl ⟨by rfl, ?_⟩) hHeld ?_
          rotate_left
          · (intro wz hSw; (try dsimp only at hSw); (try simp only [List.getElem_toArray, List.getElem_cons_succ, List.getElem_cons_zero]); go_simp; try with_reducible rfl)
          try simp only [List.getElem_toArray, List.getElem_cons_succ, List.getElem_cons_zero, Act.put, List.setIfInBounds_toArray, List.set_cons_zero, List.set_cons_succ]
          refine wpAnyH_ready (rs := [9]) (by kernel_rfl) (by simp) ?_; refine AllReadyH.cons rfl (fun K hK => ?_) AllReadyH.nil; (try simp only [List.getElem_toArray, List.getElem_cons_succ, List.getElem_cons_zero]); go_simp
          refine (SM.out _ h2).mono ?_; rintro r w13 ⟨rfl, hb⟩
          have h3 := h2.trans (hb.mono h2.size)
          refine hK.out _ _ h3 (fun _ => ?_)
          clear hK K hHeld
          try simp only [List.getElem_toArray, List.getElem_cons_succ, List.getElem_cons_zero, Act.put, List.setIfInBounds_toArray, List.set_cons_zero, List.set_cons_succ]
          have hHeld := h3
          as_aux_lemma =>
            clear hb SM
            refine wpAnyH_take (i := 10) (v := ?_) rfl (by kernel_rfl) (by kernel_rfl) (by kernel_rfl) (fun _ _ _ h => h) (Or.inl ⟨by rfl, ?_⟩) hHeld ?_
            rotate_left
            · (intro wz hSw; (try dsimp only at hSw); (try simp only [List.getElem_toArray, List.getElem_cons_succ, List.getElem_cons_zero]); go_simp; try with_reducible rfl)
            try simp only [List.getElem_toArray, List.getElem_cons_succ, List.getElem_cons_zero, Act.put, List.setIfInBounds_toArray, List.set_cons_zero, List.set_cons_succ]
            refine wpAnyH_take (i := 11) (v := ?_) rfl (by kernel_rfl) (by kernel_rfl) (by kernel_rfl) (fun _ _ _ h => h) (Or.inl ⟨by rfl, ?_⟩) hHeld ?_
            rotate_left
            · (intro wz hSw; (try dsimp only at hSw); (try simp only [List.getElem_toArray, List.getElem_cons_succ, List.getElem_cons_zero]); go_simp; try with_reducible rfl)
            try simp only [List.getElem_toArray, List.getElem_cons_succ, List.getElem_cons_zero, Act.put, List.setIfInBounds_toArray, List.set_cons_zero, List.set_cons_succ]
            refine wpAnyH_take (i := 12) (v := ?_) rfl (by kernel_rfl) (by kernel_rfl) (by kernel_rfl) (fun _ _ _ h => h) (Or.inl ⟨by rfl, ?_⟩) hHeld ?_
            rotate_left
            · (intro wz hSw; (try dsimp only at hSw); (try simp only [List.getElem_toArray, List.getElem_cons_succ, List.getElem_cons_zero]); go_simp; try with_reducible rfl)
            try simp only [List.getElem_toArray, List.getElem_cons_succ, List.getElem_cons_zero, Act.put, List.setIfInBounds_toArray, List.set_cons_zero, List.set_cons_succ]
            refine wpAnyH_take (i := 13) (v := ?_) rfl (by kernel_rfl) (by kernel_rfl) (by kernel_rfl) (fun _ _ _ h => h) (Or.inl ⟨by rfl, ?_⟩) hHeld ?_
            rotate_left
            · (intro wz hSw; (try dsimp only at hSw); (try simp only [List.getElem_toArray, List.getElem_cons_succ, List.getElem_cons_zero]); go_simp; try with_reducible rfl)
            try simp only [List.getElem_toArray, List.getElem_cons_succ, List.getElem_cons_zero, Act.put, List.setIfInBounds_toArray, List.set_cons_zero, List.set_cons_succ]
            refine wpAnyH_take (i := 14) (v := ?_) rfl (by kernel_rfl) (by kernel_rfl) (by kernel_rfl) (fun _ _ _ h => h) (Or.inl ⟨by rfl, ?_⟩) hHeld ?_
            rotate_left
            · (intro wz hSw; (try dsimp only at hSw); (try simp only [List.getElem_toArray, List.getElem_cons_succ, List.getElem_cons_zero]); go_simp; try with_reducible rfl)
            try simp only [List.getElem_toArray, List.getElem_cons_succ, List.getElem_cons_zero, Act.put, List.setIfInBounds_toArray, List.set_cons_zero, List.set_cons_succ]
            refine wpAnyH_take (i := 15) (v := ?_) rfl (by kernel_rfl) (by kernel_rfl) (by kernel_rfl) (fun _ _ _ h => h) (Or.inl ⟨by rfl, ?_⟩) hHeld ?_
            rotate_left
            · (intro wz hSw; (try dsimp only at hSw); (try simp only [List.getElem_toArray, List.getElem_cons_succ, List.getElem_cons_zero]); go_simp; try with_reducible rfl)
            try simp only [List.getElem_toArray, List.getElem_cons_succ, List.getElem_cons_zero, Act.put, List.setIfInBounds_toArray, List.set_cons_zero, List.set_cons_succ]
            refine wpAnyH_take (i := 16) (v := ?_) rfl (by kernel_rfl) (by kernel_rfl) (by kernel_rfl) (fun _ _ _ h => h) (Or.inl ⟨by rfl, ?_⟩) hHeld ?_
            rotate_left
            · (intro wz hSw; (try dsimp only at hSw); (try simp only [List.getElem_toArray, List.getElem_cons_succ, List.getElem_cons_zero]); go_simp; try with_reducible rfl)
            try simp only [List.getElem_toArray, List.getElem_cons_succ, List.getElem_cons_zero, Act.put, List.setIfInBounds_toArray, List.set_cons_zero, List.set_cons_succ]
            refine wpAnyH_take (i := 17) (v := ?_) rfl (by kernel_rfl) (by kernel_rfl) (by kernel_rfl) (fun _ _ _ h => h) (Or.inl ⟨by rfl, ?_⟩) hHeld ?_
            rotate_left
            · (intro wz hSw; (try dsimp only at hSw); (try simp only [List.getElem_toArray, List.getElem_cons_succ, List.getElem_cons_zero]); go_simp; try with_reducible rfl)
            try simp only [List.getElem_toArray, List.getElem_cons_succ, List.getElem_cons_zero, Act.put, List.setIfInBounds_toArray, List.set_cons_zero, List.set_cons_succ]
            refine wpAnyH_take (i := 18) (v := ?_) rfl (by kernel_rfl) (by kernel_rfl) (by kernel_rfl) (fun _ _ _ h => h) (Or.inl ⟨by rfl, ?_⟩) hHeld ?_
            rotate_left
            · (intro wz hSw; (try dsimp only at hSw); (try simp only [List.getElem_toArray, List.getElem_cons_succ, List.getElem_cons_zero]); go_simp; try with_reducible rfl)
            try simp only [List.getElem_toArray, List.getElem_cons_succ, List.getElem_cons_zero, Act.put, List.setIfInBounds_toArray, List.set_cons_zero, List.set_cons_succ]
            refine wpAnyH_take (i := 19) (v := ?_) rfl (by kernel_rfl) (by kernel_rfl) (by kernel_rfl) (fun _ _ _ h => h) (Or.inl ⟨by rfl, ?_⟩) hHeld ?_
            rotate_left
            · (intro wz hSw; (try dsimp only at hSw); (try simp only [List.getElem_toArray, List.getElem_cons_succ, List.getElem_cons_zero]); go_simp; try with_reducible rfl)
            try simp only [List.getElem_toArray, List.getElem_cons_succ, List.getElem_cons_zero, Act.put, List.setIfInBounds_toArray, List.set_cons_zero, List.set_cons_succ]
            refine wpAnyH_take (i := 20) (v := ?_) rfl (by kernel_rfl) (by kernel_rfl) (by kernel_rfl) (fun _ _ _ h => h) (Or.inl ⟨by rfl, ?_⟩) hHeld ?_
            rotate_left
            · (intro wz hSw; (try dsimp only at hSw); (try simp only [List.getElem_toArray, List.getElem_cons_succ, List.getElem_cons_zero]); go_simp; try with_reducible rfl)
            try simp only [List.getElem_toArray, List.getElem_cons_succ, List.getElem_cons_zero, Act.put, List.setIfInBounds_toArray, List.set_cons_zero, List.set_cons_succ]
            refine wpAnyH_take (i := 21) (v := ?_) rfl (by kernel_rfl) (by kernel_rfl) (by kernel_rfl) (fun _ _ _ h => h) (Or.inl ⟨by rfl, ?_⟩) hHeld ?_
            rotate_left
            · (intro wz hSw; (try dsimp only at hSw); (try simp only [List.getElem_toArray, List.getElem_cons_succ, List.getElem_cons_zero]); go_simp; try with_reducible rfl)
            try simp only [List.getElem_toArray, List.getElem_cons_succ, List.getElem_cons_zero, Act.put, List.setIfInBounds_toArray, List.set_cons_zero, List.set_cons_succ]
            refine wpAnyH_take (i := 22) (v := ?_) rfl (by kernel_rfl) (by kernel_rfl) (by kernel_rfl) (fun _ _ _ h => h) (Or.inl ⟨by rfl, ?_⟩) hHeld ?_
            rotate_left
            · (intro wz hSw; (try dsimp only at hSw); (try simp only [List.getElem_toArray, List.getElem_cons_succ, List.getElem_cons_zero]); go_simp; try with_reducible rfl)
            try simp only [List.getElem_toArray, List.getElem_cons_succ, List.getElem_cons_zero, Act.put, List.setIfInBounds_toArray, List.set_cons_zero, List.set_cons_succ]
            refine wpAnyH_take (i := 23) (v := ?_) rfl (by kernel_rfl) (by kernel_rfl) (by kernel_rfl) (fun _ _ _ h => h) (Or.inl ⟨by rfl, ?_⟩) hHeld ?_
            rotate_left
            · (intro wz hSw; (try dsimp only at hSw); (try simp only [List.getElem_toArray, List.getElem_cons_succ, List.getElem_cons_zero]); go_simp; try with_reducible rfl)
            try simp only [List.getElem_toArray, List.getElem_cons_succ, List.getElem_cons_zero, Act.put, List.setIfInBounds_toArray, List.set_cons_zero, List.set_cons_succ]
            refine wpAnyH_take (i := 24) (v := ?_) rfl (by kernel_rfl) (by kernel_rfl) (by kernel_rfl) (fun _ _ _ h => h) (Or.inl ⟨by rfl, ?_⟩) hHeld ?_
            rotate_left
            · (intro wz hSw; (try dsimp only at hSw); (try simp only [List.getElem_toArray, List.getElem_cons_succ, List.getElem_cons_zero]); go_simp; try with_reducible rfl)
            try simp only [List.getElem_toArray, List.getElem_cons_succ, List.getElem_cons_zero, Act.put, List.setIfInBounds_toArray, List.set_cons_zero, List.set_cons_succ]
            refine wpAnyH_ready (rs := [25]) (by kernel_rfl) (by simp) ?_; refine AllReadyH.cons rfl (fun K hK => ?_) AllReadyH.nil; (try simp only [List.getElem_toArray, List.getElem_cons_succ, List.getElem_cons_zero]); go_simp
            refine (SC.out _ h3).mono ?_; rintro r w14 ⟨rfl, hb⟩
            have h4 := h3.trans (hb.mono h3.size)
            refine hK.out _ _ h4 (fun _ => ?_)
            clear hK K hHeld
            try simp only [List.getElem_toArray, List.getElem_cons_succ, List.getElem_cons_zero, Act.put, List.setIfInBounds_toArray, List.set_cons_zero, List.set_cons_succ]
            have hHeld := h4
            as_aux_lemma =>
              clear hb SC
              refine wpAnyH_take (i := 26) (v := ?_) rfl (by kernel_rfl) (by kernel_rfl) (by kernel_rfl) (fun _ _ _ h => h) (Or.inl ⟨by rfl, ?_⟩) hHeld ?_
              rotate_left
              · (intro wz hSw; (try dsimp only at hSw); (try simp only [List.getElem_toArray, List.getElem_cons_succ, List.getElem_cons_zero]); go_simp; try with_reducible rfl)
              try simp only [List.getElem_toArray, List.getElem_cons_succ, List.getElem_cons_zero, Act.put, List.setIfInBounds_toArray, List.set_cons_zero, List.set_cons_succ]
              refine wpAnyH_take (i := 27) (v := ?_) rfl (by kernel_rfl) (by kernel_rfl) (by kernel_rfl) (fun _ _ _ h => h) (Or.inl ⟨by rfl, ?_⟩) hHeld ?_
              rotate_left
              · (intro wz hSw; (try dsimp only at hSw); (try simp only [List.getElem_toArray, List.getElem_cons_succ, List.getElem_cons_zero]); go_simp; try with_reducible rfl)
              try simp only [List.getElem_toArray, List.getElem_cons_succ, List.getElem_cons_zero, Act.put, List.setIfInBounds_toArray, List.set_cons_zero, List.set_cons_succ]
              refine wpAnyH_take (i := 28) (v := ?_) rfl (by kernel_rfl) (by kernel_rfl) (by kernel_rfl) (fun _ _ _ h => h) (Or.inl ⟨by rfl, ?_⟩) hHeld ?_
              rotate_left
              · (intro wz hSw; (try dsimp only at hSw); (try simp only [List.getElem_toArray, List.getElem_cons_succ, List.getElem_cons_zero]); go_simp; try with_reducible rfl)
              try simp only [List.getElem_toArray, List.getElem_cons_succ, List.getElem_cons_zero, Act.put, List.setIfInBounds_toArray, List.set_cons_zero, List.set_cons_succ]
              refine wpAnyH_take (i := 29) (v := ?_) rfl (by kernel_rfl) (by kernel_rfl) (by kernel_rfl) (fun _ _ _ h => h) (Or.inl ⟨by rfl, ?_⟩) hHeld ?_
              rotate_left
              · (intro wz hSw; (try dsimp only at hSw); (try simp only [List.getElem_toArray, List.getElem_cons_succ, List.getElem_cons_zero]); go_simp; try with_reducible rfl)
              try simp only [List.getElem_toArray, List.getElem_cons_succ, List.getElem_cons_zero, Act.put, List.setIfInBounds_toArray, List.set_cons_zero, List.set_cons_succ]
              refine wpAnyH_take (i := 30) (v := ?_) rfl (by kernel_rfl) (by kernel_rfl) (by kernel_rfl) (fun _ _ _ h => h) (Or.inl ⟨by rfl, ?_⟩) hHeld ?_
              rotate_left
              · (intro wz hSw; (try dsimp only at hSw); (try simp only [List.getElem_toArray, List.getElem_cons_succ, List.getElem_cons_zero]); go_simp; try with_reducible rfl)
              try simp only [List.getElem_toArray, List.getElem_cons_succ, List.getElem_cons_zero, Act.put, List.setIfInBounds_toArray, List.set_cons_zero, List.set_cons_succ]
              refine wpAnyH_take (i := 31) (v := ?_) rfl (by kernel_rfl) (by kernel_rfl) (by kernel_rfl) (fun _ _ _ h => h) (Or.inl ⟨by rfl, ?_⟩) hHeld ?_
              rotate_left
              · (intro wz hSw; (try dsimp only at hSw); (try simp only [List.getElem_toArray, List.getElem_cons_succ, List.getElem_cons_zero]); go_simp; try with_reducible rfl)
              try simp only [List.getElem_toArray, List.getElem_cons_succ, List.getElem_cons_zero, Act.put, List.setIfInBounds_toArray, List.set_cons_zero, List.set_cons_succ]
              refine wpAnyH_take (i := 32) (v := ?_) rfl (by kernel_rfl) (by kernel_rfl) (by kernel_rfl) (fun _ _ _ h => h) (Or.inl ⟨by rfl, ?_⟩) hHeld ?_
              rotate_left
              · (intro wz hSw; (try dsimp only at hSw); (try simp only [List.getElem_toArray, List.getElem_cons_succ, List.getElem_cons_zero]); go_simp; try with_reducible rfl)
              try simp only [List.getElem_toArray, List.getElem_cons_succ, List.getElem_cons_zero, Act.put, List.setIfInBounds_toArray, List.set_cons_zero, List.set_cons_succ]
              refine wpAnyH_take (i := 33) (v := ?_) rfl (by kernel_rfl) (by kernel_rfl) (by kernel_rfl) (fun _ _ _ h => h) (Or.inl ⟨by rfl, ?_⟩) hHeld ?_
              rotate_left
              · (intro wz hSw; (try dsimp only at hSw); (try simp only [List.getElem_toArray, List.getElem_cons_succ, List.getElem_cons_zero]); go_simp; try with_reducible rfl)
              try simp only [List.getElem_toArray, List.getElem_cons_succ, List.getElem_cons_zero, Act.put, List.setIfInBounds_toArray, List.set_cons_zero, List.set_cons_succ]
              refine wpAnyH_take (i := 34) (v := ?_) rfl (by kernel_rfl) (by kernel_rfl) (by kernel_rfl) (fun _ _ _ h => h) (Or.inl ⟨by rfl, ?_⟩) hHeld ?_
              rotate_left
              · (intro wz hSw; (try dsimp only at hSw); (try simp only [List.getElem_toArray, List.getElem_cons_succ, List.getElem_cons_zero]); go_simp; try with_reducible rfl)
              try simp only [List.getElem_toArray, List.getElem_cons_succ, List.getElem_cons_zero, Act.put, List.setIfInBounds_toArray, List.set_cons_zero, List.set_cons_succ]
              refine wpAnyH_take (i := 35) (v := ?_) rfl (by kernel_rfl) (by kernel_rfl) (by kernel_rfl) (fun _ _ _ h => h) (Or.inl ⟨by rfl, ?_⟩) hHeld ?_
              rotate_left
              · (intro wz hSw; (try dsimp only at hSw); (try simp only [List.getElem_toArray, List.getElem_cons_succ, List.getElem_cons_zero]); go_simp; try with_reducible rfl)
              try simp only [List.getElem_toArray, List.getElem_cons_succ, List.getElem_cons_zero, Act.put, List.setIfInBounds_toArray, List.set_cons_zero, List.set_cons_succ]
              refine wpAnyH_ready (rs := [36]) (by kernel_rfl) (by simp) ?_; refine AllReadyH.cons rfl (fun K hK => ?_) AllReadyH.nil; (try simp only [List.getElem_toArray, List.getElem_cons_succ, List.getElem_cons_zero]); go_simp
              refine (SL.out _ h4).mono ?_; rintro r w15 ⟨rfl, hb⟩
              have h5 := h4.trans (hb.mono h4.size)
              refine hK.out _ _ h5 (fun _ => ?_)
              clear hK K hHeld
              try simp only [List.getElem_toArray, List.getElem_cons_succ, List.getElem_cons_zero, Act.put, List.setIfInBounds_toArray, List.set_cons_zero, List.set_cons_succ]
              have hHeld := h5
              as_aux_lemma =>
                clear hb SL
                refine wpAnyH_take (i := 37) (v := ?_) rfl (by kernel_rfl) (by kernel_rfl) (by kernel_rfl) (fun _ _ _ h => h) (Or.inl ⟨by rfl, ?_⟩) hHeld ?_
                rotate_left
                · (intro wz hSw; (try dsimp only at hSw); (try simp only [List.getElem_toArray, List.getElem_cons_succ, List.getElem_cons_zero]); go_simp; try with_reducible rfl)
                try simp only [List.getElem_toArray, List.getElem_cons_succ, List.getElem_cons_zero, Act.put, List.setIfInBounds_toArray, List.set_cons_zero, List.set_cons_succ]
                refine wpAnyH_take (i := 38) (v := ?_) rfl (by kernel_rfl) (by kernel_rfl) (by kernel_rfl) (fun _ _ _ h => h) (Or.inl ⟨by rfl, ?_⟩) hHeld ?_
                rotate_left
                · (intro wz hSw; (try dsimp only at hSw); (try simp only [List.getElem_toArray, List.getElem_cons_succ, List.getElem_cons_zero]); go_simp; try with_reducible rfl)
                try simp only [List.getElem_toArray, List.getElem_cons_succ, List.getElem_cons_zero, Act.put, List.setIfInBounds_toArray, List.set_cons_zero, List.set_cons_succ]
                refine wpAnyH_take (i := 39) (v := ?_) rfl (by kernel_rfl) (by kernel_rfl) (by kernel_rfl) (fun _ _ _ h => h) (Or.inl ⟨by rfl, ?_⟩) hHeld ?_
                rotate_left
                · (intro wz hSw; (try dsimp only at hSw); (try simp only [List.getElem_toArray, List.getElem_cons_succ, List.getElem_cons_zero]); go_simp; try with_reducible rfl)
                try simp only [List.getElem_toArray, List.getElem_cons_succ, List.getElem_cons_zero, Act.put, List.setIfInBounds_toArray, List.set_cons_zero, List.set_cons_succ]
                refine wpAnyH_take (i := 40) (v := ?_) rfl (by kernel_rfl) (by kernel_rfl) (by kernel_rfl) (fun _ _ _ h => h) (Or.inl ⟨by rfl, ?_⟩) hHeld ?_
                rotate_left
                · (intro wz hSw; (try dsimp only at hSw); (try simp only [List.getElem_toArray, List.getElem_cons_succ, List.getElem_cons_zero]); go_simp; try with_reducible rfl)
                try simp only [List.getElem_toArray, List.getElem_cons_succ, List.getElem_cons_zero, Act.put, List.setIfInBounds_toArray, List.set_cons_zero, List.set_cons_succ]
                refine wpAnyH_take (i := 41) (v := ?_) rfl (by kernel_rfl) (by kernel_rfl) (by kernel_rfl) (fun _ _ _ h => h) (Or.inl ⟨by rfl, ?_⟩) hHeld ?_
                rotate_left
                · (intro wz hSw; (try dsimp only at hSw); (try simp only [List.getElem_toArray, List.getElem_cons_succ, List.getElem_cons_zero]); go_simp; try with_reducible rfl)
                try simp only [List.getElem_toArray, List.getElem_cons_succ, List.getElem_cons_zero, Act.put, List.setIfInBounds_toArray, List.set_cons_zero, List.set_cons_succ]
                refine wpAnyH_take (i := 42) (v := ?_) rfl (by kernel_rfl) (by kernel_rfl) (by kernel_rfl) (fun _ _ _ h => h) (Or.inl ⟨by rfl, ?_⟩) hHeld ?_
                rotate_left
                · (intro wz hSw; (try dsimp only at hSw); (try simp only [List.getElem_toArray, List.getElem_cons_succ, List.getElem_cons_zero]); go_simp; try with_reducible rfl)
                try simp only [List.getElem_toArray, List.getElem_cons_succ, List.getElem_cons_zero, Act.put, List.setIfInBounds_toArray, List.set_cons_zero, List.set_cons_succ]
                refine wpAnyH_take (i := 43) (v := ?_) rfl (by kernel_rfl) (by kernel_rfl) (by kernel_rfl) (fun _ _ _ h => h) (Or.inl ⟨by rfl, ?_⟩) hHeld ?_
                rotate_left
                · (intro wz hSw; (try dsimp only at hSw); (try simp only [List.getElem_toArray, List.getElem_cons_succ, List.getElem_cons_zero]); go_simp; try with_reducible rfl)
                try simp only [List.getElem_toArray, List.getElem_cons_succ, List.getElem_cons_zero, Act.put, List.setIfInBounds_toArray, List.set_cons_zero, List.set_cons_succ]
                refine wpAnyH_take (i := 44) (v := ?_) rfl (by kernel_rfl) (by kernel_rfl) (by kernel_rfl) (fun _ _ _ h => h) (Or.inl ⟨by rfl, ?_⟩) hHeld ?_
                rotate_left
                · (intro wz hSw; (try dsimp only at hSw); (try simp only [List.getElem_toArray, List.getElem_cons_succ, List.getElem_cons_zero]); go_simp; try with_reducible rfl)
                try simp only [List.getElem_toArray, List.getElem_cons_succ, List.getElem_cons_zero, Act.put, List.setIfInBounds_toArray, List.set_cons_zero, List.set_cons_succ]
                refine wpAnyH_take (i := 45) (v := ?_) rfl (by kernel_rfl) (by kernel_rfl) (by kernel_rfl) (fun _ _ _ h => h) (Or.inl ⟨by rfl, ?_⟩) hHeld ?_
                rotate_left
                · (intro wz hSw; (try dsimp only at hSw); (try simp only [List.getElem_toArray, List.getElem_cons_succ, List.getElem_cons_zero]); go_simp; try with_reducible rfl)
                try simp only [List.getElem_toArray, List.getElem_cons_succ, List.getElem_cons_zero, Act.put, List.setIfInBounds_toArray, List.set_cons_zero, List.set_cons_succ]
                refine wpAnyH_take (i := 46) (v := ?_) rfl (by kernel_rfl) (by kernel_rfl) (by kernel_rfl) (fun _ _ _ h => h) (Or.inl ⟨by rfl, ?_⟩) hHeld ?_
                rotate_left
                · (intro wz hSw; (try dsimp only at hSw); (try simp only [List.getElem_toArray, List.getElem_cons_succ, List.getElem_cons_zero]); go_simp; try with_reducible rfl)
                try simp only [List.getElem_toArray, List.getElem_cons_succ, List.getElem_cons_zero, Act.put, List.setIfInBounds_toArray, List.set_cons_zero, List.set_cons_succ]
                refine wpAnyH_take (i := 47) (v := ?_) rfl (by kernel_rfl) (by kernel_rfl) (by kernel_rfl) (fun _ _ _ h => h) (Or.inl ⟨by rfl, ?_⟩) hHeld ?_
                rotate_left
                · (intro wz hSw; (try dsimp only at hSw); (try simp only [List.getElem_toArray, List.getElem_cons_succ, List.getElem_cons_zero]); go_simp; try with_reducible rfl)
                try simp only [List.getElem_toArray, List.getElem_cons_succ, List.getElem_cons_zero, Act.put, List.setIfInBounds_toArray, List.set_cons_zero, List.set_cons_succ]
                refine wpAnyH_take (i := 48) (v := ?_) rfl (by kernel_rfl) (by kernel_rfl) (by kernel_rfl) (fun _ _ _ h => h) (Or.inl ⟨by rfl, ?_⟩) hHeld ?_
                rotate_left
                · (intro wz hSw; (try dsimp only at hSw); (try simp only [List.getElem_toArray, List.getElem_cons_succ, List.getElem_cons_zero]); go_simp; try with_reducible rfl)
                try simp only [List.getElem_toArray, List.getElem_cons_succ, List.getElem_cons_zero, Act.put, List.setIfInBounds_toArray, List.set_cons_zero, List.set_cons_succ]
                refine wpAnyH_take (i := 49) (v := ?_) rfl (by kernel_rfl) (by kernel_rfl) (by kernel_rfl) (fun _ _ _ h => h) (Or.inl ⟨by rfl, ?_⟩) hHeld ?_
                rotate_left
                · (intro wz hSw; (try dsimp only at hSw); (try simp only [List.getElem_toArray, List.getElem_cons_succ, List.getElem_cons_zero]); go_simp; try with_reducible rfl)
                try simp only [List.getElem_toArray, List.getElem_cons_succ, List.getElem_cons_zero, Act.put, List.setIfInBounds_toArray, List.set_cons_zero, List.set_cons_succ]
                refine wpAnyH_take (i := 50) (v := ?_) rfl (by kernel_rfl) (by kernel_rfl) (by kernel_rfl) (fun _ _ _ h => h) (Or.inl ⟨by rfl, ?_⟩) hHeld ?_
                rotate_left
                · (intro wz hSw; (try dsimp only at hSw); (try simp only [List.getElem_toArray, List.getElem_cons_succ, List.getElem_cons_zero]); go_simp; try with_reducible rfl)
                try simp only [List.getElem_toArray, List.getElem_cons_succ, List.getElem_cons_zero, Act.put, List.setIfInBounds_toArray, List.set_cons_zero, List.set_cons_succ]
                refine wpAnyH_take (i := 51) (v := ?_) rfl (by kernel_rfl) (by kernel_rfl) (by kernel_rfl) (fun _ _ _ h => h) (Or.inl ⟨by rfl, ?_⟩) hHeld ?_
                rotate_left
                · (intro wz hSw; (try dsimp only at hSw); (try simp only [List.getElem_toArray, List.getElem_cons_succ, List.getElem_cons_zero]); go_simp; try with_reducible rfl)
                try simp only [List.getElem_toArray, List.getElem_cons_succ, List.getElem_cons_zero, Act.put, List.setIfInBounds_toArray, List.set_cons_zero, List.set_cons_succ]
                refine wpAnyH_take (i := 52) (v := ?_) rfl (by kernel_rfl) (by kernel_rfl) (by kernel_rfl) (fun _ _ _ h => h) (Or.inl ⟨by rfl, ?_⟩) hHeld ?_
                rotate_left
                · (intro wz hSw; (try dsimp only at hSw); (try simp only [List.getElem_toArray, List.getElem_cons_succ, List.getElem_cons_zero]); go_simp; try with_reducible rfl)
                try simp only [List.getElem_toArray, List.getElem_cons_succ, List.getElem_cons_zero, Act.put, List.setIfInBounds_toArray, List.set_cons_zero, List.set_cons_succ]
                refine wpAnyH_take (i := 53) (v := ?_) rfl (by kernel_rfl) (by kernel_rfl) (by kernel_rfl) (fun _ _ _ h => h) (Or.inl ⟨by rfl, ?_⟩) hHeld ?_
                rotate_left
                · (intro wz hSw; (try dsimp only at hSw); (try simp only [List.getElem_toArray, List.getElem_cons_succ, List.getElem_cons_zero]); go_simp; try with_reducible rfl)
                try simp only [List.getElem_toArray, List.getElem_cons_succ, List.getElem_cons_zero, Act.put, List.setIfInBounds_toArray, List.set_cons_zero, List.set_cons_succ]
                refine wpAnyH_take (i := 54) (v := ?_) rfl (by kernel_rfl) (by kernel_rfl) (by kernel_rfl) (fun _ _ _ h => h) (Or.inl ⟨by rfl, ?_⟩) hHeld ?_
                rotate_left
                · (intro wz hSw; (try dsimp only at hSw); (try simp only [List.getElem_toArray, List.getElem_cons_succ, List.getElem_cons_zero]); go_simp; try with_reducible rfl)
                try simp only [List.getElem_toArray, List.getElem_cons_succ, List.getElem_cons_zero, Act.put, List.setIfInBounds_toArray, List.set_cons_zero, List.set_cons_succ]
                refine wpAnyH_done (by kernel_rfl) ?_ _
                refine NoPanic.normal ?_
                have YA := Lib.hid (XA.out.keep h5)
                have YM := Lib.hid (XM.out.keep h5)
                have YC := Lib.hid (XC.out.keep h5)
                have BZ := Lib.hid (BB.out.trans (h5.mono BB.out.size))
                have hcb : C1 ≤ b2 ∧ C1 ≤ b4 ∧ C2 ≤ b4 := by have := XM.out.b; omega
                clear kA kE kD k1 k2 k3 k4 k5 z0 z1 z2 z3 z4 z5 z6 z7 z8 z9 z10 z11 z12 z13 hqz hw1 hn1 hn2 hge hgt XA XM XN XC XD T BB h0 h1 h2 h3 h4 h5 hHeld
                as_aux_lemma =>
                  have k1 := YA.out.cell
                  have HW1 := Lib.hid (wipe_any a qa ka _ w15 (by omega) YA.out.o)
                  go_wp2_with fail
                  refine HW1.out.mono ?_; rintro r Z1 ⟨rfl, hg1⟩
                  have YM1 := Lib.hid (YM.out.wiped YA.out hcb.1 hg1)
                  have YC1 := Lib.hid (YC.out.wiped YA.out hcb.2.1 hg1)
                  have BZ1 := Lib.hid (YA.out.below BZ.out hg1 YA.out.o)
                  clear k1 hg1 HW1 YM YC BZ YA
                  as_aux_lemma =>
                    cases ok with
                    | true =>
                      have k2 := YM1.out.cell
                      have HW2 := Lib.hid (wipe_any m qm km _ Z1 (by omega) YM1.out.o)
                      go_wp2_with fail
                      refine HW2.out.mono ?_; rintro r Z2 ⟨rfl, hg2⟩
                      have YC2 := Lib.hid (YC1.out.wiped YM1.out hcb.2.2 hg2)
                      have BZ2 := Lib.hid (YM1.out.below BZ1.out hg2 YM1.out.o)
                      clear k2 hg2 HW2 YC1 BZ1 YM1
                      have k3 := YC2.out.cell
                      have HW3 := Lib.hid (wipe_any cm qc kc _ Z2 (by omega) YC2.out.o)
                      go_wp2_with fail
                      refine HW3.out.mono ?_; rintro r Z3 ⟨rfl, hg3⟩
                      have BZ3 := Lib.hid (YC2.out.below BZ2.out hg3 YC2.out.o)
                      clear k3 hg3 HW3 YC2 BZ2
                      go_wp2_with fail
                      go_roundw
                      case rel => exact ⟨k + 1, by omega, by go_num, BZ3.out⟩
                      case measure => simp [intOf]; omega
                    | false =>
                      have k3 := YC1.out.cell
                      have HW3 := Lib.hid (wipe_any cm qc kc _ Z1 (by omega) YC1.out.o)
                      go_wp2_with fail
                      refine HW3.out.mono ?_; rintro r Z3 ⟨rfl, hg3⟩
                      have BZ3 := Lib.hid (YC1.out.below BZ1.out hg3 YC1.out.o)
                      clear k3 hg3 HW3 YC1 BZ1 YM1
                      go_wp2_with fail
                      go_roundw
                      case rel => exact ⟨k + 1, by omega, by go_num, BZ3.out⟩
                      case measure => simp [intOf]; omega
      · obtain rfl : k = 2 := by omega
        go_wp2_with fail
        exact HQ.out _ _ rfl rfl (HB6.out _ HK.out)

set_option maxRecDepth 100000 in
theorem eturns_lifted (os : Os) (started : os.Started) (H : Type) (enc : TypeId × Value → H) :
    ReturnsInHanded {} Try.checked os 5 .any (Rows.entriesTurnsSpec.pre6 enc Try.prog Try.f5 Rows.entriesTurnsRow.domain false) (Rows.entriesTurnsSpec.post enc Try.prog Try.f5 false true false false) := by
  refine lift_law (C := Try.checked) (tb := 4) (by kernel_rfl) started (by kernel_rfl) Try.func5 (ChangeSpec.witness6 (enc := enc) (C := Try.checked) false ⟨#[], #[.agg #[.int .i64 0, .int .i64 0, .int .u16 0, .int .u16 0, .int .u16 0, .int .i64 0, .int .i64 0, .int .u16 0, .int .u16 0, .int .u16 0, .int .i64 0, .int .i64 0, .bool false, .slice none 0 0], .agg #[.int .i64 0, .int .i64 0, .string ⟨#[]⟩, .int .u16 0, .int .u16 0, .int .u16 0, .int .i64 0, .int .i64 0, .int .u16 0, .int .u16 0, .int .u16 0, .int .i64 0, .int .i64 0, .bool false], .int .i64 0, .int .i64 0, .slice none 0 0, .int .i64 0], []⟩ 8 (by kernel_rfl) (by kernel_rfl) (by kernel_rfl) (by kernel_rfl)) (by kernel_rfl) (by kernel_rfl) rfl Try.underlying4 rfl ?_ ?_
  · intro ds h
    match ds, h with
    | [_, _, _, _, _, _], _ => rfl
  · intro W base args ds ps hval0 hA0 hlt hsz
    have hval : ∀ (j : Nat) t v, Try.f5.params[j]? = some t → args[j]? = some v → Value.okWide Try.prog W .any base t v := hval0
    have hA : DataW.TrodAll enc Try.prog W 0 (fun _ => true) true Try.f5.params.toList args.toList ds ps := hA0
    rw [Try.params5] at hA hval
    obtain ⟨v0, vs0, d0, ds0, p0, q0, hargs, rfl, rfl, h0, r0⟩ := trodAll_cons hA
    obtain ⟨v1, vs1, d1, ds1, p1, q1, rfl, rfl, rfl, h1, r1⟩ := trodAll_cons r0
    obtain ⟨v2, vs2, d2, ds2, p2, q2, rfl, rfl, rfl, h2, r2⟩ := trodAll_cons r1
    obtain ⟨v3, vs3, d3, ds3, p3, q3, rfl, rfl, rfl, h3, r3⟩ := trodAll_cons r2
    obtain ⟨v4, vs4, d4, ds4, p4, q4, rfl, rfl, rfl, h4, r4⟩ := trodAll_cons r3
    obtain ⟨v5, vs5, d5, ds5, p5, q5, rfl, rfl, rfl, h5, r5⟩ := trodAll_cons r4
    obtain ⟨rfl, rfl, rfl⟩ := trodAll_nil r5
    obtain ⟨args⟩ := args; obtain rfl : args = _ := hargs
    obtain ⟨l, p, c, rfl, hE⟩ := open_log (hval 0 32 v0 rfl rfl) h0
    obtain ⟨e, rfl⟩ := open_ent (hval 1 47 v1 rfl rfl) h1
    obtain ⟨x, rfl, rfl, rfl, wx⟩ := open_int Try.underlying3 (hval 2 3 v2 rfl rfl) h2
    obtain ⟨y, rfl, rfl, rfl, wy⟩ := open_int Try.underlying3 (hval 3 3 v3 rfl rfl) h3
    obtain ⟨es, p2, c2, rfl, h2E⟩ := open_ents (hval 4 30 v4 rfl rfl) h4
    obtain ⟨z, rfl, rfl, rfl, wz⟩ := open_int Try.underlying3 (hval 5 3 v5 rfl rfl) h5
    exact eturns_walk l p c e x y es p2 c2 z W (wf_i64 wx) (wf_i64 wz) hE h2E

theorem eturns_holds : Rows.EntriesTurnsSaid :=
  OpenClaim.holds_of_wide 5 Try.f5 rfl rfl rfl rfl rfl rfl rfl ⟨rfl, rfl, rfl, rfl, rfl⟩ rfl rfl rfl rfl rfl (by kernel_rfl) Try.func5 (by kernel_rfl)
    (of_decide_eq_true (by kernel_rfl)) (by unfold Func.isWrapper; first | (rw [if_pos (by decide +kernel)]; kernel_rfl) | (rw [if_neg (by decide +kernel)]; exact ⟨rfl, rfl⟩))
    (fun os started H enc _ => eturns_lifted os started H enc)
#print axioms eturns_holds

end Go.Proofs.Ytabiccpodnjieaa
