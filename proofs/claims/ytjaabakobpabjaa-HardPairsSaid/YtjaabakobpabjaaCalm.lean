import Derived.WalkKit
import Derived.ProofKit
import Derived.OpenShut
import Derived.SizedLaws
import Derived.WalkSpells
import Derived.Laws.AppendOwnNone
import Derived.Test.YtjaabakobpabjaaProg
import Derived.WalkLawsBesides
import Derived.BigQuiet
import Derived.Deep.QuietTactic
import Derived.Lib.Hide
import Derived.IntWalk
import Derived.Outline
import Derived.Deep.RegionWith
/- The frame of a law's row, whatever the law: from a walk that ends in 'true' and turns nothing of the old memory to the row. -/
namespace Go.Proofs.Ytjaabakobpabjaa
open Go.ChangeShapes Go.WideShapes Go.ChangeAt Go.RowKit

section
variable {H : Type} {enc : TypeId × Value → H} {P : Program}
/-- All arguments read behind the call as they did before. -/
theorem trodAll_below (hl : laidOutB P = true) {W W' : World} (hb : Below W.heap.size W W') : ∀ (ts : List TypeId) (vs : List Value) (ds : List (DataW H)) (ps : List MemPlace), (ts.all fun t => P.readableRec t && decide (t < P.types.size)) = true →
    DataW.TrodAll enc P W 0 (fun _ => true) true ts vs ds ps → (∀ x ∈ ps, x.block < W.heap.size) → DataW.TrodAll enc P W' 0 (fun b => decide (b < W.heap.size)) true ts vs ds ps
  | [], vs, ds, ps, _, h, _ => by
    obtain ⟨rfl, rfl, rfl⟩ := trodAll_nil h
    exact trodAll_mk0
  | t :: ts, vs, ds, ps, hr, h, hlt => by
    obtain ⟨v, vs', d, ds', p, q, rfl, rfl, rfl, h0, h1⟩ := trodAll_cons h
    simp only [List.all_cons, Bool.and_eq_true, decide_eq_true_eq] at hr
    exact ⟨p, q, Below.trod hl hr.1.1 hr.1.2 h0 hb (fun x hx => hlt x (List.mem_append_left _ hx)), trodAll_below hl hb ts vs' ds' q hr.2 h1 (fun x hx => hlt x (List.mem_append_right _ hx)), rfl⟩
theorem trodAll_length {W : World} {b : Nat} {sp : Nat → Bool} {hd : Bool} : ∀ (ts : List TypeId) (vs : List Value) (ds : List (DataW H)) (ps : List MemPlace), DataW.TrodAll enc P W b sp hd ts vs ds ps → ds.length = ts.length
  | [], vs, ds, ps, h => by obtain ⟨rfl, rfl, rfl⟩ := trodAll_nil h; rfl
  | t :: ts, vs, ds, ps, h => by
    obtain ⟨v, vs', d, ds', p, q, rfl, rfl, rfl, h0, h1⟩ := trodAll_cons h
    simp [trodAll_length ts vs' ds' q h1]

/-- The row's step of a law: nothing is left but the walk. -/
theorem lift_law {C : Checked} {os : Os} {F : FuncId} {fF : Func} {s : ChangeSpec} {tb : TypeId} (own : ownKnob C.prog.godebug = none) (started : os.Started) (noInit : C.prog.inits.idxOf? F = none) (hfn : C.prog.funcs[F]? = some fF)
    (witness : ∃ (w : World) (tape : Tape) (i : Input), w.os = os ∧ (w.forCall tape i).Shaped C.prog ∧ i.vars = [] ∧ Input.okWide C.prog (w.forCall tape i) .any w.heap.size F i ∧
      s.pre6 enc C.prog fF [] false (w.forCall tape i).memory i.args ∧ Assume.holds {} C.prog (lone (Frame.enter C.prog F i.args .normal) [] (w.forCall tape i)))
    (hl : laidOutB C.prog = true) (hr : (fF.params.toList.all fun t => C.prog.readableRec t && decide (t < C.prog.types.size)) = true) (hres : fF.resultTypes = #[tb]) (hb : C.prog.underlying tb = some .bool)
    (hvars : s.vars = []) (hspec : ∀ ds : List (DataW H), ds.length = fF.params.toList.length → s.fn H (ds ++ []) = { results := [.lit (.bool true)], args := ds })
    (walk : ∀ (W : World) (base : Nat) (args : Array Value) (ds : List (DataW H)) (ps : List MemPlace), (∀ (j : Nat) t v, fF.params[j]? = some t → args[j]? = some v → Value.okWide C.prog W .any base t v) →
      DataW.TrodAll enc C.prog W 0 (fun _ => true) true fF.params.toList args.toList ds ps → (∀ x ∈ ps, x.block < W.heap.size) →
      (DataW.weightsEach C.prog (fF.params.toList ++ s.plain.varTypes C.prog) (ds ++ [])).all (· ≤ reachBytes) = true →
      Calls C.prog F args W fun e W' => e = .returned (.bool true) ∧ Below W.heap.size W W') :
    ReturnsInHanded {} C os F .any (s.pre6 enc C.prog fF [] false) (s.post enc C.prog fF false true false false) := by
  refine returnsInHanded_of_change_sized (C := C) own started noInit hfn witness ?_
  intro W base args ds gs before hval hW hcnd hsz _
  have hW' := hW
  obtain ⟨p, q, hA, hV, rfl, _, _⟩ := hW
  rw [hvars] at hV
  obtain ⟨rfl, rfl⟩ := trodVars_none hV
  have hlt : ∀ x ∈ p, x.block < W.heap.size := fun x hx => hW'.lt x (List.mem_append_left _ hx)
  refine (walk W base args ds p hval hA hlt hsz).mono fun e W' ⟨he, hb'⟩ => ?_
  subst he
  have e := hspec ds (trodAll_length _ _ _ _ hA)
  refine ⟨_, rfl, ds, [], p ++ [], [], p, [], hW', ?_, ?_, ?_, hb'.frame _, fun h => by cases h⟩
  · rw [e, hres]; exact trodAll_mk1 (shut_bool hb true)
  · rw [e]; exact trodAll_below hl hb' _ _ _ _ hr hA hlt
  · rw [hvars, e]; rfl

end
end Go.Proofs.Ytjaabakobpabjaa
/- Slices, whoever owns them: their elements' cells; append from any source; arguments that are slices of numbers. -/
namespace Go.Proofs.Ytjaabakobpabjaa
open Go.ChangeShapes Go.WideShapes Go.ChangeAt Go.RowKit

/-- A slice of n elements: its cells; it lies below block number B. -/
def Sl (B : Nat) (w : World) (v : Value) (size n : Nat) (xs : List Value) : Prop :=
  xs.length = n * size ∧ ((v = .slice none 0 0 ∧ n = 0) ∨ ∃ ad cap, v = .slice (some ad) n cap ∧ n ≤ cap ∧ cap ≤ maxLen ∧ (0 < n → ∃ g o, ad = ⟨g, o, none⟩ ∧ g < B ∧ ∀ j, j < n * size → w.cell? ⟨g, o + j, none⟩ = xs[j]?))

theorem Sl.keep {B : Nat} {w w' : World} {v : Value} {size n : Nat} {xs : List Value} (h : Sl B w v size n xs) (hb : Below B w w') : Sl B w' v size n xs := by
  obtain ⟨h1, h2⟩ := h
  refine ⟨h1, ?_⟩
  rcases h2 with h2 | ⟨ad, cap, e, h3, h4, h5⟩
  · exact .inl h2
  · refine .inr ⟨ad, cap, e, h3, h4, fun hn => ?_⟩
    obtain ⟨g, o, e1, h6, h7⟩ := h5 hn
    exact ⟨g, o, e1, h6, fun j hj => by rw [hb.cell (by exact h6)]; exact h7 j hj⟩
theorem Sl.mono {B B' : Nat} {w : World} {v : Value} {size n : Nat} {xs : List Value} (h : Sl B w v size n xs) (hB : B ≤ B') : Sl B' w v size n xs := by
  obtain ⟨h1, h2⟩ := h
  refine ⟨h1, ?_⟩
  rcases h2 with h2 | ⟨ad, cap, e, h3, h4, h5⟩
  · exact .inl h2
  · refine .inr ⟨ad, cap, e, h3, h4, fun hn => ?_⟩
    obtain ⟨g, o, e1, h6, h7⟩ := h5 hn
    exact ⟨g, o, e1, by omega, h7⟩
theorem Sl.of_own {w : World} {base : Nat} {e : TypeId} {size : Nat} {v : Value} {n : Nat} {xs : List Value} (h : w.ownsRow base e size v n xs) : Sl w.heap.size w v size n xs := by
  have h0 := h
  obtain ⟨h1, h2⟩ := h
  refine ⟨h1, ?_⟩
  rcases h2 with h2 | ⟨g, cap, cur, rfl, hb, hg, hn, hm, hs, ht⟩
  · exact .inl h2
  · exact .inr ⟨_, cap, rfl, hn, hm, fun _ => ⟨g, 0, rfl, (Array.getElem?_eq_some_iff.1 hg).1, fun j hj => by rw [Nat.zero_add]; exact h0.cellAt j hj⟩⟩
/-- Its value's shape, and where an element lies. -/
theorem Sl.form {B : Nat} {w : World} {v : Value} {n : Nat} {xs : List Value} (h : Sl B w v 1 n xs) :
    ∃ a cap, v = .slice a n cap ∧ n ≤ cap ∧ cap ≤ maxLen ∧ (a = none → n = 0 ∧ cap = 0) ∧ ∀ j, j < n → ∃ g o, a = some ⟨g, o, none⟩ ∧ g < B ∧ w.cell? ⟨g, o + j, none⟩ = xs[j]? := by
  obtain ⟨h1, h2⟩ := h
  rcases h2 with ⟨rfl, rfl⟩ | ⟨ad, cap, rfl, h3, h4, h5⟩
  · exact ⟨none, 0, rfl, Nat.le_refl _, Nat.zero_le _, fun _ => ⟨rfl, rfl⟩, fun j hj => absurd hj (by omega)⟩
  · refine ⟨_, cap, rfl, h3, h4, (by intro h; cases h), fun j hj => ?_⟩
    obtain ⟨g, o, rfl, h6, h7⟩ := h5 (by omega)
    exact ⟨g, o, rfl, h6, h7 j (by omega)⟩

/-- Append to a row of the call's own, from whatever source. -/
theorem wpList_append_sl {P : Program} {w : World} {ops : Array Oper} {rest : List Oper} {o : Oper} {a : Act} {Q : Exit → Act → World → Prop} (hgd : o.guard = none) (s x : Operand) (t : TypeId)
    (ho : o.op = .call { callee := .builtin .append, args := #[s, x], argTypes := #[t, t] })
    (base : Nat) (e : TypeId) (i : TypeInfo) (z : Value) (size bytes : Nat) (ht : P.underlying t = some (.slice e)) (hi : P.info? e = some i) (hz : i.zero = some z)
    (hsize : i.size = size) (hby : i.bytes = bytes) (hzs : z.cells.size = size) (hsz : 0 < size)
    (v : Value) (n : Nat) (xs : List Value) (hs : a.eval s = v) (hown : w.ownsRow base e size v n xs)
    (B : Nat) (u : Value) (m : Nat) (news : List Value) (hx : a.eval x = u) (hsl : Sl B w u size m news) (h1 : ∀ u ∈ news, u.oneCell' = true)
    (h63 : n + m ≤ maxLen) (hbytes : (n + m) * bytes ≤ 140737488355328) (hbase : base ≤ w.heap.size)
    (h : ∀ v' w', w'.ownsRow base e size v' (n + m) (xs ++ news) → w.grownBy w' v.ownBlock → wpList P ops Q rest (a.put o.dst v') w') : wpList P ops Q (o :: rest) a w := by
  obtain ⟨hl, hc⟩ := hsl
  rcases hc with ⟨rfl, rfl⟩ | ⟨ad, cap, rfl, _, _, hcell⟩
  · have hn : news = [] := List.eq_nil_of_length_eq_zero (by simpa using hl)
    subst hn
    refine wpList_append_own_none hgd s x t ho base e i size ht hi v n xs hs hown hx ?_
    exact h v w (by simpa using hown) ⟨rfl, rfl, rfl, Nat.le_refl _, fun _ _ _ => rfl⟩
  · refine wpList_append_own _ hgd s x t ho base e i z size bytes ht hi hz hsize hby hzs hsz v n xs hs hown ad m cap news hx hl ?_ h1 h63 hbytes hbase (fun v' w' h2 h3 _ => h v' w' h2 h3)
    intro j u hu
    have hj : j < m * size := by rw [← hl]; exact (List.getElem?_eq_some_iff.1 hu).1
    have hm : 0 < m := Nat.pos_of_ne_zero (fun h => by rw [h] at hj; omega)
    obtain ⟨g, off, rfl, _, hcell⟩ := hcell hm
    have hadd : (⟨g, off, none⟩ : Addr).add j = ⟨g, off + j, none⟩ := by unfold Addr.add; split <;> simp_all
    rw [hadd, hcell j hj]; exact hu

section
variable {H : Type} {enc : TypeId × Value → H} {P : Program} {w : World}
end
end Go.Proofs.Ytjaabakobpabjaa
/- Logs: the plain law: what a log is, and what it tells of its entries. -/
namespace Go.Proofs.Ytjaabakobpabjaa

structure Jn where
  ov : Int
  ox : Int
  ol : Int
  oe : Int
  ok : Int
  nv : Int
  nx : Int
  nl : Int
  ne : Int
  nk : Int
  two : Bool
deriving DecidableEq
structure Ent where
  t : Int
  k : Int
  d : ByteArray
  j : Jn
deriving DecidableEq
structure Lg where
  b : Int
  bt : Int
  j : Jn
  es : List Ent
deriving DecidableEq
def jn0 : Jn := ⟨0, 0, 0, 0, 0, 0, 0, 0, 0, 0, false⟩
def ent0 : Ent := ⟨0, 0, ⟨#[]⟩, jn0⟩
def Lg.last (l : Lg) : Int := l.b + l.es.length
/-- An entry by its number. -/
def atL (l : Lg) (i : Int) : Ent × Bool := if i ≤ l.b then (ent0, false) else match l.es[(i - l.b - 1).toNat]? with
  | some e => (e, true)
  | none => (ent0, false)
def termL (l : Lg) (i : Int) : Int × Bool := if i = l.b then (l.bt, true) else ((atL l i).1.t, (atL l i).2)
theorem atL_low {l : Lg} {i : Int} (h : i ≤ l.b) : atL l i = (ent0, false) := by unfold atL; rw [if_pos h]
theorem atL_high {l : Lg} {i : Int} (h : l.last < i) (_hb : 0 ≤ l.b) : atL l i = (ent0, false) := by
  unfold Lg.last at h
  unfold atL; rw [if_neg (by omega), List.getElem?_eq_none (by omega)]
theorem atL_in {l : Lg} {i : Int} {k : Nat} (h : i - l.b - 1 = (k : Int)) (hk : k < l.es.length) : atL l i = (l.es[k], true) := by
  unfold atL; rw [if_neg (by omega), h, Int.toNat_natCast, List.getElem?_eq_getElem hk]
theorem termL_base {l : Lg} {i : Int} (h : i = l.b) : termL l i = (l.bt, true) := by unfold termL; rw [if_pos h]
theorem termL_not {l : Lg} {i : Int} (h : i ≠ l.b) : termL l i = ((atL l i).1.t, (atL l i).2) := by unfold termL; rw [if_neg h]
end Go.Proofs.Ytjaabakobpabjaa
/- Regions that draw their order and whose calls only make memory: one walk in the order of the text. 'f u': the worlds that are, below a block number, as the region found them. -/
namespace Go.Proofs.Ytjaabakobpabjaa
open Go.RowKit

/-- The worlds that are as W is below W's own size, as the values of a function on a type that is not empty. -/
theorem calm_class (W : World) : ∃ (U : Type) (f : U → World), Nonempty U ∧ (∀ u, Below W.heap.size W (f u)) ∧ (∀ w', Below W.heap.size W w' → ∃ u, w' = f u) :=
  ⟨{ w' : World // Below W.heap.size W w' }, fun u => u.val, ⟨⟨W, Below.refl _ _⟩⟩, fun u => u.property, fun w' h => ⟨⟨w', h⟩, rfl⟩⟩

/-- A region that draws its order, its operations written out, walked in the class of such worlds. -/
theorem wp_region_calm {P : Program} {id : Nat} {Q : Exit → Act → World → Prop} {a : Act} {w : World} {l : List Oper} {U : Type} (f : U → World) (hm : P.follows .mixedOrders = true) (hB : Region.lexB .any l.toArray = true)
    (h0 : ∃ u, w.drew = f u) (h : wpQuiet P l.toArray (fun w' => ∃ n, w' = f n) (fun a' => ∀ w', (∃ n, w' = f n) → Q .normal a' w') l a) : (Code.region id l.toArray true).wp P Q a w :=
  wp_region_quiet (C := fun w' => ∃ n, w' = f n) hm hB h0 (by simpa using h)

/-- A callee's contract, met in the class. -/
theorem calm_of {P : Program} {g : FuncId} {args : Array Value} {W : World} {U : Type} {f : U → World} (hf : ∀ u, Below W.heap.size W (f u)) (hg : ∀ w', Below W.heap.size W w' → ∃ u, w' = f u) {u : U} {v : Value}
    (h : Calls P g args (f u) fun e w' => e = .returned v ∧ Below (f u).heap.size (f u) w') : Calls P g args (f u) fun e w'' => e = .returned v ∧ ∃ m, w'' = f m :=
  h.mono fun _ _ ⟨he, hb⟩ => ⟨he, hg _ ((hf u).trans (hb.mono (hf u).size))⟩
theorem calm_same {P : Program} {g : FuncId} {args : Array Value} {U : Type} {f : U → World} {u : U} {v : Value}
    (h : Calls P g args (f u) fun e w' => e = .returned v ∧ f u = w') : Calls P g args (f u) fun e w'' => e = .returned v ∧ ∃ m, w'' = f m :=
  h.mono fun _ _ ⟨he, hb⟩ => ⟨he, u, hb.symm⟩
/-- A block of the old world, cell by cell. -/
theorem calm_block {W : World} {U : Type} {f : U → World} (hf : ∀ u, Below W.heap.size W (f u)) {n : Nat} {cs : Array Value} {t : TypeId} {m : Nat × Nat} (h : W.heap[n]? = some (.cells cs t m)) :
    ∀ u j, (f u).cell? ⟨n, j, none⟩ = cs[j]? := fun u j => by
  have hn : n < W.heap.size := (Array.getElem?_eq_some_iff.1 h).1
  rw [(hf u).cell (by exact hn)]; exact cell_of_row W n j cs t m h
theorem heap_last (w : World) (o : Obj) : (w.alloc o).heap[w.heap.size]? = some o := heap_alloc_new w o
theorem heap_prev {w : World} {o' : Obj} {n : Nat} (o : Obj) (h : w.heap[n]? = some o') : (w.alloc o).heap[n]? = some o' :=
  (heap_alloc_old w o (Array.getElem?_eq_some_iff.1 h).1).trans h
/-- A block of the old world is there, whole, in a later one; its cells; that none is frozen. -/
theorem below_block {B : Nat} {W w1 : World} {n : Nat} {o : Obj} (h : Below B W w1) (hn : n < B) (hc : W.heap[n]? = some o) : w1.heap[n]? = some o := (h.block n hn).trans hc
theorem block_cells {w : World} {n : Nat} {cs : Array Value} {t : TypeId} (h : w.heap[n]? = some (.cells cs t (0, 0))) : ∀ j, w.cell? ⟨n, j, none⟩ = cs[j]? := fun j => cell_of_row w n j cs t (0, 0) h
theorem block_free {w : World} {n : Nat} {cs : Array Value} {t : TypeId} (h : w.heap[n]? = some (.cells cs t (0, 0))) : ∀ j, w.frozen? ⟨n, j, none⟩ = false := fun j => frozen_of_row w n j cs t h
theorem block_lt {w : World} {n : Nat} {o : Obj} (h : w.heap[n]? = some o) : n < w.heap.size := (Array.getElem?_eq_some_iff.1 h).1
/-- A callee's world is one of the class. -/
theorem calm_step {W : World} {U : Type} {f : U → World} (hf : ∀ u, Below W.heap.size W (f u)) (hg : ∀ w', Below W.heap.size W w' → ∃ u, w' = f u) {u : U} {w' : World} (h : Below (f u).heap.size (f u) w') : ∃ u', w' = f u' :=
  hg _ ((hf u).trans (h.mono (hf u).size))
theorem calm_drew {W : World} {U : Type} {f : U → World} (hf : ∀ u, Below W.heap.size W (f u)) (hg : ∀ w', Below W.heap.size W w' → ∃ u, w' = f u) (u : U) : ∃ u', (f u).drew = f u' := hg _ (hf u).drew
/-- A block of the old world is there, whole, in each world of the class. -/
theorem calm_heap {W : World} {U : Type} {f : U → World} (hf : ∀ u, Below W.heap.size W (f u)) {n : Nat} {o : Obj} (h : W.heap[n]? = some o) : ∀ u, (f u).heap[n]? = some o := fun u =>
  ((hf u).block n (Array.getElem?_eq_some_iff.1 h).1).trans h
end Go.Proofs.Ytjaabakobpabjaa
