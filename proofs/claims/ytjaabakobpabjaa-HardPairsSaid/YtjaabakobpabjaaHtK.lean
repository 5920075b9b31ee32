import Derived.Test.YtjaabakobpabjaaOpenLog
import Derived.Deep.DrawnRows
import Derived.Test.YtjaabakobpabjaaLogP
import Derived.Test.YtjaabakobpabjaaLogG
import Derived.Lib.MinMax
import Derived.Test.YtjaabakobpabjaaHtC
import Derived.Test.YtjaabakobpabjaaHsD
import Derived.Test.YtjaabakobpabjaaLogB
import Derived.Test.YtjaabakobpabjaaHsG
import Derived.ChangeKeysEq
import Derived.Test.YtjaabakobpabjaaLogR
import Derived.Test.YtjaabakobpabjaaHardG
import Derived.Test.YtjaabakobpabjaaStampTk
/- Entries: append of a list to a row of the call's own, as a step. -/
namespace Go.Proofs.Ytjaabakobpabjaa
open Go.ChangeShapes Go.WideShapes Go.ChangeAt Go.RowKit

end Go.Proofs.Ytjaabakobpabjaa
/- The reference of entries: Slice. -/
namespace Go.Proofs.Ytjaabakobpabjaa
open Go.ChangeShapes Go.WideShapes Go.ChangeAt Go.RowKit

end Go.Proofs.Ytjaabakobpabjaa
/- Hard: what a record says to a core, the document's: letter S. -/
namespace Go.Proofs.Ytjaabakobpabjaa
open Go.ChangeShapes Go.WideShapes Go.ChangeAt Go.RowKit

theorem OnW.far {B0 B A Z R L : Nat} {w0 w w' : World} {ys : List Int} {b : Bool} {y : CoX} (h : OnW B0 B A Z R w0 w ys b y) (hg : w.grownBy w' (some L)) (hA : A ≠ L) (hZ : Z ≠ L) (hR : R ≠ L) (hB : B ≤ L) (hN : w0.heap.size ≤ L) (ho : (Value.slice y.p y.c.l.es.length y.k).ownBlock = none ∨ (Value.slice y.p y.c.l.es.length y.k).ownBlock ≠ some L) : OnW B0 B A Z R w0 w' ys b y :=
  ⟨h.bl.grown hg h.lt (fun k e => by cases e; exact hB), stays_at hg h.a hA, stays_at hg h.z hZ, h.r.far hg hR hB, h.o.kept hg ho, grown_new h.g hg (fun k e => by cases e; exact hN), h.nA, h.nZ⟩
end Go.Proofs.Ytjaabakobpabjaa
/- Hard: what a record says to a core, the document's: letter E. -/
namespace Go.Proofs.Ytjaabakobpabjaa
open Go.ChangeShapes Go.WideShapes Go.ChangeAt Go.RowKit

/-- In the midst of an entry's record, the document's. -/
structure TrU (B0 B A Z R X : Nat) (ev : Array Value) (w0 w : World) (ys : List Int) (b : Bool) (y : CoX) : Prop where
  on : OnW B0 B A Z R w0 w ys b y
  x : w.heap[X]? = some (.cells ev 85 (0, 0))
  n : w0.heap.size ≤ X
theorem TrU.keep {B0 B A Z R X : Nat} {ev : Array Value} {w0 w w' : World} {ys : List Int} {b : Bool} {y : CoX} (h : TrU B0 B A Z R X ev w0 w ys b y) (hb : Below w.heap.size w w') : TrU B0 B A Z R X ev w0 w' ys b y := ⟨h.on.keep hb, below_block hb (block_lt h.x) h.x, h.n⟩
structure TuO (B R X : Nat) (y : CoX) (w : World) (v : Value) (L : List Ent) : Prop where
  own : w.ownsRow B 85 14 v L.length (entRow L)
  gt : ∀ b, v.ownBlock = some b → X < b
  gr : ∀ b, v.ownBlock = some b → R < b
  ap : (Value.slice y.p y.c.l.es.length y.k).ownBlock = none ∨ (Value.slice y.p y.c.l.es.length y.k).ownBlock ≠ v.ownBlock
theorem TuO.keep {B R X : Nat} {y : CoX} {w w' : World} {v : Value} {L : List Ent} (h : TuO B R X y w v L) (hb : Below w.heap.size w w') : TuO B R X y w' v L := ⟨own_keptC h.own hb, h.gt, h.gr, h.ap⟩
theorem TrU.new {B0 B A Z R X : Nat} {ev : Array Value} {w0 w w' : World} {ys : List Int} {b : Bool} {y : CoX} {v : Value} {L : List Ent} (h : TrU B0 B A Z R X ev w0 w ys b y) (ho : w'.ownsRow w.heap.size 85 14 v L.length (entRow L)) : TuO B R X y w' v L :=
  ⟨ho.mono h.on.lt, fun b hbb => Nat.lt_of_lt_of_le (block_lt h.x) (ho.lt b hbb).1, fun b hbb => Nat.lt_of_lt_of_le h.on.r.lt (ho.lt b hbb).1, by
    cases e : (Value.slice y.p y.c.l.es.length y.k).ownBlock with
    | none => exact .inl rfl
    | some b => exact .inr fun h2 => by have := (h.on.o.lt b e).2; have := (ho.lt b h2.symm).1; omega⟩
theorem TrU.app {B0 B A Z R X : Nat} {ev : Array Value} {w0 w w' : World} {ys : List Int} {b : Bool} {y : CoX} {v : Value} {L : List Ent} (h : TrU B0 B A Z R X ev w0 w ys b y) (ho : TuO B R X y w v L) (hg : w.grownBy w' v.ownBlock) : TrU B0 B A Z R X ev w0 w' ys b y := by
  have hBl : Below B w w' := (Below.refl B w).grown hg h.on.lt (fun k hk => (ho.own.lt k hk).1)
  obtain ⟨⟨hBR, p, cap, hR, hS⟩, o, l⟩ := h.on.r
  refine ⟨⟨h.on.bl.grown hg h.on.lt (fun k hk => (ho.own.lt k hk).1), (hg.block A (block_lt h.on.a) ?_).trans h.on.a, (hg.block Z (block_lt h.on.z) ?_).trans h.on.z, ⟨⟨hBR, p, cap, (hg.block R (block_lt hR) (fun e => by have := ho.gr R e.symm; omega)).trans hR, hS.keep hBl⟩, o, l⟩, h.on.o.kept hg ho.ap, grown_new h.on.g hg (fun k hk => Nat.le_of_lt (Nat.lt_of_le_of_lt h.n (ho.gt k hk))), h.on.nA, h.on.nZ⟩, (hg.block X (block_lt h.x) (fun e => by have := ho.gt X e.symm; omega)).trans h.x, h.n⟩
  · rcases own_other ho.own h.on.a (by decide) with e | e
    · rw [e]; simp
    · exact fun h2 => e h2.symm
  · rcases own_other ho.own h.on.z (by decide) with e | e
    · rw [e]; simp
    · exact fun h2 => e h2.symm
end Go.Proofs.Ytjaabakobpabjaa
/- Hard: what a record says to a core, the document's: letter E, with a joint. -/
namespace Go.Proofs.Ytjaabakobpabjaa
open Go.ChangeShapes Go.WideShapes Go.ChangeAt Go.RowKit

end Go.Proofs.Ytjaabakobpabjaa
/- Hard: what a record says to a core, the document's, whatever the letter; a new core. -/
namespace Go.Proofs.Ytjaabakobpabjaa
open Go.ChangeShapes Go.WideShapes Go.ChangeAt Go.RowKit

end Go.Proofs.Ytjaabakobpabjaa
/- Hard: a string's first byte; a row of strings; a row of cores apart. -/
namespace Go.Proofs.Ytjaabakobpabjaa
open Go.ChangeShapes Go.WideShapes Go.ChangeAt Go.RowKit

/-- A list of strings. -/
def SrAt (B : Nat) (w : World) (q : Option Addr) (L : List ByteArray) : Prop := ∀ k, (hk : k < L.length) → ∃ g o, q = some ⟨g, o, none⟩ ∧ g < B ∧ w.cell? ⟨g, o + k, none⟩ = some (.string L[k])
theorem SrAt.keep {B : Nat} {w w' : World} {q : Option Addr} {L : List ByteArray} (h : SrAt B w q L) (hb : Below B w w') : SrAt B w' q L := fun k hk => by
  obtain ⟨g, o, e, hg, hc⟩ := h k hk
  exact ⟨g, o, e, hg, (hb.cell (p := ⟨g, o + k, none⟩) hg).trans hc⟩
end Go.Proofs.Ytjaabakobpabjaa
/- Hard: an array of ten numbers is equal to itself. -/
namespace Go.Proofs.Ytjaabakobpabjaa
open Go.ChangeShapes Go.WideShapes Go.ChangeAt Go.RowKit

end Go.Proofs.Ytjaabakobpabjaa
/- Hard: two equal cores are the same (the reference's Same). -/
namespace Go.Proofs.Ytjaabakobpabjaa
open Go.ChangeShapes Go.WideShapes Go.ChangeAt Go.RowKit

end Go.Proofs.Ytjaabakobpabjaa
/- Hard: lists of byte strings: how many bytes there are at most, twins of all, whether all were kept; how long built logs are. -/
namespace Go.Proofs.Ytjaabakobpabjaa
open Go.ChangeShapes Go.WideShapes Go.ChangeAt Go.RowKit

/-- What Build tells, in one form. -/
def bldR (o : Option (Int × List Co)) : Int × Int × List Co := match o with
  | none => (0, 9, [])
  | some (life, cs) => (life, 0, cs.map endCo)
theorem BldEnd.one {w w' : World} {o : Option (Int × List Co)} {e : Ending} (h : BldEnd w o e w') : ∃ v l, e = .returned (.tuple #[.int .i64 (bldR o).1, v, .int .i64 (bldR o).2.1]) ∧ l.map CoX.c = (bldR o).2.2 ∧ CsAt w.heap.size w' v l ∧ Below w.heap.size w w' := by
  obtain ⟨hb, h⟩ := h
  cases o with
  | none => exact ⟨_, [], h, rfl, CsAt.nil _ _, hb⟩
  | some s =>
    obtain ⟨life, cs⟩ := s
    obtain ⟨v, l, h1, h2, h3⟩ := h
    exact ⟨v, l, h1, h2, h3, hb⟩
/-- Twins in a row of the call's own: each a block of its own, rising. -/
def twV (x : Nat × List Int) : Value := .slice (some ⟨x.1, 0, none⟩) x.2.length (x.2.length + 3)
structure TwW (base : Nat) (w : World) (v : Value) (M : List (Nat × List Int)) : Prop where
  own : w.ownsRow base 32 1 v M.length (M.map twV)
  el : ∀ x ∈ M, base ≤ x.1 ∧ w.heap[x.1]? = some (.cells (byt (x.2 ++ [229, 229, 229])).toArray 5 (0, 0))
  up : M.Pairwise (fun a b => a.1 < b.1)
theorem TwW.nil (base : Nat) (w : World) : TwW base w (.slice none 0 0) [] := ⟨⟨rfl, .inl ⟨rfl, rfl⟩⟩, fun x hx => absurd hx (by simp), .nil⟩
theorem TwW.keep {base : Nat} {w w' : World} {v : Value} {M : List (Nat × List Int)} (h : TwW base w v M) (hb : Below w.heap.size w w') : TwW base w' v M := ⟨own_keptH h.own hb, fun x hx => ⟨(h.el x hx).1, below_block hb (block_lt (h.el x hx).2) (h.el x hx).2⟩, h.up⟩
theorem TwW.mono {base base' : Nat} {w : World} {v : Value} {M : List (Nat × List Int)} (h : TwW base w v M) (hb : base' ≤ base) : TwW base' w v M := ⟨h.own.mono hb, fun x hx => ⟨Nat.le_trans hb (h.el x hx).1, (h.el x hx).2⟩, h.up⟩
theorem TwW.app {base : Nat} {w w' : World} {v v' : Value} {M : List (Nat × List Int)} {g : Nat} {xs : List Int} (h : TwW base w v M) (hg : base ≤ g) (hlt : ∀ x ∈ M, x.1 < g) (hrow : w.heap[g]? = some (.cells (byt (xs ++ [229, 229, 229])).toArray 5 (0, 0)))
    (h2 : w'.ownsRow base 32 1 v' (M.length + 1) (M.map twV ++ [twV (g, xs)])) (h3 : w.grownBy w' v.ownBlock) : TwW base w' v' (M ++ [(g, xs)]) := by
  refine ⟨?_, fun y hy => ?_, ?_⟩
  · rw [List.length_append, List.map_append]; exact h2
  · rcases List.mem_append.1 hy with hy | hy
    · exact ⟨(h.el y hy).1, blk_keep (h.el y hy).2 h.own (by decide) h3⟩
    · rw [List.mem_singleton] at hy; rw [hy]; exact ⟨hg, blk_keep hrow h.own (by decide) h3⟩
  · rw [List.pairwise_append]
    refine ⟨h.up, by simp, fun a ha b hb => ?_⟩
    rw [List.mem_singleton] at hb; rw [hb]; exact hlt a ha
end Go.Proofs.Ytjaabakobpabjaa
/- Hard: the reference's Build. -/
namespace Go.Proofs.Ytjaabakobpabjaa
open Go.ChangeShapes Go.WideShapes Go.ChangeAt Go.RowKit

end Go.Proofs.Ytjaabakobpabjaa
/- Hard: what is left of two lists of cores when the twins are written over. -/
namespace Go.Proofs.Ytjaabakobpabjaa
open Go.ChangeShapes Go.WideShapes Go.ChangeAt Go.RowKit

theorem BldEnd.two {w w' : World} {o : Option (Int × List Co)} {e : Ending} {life er : Int} {cs : List Co} (h : BldEnd w o e w') (hr : bldR o = (life, er, cs)) : ∃ p l c, e = .returned (.tuple #[.int .i64 life, .slice p l.length c, .int .i64 er]) ∧ l.map CoX.c = cs ∧ CsAt w.heap.size w' (.slice p l.length c) l ∧ Below w.heap.size w w' := by
  obtain ⟨v, l, rfl, h2, h3, h4⟩ := h.one
  rw [hr] at h2 ⊢
  obtain ⟨p, c, rfl⟩ := own_formH h3.own
  exact ⟨p, l, c, rfl, h2, h3, h4⟩
theorem CsAt.form {base : Nat} {w : World} {p : Option Addr} {n c : Nat} {l : List CoX} (h : CsAt base w (.slice p n c) l) {k : Nat} (hk : k < l.length) : ∃ g, p = some ⟨g, 0, none⟩ ∧ n = l.length := by
  rcases h.own.2 with ⟨-, h0⟩ | ⟨g, cap, cur, hv, -⟩
  · omega
  · simp only [Value.slice.injEq] at hv
    exact ⟨g, hv.1, hv.2.1⟩
/-- The twins as records. -/
def twR (M : List (Nat × List Int)) : List RcX := M.map fun x => ⟨some ⟨x.1, 0, none⟩, x.2.length + 3, x.2⟩
theorem twR_len (M : List (Nat × List Int)) : (twR M).length = M.length := List.length_map ..
theorem TwW.rc {base : Nat} {w : World} {p : Option Addr} {c : Nat} {M : List (Nat × List Int)} (h : TwW base w (.slice p M.length c) M) (hl : ∀ x ∈ M, x.2.length ≤ 6000) : RcAt w.heap.size w p (twR M) := fun k hk => by
  rw [twR_len] at hk
  obtain ⟨g, rfl, hg, hc⟩ := own_atH h.own hk
  have he := h.el M[k] (List.getElem_mem hk)
  have h6 := hl M[k] (List.getElem_mem hk)
  have e : (twR M)[k]'(by rw [twR_len]; exact hk) = ⟨some ⟨M[k].1, 0, none⟩, M[k].2.length + 3, M[k].2⟩ := List.getElem_map ..
  refine ⟨g, 0, rfl, hg, ?_, ?_⟩
  · rw [Nat.zero_add, hc k hk, List.getElem?_map, List.getElem?_eq_getElem hk, e]; rfl
  · rw [e]
    show Sl w.heap.size w (.slice (some ⟨(M[k]).1, 0, none⟩) (M[k]).2.length ((M[k]).2.length + 3)) 1 (M[k]).2.length (byt (M[k]).2)
    exact sl_row he.2 (by simp [byt]) (by simp [byt]) (by omega) (by unfold maxLen; omega)
/-- Behind the first twins' being written over: the others, both lists of cores. -/
structure SpI (b b1 b2 : Nat) (w0 : World) (v vl vm : Value) (M : List (Nat × List Int)) (l m : List CoX) (k : Nat) (w : World) : Prop where
  own : w.ownsRow b 32 1 v M.length (M.map twV)
  el : ∀ j, k ≤ j → ∀ hj : j < M.length, b ≤ (M[j]).1 ∧ w.heap[(M[j]).1]? = some (.cells (byt ((M[j]).2 ++ [229, 229, 229])).toArray 5 (0, 0))
  up : M.Pairwise (fun a b => a.1 < b.1)
  l : CsAt b1 w vl l
  m : CsAt b2 w vm m
  b : Below b w0 w
theorem SpI.row {b b1 b2 : Nat} {w0 w : World} {v vl vm : Value} {M : List (Nat × List Int)} {l m : List CoX} {k : Nat} (h : SpI b b1 b2 w0 v vl vm M l m k w) (hk : k < M.length) (hl : (M[k]).2.length ≤ 6000) : w.ownsRow b 5 1 (twV M[k]) (M[k]).2.length (byt (M[k]).2) := by
  obtain ⟨hb, hq⟩ := h.el k (Nat.le_refl _) hk
  refine ⟨by rw [byt_len, Nat.mul_one], .inr ⟨(M[k]).1, (M[k]).2.length + 3, _, rfl, hb, hq, by omega, by unfold maxLen; omega, ?_, ?_⟩⟩
  · simp [byt]
  · simp [byt]
end Go.Proofs.Ytjaabakobpabjaa
