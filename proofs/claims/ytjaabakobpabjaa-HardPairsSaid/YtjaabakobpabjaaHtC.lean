import Derived.Test.YtjaabakobpabjaaHardG
import Derived.Test.YtjaabakobpabjaaPlainRf
import Derived.Test.YtjaabakobpabjaaRdE
import Derived.Deep.CutBlock
import Derived.Test.YtjaabakobpabjaaRdH
import Derived.Test.YtjaabakobpabjaaNums
import Derived.Test.YtjaabakobpabjaaHrA
import Derived.Test.YtjaabakobpabjaaHsA
import Derived.Test.YtjaabakobpabjaaLogD
import Derived.Test.YtjaabakobpabjaaLogM
import Derived.Test.YtjaabakobpabjaaHsB
import Derived.Test.YtjaabakobpabjaaOpenLog
import Derived.Deep.RegionHeld3
import Derived.Laws.ResultCell
/- Hard: the reference's Whole. -/
namespace Go.Proofs.Ytjaabakobpabjaa
open Go.ChangeShapes Go.WideShapes Go.ChangeAt Go.RowKit

/-- An append of a slice that may be none, in a region that draws its order. -/
theorem wp_append_any {P : Program} {w : World} {o : Oper} {a : Act} {K : Act → World → Prop} {Q : Exit → Act → World → Prop} (s x : Operand) (t : TypeId)
    (ho : o.op = .call { callee := .builtin .append, args := #[s, x], argTypes := #[t, t] })
    (base : Nat) (e : TypeId) (i : TypeInfo) (z : Value) (size bytes : Nat) (ht : P.underlying t = some (.slice e)) (hi : P.info? e = some i) (hz : i.zero = some z)
    (hsize : i.size = size) (hby : i.bytes = bytes) (hzs : z.cells.size = size) (hsz : 0 < size)
    (v : Value) (n : Nat) (xs : List Value) (hs : a.eval s = v) (hown : w.ownsRow base e size v n xs)
    (B : Nat) (u : Value) (m : Nat) (news : List Value) (hx : a.eval x = u) (hsl : Sl B w u size m news) (h1 : ∀ u ∈ news, u.oneCell' = true)
    (h63 : n + m ≤ maxLen) (hbytes : (n + m) * bytes ≤ 140737488355328) (hbase : base ≤ w.heap.size)
    (h : ∀ v' w', w'.ownsRow base e size v' (n + m) (xs ++ news) → w.grownBy w' v.ownBlock → (v'.ownBlock = v.ownBlock ∨ v'.ownBlock = some w.heap.size) → K (a.put o.dst v') w') : Oper.wp P o a w K Q := by
  by_cases hm : 0 < m
  · exact wp_append_row s x t ho base e i z size bytes ht hi hz hsize hby hzs hsz v n xs hs hown B u m news hx hsl hm h1 h63 hbytes hbase h
  · obtain ⟨hl, hc⟩ := hsl
    obtain rfl : m = 0 := by omega
    have hn : news = [] := List.eq_nil_of_length_eq_zero (by simpa using hl)
    subst hn
    have hk := h v w (by simpa using hown) ⟨rfl, rfl, rfl, Nat.le_refl _, fun _ _ _ => rfl⟩ (.inl rfl)
    rcases hc with ⟨rfl, -⟩ | ⟨ad, cap, rfl, _, _, hcell⟩
    · have hrun := run_append_owned_none (P := P) (w := w) base t o.type e i size ht hi v n xs hown
      unfold Oper.wp
      simp [execOp, ho, resolve, invoke, builtin, hs, hx, hrun, Result.andThen]
      exact hk
    · obtain ⟨v', w', hr, h2, h3, -, h5⟩ := run_append_own_at (P := P) (w := w) base t o.type e i z size bytes ht hi hz hsize hby hzs hsz v n xs hown ad 0 cap [] (by simp) (fun j u hu => by simp at hu) (fun u hu => by cases hu) h63 hbytes hbase
      unfold Oper.wp execOp
      simp only [ho, resolve, invoke, builtin, Sem.run_bind, Sem.run_pure, Result.andThen_ok, List.map_toArray, List.map_cons, List.map_nil, hs, hx, hr]
      exact h v' w' h2 h3 h5
end Go.Proofs.Ytjaabakobpabjaa
/- Wire: the reference's reader: its block. -/
namespace Go.Proofs.Ytjaabakobpabjaa
open Go.ChangeShapes Go.WideShapes Go.ChangeAt Go.RowKit

def RfS (B : Nat) (w : World) (R : Nat) (xs : List Int) (bad : Bool) : Prop :=
  B ≤ R ∧ ∃ p cap, w.heap[R]? = some (.cells #[.slice p xs.length cap, .bool bad] 77 (0, 0)) ∧ Sl B w (.slice p xs.length cap) 1 xs.length (byt xs)
theorem RfS.setBad {B R : Nat} {w : World} {xs : List Int} {bad : Bool} (h : RfS B w R xs bad) (b : Bool) : RfS B (w.setCell ⟨R, 1, none⟩ (.bool b)) R xs b := by
  obtain ⟨hB, p, cap, hR, hS⟩ := h
  exact ⟨hB, p, cap, (cells_setW hR 1 _).trans rfl, sl_setW hS hB _⟩
theorem RfS.setB {B R : Nat} {w : World} {xs ys : List Int} {bad : Bool} {p : Option Addr} {c : Nat} (h : RfS B w R xs bad) (hs : Sl B w (.slice p ys.length c) 1 ys.length (byt ys)) : RfS B (w.setCell ⟨R, 0, none⟩ (.slice p ys.length c)) R ys bad := by
  obtain ⟨hB, p', cap, hR, hS⟩ := h
  exact ⟨hB, p, c, (cells_setW hR 0 _).trans rfl, sl_setW hs hB _⟩
theorem RfS.drew {B R : Nat} {w : World} {xs : List Int} {bad : Bool} (h : RfS B w R xs bad) : RfS B w.drew R xs bad := by
  obtain ⟨hBR, p, cap, hR, hS⟩ := h
  exact ⟨hBR, p, cap, hR, hS.keep (Below.refl _ _).drew⟩
theorem RfS.keep {B R : Nat} {w w' : World} {xs : List Int} {bad : Bool} (h : RfS B w R xs bad) {A : Nat} (hb : Below A w w') (hA : w.heap.size ≤ A) : RfS B w' R xs bad := by
  obtain ⟨hBR, p, cap, hR, hS⟩ := h
  have hRA : R < A := Nat.lt_of_lt_of_le (block_lt hR) hA
  exact ⟨hBR, p, cap, below_block hb hRA hR, hS.keep (hb.mono (by omega))⟩
theorem RfS.setFar {B R : Nat} {w : World} {xs : List Int} {bad : Bool} (h : RfS B w R xs bad) {Z j : Nat} (hZ : R < Z) (v : Value) : RfS B (w.setCell ⟨Z, j, none⟩ v) R xs bad := by
  obtain ⟨hBR, p, cap, hR, hS⟩ := h
  exact ⟨hBR, p, cap, (Below.heap_setCell _ _ _ _ (by show R ≠ Z; omega)).trans hR, sl_setW hS (by omega) v⟩
structure RfW (B : Nat) (w : World) (R : Nat) (xs : List Int) (bad : Bool) : Prop where
  r : RfS B w R xs bad
  o : Oct xs
  l : (xs.length : Int) ≤ 140737488300000
theorem RfW.keep {B R : Nat} {w w' : World} {xs : List Int} {bad : Bool} (h : RfW B w R xs bad) {A : Nat} (hb : Below A w w') (hA : w.heap.size ≤ A) : RfW B w' R xs bad := ⟨h.r.keep hb hA, h.o, h.l⟩
theorem RfW.drew {B R : Nat} {w : World} {xs : List Int} {bad : Bool} (h : RfW B w R xs bad) : RfW B w.drew R xs bad := ⟨h.r.drew, h.o, h.l⟩
theorem RfW.setBad {B R : Nat} {w : World} {xs : List Int} {bad : Bool} (h : RfW B w R xs bad) (b : Bool) : RfW B (w.setCell ⟨R, 1, none⟩ (.bool b)) R xs b := ⟨h.r.setBad b, h.o, h.l⟩
theorem RfW.lt {B R : Nat} {w : World} {xs : List Int} {bad : Bool} (h : RfW B w R xs bad) : R < w.heap.size := by
  obtain ⟨_, p, cap, hR, _⟩ := h.r; exact block_lt hR
theorem RfW.setB {B R : Nat} {w : World} {xs ys : List Int} {bad : Bool} {p : Option Addr} {c : Nat} (h : RfW B w R xs bad) (hs : Sl B w (.slice p ys.length c) 1 ys.length (byt ys)) (ho : Oct ys) (hl : ys.length ≤ xs.length) : RfW B (w.setCell ⟨R, 0, none⟩ (.slice p ys.length c)) R ys bad := ⟨h.r.setB hs, ho, by have := h.l; omega⟩
theorem RfW.setFar {B R : Nat} {w : World} {xs : List Int} {bad : Bool} (h : RfW B w R xs bad) {Z j : Nat} (hZ : R < Z) (v : Value) : RfW B (w.setCell ⟨Z, j, none⟩ v) R xs bad := ⟨h.r.setFar hZ v, h.o, h.l⟩
/-- What the reader has still to read, k bytes on. -/
theorem RfS.on {B R : Nat} {w : World} {xs : List Int} {bad : Bool} {p : Option Addr} {c k : Nat} (h : RfW B w R xs bad) (hs : Sl B w (.slice p xs.length c) 1 xs.length (byt xs)) (hk : k ≤ xs.length) (_hc : ¬ c = k) : RfW B (w.setCell ⟨R, 0, none⟩ (.slice (Option.map (fun x => x.add k) p) (xs.length - k) (c - k))) R (xs.drop k) bad := by
  have h1 := Sl.part (m := k) (q := xs.length - k) (q' := xs.length - k) hs (by omega) rfl
  have hD : (xs.drop k).take (xs.length - k) = xs.drop k := List.take_of_length_le (by rw [List.length_drop]; omega)
  have hL : (xs.drop k).length = xs.length - k := List.length_drop
  rw [hD] at h1
  have h2 := h.setB (p := Option.map (fun x => x.add k) p) (c := c - k) (ys := xs.drop k) (by rw [hL]; rw [hL] at h1; exact h1) (h.o.drop _) (by omega)
  rw [hL] at h2; exact h2
theorem RfS.on0 {B R : Nat} {w : World} {xs : List Int} {bad : Bool} {p : Option Addr} {c k : Nat} (h : RfW B w R xs bad) (hs : Sl B w (.slice p xs.length c) 1 xs.length (byt xs)) (hk : k ≤ xs.length) (hc : c = k) : RfW B (w.setCell ⟨R, 0, none⟩ (.slice p (xs.length - k) (c - k))) R (xs.drop k) bad := by
  rw [show c - k = 0 by omega]
  have h1 := Sl.part0 (m := k) (q := xs.length - k) (q' := xs.length - k) (c' := 0) hs (by omega) (by omega) rfl rfl
  have hD : (xs.drop k).take (xs.length - k) = xs.drop k := List.take_of_length_le (by rw [List.length_drop]; omega)
  have hL : (xs.drop k).length = xs.length - k := List.length_drop
  rw [hD] at h1
  have h2 := h.setB (p := p) (c := 0) (ys := xs.drop k) (by rw [hL]; rw [hL] at h1; exact h1) (h.o.drop _) (by omega)
  rw [hL] at h2; exact h2
end Go.Proofs.Ytjaabakobpabjaa
/- Wire: the reference's reader: numbers, counts. -/
namespace Go.Proofs.Ytjaabakobpabjaa
open Go.ChangeShapes Go.WideShapes Go.ChangeAt Go.RowKit

end Go.Proofs.Ytjaabakobpabjaa
/- Wire: the reference's reader: texts. -/
namespace Go.Proofs.Ytjaabakobpabjaa
open Go.ChangeShapes Go.WideShapes Go.ChangeAt Go.RowKit

end Go.Proofs.Ytjaabakobpabjaa
/- Wire: the reference's reader: bytes. -/
namespace Go.Proofs.Ytjaabakobpabjaa
open Go.ChangeShapes Go.WideShapes Go.ChangeAt Go.RowKit

end Go.Proofs.Ytjaabakobpabjaa
/- Wire: the reference's reader: truths. -/
namespace Go.Proofs.Ytjaabakobpabjaa
open Go.ChangeShapes Go.WideShapes Go.ChangeAt Go.RowKit

end Go.Proofs.Ytjaabakobpabjaa
/- Wire: the reference's reader: stamps. -/
namespace Go.Proofs.Ytjaabakobpabjaa
open Go.ChangeShapes Go.WideShapes Go.ChangeAt Go.RowKit

end Go.Proofs.Ytjaabakobpabjaa
/- Wire: the reference's reader: attempts. -/
namespace Go.Proofs.Ytjaabakobpabjaa
open Go.ChangeShapes Go.WideShapes Go.ChangeAt Go.RowKit

end Go.Proofs.Ytjaabakobpabjaa
/- Wire: the reference's reader: outcomes. -/
namespace Go.Proofs.Ytjaabakobpabjaa
open Go.ChangeShapes Go.WideShapes Go.ChangeAt Go.RowKit

end Go.Proofs.Ytjaabakobpabjaa
/- Wire: the reference's reader: cells. -/
namespace Go.Proofs.Ytjaabakobpabjaa
open Go.ChangeShapes Go.WideShapes Go.ChangeAt Go.RowKit

/-- A list as it is read: in the cell of a block, in a row of the call's own. -/
structure LsF {α : Type} (R g base : Nat) (w0 wS : World) (cs : Value → Array Value) (tc te : TypeId) (size : Nat) (row : List α → List Value) (acc : List α) (w : World) : Prop where
  ex : ∃ v, w.heap[g]? = some (.cells (cs v) tc (0, 0)) ∧ w.ownsRow base te size v acc.length (row acc)
  b : w0.grownBy w (some R)
  z : base ≤ w.heap.size
  k : KpB base R g wS w
end Go.Proofs.Ytjaabakobpabjaa
/- Wire: what the reference's reading of a command, a state tells; what was read can be written. -/
namespace Go.Proofs.Ytjaabakobpabjaa

end Go.Proofs.Ytjaabakobpabjaa
/- Wire: the reference's TakeCmd. -/
namespace Go.Proofs.Ytjaabakobpabjaa
open Go.ChangeShapes Go.WideShapes Go.ChangeAt Go.RowKit

end Go.Proofs.Ytjaabakobpabjaa
/- Wire: the reference's TakeJoint. -/
namespace Go.Proofs.Ytjaabakobpabjaa
open Go.ChangeShapes Go.WideShapes Go.ChangeAt Go.RowKit

end Go.Proofs.Ytjaabakobpabjaa
/- Hard: the reference's steps of reading; entries up to a number. -/
namespace Go.Proofs.Ytjaabakobpabjaa
open Go.ChangeShapes Go.WideShapes Go.ChangeAt Go.RowKit

theorem RfW.far {B R A : Nat} {w w' : World} {xs : List Int} {bad : Bool} (h : RfW B w R xs bad) (g : w.grownBy w' (some A)) (hn : R ≠ A) (hA : B ≤ A) : RfW B w' R xs bad := by
  obtain ⟨⟨hB, p, cap, hR, hS⟩, o, l⟩ := h
  have hl := block_lt hR
  exact ⟨⟨hB, p, cap, (g.block R hl (by simpa using hn)).trans hR, hS.keep ((Below.refl B w).grown g (by omega) (fun k e => by cases e; exact hA))⟩, o, l⟩
end Go.Proofs.Ytjaabakobpabjaa
/- Hard: the reference's entries up to a number. -/
namespace Go.Proofs.Ytjaabakobpabjaa
open Go.ChangeShapes Go.WideShapes Go.ChangeAt Go.RowKit

end Go.Proofs.Ytjaabakobpabjaa
/- Whole structs by value: a struct built of two parts, a slice of two structs, whatever their cells. -/
namespace Go.Proofs.Ytjaabakobpabjaa

theorem wpList_want {P : Program} {ops : Array Oper} {rest : List Oper} {o : Oper} {a : Act} {w : World} {Q : Exit → Act → World → Prop} (hw : Region.wanted o (yielded ops a.tmps) = true) (h : ∀ K : Act → World → Prop, (∀ a w, wpList P ops Q rest a w → K a w) → o.wp P a w K Q) : wpList P ops Q (o :: rest) a w :=
  wpList_step fun K hK => by simp only [hw, if_true]; exact h K hK
/-- A load of a whole struct, its guard true. -/
theorem wpList_load_g {P : Program} {ops : Array Oper} {rest : List Oper} {op : Oper} {a : Act} {w : World} {Q : Exit → Act → World → Prop} (hw : Region.wanted op (yielded ops a.tmps) = true) (ty : TypeId) (x : Operand) (ho : op.op = .load ty x)
    (b o : Nat) (hx : a.eval x = .pointer (some ⟨b, o, none⟩)) (cs : List Value) (d : TypeDesc) (hc : w.rangeAt b o cs)
    (hu : P.underlying ty = some d) (hd : d.isRow = true) (hi : (P.info? ty).map (·.size) = some cs.length)
    (h : wpList P ops Q rest (a.put op.dst (.agg cs.toArray)) w) : wpList P ops Q (op :: rest) a w :=
  wpList_want hw fun _ hK => wp_load_mid ty x ho b o hx cs d hc hu hd hi (hK _ _ h)
theorem parts_two (a : Act) (i j : Nat) (x y : Operand) : ((#[(i, x), (j, y)] : Array (Nat × Operand)).map fun (i, x) => (i, a.eval x)).toList = [(i, a.eval x), (j, a.eval y)] := by simp
theorem run_build_two {P : Program} {o : Oper} {a : Act} (w : World) (t : TypeId) (i j : Nat) (x y : Operand) (ho : o.op = .build t #[(i, x), (j, y)]) (vx vy : Value) (hx : a.eval x = vx) (hy : a.eval y = vy) (cells : Array Value) (hb : P.built t [(i, vx), (j, vy)] = some cells) :
    (execOp a.eval o).run P w = .ok (.value (.agg cells)) w := by
  unfold execOp
  subst hx hy
  simp only [ho, Sem.run_bind, run_build w t _ cells (by rw [parts_two]; exact hb), Result.andThen_ok]
  rfl
theorem yields_build_two {P : Program} {ops : Array Oper} {S : World → Prop} {o : Oper} {a : Act} (hw : Region.wanted o (yielded ops a.tmps) = true) (t : TypeId) (i j : Nat) (x y : Operand) (ho : o.op = .build t #[(i, x), (j, y)]) (vx vy : Value) (hx : a.eval x = vx) (hy : a.eval y = vy) (cells : Array Value) (hb : P.built t [(i, vx), (j, vy)] = some cells) : YieldsIf P ops S o (.agg cells) a :=
  .inl ⟨hw, fun w _ => run_build_two w t i j x y ho vx vy hx hy cells hb⟩
end Go.Proofs.Ytjaabakobpabjaa
/- Hard: what a record says to a core, the document's: letters H, X, and none. -/
namespace Go.Proofs.Ytjaabakobpabjaa
open Go.ChangeShapes Go.WideShapes Go.ChangeAt Go.RowKit

/-- Other blocks than the reader's stay as they are. -/
theorem grown_belowC {w w' : World} (hb : Below w.heap.size w w') (r : Option Nat) : w.grownBy w' r := ⟨hb.os, hb.tape, hb.output, hb.size, fun k hk _ => hb.block k hk⟩
theorem grown_new {w0 w w' : World} {R : Nat} {r : Option Nat} (h : w0.grownBy w (some R)) (hg : w.grownBy w' r) (hr : ∀ k, r = some k → w0.heap.size ≤ k) : w0.grownBy w' (some R) :=
  ⟨hg.os.trans h.os, hg.tape.trans h.tape, hg.output.trans h.output, Nat.le_trans h.size hg.size, fun k hk hn => (hg.block k (Nat.lt_of_lt_of_le hk h.size) (fun e => by have := hr k e.symm; omega)).trans (h.block k hk hn)⟩
/-- In the midst: the core's block, the result's, the reader's. -/
structure OnW (B0 B A Z R : Nat) (w0 w : World) (ys : List Int) (b : Bool) (y : CoX) : Prop where
  bl : Below B w0 w
  a : w.heap[A]? = some (.cells y.v.toArray 48 (0, 0))
  z : w.heap[Z]? = some (.cells (coL co0 none 0).toArray 48 (0, 0))
  r : RfW B w R ys b
  o : CoOwn B0 w y
  g : w0.grownBy w (some R)
  nA : w0.heap.size ≤ A
  nZ : w0.heap.size ≤ Z
theorem OnW.lt {B0 B A Z R : Nat} {w0 w : World} {ys : List Int} {b : Bool} {y : CoX} (h : OnW B0 B A Z R w0 w ys b y) : B ≤ w.heap.size := Nat.le_of_lt (Nat.lt_of_le_of_lt h.r.r.1 h.r.lt)
theorem OnW.keep {B0 B A Z R : Nat} {w0 w w' : World} {ys : List Int} {b : Bool} {y : CoX} (h : OnW B0 B A Z R w0 w ys b y) (hb : Below w.heap.size w w') : OnW B0 B A Z R w0 w' ys b y :=
  ⟨h.bl.trans (hb.mono h.lt), below_block hb (block_lt h.a) h.a, below_block hb (block_lt h.z) h.z, h.r.keep hb (Nat.le_refl _), own_keptC h.o hb, grown_transW h.g (grown_belowC hb _), h.nA, h.nZ⟩
theorem OnW.rd {B0 B A Z R : Nat} {w0 w w' : World} {ys zs : List Int} {b c : Bool} {y : CoX} (h : OnW B0 B A Z R w0 w ys b y) (hA : A ≠ R) (hZ : Z ≠ R) (hr : RfW B w' R zs c) (hg : w.grownBy w' (some R)) : OnW B0 B A Z R w0 w' zs c y := by
  obtain ⟨⟨hBR, p, cap, hR, _⟩, _, _⟩ := h.r
  exact ⟨h.bl.grown hg h.lt (fun k e => by cases e; exact hBR), stays_at hg h.a hA, stays_at hg h.z hZ, hr, h.o.kept hg (own_other h.o hR (by decide)), grown_transW h.g hg, h.nA, h.nZ⟩
theorem OnW.cell {B0 B A Z R : Nat} {w0 w : World} {ys : List Int} {b : Bool} {y : CoX} (h : OnW B0 B A Z R w0 w ys b y) (j : Nat) : w.cell? ⟨A, j, none⟩ = y.v[j]? := by rw [block_cells h.a, List.getElem?_toArray]
theorem OnW.free {B0 B A Z R : Nat} {w0 w : World} {ys : List Int} {b : Bool} {y : CoX} (h : OnW B0 B A Z R w0 w ys b y) (j : Nat) : w.frozen? ⟨A, j, none⟩ = false := block_free h.a j
/-- Some cells of the core are stored. -/
theorem OnW.puts {B0 B A Z R : Nat} {w0 w : World} {ys : List Int} {b : Bool} {x y : CoX} (h : OnW B0 B A Z R w0 w ys b x) (hB : B ≤ A) (hA : R ≠ A) (hZ : Z ≠ A) (j : Nat) (vs : List Value) (hy : y.v = setL x.v j vs) (he : CoOwn B0 w y) : OnW B0 B A Z R w0 (w.setCells A j vs) ys b y := by
  have hs := block_setCells vs j h.a
  refine ⟨h.bl.grown hs.2 h.lt (fun k e => by cases e; exact hB), ?_, stays_at hs.2 h.z hZ, h.r.far hs.2 hA hB, he.kept hs.2 (own_other he h.a (by decide)), grown_new h.g hs.2 (fun k e => by cases e; exact h.nA), h.nA, h.nZ⟩
  rw [hs.1, hy]
end Go.Proofs.Ytjaabakobpabjaa
