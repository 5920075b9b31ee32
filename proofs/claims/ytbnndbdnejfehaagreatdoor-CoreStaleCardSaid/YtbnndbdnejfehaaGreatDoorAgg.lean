import Derived.Test.YtbnndbdnejfehaaGreatDoorPlainRd
import Derived.Test.YtbnndbdnejfehaaGreatDoorLogA
import Derived.Test.YtbnndbdnejfehaaGreatDoorWireC
import Derived.Maps.AppendAt
import Derived.Deep.RegionHeld3
import Derived.Test.YtbnndbdnejfehaaGreatDoorPlainMayL
import Derived.Test.YtbnndbdnejfehaaGreatDoorLogN0
import Derived.Test.YtbnndbdnejfehaaGreatDoorLogG
import Derived.Test.YtbnndbdnejfehaaGreatDoorLogH
import Derived.Test.YtbnndbdnejfehaaGreatDoorProg
import Derived.Deep.MidRow
import Derived.Deep.WholeRow
import Derived.Great.BuildSlice
/- Wire: package wire's reader: texts; a list by whatever closure. -/
namespace Go.Proofs.YtbnndbdnejfehaaGreatDoor
open Go.ChangeShapes Go.WideShapes Go.ChangeAt Go.RowKit

end Go.Proofs.YtbnndbdnejfehaaGreatDoor
/- Wire: closures of package wire's reader that read one thing and append it. -/
namespace Go.Proofs.YtbnndbdnejfehaaGreatDoor
open Go.ChangeShapes Go.WideShapes Go.ChangeAt Go.RowKit

def VeV (x : VeX) : Prop := (In64 x.w ∧ In64 x.t) ∧ True ∧ TxV x.d
/-- Below base all but two blocks are as they were. -/
def KpB (base R g : Nat) (w w' : World) : Prop := ∀ k, k < base → k ≠ R → k ≠ g → w'.heap[k]? = w.heap[k]?
theorem KpB.trans {base R g : Nat} {w w1 w2 : World} (h : KpB base R g w w1) (k : KpB base R g w1 w2) : KpB base R g w w2 := fun i h1 h2 h3 => (k i h1 h2 h3).trans (h i h1 h2 h3)
/-- Where they lie. -/
structure LsP (n R T g base : Nat) : Prop where
  ng : n ≤ g
  rt : R < T
  rg : R < g
  gt : g ≠ T
  gb : g < base
  tb : T < base
end Go.Proofs.YtbnndbdnejfehaaGreatDoor
/- Wire: readers, the plain law: cells, states, commands, joints. -/
namespace Go.Proofs.YtbnndbdnejfehaaGreatDoor

def LkV (x : CeX) : Prop := (In64 x.yn ∧ In64 x.yl ∧ In64 x.ys ∧ In64 x.ya) ∧ In64 x.hm ∧ (In64 x.sw ∧ In64 x.st) ∧ True ∧ TxV x.ld
/-- A cell that bytes may say: without a lock, its lock is zero. -/
structure CeV (x : CeX) : Prop where
  k : TxV x.k
  n : x.vs.length ≤ 65536
  vs : ∀ v ∈ x.vs, VeV v
  l : x.lk = true → LkV x
  z : x.lk = false → x = ⟨x.k, x.vs, false, 0, 0, 0, 0, 0, 0, 0, false, ⟨#[]⟩⟩
/-- Two bytes. -/
def rd16 (xs : List Int) (bad : Bool) : Int × List Int × Bool := (if 2 ≤ xs.length then beVal (xs.take 2) else 0, xs.drop 2, bad || decide (xs.length < 2))
theorem rd16_ok : RdOk rd16 put2 In16 where
  sound xs a ys ho h := by
    unfold rd16 at h
    simp only [Prod.mk.injEq, Bool.false_or, decide_eq_false_iff_not] at h
    obtain ⟨h1, h2, h3⟩ := h
    rw [if_pos (by omega)] at h1
    have hl : (xs.take 2).length = 2 := by rw [List.length_take]; omega
    have hb := beVal_bound 2 _ hl (ho.take 2)
    have p := pre_val hl (ho.take 2)
    have e2 : (256 : Int) ^ 2 = 65536 := by decide
    refine ⟨⟨by omega, by omega⟩, ?_⟩
    unfold put2
    rw [← h1, ← h2]
    have p' : bePre (beVal (xs.take 2)) 2 2 = xs.take 2 := p
    rw [p', List.take_append_drop]
  compl a r h := by
    unfold rd16
    have hl : (put2 a ++ r).length = 2 + r.length := by rw [List.length_append, put2_len]
    have ht : (put2 a ++ r).take 2 = put2 a := List.take_left' (put2_len a)
    have hd : (put2 a ++ r).drop 2 = r := List.drop_left' (put2_len a)
    rw [if_pos (by omega), ht, hd]
    have hv : beVal (put2 a) = a := by
      have := beVal_pre a 2 2 (Nat.le_refl _) h.1 (by have := h.2; show a < 2 ^ 16; omega)
      unfold put2
      simpa using this
    rw [hv]
    simp only [Prod.mk.injEq, Bool.false_or, decide_eq_false_iff_not, true_and]
    omega
  sticky xs := by simp [rd16]
  oct xs b ho := ho.drop _
def rdCf : List Int → Bool → CfX × List Int × Bool := rdMap (rd2 rd16 (rd2 rd16 (rd2 rd16 (rd2 rdNw rdNw)))) fun p => ⟨p.1, p.2.1, p.2.2.1, p.2.2.2.1, p.2.2.2.2⟩
theorem rdCf_ok : RdOk rdCf encCf CfF :=
  rdMap_ok (rd2_ok rd16_ok (rd2_ok rd16_ok (rd2_ok rd16_ok (rd2_ok rdNw_ok rdNw_ok)))) (fun c => (c.v, c.x, c.l, c.e, c.k)) (fun _ => rfl) (fun a => by simp [encCf]) (fun _ => ⟨fun c => ⟨c.v, c.x, c.l, c.e, c.k⟩, fun c => ⟨c.1, c.2.1, c.2.2.1, c.2.2.2.1, c.2.2.2.2⟩⟩)
def rdJo : List Int → Bool → JoX × List Int × Bool := rdMap (rd2 rdCf (rd2 rdCf rdFw)) fun p => ⟨p.1, p.2.1, p.2.2⟩
theorem rdJo_ok : RdOk rdJo encJo JoF :=
  rdMap_ok (rd2_ok rdCf_ok (rd2_ok rdCf_ok rdFw_ok)) (fun j => (j.o, j.n, j.two)) (fun _ => rfl) (fun a => by simp [encJo]) (fun _ => ⟨fun c => ⟨c.o, c.n, trivial⟩, fun c => ⟨c.1, c.2.1⟩⟩)
end Go.Proofs.YtbnndbdnejfehaaGreatDoor
/- Wire: the reference's reader, the plain law: it stays where it is when it cannot go on. -/
namespace Go.Proofs.YtbnndbdnejfehaaGreatDoor

/-- A reader that tells the same wherever one of the two can read is as good. -/
theorem RdOk.like {α : Type} {f g : List Int → Bool → α × List Int × Bool} {e : α → List Int} {k : α → Prop} (hf : RdOk f e k) (h1 : ∀ xs, (g xs false).2.2 = false → g xs false = f xs false) (h2 : ∀ xs, (f xs false).2.2 = false → g xs false = f xs false) (hs : ∀ xs, (g xs true).2.2 = true) (ho : ∀ xs b, Oct xs → Oct (g xs b).2.1) : RdOk g e k where
  sound xs a ys hx h := hf.sound xs a ys hx (by rw [← h1 xs (by rw [h])]; exact h)
  compl a r ha := by
    have h := hf.compl a r ha
    rw [h2 _ (by rw [h])]; exact h
  sticky := hs
  oct := ho
/-- It stays where it is when it cannot go on. -/
def stick {α : Type} (f : List Int → Bool → α × List Int × Bool) (a0 : α) (xs : List Int) (b : Bool) : α × List Int × Bool := if (f xs b).2.2 = true then (a0, xs, true) else f xs b
theorem stick_bad {α : Type} {f : List Int → Bool → α × List Int × Bool} {a0 : α} {xs : List Int} {b : Bool} (h : (f xs b).2.2 = true) : stick f a0 xs b = (a0, xs, true) := if_pos h
theorem stick_good {α : Type} {f : List Int → Bool → α × List Int × Bool} {a0 : α} {xs : List Int} {b : Bool} (h : (f xs b).2.2 = false) : stick f a0 xs b = f xs b := if_neg (by rw [h]; decide)
theorem stick_eq {α : Type} {f : List Int → Bool → α × List Int × Bool} {a0 : α} {xs : List Int} {b : Bool} (h : (stick f a0 xs b).2.2 = false) : stick f a0 xs b = f xs b := by
  cases hb : (f xs b).2.2 with
  | false => exact stick_good hb
  | true => rw [stick_bad hb] at h; cases h
theorem stick_ok {α : Type} {f : List Int → Bool → α × List Int × Bool} {e : α → List Int} {k : α → Prop} (hf : RdOk f e k) (a0 : α) : RdOk (stick f a0) e k :=
  hf.like (fun _ h => stick_eq h) (fun _ h => stick_good h) (fun xs => by rw [stick_bad (hf.sticky xs)]) (fun xs b ho => by
    cases hb : (f xs b).2.2 with
    | false => rw [stick_good hb]; exact hf.oct xs b ho
    | true => rw [stick_bad hb]; exact ho)
end Go.Proofs.YtbnndbdnejfehaaGreatDoor
/- Hard: the plain law: records that are read, and what they do to a core. -/
namespace Go.Proofs.YtbnndbdnejfehaaGreatDoor

/-- Two readers of the same bytes tell the same, where all is read. -/
theorem RdOk.all {α : Type} {f g : List Int → Bool → α × List Int × Bool} {e : α → List Int} {k : α → Prop} (hf : RdOk f e k) (hg : RdOk g e k) {xs : List Int} (ho : Oct xs) (h : (f xs false).2 = ([], false)) : g xs false = f xs false := by
  obtain ⟨a, ha⟩ : ∃ a, f xs false = (a, [], false) := ⟨(f xs false).1, by rw [← h]⟩
  obtain ⟨h1, h2⟩ := hf.sound xs a [] ho ha
  rw [ha, h2]; exact hg.compl a [] h1
/-- A second thing, if the first one asks for it. -/
def rdIf {α β : Type} (f : List Int → Bool → α × List Int × Bool) (c : α → Bool) (g : List Int → Bool → β × List Int × Bool) (b0 : β) (xs : List Int) (b : Bool) : (α × β) × List Int × Bool :=
  if c (f xs b).1 = true then (((f xs b).1, (g (f xs b).2.1 (f xs b).2.2).1), (g (f xs b).2.1 (f xs b).2.2).2.1, (g (f xs b).2.1 (f xs b).2.2).2.2) else (((f xs b).1, b0), (f xs b).2.1, (f xs b).2.2)
/-- A number that is none but from 0 to the greatest one. -/
def CnV (v : Int) : Prop := 0 ≤ v ∧ v ≤ 1125899906842624
theorem CnV.i64 {v : Int} (h : CnV v) : In64 v := by unfold CnV at h; unfold In64; omega
def hrC (xs : List Int) (b : Bool) : Int × List Int × Bool := ((rdNw xs b).1, (rdNw xs b).2.1, (rdNw xs b).2.2 || decide ((rdNw xs b).1 < 0) || decide (1125899906842624 < (rdNw xs b).1))
theorem hrC_ok : RdOk hrC encN CnV where
  sound xs a ys ho h := by
    unfold hrC at h
    simp only [Prod.mk.injEq, Bool.or_eq_false_iff, decide_eq_false_iff_not] at h
    obtain ⟨h1, h2, ⟨h3, h4⟩, h5⟩ := h
    obtain ⟨-, k⟩ := rdNw_ok.sound xs a ys ho (by rw [← h1]; exact trip h2 h3)
    exact ⟨⟨by omega, by omega⟩, k⟩
  compl a r h := by
    unfold hrC
    rw [rdNw_ok.compl a r h.i64]
    have h1 : decide (a < 0) = false := by have := h.1; simp; omega
    have h2 : decide (1125899906842624 < a) = false := by have := h.2; simp; omega
    simp only [h1, h2, Bool.or_false]
  sticky xs := by unfold hrC; rw [rdNw_ok.sticky]; rfl
  oct xs b ho := rdNw_ok.oct xs b ho
/-- A joint. -/
def jo0 : JoX := ⟨⟨0, 0, 0, 0, 0⟩, ⟨0, 0, 0, 0, 0⟩, false⟩
def stJ (xs : List Int) : JoX × List Int × Bool := stick rdJo jo0 xs false
def hrJ (xs : List Int) (b : Bool) : JoX × List Int × Bool := ((stJ xs).1, (stJ xs).2.1, b || (stJ xs).2.2)
theorem hrJ_false (xs : List Int) : hrJ xs false = stJ xs := by
  unfold hrJ
  rw [Bool.false_or]
theorem stJ_ok : RdOk (stick rdJo jo0) encJo JoF := stick_ok rdJo_ok jo0
theorem hrJ_true (xs : List Int) : (hrJ xs true).2.2 = true := by simp only [hrJ, Bool.true_or]
theorem hrJ_rest (xs : List Int) (b : Bool) : (hrJ xs b).2.1 = (stick rdJo jo0 xs false).2.1 := by simp only [hrJ, stJ]
theorem hrJ_eq (xs : List Int) : hrJ xs false = stick rdJo jo0 xs false := hrJ_false xs
theorem hrJ_ok : RdOk hrJ encJo JoF :=
  ⟨fun xs a ys ho h => stJ_ok.sound xs a ys ho (by rw [hrJ_eq] at h; exact h), fun a r h => by rw [hrJ_eq]; exact stJ_ok.compl a r h, hrJ_true, fun xs b ho => by rw [hrJ_rest]; exact stJ_ok.oct xs false ho⟩
/-- A record of a range, behind its letter and the range. -/
inductive Rc
  | hd (tm vt : Int)
  | sn (b bt : Int) (j : JoX) (s : ByteArray)
  | en (i : Int) (e : Ent)
  | ct (i : Int)
def jnX (j : JoX) : Jn := ⟨j.o.v, j.o.x, j.o.l, j.o.e, j.o.k, j.n.v, j.n.x, j.n.l, j.n.e, j.n.k, j.two⟩
abbrev RdT (α : Type) := List Int → Bool → α × List Int × Bool
def hdB : RdT (Int × Int) := rd2 hrC hrC
def snB : RdT (Int × Int × JoX × ByteArray) := rd2 hrC (rd2 hrC (rd2 hrJ rdTw))
def enB : RdT ((Int × Int × Int × ByteArray) × JoX) := rdIf (rd2 hrC (rd2 hrC (rd2 rdNw rdTw))) (fun p => decide (p.2.2.1 = 2)) hrJ jo0
def enE (p : (Int × Int × Int × ByteArray) × JoX) : Ent := ⟨p.1.2.1, p.1.2.2.1, p.1.2.2.2, jnX p.2⟩
def allR {α : Type} (r : α × List Int × Bool) (f : α → Rc) : Option Rc := if r.2 = ([], false) then some (f r.1) else none
def sayB (c : Int) (xs : List Int) : Option Rc :=
  if c = 72 then allR (hdB xs false) fun p => .hd p.1 p.2
  else if c = 83 then allR (snB xs false) fun p => .sn p.1 p.2.1 p.2.2.1 p.2.2.2
  else if c = 69 then allR (enB xs false) fun p => .en p.1.1 (enE p)
  else if c = 88 then allR (hrC xs false) fun p => .ct p
  else none
/-- What a record does to a core. -/
def snL (l : Lg) (b bt : Int) (j : Jn) : Lg := ⟨b, bt, j, if (compactL l b).2 = 0 ∧ (compactL l b).1.bt = bt then (compactL l b).1.es else []⟩
def apRc (c : Co) : Rc → Co
  | .hd tm vt => { c with tm := tm, vt := vt }
  | .sn b bt j s => { c with l := snL c.l b bt (jnX j), sn := s }
  | .en i e => if c.l.b < i ∧ i ≤ c.l.last + 1 then { c with l := { c.l with es := c.l.es.take (i - c.l.b - 1).toNat ++ [e] } } else c
  | .ct i => { c with l := { c.l with es := c.l.es.take (i - c.l.b).toNat } }
def newCo (id : Int) (j : Jn) : Co := { co0 with id := id, l := { lg0 with j := j } }
end Go.Proofs.YtbnndbdnejfehaaGreatDoor
/- Hard: package hard's reader: its block. -/
namespace Go.Proofs.YtbnndbdnejfehaaGreatDoor
open Go.ChangeShapes Go.WideShapes Go.ChangeAt Go.RowKit

end Go.Proofs.YtbnndbdnejfehaaGreatDoor
/- Wire: package wire's readers of lists of outcomes, of cells. -/
namespace Go.Proofs.YtbnndbdnejfehaaGreatDoor
open Go.ChangeShapes Go.WideShapes Go.ChangeAt Go.RowKit

end Go.Proofs.YtbnndbdnejfehaaGreatDoor
/- Wire: package wire's closure that reads a cell and appends it. -/
namespace Go.Proofs.YtbnndbdnejfehaaGreatDoor
open Go.ChangeShapes Go.WideShapes Go.ChangeAt Go.RowKit

end Go.Proofs.YtbnndbdnejfehaaGreatDoor
/- Wire: rows of the call's own as lists; what reading a command, a state tells. -/
namespace Go.Proofs.YtbnndbdnejfehaaGreatDoor
open Go.ChangeShapes Go.WideShapes Go.ChangeAt Go.RowKit

end Go.Proofs.YtbnndbdnejfehaaGreatDoor
/- Wire: package wire's readers of joints. -/
namespace Go.Proofs.YtbnndbdnejfehaaGreatDoor
open Go.ChangeShapes Go.WideShapes Go.ChangeAt Go.RowKit

end Go.Proofs.YtbnndbdnejfehaaGreatDoor
/- Hard: package hard's reader: its steps. -/
namespace Go.Proofs.YtbnndbdnejfehaaGreatDoor
open Go.ChangeShapes Go.WideShapes Go.ChangeAt Go.RowKit

end Go.Proofs.YtbnndbdnejfehaaGreatDoor
/- Whole structs by value: loads and stores of all cells at once, whatever they are. -/
namespace Go.Proofs.YtbnndbdnejfehaaGreatDoor

/-- A struct is stored into a block that has just been made. -/
theorem wpList_store_new {P : Program} {ops : Array Oper} {rest : List Oper} {op : Oper} {a : Act} {w : World} {Q : Exit → Act → World → Prop} (hgd : op.guard = none) (ty : TypeId) (x y : Operand) (ho : op.op = .store ty x y)
    (c c' : Array Value) (hx : a.eval x = .pointer (some ⟨w.heap.size, 0, none⟩)) (hy : a.eval y = .agg c') (hi : (P.info? ty).map (·.size) = some c'.size) (hs : c.size = c'.size) (h1 : c'.all (·.oneCell') = true)
    (h : wpList P ops Q rest (a.put op.dst undef) (w.alloc (.cells c' ty))) : wpList P ops Q (op :: rest) a (w.alloc (.cells c ty)) :=
  wpList_plain hgd fun _ hK => by
    unfold Oper.wp execOp
    simp only [ho, hx, hy, run_storeAt_new w ty c c' hi hs h1, Sem.run_bind, Sem.run_pure, Result.andThen_ok]
    exact hK _ _ h
/-- A struct is stored into cells that are there. -/
theorem wpList_store_at {P : Program} {ops : Array Oper} {rest : List Oper} {op : Oper} {a : Act} {w : World} {Q : Exit → Act → World → Prop} (hgd : op.guard = none) (ty : TypeId) (x y : Operand) (ho : op.op = .store ty x y)
    (b o n : Nat) (cells : Array Value) (hn : cells.size = n) (hx : a.eval x = .pointer (some ⟨b, o, none⟩)) (hy : a.eval y = .agg cells)
    (ht : w.there b o n) (hi : (P.info? ty).map (·.size) = some n) (h1 : cells.all (·.oneCell') = true)
    (h : wpList P ops Q rest (a.put op.dst undef) (w.setCells b o cells.toList)) : wpList P ops Q (op :: rest) a w := by
  subst hn; exact wpList_store_mid hgd ty x y ho b o cells hx hy ht hi h1 h
theorem fill_one {cs : List Value} {n : Nat} {cells : Array Value} (hn : cs.length = n) (h0 : 0 < n) (hc : cells.size = n) : Instr.fill (fun i => some (i * n, n)) cells [(0, .agg cs.toArray)] = some cs.toArray := by
  have := Great.fill_whole h0 [.agg cs.toArray] cells (fun v hv => by rw [List.mem_singleton] at hv; rw [hv]; simpa [Value.cells] using hn) (by simp [hc])
  simpa [Value.cells] using this
/-- A slice of one struct, whatever its cells. -/
theorem wp_slice_one {P : Program} {o : Oper} {a : Act} {w : World} {K : Act → World → Prop} {Q : Exit → Act → World → Prop} (t e : TypeId) (x : Operand) (ho : o.op = .buildSlice t 1 #[(0, x)])
    (cs : List Value) (n : Nat) (ie : TypeInfo) (z : Value) (hx : a.eval x = .agg cs.toArray) (hn : cs.length = n) (h0 : 0 < n) (hl : n ≤ 2 ^ 24)
    (hu : P.underlying t = some (.slice e)) (hie : P.info? e = some ie) (hz : ie.zero = some z) (hs : ie.size = n)
    (h : K (a.put o.dst (.slice (some ⟨w.heap.size, 0, none⟩) 1 1)) (w.alloc (.cells cs.toArray e))) : o.wp P a w K Q :=
  wp_buildSlice t e 1 _ ho cs.toArray ie z hu hie hz (by rw [hs]; omega) (by rw [hs]; omega) (by
    rw [hs]
    have he : (#[(0, x)].map fun (i, x) => (i, a.eval x)).toList = [(0, .agg cs.toArray)] := by simp [hx]
    rw [he]
    exact fill_one hn h0 (by simp)) h
theorem range_of {w : World} {b o n : Nat} {cs : List Value} (hn : cs.length = n) (h : ∀ j, j < n → w.cell? ⟨b, o + j, none⟩ = cs[j]?) : w.rangeAt b o cs := fun j v hv => by
  have hj : j < cs.length := (List.getElem?_eq_some_iff.1 hv).1
  rw [h j (by omega), hv]
theorem one_all {cs : List Value} (h : cs.all (·.oneCell') = true) : cs.toArray.all (·.oneCell') = true := all_oneCell_toArray (List.all_eq_true.1 h)
end Go.Proofs.YtbnndbdnejfehaaGreatDoor
