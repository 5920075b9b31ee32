import Derived.Test.YtjaabakobpabjaaPlainHard
import Derived.Test.YtjaabakobpabjaaPlainRf
import Derived.Test.YtjaabakobpabjaaLogM
import Derived.Test.YtjaabakobpabjaaOpenLog
/- Hard: the plain law: records that are read, and what they do to a core. -/
namespace Go.Proofs.Ytjaabakobpabjaa

/-- Two readers of the same bytes tell the same, where all is read. -/
theorem RdOk.all {α : Type} {f g : List Int → Bool → α × List Int × Bool} {e : α → List Int} {k : α → Prop} (hf : RdOk f e k) (hg : RdOk g e k) {xs : List Int} (ho : Oct xs) (h : (f xs false).2 = ([], false)) : g xs false = f xs false := by
  obtain ⟨a, ha⟩ : ∃ a, f xs false = (a, [], false) := ⟨(f xs false).1, by rw [← h]⟩
  obtain ⟨h1, h2⟩ := hf.sound xs a [] ho ha
  rw [ha, h2]; exact hg.compl a [] h1
/-- A second thing, if the first one asks for it. -/
def rdIf {α β : Type} (f : List Int → Bool → α × List Int × Bool) (c : α → Bool) (g : List Int → Bool → β × List Int × Bool) (b0 : β) (xs : List Int) (b : Bool) : (α × β) × List Int × Bool :=
  if c (f xs b).1 = true then (((f xs b).1, (g (f xs b).2.1 (f xs b).2.2).1), (g (f xs b).2.1 (f xs b).2.2).2.1, (g (f xs b).2.1 (f xs b).2.2).2.2) else (((f xs b).1, b0), (f xs b).2.1, (f xs b).2.2)
theorem rdIf_ok {α β : Type} {f : List Int → Bool → α × List Int × Bool} {g : List Int → Bool → β × List Int × Bool} {e1 : α → List Int} {e2 : β → List Int} {k1 : α → Prop} {k2 : β → Prop} (hf : RdOk f e1 k1) (hg : RdOk g e2 k2) (c : α → Bool) (b0 : β) :
    RdOk (rdIf f c g b0) (fun p => e1 p.1 ++ (if c p.1 = true then e2 p.2 else [])) (fun p => k1 p.1 ∧ if c p.1 = true then k2 p.2 else p.2 = b0) where
  sound xs p ys ho h := by
    obtain ⟨a, d⟩ := p
    unfold rdIf at h
    obtain ⟨⟨a', zs, b1⟩, hr⟩ : ∃ r, f xs false = r := ⟨_, rfl⟩
    rw [hr] at h
    dsimp only at h
    cases hc : c a' with
    | true =>
      rw [hc, if_pos rfl] at h
      simp only [Prod.mk.injEq] at h
      obtain ⟨⟨rfl, h1⟩, h2, h3⟩ := h
      have hb1 : b1 = false := by
        cases b1 with
        | false => rfl
        | true => rw [hg.sticky] at h3; cases h3
      subst hb1
      obtain ⟨o1, e1'⟩ := hf.sound xs _ _ ho hr
      have ho2 : Oct zs := by have := hf.oct xs false ho; rw [hr] at this; exact this
      obtain ⟨o2, e2'⟩ := hg.sound zs d ys ho2 (by rw [← h1]; exact trip h2 h3)
      simp only [hc, if_true]
      exact ⟨⟨o1, o2⟩, by rw [List.append_assoc, ← e2']; exact e1'⟩
    | false =>
      rw [hc, if_neg (by decide)] at h
      simp only [Prod.mk.injEq] at h
      obtain ⟨⟨rfl, rfl⟩, rfl, rfl⟩ := h
      obtain ⟨o1, e1'⟩ := hf.sound xs _ _ ho hr
      simp only [hc, Bool.false_eq_true, if_false, List.append_nil]
      exact ⟨⟨o1, trivial⟩, e1'⟩
  compl p r h := by
    obtain ⟨a, d⟩ := p
    unfold rdIf
    dsimp only at h ⊢
    cases hc : c a with
    | true =>
      rw [hc] at h
      simp only [if_true] at h
      simp only [if_true, List.append_assoc, hf.compl a _ h.1, hc, hg.compl d r h.2]
    | false =>
      rw [hc] at h
      simp only [Bool.false_eq_true, if_false] at h
      simp only [Bool.false_eq_true, if_false, List.append_nil, hf.compl a _ h.1, hc, h.2]
  sticky xs := by
    unfold rdIf
    split
    · show (g _ _).2.2 = true
      rw [hf.sticky]; exact hg.sticky _
    · exact hf.sticky xs
  oct xs b ho := by
    unfold rdIf
    split
    · exact hg.oct _ _ (hf.oct _ _ ho)
    · exact hf.oct _ _ ho
/-- A number that is none but from 0 to the greatest one. -/
def CnV (v : Int) : Prop := 0 ≤ v ∧ v ≤ 1125899906842624
theorem CnV.i64 {v : Int} (h : CnV v) : In64 v := by unfold CnV at h; unfold In64; omega
def hrC (xs : List Int) (b : Bool) : Int × List Int × Bool := ((rdNw xs b).1, (rdNw xs b).2.1, (rdNw xs b).2.2 || decide ((rdNw xs b).1 < 0) || decide (1125899906842624 < (rdNw xs b).1))
theorem hrC_ok : RdOk hrC encN CnV where
  sound xs a ys ho h := by
    unfold hrC at h
    simp only [Prod.mk.injEq, Bool.or_eq_false_iff, decide_eq_false_iff_not] at h
    obtain ⟨h1, h2, ⟨h3, h4⟩, h5⟩ := h
    obtain ⟨-, k⟩ := rdNw_ok.sound xs a ys ho (by rw [← h1]; exact trip h2 h3)
    exact ⟨⟨by omega, by omega⟩, k⟩
  compl a r h := by
    unfold hrC
    rw [rdNw_ok.compl a r h.i64]
    have h1 : decide (a < 0) = false := by have := h.1; simp; omega
    have h2 : decide (1125899906842624 < a) = false := by have := h.2; simp; omega
    simp only [h1, h2, Bool.or_false]
  sticky xs := by unfold hrC; rw [rdNw_ok.sticky]; rfl
  oct xs b ho := rdNw_ok.oct xs b ho
/-- A joint. -/
def jo0 : JoX := ⟨⟨0, 0, 0, 0, 0⟩, ⟨0, 0, 0, 0, 0⟩, false⟩
def stJ (xs : List Int) : JoX × List Int × Bool := stick rdJo jo0 xs false
def hrJ (xs : List Int) (b : Bool) : JoX × List Int × Bool := ((stJ xs).1, (stJ xs).2.1, b || (stJ xs).2.2)
theorem hrJ_false (xs : List Int) : hrJ xs false = stJ xs := by
  unfold hrJ
  rw [Bool.false_or]
theorem stJ_ok : RdOk (stick rdJo jo0) encJo JoF := stick_ok rdJo_ok jo0
theorem hrJ_true (xs : List Int) : (hrJ xs true).2.2 = true := by simp only [hrJ, Bool.true_or]
theorem hrJ_rest (xs : List Int) (b : Bool) : (hrJ xs b).2.1 = (stick rdJo jo0 xs false).2.1 := by simp only [hrJ, stJ]
theorem hrJ_eq (xs : List Int) : hrJ xs false = stick rdJo jo0 xs false := hrJ_false xs
theorem hrJ_ok : RdOk hrJ encJo JoF :=
  ⟨fun xs a ys ho h => stJ_ok.sound xs a ys ho (by rw [hrJ_eq] at h; exact h), fun a r h => by rw [hrJ_eq]; exact stJ_ok.compl a r h, hrJ_true, fun xs b ho => by rw [hrJ_rest]; exact stJ_ok.oct xs false ho⟩
/-- A record of a range, behind its letter and the range. -/
inductive Rc
  | hd (tm vt : Int)
  | sn (b bt : Int) (j : JoX) (s : ByteArray)
  | en (i : Int) (e : Ent)
  | ct (i : Int)
def jnX (j : JoX) : Jn := ⟨j.o.v, j.o.x, j.o.l, j.o.e, j.o.k, j.n.v, j.n.x, j.n.l, j.n.e, j.n.k, j.two⟩
abbrev RdT (α : Type) := List Int → Bool → α × List Int × Bool
def hdB : RdT (Int × Int) := rd2 hrC hrC
def snB : RdT (Int × Int × JoX × ByteArray) := rd2 hrC (rd2 hrC (rd2 hrJ rdTw))
def enB : RdT ((Int × Int × Int × ByteArray) × JoX) := rdIf (rd2 hrC (rd2 hrC (rd2 rdNw rdTw))) (fun p => decide (p.2.2.1 = 2)) hrJ jo0
def enE (p : (Int × Int × Int × ByteArray) × JoX) : Ent := ⟨p.1.2.1, p.1.2.2.1, p.1.2.2.2, jnX p.2⟩
def allR {α : Type} (r : α × List Int × Bool) (f : α → Rc) : Option Rc := if r.2 = ([], false) then some (f r.1) else none
def sayB (c : Int) (xs : List Int) : Option Rc :=
  if c = 72 then allR (hdB xs false) fun p => .hd p.1 p.2
  else if c = 83 then allR (snB xs false) fun p => .sn p.1 p.2.1 p.2.2.1 p.2.2.2
  else if c = 69 then allR (enB xs false) fun p => .en p.1.1 (enE p)
  else if c = 88 then allR (hrC xs false) fun p => .ct p
  else none
/-- What a record does to a core. -/
def snL (l : Lg) (b bt : Int) (j : Jn) : Lg := ⟨b, bt, j, if (compactL l b).2 = 0 ∧ (compactL l b).1.bt = bt then (compactL l b).1.es else []⟩
def apRc (c : Co) : Rc → Co
  | .hd tm vt => { c with tm := tm, vt := vt }
  | .sn b bt j s => { c with l := snL c.l b bt (jnX j), sn := s }
  | .en i e => if c.l.b < i ∧ i ≤ c.l.last + 1 then { c with l := { c.l with es := c.l.es.take (i - c.l.b - 1).toNat ++ [e] } } else c
  | .ct i => { c with l := { c.l with es := c.l.es.take (i - c.l.b).toNat } }
/-- The document's: entries that stay where the term agrees. -/
theorem snL_ref (l : Lg) (b bt : Int) (j : Jn) : snL l b bt j = ⟨b, bt, j, if termL l b = (bt, true) then sliceL l (b + 1) l.es.length else []⟩ := by
  unfold snL compactL
  obtain ⟨⟨t, is⟩, ht⟩ : ∃ x, termL l b = x := ⟨_, rfl⟩
  rw [ht]
  cases is with
  | false => simp
  | true =>
    have hk := termL_known (l := l) (i := b) (by rw [ht])
    by_cases e : t = bt
    · subst e
      simp only [if_true, true_and]
      congr 1
      unfold sliceL fromK
      unfold Lg.last at hk
      rw [if_pos (by omega), List.take_of_length_le (by rw [List.length_drop]; omega)]
      congr 1
      omega
    · simp [e]
def bldStep (s : Option (Int × List Co)) (xs : List Int) : Option (Int × List Co) :=
  match s, xs with
  | none, _ => none
  | some _, [] => none
  | some (life, cs), a :: t =>
    if a = 76 then (if (rdNw t false).2 = ([], false) then some ((rdNw t false).1, cs) else none)
    else if (rdNw t false).2.2 = true ∨ (rdNw t false).1 < 0 ∨ (cs.length : Int) ≤ (rdNw t false).1 then none
    else match sayB a (rdNw t false).2.1, cs[(rdNw t false).1.toNat]? with
      | some rc, some c => some (life, cs.set (rdNw t false).1.toNat (apRc c rc))
      | _, _ => none
def newCo (id : Int) (j : Jn) : Co := { co0 with id := id, l := { lg0 with j := j } }
def bld (id : Int) (js : List Jn) (recs : List (List Int)) : Option (Int × List Co) := recs.foldl bldStep (some (0, js.map (newCo id)))
def endCo (c : Co) : Co := { c with cm := c.l.b }
theorem bld_none (recs : List (List Int)) : recs.foldl bldStep none = none := by
  induction recs with
  | nil => rfl
  | cons x t ih => exact ih
end Go.Proofs.Ytjaabakobpabjaa
/- Hard: package hard's reader: its block. -/
namespace Go.Proofs.Ytjaabakobpabjaa
open Go.ChangeShapes Go.WideShapes Go.ChangeAt Go.RowKit

def HrS (B : Nat) (w : World) (R : Nat) (xs : List Int) (bad : Bool) : Prop :=
  B ≤ R ∧ ∃ p cap, w.heap[R]? = some (.cells #[.slice p xs.length cap, .bool bad] 71 (0, 0)) ∧ Sl B w (.slice p xs.length cap) 1 xs.length (byt xs)
theorem HrS.setBad {B R : Nat} {w : World} {xs : List Int} {bad : Bool} (h : HrS B w R xs bad) (b : Bool) : HrS B (w.setCell ⟨R, 1, none⟩ (.bool b)) R xs b := by
  obtain ⟨hB, p, cap, hR, hS⟩ := h
  exact ⟨hB, p, cap, (cells_setW hR 1 _).trans rfl, sl_setW hS hB _⟩
theorem HrS.setB {B R : Nat} {w : World} {xs ys : List Int} {bad : Bool} {p : Option Addr} {c : Nat} (h : HrS B w R xs bad) (hs : Sl B w (.slice p ys.length c) 1 ys.length (byt ys)) : HrS B (w.setCell ⟨R, 0, none⟩ (.slice p ys.length c)) R ys bad := by
  obtain ⟨hB, p', cap, hR, hS⟩ := h
  exact ⟨hB, p, c, (cells_setW hR 0 _).trans rfl, sl_setW hs hB _⟩
theorem HrS.drew {B R : Nat} {w : World} {xs : List Int} {bad : Bool} (h : HrS B w R xs bad) : HrS B w.drew R xs bad := by
  obtain ⟨hBR, p, cap, hR, hS⟩ := h
  exact ⟨hBR, p, cap, hR, hS.keep (Below.refl _ _).drew⟩
theorem HrS.keep {B R : Nat} {w w' : World} {xs : List Int} {bad : Bool} (h : HrS B w R xs bad) {A : Nat} (hb : Below A w w') (hA : w.heap.size ≤ A) : HrS B w' R xs bad := by
  obtain ⟨hBR, p, cap, hR, hS⟩ := h
  have hRA : R < A := Nat.lt_of_lt_of_le (block_lt hR) hA
  exact ⟨hBR, p, cap, below_block hb hRA hR, hS.keep (hb.mono (by omega))⟩
theorem HrS.setFar {B R : Nat} {w : World} {xs : List Int} {bad : Bool} (h : HrS B w R xs bad) {Z j : Nat} (hZ : R < Z) (v : Value) : HrS B (w.setCell ⟨Z, j, none⟩ v) R xs bad := by
  obtain ⟨hBR, p, cap, hR, hS⟩ := h
  exact ⟨hBR, p, cap, (Below.heap_setCell _ _ _ _ (by show R ≠ Z; omega)).trans hR, sl_setW hS (by omega) v⟩
structure HrW (B : Nat) (w : World) (R : Nat) (xs : List Int) (bad : Bool) : Prop where
  r : HrS B w R xs bad
  o : Oct xs
  l : (xs.length : Int) ≤ 140737488300000
theorem HrW.keep {B R : Nat} {w w' : World} {xs : List Int} {bad : Bool} (h : HrW B w R xs bad) {A : Nat} (hb : Below A w w') (hA : w.heap.size ≤ A) : HrW B w' R xs bad := ⟨h.r.keep hb hA, h.o, h.l⟩
theorem HrW.drew {B R : Nat} {w : World} {xs : List Int} {bad : Bool} (h : HrW B w R xs bad) : HrW B w.drew R xs bad := ⟨h.r.drew, h.o, h.l⟩
theorem HrW.setBad {B R : Nat} {w : World} {xs : List Int} {bad : Bool} (h : HrW B w R xs bad) (b : Bool) : HrW B (w.setCell ⟨R, 1, none⟩ (.bool b)) R xs b := ⟨h.r.setBad b, h.o, h.l⟩
theorem HrW.lt {B R : Nat} {w : World} {xs : List Int} {bad : Bool} (h : HrW B w R xs bad) : R < w.heap.size := by
  obtain ⟨_, p, cap, hR, _⟩ := h.r; exact block_lt hR
def HrE {α : Type} (B R : Nat) (w : World) (v : α → Value) (r : α × List Int × Bool) (e : Ending) (w' : World) : Prop := e = .returned (v r.1) ∧ HrW B w' R r.2.1 r.2.2 ∧ w.grownBy w' (some R)
theorem HrW.setB {B R : Nat} {w : World} {xs ys : List Int} {bad : Bool} {p : Option Addr} {c : Nat} (h : HrW B w R xs bad) (hs : Sl B w (.slice p ys.length c) 1 ys.length (byt ys)) (ho : Oct ys) (hl : ys.length ≤ xs.length) : HrW B (w.setCell ⟨R, 0, none⟩ (.slice p ys.length c)) R ys bad := ⟨h.r.setB hs, ho, by have := h.l; omega⟩
theorem HrW.setFar {B R : Nat} {w : World} {xs : List Int} {bad : Bool} (h : HrW B w R xs bad) {Z j : Nat} (hZ : R < Z) (v : Value) : HrW B (w.setCell ⟨Z, j, none⟩ v) R xs bad := ⟨h.r.setFar hZ v, h.o, h.l⟩
/-- What the reader has still to read, k bytes on. -/
theorem HrS.on {B R : Nat} {w : World} {xs : List Int} {bad : Bool} {p : Option Addr} {c k : Nat} (h : HrW B w R xs bad) (hs : Sl B w (.slice p xs.length c) 1 xs.length (byt xs)) (hk : k ≤ xs.length) (_hc : ¬ c = k) : HrW B (w.setCell ⟨R, 0, none⟩ (.slice (Option.map (fun x => x.add k) p) (xs.length - k) (c - k))) R (xs.drop k) bad := by
  have h1 := Sl.part (m := k) (q := xs.length - k) (q' := xs.length - k) hs (by omega) rfl
  have hD : (xs.drop k).take (xs.length - k) = xs.drop k := List.take_of_length_le (by rw [List.length_drop]; omega)
  have hL : (xs.drop k).length = xs.length - k := List.length_drop
  rw [hD] at h1
  have h2 := h.setB (p := Option.map (fun x => x.add k) p) (c := c - k) (ys := xs.drop k) (by rw [hL]; rw [hL] at h1; exact h1) (h.o.drop _) (by omega)
  rw [hL] at h2; exact h2
theorem HrS.on0 {B R : Nat} {w : World} {xs : List Int} {bad : Bool} {p : Option Addr} {c k : Nat} (h : HrW B w R xs bad) (hs : Sl B w (.slice p xs.length c) 1 xs.length (byt xs)) (hk : k ≤ xs.length) (hc : c = k) : HrW B (w.setCell ⟨R, 0, none⟩ (.slice p (xs.length - k) (c - k))) R (xs.drop k) bad := by
  rw [show c - k = 0 by omega]
  have h1 := Sl.part0 (m := k) (q := xs.length - k) (q' := xs.length - k) (c' := 0) hs (by omega) (by omega) rfl rfl
  have hD : (xs.drop k).take (xs.length - k) = xs.drop k := List.take_of_length_le (by rw [List.length_drop]; omega)
  have hL : (xs.drop k).length = xs.length - k := List.length_drop
  rw [hD] at h1
  have h2 := h.setB (p := p) (c := 0) (ys := xs.drop k) (by rw [hL]; rw [hL] at h1; exact h1) (h.o.drop _) (by omega)
  rw [hL] at h2; exact h2
end Go.Proofs.Ytjaabakobpabjaa
/- Wire: package wire's readers of lists of outcomes, of cells. -/
namespace Go.Proofs.Ytjaabakobpabjaa
open Go.ChangeShapes Go.WideShapes Go.ChangeAt Go.RowKit

end Go.Proofs.Ytjaabakobpabjaa
/- Wire: package wire's closure that reads a cell and appends it. -/
namespace Go.Proofs.Ytjaabakobpabjaa
open Go.ChangeShapes Go.WideShapes Go.ChangeAt Go.RowKit

end Go.Proofs.Ytjaabakobpabjaa
/- Wire: rows of the call's own as lists; what reading a command, a state tells. -/
namespace Go.Proofs.Ytjaabakobpabjaa
open Go.ChangeShapes Go.WideShapes Go.ChangeAt Go.RowKit

end Go.Proofs.Ytjaabakobpabjaa
