import Derived.Test.YtjaabakobpabjaaPlainRd
import Derived.Test.YtjaabakobpabjaaGwD
import Derived.Test.YtjaabakobpabjaaGwA
import Derived.Test.YtjaabakobpabjaaStampTk
import Derived.Maps.AppendAt
import Derived.Deep.RegionHeld3
import Derived.Test.YtjaabakobpabjaaPlainHard
/- Wire: package wire's reader: texts; a list by whatever closure. -/
namespace Go.Proofs.Ytjaabakobpabjaa
open Go.ChangeShapes Go.WideShapes Go.ChangeAt Go.RowKit

/-- A reader's block, of bytes. -/
structure RdW (B : Nat) (w : World) (R : Nat) (xs : List Int) (bad : Bool) : Prop where
  r : RdS B w R xs bad
  o : Oct xs
  l : (xs.length : Int) ≤ 140737488300000
theorem RdW.keep {B R : Nat} {w w' : World} {xs : List Int} {bad : Bool} (h : RdW B w R xs bad) {A : Nat} (hb : Below A w w') (hA : w.heap.size ≤ A) : RdW B w' R xs bad := ⟨h.r.keep hb hA, h.o, h.l⟩
theorem RdW.drew {B R : Nat} {w : World} {xs : List Int} {bad : Bool} (h : RdW B w R xs bad) : RdW B w.drew R xs bad := ⟨h.r.drew, h.o, h.l⟩
theorem RdW.setBad {B R : Nat} {w : World} {xs : List Int} {bad : Bool} (h : RdW B w R xs bad) (b : Bool) : RdW B (w.setCell ⟨R, 1, none⟩ (.bool b)) R xs b := ⟨h.r.setBad b, h.o, h.l⟩
theorem RdW.lt {B R : Nat} {w : World} {xs : List Int} {bad : Bool} (h : RdW B w R xs bad) : R < w.heap.size := by
  obtain ⟨_, p, cap, hR, _⟩ := h.r; exact block_lt hR
def RdE {α : Type} (B R : Nat) (w : World) (v : α → Value) (r : α × List Int × Bool) (e : Ending) (w' : World) : Prop := e = .returned (v r.1) ∧ RdW B w' R r.2.1 r.2.2 ∧ w.grownBy w' (some R)
theorem rdE_of {α : Type} {B R : Nat} {w w' : World} {v : α → Value} {xs : List Int} {b : Bool} {f : List Int → Bool → α × List Int × Bool} {e : α → List Int} {k : α → Prop} (hf : RdOk f e k) (hl : (f xs b).2.1.length ≤ xs.length) {en : Ending} (h : RdW B w R xs b) (hE : en = .returned (v (f xs b).1) ∧ RdS B w' R (f xs b).2.1 (f xs b).2.2 ∧ w.grownBy w' (some R)) : RdE B R w v (f xs b) en w' :=
  ⟨hE.1, ⟨hE.2.1, hf.oct xs b h.o, by have := h.l; omega⟩, hE.2.2⟩
theorem rdNw_len (xs : List Int) (b : Bool) : (rdNw xs b).2.1.length ≤ xs.length := by unfold rdNw; rw [List.length_drop]; omega
theorem rdBw_len (xs : List Int) (b : Bool) : (rdBw xs b).2.1.length ≤ xs.length := by cases xs <;> simp [rdBw]
theorem rdFw_len (xs : List Int) (b : Bool) : (rdFw xs b).2.1.length ≤ xs.length := rdBw_len xs b
/-- Another row is written. -/
theorem RdW.row {B R : Nat} {w w' : World} {xs : List Int} {bad : Bool} {row : Option Nat} (h : RdW B w R xs bad) (hg : w.grownBy w' row) (hr : ∀ k, row = some k → R < k) : RdW B w' R xs bad := by
  obtain ⟨hBR, p, cap, hR, hS⟩ := h.r
  have hl := block_lt hR
  exact ⟨⟨hBR, p, cap, (hg.block R hl (fun e => by have := hr R e.symm; omega)).trans hR, hS.keep ⟨hg.os, hg.tape, hg.output, hg.size, fun k hk => hg.block k (by omega) (fun e => by have := hr k e.symm; omega)⟩⟩, h.o, h.l⟩
end Go.Proofs.Ytjaabakobpabjaa
/- Wire: closures of package wire's reader that read one thing and append it. -/
namespace Go.Proofs.Ytjaabakobpabjaa
open Go.ChangeShapes Go.WideShapes Go.ChangeAt Go.RowKit

theorem rd2_is {α β : Type} {f : List Int → Bool → α × List Int × Bool} {g : List Int → Bool → β × List Int × Bool} {xs ys zs : List Int} {b b1 b2 : Bool} {a : α} {c : β} (h1 : f xs b = (a, ys, b1)) (h2 : g ys b1 = (c, zs, b2)) : rd2 f g xs b = ((a, c), zs, b2) := by
  unfold rd2; simp only [h1, h2]
theorem rdMap_is {α β : Type} {f : List Int → Bool → α × List Int × Bool} {φ : α → β} {xs ys : List Int} {b b1 : Bool} {a : α} (h : f xs b = (a, ys, b1)) : rdMap f φ xs b = (φ a, ys, b1) := by
  unfold rdMap; rw [h]
def VeV (x : VeX) : Prop := (In64 x.w ∧ In64 x.t) ∧ True ∧ TxV x.d
theorem rd_stays {w w' : World} {R : Nat} (h : w.grownBy w' (some R)) {g : Nat} {o : Obj} (hq : w.heap[g]? = some o) (hn : g ≠ R) : w'.heap[g]? = some o := (h.block g (block_lt hq) (by simpa using hn)).trans hq
/-- Below base all but two blocks are as they were. -/
def KpB (base R g : Nat) (w w' : World) : Prop := ∀ k, k < base → k ≠ R → k ≠ g → w'.heap[k]? = w.heap[k]?
theorem kpB_gr {base R g : Nat} {w w' : World} (hz : base ≤ w.heap.size) (h : w.grownBy w' (some R)) : KpB base R g w w' := fun k hk hr _ => h.block k (by omega) (by simpa using hr)
theorem KpB.trans {base R g : Nat} {w w1 w2 : World} (h : KpB base R g w w1) (k : KpB base R g w1 w2) : KpB base R g w w2 := fun i h1 h2 h3 => (k i h1 h2 h3).trans (h i h1 h2 h3)
/-- A list as it is read: in the cell of a block, in a row of the call's own. -/
structure LsJ {α : Type} (B R T g base : Nat) (w0 wS : World) (cs : Value → Array Value) (tc te : TypeId) (size : Nat) (row : List α → List Value) (acc : List α) (w : World) : Prop where
  ex : ∃ v, w.heap[g]? = some (.cells (cs v) tc (0, 0)) ∧ w.ownsRow base te size v acc.length (row acc)
  t : w.heap[T]? = some (.cells #[.pointer (some ⟨R, 0, none⟩)] 132 (0, 0))
  b : w0.grownBy w (some R)
  z : base ≤ w.heap.size
  k : KpB base R g wS w
/-- Where they lie. -/
structure LsP (n R T g base : Nat) : Prop where
  ng : n ≤ g
  rt : R < T
  rg : R < g
  gt : g ≠ T
  gb : g < base
  tb : T < base
theorem LsJ.row {α : Type} {B R T g base : Nat} {w0 wS : World} {cs : Value → Array Value} {tc te : TypeId} {size : Nat} {row : List α → List Value} {acc : List α} {w w' : World} (h : LsJ B R T g base w0 wS cs tc te size row acc w) {n : Nat} (p : LsP n R T g base) (hg : w.grownBy w' (some R)) : LsJ B R T g base w0 wS cs tc te size row acc w' := by
  obtain ⟨ng, rt, rg, gt, gb, tb⟩ := p
  obtain ⟨v, h1, h2⟩ := h.ex
  refine ⟨⟨v, rd_stays hg h1 (by omega), h2.kept hg ?_⟩, rd_stays hg h.t (by omega), grown_transW h.b hg, Nat.le_trans h.z hg.size, h.k.trans (kpB_gr h.z hg)⟩
  cases e : v.ownBlock with
  | none => exact .inl rfl
  | some x => exact .inr fun h => by have := (h2.lt x e).1; simp only [Option.some.injEq] at h; omega
theorem rflagE (B R : Nat) (xs : List Int) (b : Bool) (w : World) (h : RdW B w R xs b) : Calls Try.prog 94 #[.pointer (some ⟨R, 0, none⟩)] w (RdE B R w Value.bool (rdFw xs b)) := (rflag_any B R xs b w h.o h.r).mono fun _ _ hh => rdE_of rdFw_ok (rdFw_len _ _) h hh
theorem rintE (B R : Nat) (xs : List Int) (b : Bool) (w : World) (h : RdW B w R xs b) : Calls Try.prog 108 #[.pointer (some ⟨R, 0, none⟩)] w (RdE B R w (Value.int .i64) (rdNw xs b)) := (rint_any B R xs b w h.o h.r).mono fun _ _ hh => rdE_of rdNw_ok (rdNw_len _ _) h hh
end Go.Proofs.Ytjaabakobpabjaa
/- Wire: readers, the plain law: cells, states, commands, joints. -/
namespace Go.Proofs.Ytjaabakobpabjaa

def LkV (x : CeX) : Prop := (In64 x.yn ∧ In64 x.yl ∧ In64 x.ys ∧ In64 x.ya) ∧ In64 x.hm ∧ (In64 x.sw ∧ In64 x.st) ∧ True ∧ TxV x.ld
/-- A cell that bytes may say: without a lock, its lock is zero. -/
structure CeV (x : CeX) : Prop where
  k : TxV x.k
  n : x.vs.length ≤ 65536
  vs : ∀ v ∈ x.vs, VeV v
  l : x.lk = true → LkV x
  z : x.lk = false → x = ⟨x.k, x.vs, false, 0, 0, 0, 0, 0, 0, 0, false, ⟨#[]⟩⟩
abbrev RdLe {α : Type} (f : List Int → Bool → α × List Int × Bool) : Prop := ∀ xs b, (f xs b).2.1.length ≤ xs.length
theorem rd2_len {α β : Type} {f : List Int → Bool → α × List Int × Bool} {g : List Int → Bool → β × List Int × Bool} (hf : RdLe f) (hg : RdLe g) : RdLe (rd2 f g) := fun xs b => Nat.le_trans (hg _ _) (hf xs b)
/-- Two bytes. -/
def rd16 (xs : List Int) (bad : Bool) : Int × List Int × Bool := (if 2 ≤ xs.length then beVal (xs.take 2) else 0, xs.drop 2, bad || decide (xs.length < 2))
theorem rd16_ok : RdOk rd16 put2 In16 where
  sound xs a ys ho h := by
    unfold rd16 at h
    simp only [Prod.mk.injEq, Bool.false_or, decide_eq_false_iff_not] at h
    obtain ⟨h1, h2, h3⟩ := h
    rw [if_pos (by omega)] at h1
    have hl : (xs.take 2).length = 2 := by rw [List.length_take]; omega
    have hb := beVal_bound 2 _ hl (ho.take 2)
    have p := pre_val hl (ho.take 2)
    have e2 : (256 : Int) ^ 2 = 65536 := by decide
    refine ⟨⟨by omega, by omega⟩, ?_⟩
    unfold put2
    rw [← h1, ← h2]
    have p' : bePre (beVal (xs.take 2)) 2 2 = xs.take 2 := p
    rw [p', List.take_append_drop]
  compl a r h := by
    unfold rd16
    have hl : (put2 a ++ r).length = 2 + r.length := by rw [List.length_append, put2_len]
    have ht : (put2 a ++ r).take 2 = put2 a := List.take_left' (put2_len a)
    have hd : (put2 a ++ r).drop 2 = r := List.drop_left' (put2_len a)
    rw [if_pos (by omega), ht, hd]
    have hv : beVal (put2 a) = a := by
      have := beVal_pre a 2 2 (Nat.le_refl _) h.1 (by have := h.2; show a < 2 ^ 16; omega)
      unfold put2
      simpa using this
    rw [hv]
    simp only [Prod.mk.injEq, Bool.false_or, decide_eq_false_iff_not, true_and]
    omega
  sticky xs := by simp [rd16]
  oct xs b ho := ho.drop _
theorem rd16_len (xs : List Int) (b : Bool) : (rd16 xs b).2.1.length ≤ xs.length := by unfold rd16; rw [List.length_drop]; omega
def rdCf : List Int → Bool → CfX × List Int × Bool := rdMap (rd2 rd16 (rd2 rd16 (rd2 rd16 (rd2 rdNw rdNw)))) fun p => ⟨p.1, p.2.1, p.2.2.1, p.2.2.2.1, p.2.2.2.2⟩
theorem rdCf_ok : RdOk rdCf encCf CfF :=
  rdMap_ok (rd2_ok rd16_ok (rd2_ok rd16_ok (rd2_ok rd16_ok (rd2_ok rdNw_ok rdNw_ok)))) (fun c => (c.v, c.x, c.l, c.e, c.k)) (fun _ => rfl) (fun a => by simp [encCf]) (fun _ => ⟨fun c => ⟨c.v, c.x, c.l, c.e, c.k⟩, fun c => ⟨c.1, c.2.1, c.2.2.1, c.2.2.2.1, c.2.2.2.2⟩⟩)
def rdJo : List Int → Bool → JoX × List Int × Bool := rdMap (rd2 rdCf (rd2 rdCf rdFw)) fun p => ⟨p.1, p.2.1, p.2.2⟩
theorem rdJo_ok : RdOk rdJo encJo JoF :=
  rdMap_ok (rd2_ok rdCf_ok (rd2_ok rdCf_ok rdFw_ok)) (fun j => (j.o, j.n, j.two)) (fun _ => rfl) (fun a => by simp [encJo]) (fun _ => ⟨fun c => ⟨c.o, c.n, trivial⟩, fun c => ⟨c.1, c.2.1⟩⟩)
theorem rdCf_len : RdLe rdCf := fun xs b => rd2_len rd16_len (rd2_len rd16_len (rd2_len rd16_len (rd2_len rdNw_len rdNw_len))) xs b
end Go.Proofs.Ytjaabakobpabjaa
/- Wire: the reference's reader, the plain law: it stays where it is when it cannot go on. -/
namespace Go.Proofs.Ytjaabakobpabjaa

/-- A reader that tells the same wherever one of the two can read is as good. -/
theorem RdOk.like {α : Type} {f g : List Int → Bool → α × List Int × Bool} {e : α → List Int} {k : α → Prop} (hf : RdOk f e k) (h1 : ∀ xs, (g xs false).2.2 = false → g xs false = f xs false) (h2 : ∀ xs, (f xs false).2.2 = false → g xs false = f xs false) (hs : ∀ xs, (g xs true).2.2 = true) (ho : ∀ xs b, Oct xs → Oct (g xs b).2.1) : RdOk g e k where
  sound xs a ys hx h := hf.sound xs a ys hx (by rw [← h1 xs (by rw [h])]; exact h)
  compl a r ha := by
    have h := hf.compl a r ha
    rw [h2 _ (by rw [h])]; exact h
  sticky := hs
  oct := ho
/-- It stays where it is when it cannot go on. -/
def stick {α : Type} (f : List Int → Bool → α × List Int × Bool) (a0 : α) (xs : List Int) (b : Bool) : α × List Int × Bool := if (f xs b).2.2 = true then (a0, xs, true) else f xs b
theorem stick_bad {α : Type} {f : List Int → Bool → α × List Int × Bool} {a0 : α} {xs : List Int} {b : Bool} (h : (f xs b).2.2 = true) : stick f a0 xs b = (a0, xs, true) := if_pos h
theorem stick_good {α : Type} {f : List Int → Bool → α × List Int × Bool} {a0 : α} {xs : List Int} {b : Bool} (h : (f xs b).2.2 = false) : stick f a0 xs b = f xs b := if_neg (by rw [h]; decide)
theorem stick_eq {α : Type} {f : List Int → Bool → α × List Int × Bool} {a0 : α} {xs : List Int} {b : Bool} (h : (stick f a0 xs b).2.2 = false) : stick f a0 xs b = f xs b := by
  cases hb : (f xs b).2.2 with
  | false => exact stick_good hb
  | true => rw [stick_bad hb] at h; cases h
theorem stick_ok {α : Type} {f : List Int → Bool → α × List Int × Bool} {e : α → List Int} {k : α → Prop} (hf : RdOk f e k) (a0 : α) : RdOk (stick f a0) e k :=
  hf.like (fun _ h => stick_eq h) (fun _ h => stick_good h) (fun xs => by rw [stick_bad (hf.sticky xs)]) (fun xs b ho => by
    cases hb : (f xs b).2.2 with
    | false => rw [stick_good hb]; exact hf.oct xs b ho
    | true => rw [stick_bad hb]; exact ho)
end Go.Proofs.Ytjaabakobpabjaa
