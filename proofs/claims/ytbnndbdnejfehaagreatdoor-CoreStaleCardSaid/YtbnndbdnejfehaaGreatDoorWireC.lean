import Derived.Test.YtbnndbdnejfehaaGreatDoorCalmTail
import Derived.Outline
import Derived.WalkKit
import Derived.WalkSpells
import Derived.ProofKit
import Derived.OpenShut
import Derived.Laws.AppendOwnNone
import Derived.Test.YtbnndbdnejfehaaGreatDoorProg
import Derived.BigQuiet
import Derived.Deep.QuietTactic
import Derived.Lib.Hide
import Derived.IntWalk
import Derived.Lib.Tables
import Derived.Lib.BitFns
import Derived.Test.YtbnndbdnejfehaaGreatDoorPlainBits
import Derived.Laws.CopyOwn
import Derived.Laws.BytesArg
import Derived.Deep.Onto
import Derived.Deep.RegionHeld3
import Derived.Deep.DeepCutAuto
import Derived.Deep.AppendLies
import Derived.Laws.IdiomStrings
import Derived.Deep.RegionHeld
/- Contracts of stamp.Less, of the reference's, and of the two of attempts. -/
namespace Go.Proofs.YtbnndbdnejfehaaGreatDoor
open Go.RowKit

end Go.Proofs.YtbnndbdnejfehaaGreatDoor
/- Contracts of package stamp and of its reference: the later one of two stamps; ties. -/
namespace Go.Proofs.YtbnndbdnejfehaaGreatDoor
open Go.RowKit

end Go.Proofs.YtbnndbdnejfehaaGreatDoor
/- Slices, whoever owns them: their elements' cells; append from any source; arguments that are slices of numbers. -/
namespace Go.Proofs.YtbnndbdnejfehaaGreatDoor
open Go.ChangeShapes Go.WideShapes Go.ChangeAt Go.RowKit

/-- A slice of n elements: its cells; it lies below block number B. -/
def Sl (B : Nat) (w : World) (v : Value) (size n : Nat) (xs : List Value) : Prop :=
  xs.length = n * size ∧ ((v = .slice none 0 0 ∧ n = 0) ∨ ∃ ad cap, v = .slice (some ad) n cap ∧ n ≤ cap ∧ cap ≤ maxLen ∧ (0 < n → ∃ g o, ad = ⟨g, o, none⟩ ∧ g < B ∧ ∀ j, j < n * size → w.cell? ⟨g, o + j, none⟩ = xs[j]?))

theorem Sl.keep {B : Nat} {w w' : World} {v : Value} {size n : Nat} {xs : List Value} (h : Sl B w v size n xs) (hb : Below B w w') : Sl B w' v size n xs := by
  obtain ⟨h1, h2⟩ := h
  refine ⟨h1, ?_⟩
  rcases h2 with h2 | ⟨ad, cap, e, h3, h4, h5⟩
  · exact .inl h2
  · refine .inr ⟨ad, cap, e, h3, h4, fun hn => ?_⟩
    obtain ⟨g, o, e1, h6, h7⟩ := h5 hn
    exact ⟨g, o, e1, h6, fun j hj => by rw [hb.cell (by exact h6)]; exact h7 j hj⟩
theorem Sl.mono {B B' : Nat} {w : World} {v : Value} {size n : Nat} {xs : List Value} (h : Sl B w v size n xs) (hB : B ≤ B') : Sl B' w v size n xs := by
  obtain ⟨h1, h2⟩ := h
  refine ⟨h1, ?_⟩
  rcases h2 with h2 | ⟨ad, cap, e, h3, h4, h5⟩
  · exact .inl h2
  · refine .inr ⟨ad, cap, e, h3, h4, fun hn => ?_⟩
    obtain ⟨g, o, e1, h6, h7⟩ := h5 hn
    exact ⟨g, o, e1, by omega, h7⟩
theorem Sl.of_own {w : World} {base : Nat} {e : TypeId} {size : Nat} {v : Value} {n : Nat} {xs : List Value} (h : w.ownsRow base e size v n xs) : Sl w.heap.size w v size n xs := by
  have h0 := h
  obtain ⟨h1, h2⟩ := h
  refine ⟨h1, ?_⟩
  rcases h2 with h2 | ⟨g, cap, cur, rfl, hb, hg, hn, hm, hs, ht⟩
  · exact .inl h2
  · exact .inr ⟨_, cap, rfl, hn, hm, fun _ => ⟨g, 0, rfl, (Array.getElem?_eq_some_iff.1 hg).1, fun j hj => by rw [Nat.zero_add]; exact h0.cellAt j hj⟩⟩
/-- Its value's shape, and where an element lies. -/
theorem Sl.form {B : Nat} {w : World} {v : Value} {n : Nat} {xs : List Value} (h : Sl B w v 1 n xs) :
    ∃ a cap, v = .slice a n cap ∧ n ≤ cap ∧ cap ≤ maxLen ∧ (a = none → n = 0 ∧ cap = 0) ∧ ∀ j, j < n → ∃ g o, a = some ⟨g, o, none⟩ ∧ g < B ∧ w.cell? ⟨g, o + j, none⟩ = xs[j]? := by
  obtain ⟨h1, h2⟩ := h
  rcases h2 with ⟨rfl, rfl⟩ | ⟨ad, cap, rfl, h3, h4, h5⟩
  · exact ⟨none, 0, rfl, Nat.le_refl _, Nat.zero_le _, fun _ => ⟨rfl, rfl⟩, fun j hj => absurd hj (by omega)⟩
  · refine ⟨_, cap, rfl, h3, h4, (by intro h; cases h), fun j hj => ?_⟩
    obtain ⟨g, o, rfl, h6, h7⟩ := h5 (by omega)
    exact ⟨g, o, rfl, h6, h7 j (by omega)⟩

/-- Append to a row of the call's own, from whatever source. -/
theorem wpList_append_sl {P : Program} {w : World} {ops : Array Oper} {rest : List Oper} {o : Oper} {a : Act} {Q : Exit → Act → World → Prop} (hgd : o.guard = none) (s x : Operand) (t : TypeId)
    (ho : o.op = .call { callee := .builtin .append, args := #[s, x], argTypes := #[t, t] })
    (base : Nat) (e : TypeId) (i : TypeInfo) (z : Value) (size bytes : Nat) (ht : P.underlying t = some (.slice e)) (hi : P.info? e = some i) (hz : i.zero = some z)
    (hsize : i.size = size) (hby : i.bytes = bytes) (hzs : z.cells.size = size) (hsz : 0 < size)
    (v : Value) (n : Nat) (xs : List Value) (hs : a.eval s = v) (hown : w.ownsRow base e size v n xs)
    (B : Nat) (u : Value) (m : Nat) (news : List Value) (hx : a.eval x = u) (hsl : Sl B w u size m news) (h1 : ∀ u ∈ news, u.oneCell' = true)
    (h63 : n + m ≤ maxLen) (hbytes : (n + m) * bytes ≤ 140737488355328) (hbase : base ≤ w.heap.size)
    (h : ∀ v' w', w'.ownsRow base e size v' (n + m) (xs ++ news) → w.grownBy w' v.ownBlock → wpList P ops Q rest (a.put o.dst v') w') : wpList P ops Q (o :: rest) a w := by
  obtain ⟨hl, hc⟩ := hsl
  rcases hc with ⟨rfl, rfl⟩ | ⟨ad, cap, rfl, _, _, hcell⟩
  · have hn : news = [] := List.eq_nil_of_length_eq_zero (by simpa using hl)
    subst hn
    refine wpList_append_own_none hgd s x t ho base e i size ht hi v n xs hs hown hx ?_
    exact h v w (by simpa using hown) ⟨rfl, rfl, rfl, Nat.le_refl _, fun _ _ _ => rfl⟩
  · refine wpList_append_own _ hgd s x t ho base e i z size bytes ht hi hz hsize hby hzs hsz v n xs hs hown ad m cap news hx hl ?_ h1 h63 hbytes hbase (fun v' w' h2 h3 _ => h v' w' h2 h3)
    intro j u hu
    have hj : j < m * size := by rw [← hl]; exact (List.getElem?_eq_some_iff.1 hu).1
    have hm : 0 < m := Nat.pos_of_ne_zero (fun h => by rw [h] at hj; omega)
    obtain ⟨g, off, rfl, _, hcell⟩ := hcell hm
    have hadd : (⟨g, off, none⟩ : Addr).add j = ⟨g, off + j, none⟩ := by unfold Addr.add; split <;> simp_all
    rw [hadd, hcell j hj]; exact hu

section
variable {H : Type} {enc : TypeId × Value → H} {P : Program} {w : World}
end
end Go.Proofs.YtbnndbdnejfehaaGreatDoor
/- Contracts of package bits: bytes laid behind bytes. -/
namespace Go.Proofs.YtbnndbdnejfehaaGreatDoor
open Go.RowKit

/-- Bytes as cells. -/
def byt (xs : List Int) : List Value := xs.map (.int .u8)
end Go.Proofs.YtbnndbdnejfehaaGreatDoor
/- The contract of math/bits.Len64. -/
namespace Go.Proofs.YtbnndbdnejfehaaGreatDoor
open Go.RowKit

end Go.Proofs.YtbnndbdnejfehaaGreatDoor
/- The contract of bits.Put. -/
namespace Go.Proofs.YtbnndbdnejfehaaGreatDoor
open Go.RowKit

/-- The first k of the n bytes of v, the highest first. -/
def bePre (v n : Int) : Nat → List Int
  | 0 => []
  | k + 1 => bePre v n k ++ [v / 2 ^ (8 * (n - 1 - k)).toNat % 256]
theorem bePre_len (v n : Int) (k : Nat) : (bePre v n k).length = k := by
  induction k with
  | zero => rfl
  | succ k ih => simp [bePre, ih]
end Go.Proofs.YtbnndbdnejfehaaGreatDoor
/- The contract of bits.Get. -/
namespace Go.Proofs.YtbnndbdnejfehaaGreatDoor
open Go.RowKit

/-- The number that bytes are, the highest first. -/
def beVal : List Int → Int
  | l => l.foldl (fun a c => a * 256 + c) 0
theorem beVal_snoc (l : List Int) (c : Int) : beVal (l ++ [c]) = beVal l * 256 + c := by simp [beVal, List.foldl_append]
theorem beVal_bound : ∀ (n : Nat) (l : List Int), l.length = n → (∀ x ∈ l, 0 ≤ x ∧ x ≤ 255) → 0 ≤ beVal l ∧ beVal l < 256 ^ n := by
  intro n
  induction n with
  | zero => intro l hl _; obtain rfl := List.eq_nil_of_length_eq_zero hl; simp [beVal]
  | succ n ih =>
    intro l hl hx
    have hne : l ≠ [] := by intro h; rw [h] at hl; simp at hl
    have e := List.dropLast_concat_getLast hne
    have h1 := ih l.dropLast (by simp [hl]) (fun x hm => hx x (List.dropLast_subset _ hm))
    have h2 := hx (l.getLast hne) (List.getLast_mem hne)
    rw [← e, beVal_snoc, Int.pow_succ]
    omega
end Go.Proofs.YtbnndbdnejfehaaGreatDoor
/- Contracts of package bits and its reference: signs. -/
namespace Go.Proofs.YtbnndbdnejfehaaGreatDoor
open Go.RowKit

end Go.Proofs.YtbnndbdnejfehaaGreatDoor
/- What the statements lean on: a twin of bytes with spare room behind it, and whether it was kept. -/
namespace Go.Proofs.YtbnndbdnejfehaaGreatDoor
open Go.ChangeShapes Go.WideShapes Go.ChangeAt Go.RowKit

end Go.Proofs.YtbnndbdnejfehaaGreatDoor
/- Bytes as a text; whether a twin was kept. -/
namespace Go.Proofs.YtbnndbdnejfehaaGreatDoor
open Go.ChangeShapes Go.WideShapes Go.ChangeAt Go.RowKit

section
variable {P : Program} {w : World}
end

end Go.Proofs.YtbnndbdnejfehaaGreatDoor
/- Contracts of the reference's Put and Get. -/
namespace Go.Proofs.YtbnndbdnejfehaaGreatDoor
open Go.RowKit

theorem div_step (v : Int) (k : Nat) : v / 2 ^ (8 * k) / 256 = v / 2 ^ (8 * (k + 1)) := by
  rw [Int.ediv_ediv_of_nonneg (Int.le_of_lt (Int.pow_pos (by decide))), show (8 * (k + 1)) = 8 * k + 8 by omega, Int.pow_add]; rfl
end Go.Proofs.YtbnndbdnejfehaaGreatDoor
/- The contract of the reference's Get. -/
namespace Go.Proofs.YtbnndbdnejfehaaGreatDoor
open Go.RowKit

end Go.Proofs.YtbnndbdnejfehaaGreatDoor
/- Contracts of stamps as bytes: how they are laid, and which bytes are a stamp; package stamp and its reference. -/
namespace Go.Proofs.YtbnndbdnejfehaaGreatDoor
open Go.RowKit

/-- The bytes of a stamp. -/
def stampB (a b : Int) : List Int := bePre (orderI a) 8 8 ++ bePre (orderI b) 8 8
end Go.Proofs.YtbnndbdnejfehaaGreatDoor
/- Bytes in the order of the numbers that they lay. -/
namespace Go.Proofs.YtbnndbdnejfehaaGreatDoor
open Go.RowKit

theorem beVal_acc : ∀ (l : List Int) (a : Int), l.foldl (fun a c => a * 256 + c) a = a * 256 ^ l.length + beVal l
  | [], a => by simp [beVal]
  | c :: l, a => by
    rw [List.foldl_cons, beVal_acc l, List.length_cons, Int.pow_succ]
    have e : beVal (c :: l) = (0 * 256 + c) * 256 ^ l.length + beVal l := by
      show (c :: l).foldl _ 0 = _
      rw [List.foldl_cons, beVal_acc l]
    rw [e, Int.add_mul, Int.add_mul, Int.mul_comm (256 ^ l.length) 256, ← Int.mul_assoc a 256]
    omega
theorem beVal_cons (c : Int) (l : List Int) : beVal (c :: l) = c * 256 ^ l.length + beVal l := by
  show (c :: l).foldl _ 0 = _
  rw [List.foldl_cons, beVal_acc]; simp
theorem beVal_pre (v : Int) (n : Nat) : ∀ k : Nat, k ≤ n → 0 ≤ v → v < 2 ^ (8 * n) → beVal (bePre v n k) = v / 2 ^ (8 * (n - k))
  | 0, _, h0, h1 => by
    rw [Int.ediv_eq_zero_of_lt h0 (by simpa using h1)]; rfl
  | k + 1, hk, h0, h1 => by
    rw [bePre, beVal_snoc, beVal_pre v n k (by omega) h0 h1, show (8 * ((n : Int) - 1 - k)).toNat = 8 * (n - (k + 1)) by omega, show n - k = n - (k + 1) + 1 by omega, ← div_step]
    omega
theorem bePre_bd (v n : Int) (k : Nat) : ∀ x ∈ bePre v n k, 0 ≤ x ∧ x ≤ 255 := by
  induction k with
  | zero => intro x hx; cases hx
  | succ k ih =>
    intro x hx
    rw [bePre, List.mem_append, List.mem_singleton] at hx
    rcases hx with hx | rfl
    · exact ih x hx
    · omega
end Go.Proofs.YtbnndbdnejfehaaGreatDoor
/- Wire: the plain law: a command's bytes, and that no two commands have the same. -/
namespace Go.Proofs.YtbnndbdnejfehaaGreatDoor

/-- An int64. -/
def In64 (n : Int) : Prop := -9223372036854775808 ≤ n ∧ n ≤ 9223372036854775807
structure SpX where
  lo : ByteArray
  hi : ByteArray
deriving DecidableEq
structure WrX where
  k : ByteArray
  r : Bool
  d : ByteArray
deriving DecidableEq
structure CmX where
  k : Int
  e : Int
  n : Int
  h : Int
  yn : Int
  yl : Int
  ys : Int
  ya : Int
  sw : Int
  st : Int
  w : Int
  yes : Bool
  sp : List SpX
  wr : List WrX
deriving DecidableEq
def txW (t : ByteArray) : List Int := t.data.toList.map fun b => (b.toNat : Int)
theorem txW_len (t : ByteArray) : (txW t).length = t.size := by unfold txW; rw [List.length_map, Array.length_toList]; rfl
theorem txW_oct (t : ByteArray) : ∀ x ∈ txW t, 0 ≤ x ∧ x ≤ 255 := by
  intro x hx
  simp only [txW, List.mem_map] at hx
  obtain ⟨b, _, rfl⟩ := hx
  have := b.toNat_lt
  omega
theorem txW_inj {s t : ByteArray} (h : txW s = txW t) : s = t := by
  unfold txW at h
  have hi : ∀ {a b : UInt8}, ((a.toNat : Nat) : Int) = ((b.toNat : Nat) : Int) → a = b := fun {a b} h => UInt8.toNat_inj.1 (by omega)
  have h2 := (List.map_inj_right (fun a b h => hi h)).1 h
  cases s; cases t
  simp only [ByteArray.mk.injEq]
  exact Array.toList_inj.1 h2
def encN (v : Int) : List Int := varN (zigI v).toNat
def encT (s : ByteArray) : List Int := varN s.size ++ txW s
def encF (b : Bool) : List Int := [if b then 1 else 0]
def encY (n l s a : Int) : List Int := encN n ++ encN l ++ encN s ++ encN a
def encSp (x : SpX) : List Int := encT x.lo ++ encT x.hi
def encWr (x : WrX) : List Int := encT x.k ++ encF x.r ++ encT x.d
def encHd (c : CmX) : List Int := [1] ++ encN c.k ++ encN c.e ++ encN c.n ++ encN c.h ++ encY c.yn c.yl c.ys c.ya ++ stampB c.sw c.st ++ encN c.w ++ encF c.yes
def encSps (l : List SpX) : List Int := encN l.length ++ l.flatMap encSp
def encWrs (l : List WrX) : List Int := encN l.length ++ l.flatMap encWr
def encCm (c : CmX) : List Int := encHd c ++ encSps c.sp ++ encWrs c.wr
theorem zigI_fit {v : Int} (h : In64 v) : 0 ≤ zigI v ∧ zigI v ≤ 18446744073709551615 := by unfold zigI; obtain ⟨h0, h1⟩ := h; split <;> omega
def TxF (s : ByteArray) : Prop := s.size ≤ 9223372036854775807
def SpF (x : SpX) : Prop := TxF x.lo ∧ TxF x.hi
def WrF (x : WrX) : Prop := TxF x.k ∧ TxF x.d
structure CmF (c : CmX) : Prop where
  k : In64 c.k
  e : In64 c.e
  n : In64 c.n
  h : In64 c.h
  yn : In64 c.yn
  yl : In64 c.yl
  ys : In64 c.ys
  ya : In64 c.ya
  sw : In64 c.sw
  st : In64 c.st
  w : In64 c.w
  sp : ∀ x ∈ c.sp, SpF x
  wr : ∀ x ∈ c.wr, WrF x
  nsp : c.sp.length ≤ 9223372036854775807
  nwr : c.wr.length ≤ 9223372036854775807
end Go.Proofs.YtbnndbdnejfehaaGreatDoor
/- Contracts of numbers in seven bits a byte: how they are written, by package bits and by its reference. -/
namespace Go.Proofs.YtbnndbdnejfehaaGreatDoor
open Go.RowKit

end Go.Proofs.YtbnndbdnejfehaaGreatDoor
/- Contracts: the reference's bytes of a number; texts behind their length. -/
namespace Go.Proofs.YtbnndbdnejfehaaGreatDoor
open Go.RowKit

end Go.Proofs.YtbnndbdnejfehaaGreatDoor
/- A slice of ints, whoever owns it: where its numbers lie. -/
namespace Go.Proofs.YtbnndbdnejfehaaGreatDoor
open Go.ChangeShapes Go.WideShapes Go.ChangeAt Go.RowKit

def NumsAt (w : World) (p : Option Addr) (rs : List Int) : Prop := ∀ j, (hj : j < rs.length) → ∃ g o, p = some ⟨g, o, none⟩ ∧ g < w.heap.size ∧ w.cell? ⟨g, o + j, none⟩ = some (.int .i64 rs[j])
theorem NumsAt.keep {w w' : World} {p : Option Addr} {rs : List Int} (h : NumsAt w p rs) {B : Nat} (hb : Below B w w') (hB : w.heap.size ≤ B) : NumsAt w' p rs := fun j hj => by
  obtain ⟨g, o, e, hg, h1⟩ := h j hj
  exact ⟨g, o, e, Nat.lt_of_lt_of_le hg hb.size, (hb.cell (p := ⟨g, o + j, none⟩) (by show g < B; omega)).trans h1⟩
theorem NumsAt.nil (w : World) (p : Option Addr) : NumsAt w p [] := fun j hj => absurd hj (by simp)
end Go.Proofs.YtbnndbdnejfehaaGreatDoor
/- Wire: how numbers, texts, truths, stamps and attempts are laid behind bytes: package wire. -/
namespace Go.Proofs.YtbnndbdnejfehaaGreatDoor
open Go.ChangeShapes Go.WideShapes Go.ChangeAt Go.RowKit

theorem own_less {w w' : World} {base : Nat} {v : Value} {ys : List Int} (h : w.ownsRow base 5 1 v ys.length (byt ys)) (hb : Below w.heap.size w w') : w'.ownsRow base 5 1 v ys.length (byt ys) :=
  h.kept (row := none) ⟨hb.os, hb.tape, hb.output, hb.size, fun k hk _ => hb.block k hk⟩ (by cases v.ownBlock <;> simp)
end Go.Proofs.YtbnndbdnejfehaaGreatDoor
/- Regions walked operation by operation: the class of worlds may be made narrower as the walk goes on. -/
namespace Go.Proofs.YtbnndbdnejfehaaGreatDoor
open Go.RowKit
theorem zA {α : Type} {xs : List α} {i : Nat} (h : i < xs.toArray.size) : xs.toArray[i] = xs[i] := rfl
theorem zB {α : Type} (a : α) (xs : List α) (i : Nat) (h : i + 1 < (a :: xs).length) : (a :: xs)[i + 1] = xs[i]'(Nat.lt_of_succ_lt_succ h) := rfl
theorem zC {α : Type} (a : α) (xs : List α) (h : 0 < (a :: xs).length) : (a :: xs)[0] = a := rfl
theorem zD {α : Type} (l : List α) (i : Nat) (a : α) : l.toArray.setIfInBounds i a = (l.set i a).toArray := List.setIfInBounds_toArray ..
theorem zE {α : Type} {x : α} {xs : List α} {a : α} : (x :: xs).set 0 a = a :: xs := rfl
theorem zF {α : Type} {x : α} {xs : List α} {i : Nat} {a : α} : (x :: xs).set (i + 1) a = x :: xs.set i a := rfl
theorem tkH {P : Program} {md : Region.Mode} {ops : Array Oper} {Q : Exit → Act → World → Prop} {S : World → Prop} {i : Nat} {oi : Oper} {v : Value} {fuel : Nat} {listed : Array Bool} {a : Act} {w : World} (hi : ops[i]? = some oi) (hy : YieldsIf P ops S oi v a) (hS : S w) (h : wpAnyH P md ops Q S fuel (listed.setIfInBounds i true) (a.put oi.dst v) w)
    (hs : Region.noSelect ops = true := by kernel_rfl) (hf : Region.free md ops listed i = true := by kernel_rfl) (hr : (Region.ready md ops listed).contains i = true := by kernel_rfl) (hQ : ∀ c a w, Q (.panic c) (a.put oi.dst v) w → Q (.panic c) a w := by exact fun _ _ _ h => h) : wpAnyH P md ops Q S (fuel + 1) listed a w :=
  wpAnyH_take hi hs hf hr hQ hy hS h

end Go.Proofs.YtbnndbdnejfehaaGreatDoor
/- Wire: how numbers, texts, truths, stamps and attempts are laid behind bytes: package wire's and the reference's. -/
namespace Go.Proofs.YtbnndbdnejfehaaGreatDoor
open Go.ChangeShapes Go.WideShapes Go.ChangeAt Go.RowKit

def TxtsAt (w : World) (p : Option Addr) (ss : List ByteArray) : Prop := ∀ j, (hj : j < ss.length) → ∃ g o, p = some ⟨g, o, none⟩ ∧ g < w.heap.size ∧ w.cell? ⟨g, o + j, none⟩ = some (.string ss[j])
theorem TxtsAt.keep {w w' : World} {p : Option Addr} {ss : List ByteArray} (h : TxtsAt w p ss) {B : Nat} (hb : Below B w w') (hB : w.heap.size ≤ B) : TxtsAt w' p ss := fun j hj => by
  obtain ⟨g, o, e, hg, h1⟩ := h j hj
  exact ⟨g, o, e, Nat.lt_of_lt_of_le hg hb.size, (hb.cell (p := ⟨g, o + j, none⟩) (by show g < B; omega)).trans h1⟩
end Go.Proofs.YtbnndbdnejfehaaGreatDoor
/- Wire: the reference's bytes of a command. -/
namespace Go.Proofs.YtbnndbdnejfehaaGreatDoor
open Go.ChangeShapes Go.WideShapes Go.ChangeAt Go.RowKit

def SpsAt (w : World) (p : Option Addr) (L : List SpX) : Prop := ∀ j, (hj : j < L.length) → ∃ g o, p = some ⟨g, o, none⟩ ∧ g < w.heap.size ∧ w.cell? ⟨g, o + j * 2, none⟩ = some (.string L[j].lo) ∧ w.cell? ⟨g, o + j * 2 + 1, none⟩ = some (.string L[j].hi)
theorem SpsAt.keep {w w' : World} {p : Option Addr} {L : List SpX} (h : SpsAt w p L) {B : Nat} (hb : Below B w w') (hB : w.heap.size ≤ B) : SpsAt w' p L := fun j hj => by
  obtain ⟨g, o, e, hg, h1, h2⟩ := h j hj
  exact ⟨g, o, e, Nat.lt_of_lt_of_le hg hb.size, (hb.cell (p := ⟨g, o + j * 2, none⟩) (by show g < B; omega)).trans h1, (hb.cell (p := ⟨g, o + j * 2 + 1, none⟩) (by show g < B; omega)).trans h2⟩
def WrsAt (w : World) (p : Option Addr) (L : List WrX) : Prop := ∀ j, (hj : j < L.length) → ∃ g o, p = some ⟨g, o, none⟩ ∧ g < w.heap.size ∧ w.cell? ⟨g, o + j * 3, none⟩ = some (.string L[j].k) ∧ w.cell? ⟨g, o + j * 3 + 1, none⟩ = some (.bool L[j].r) ∧ w.cell? ⟨g, o + j * 3 + 2, none⟩ = some (.string L[j].d)
theorem WrsAt.keep {w w' : World} {p : Option Addr} {L : List WrX} (h : WrsAt w p L) {B : Nat} (hb : Below B w w') (hB : w.heap.size ≤ B) : WrsAt w' p L := fun j hj => by
  obtain ⟨g, o, e, hg, h1, h2, h3⟩ := h j hj
  exact ⟨g, o, e, Nat.lt_of_lt_of_le hg hb.size, (hb.cell (p := ⟨g, o + j * 3, none⟩) (by show g < B; omega)).trans h1, (hb.cell (p := ⟨g, o + j * 3 + 1, none⟩) (by show g < B; omega)).trans h2, (hb.cell (p := ⟨g, o + j * 3 + 2, none⟩) (by show g < B; omega)).trans h3⟩
theorem own_oneW (w : World) (x : Int) : (w.alloc (.cells #[.int .u8 x] 5)).ownsRow w.heap.size 5 1 (.slice (some ⟨w.heap.size, 0, none⟩) 1 1) [x].length (byt [x]) :=
  ⟨rfl, .inr ⟨w.heap.size, 1, _, rfl, Nat.le_refl _, heap_last w _, Nat.le_refl _, by unfold maxLen; decide, rfl, rfl⟩⟩
end Go.Proofs.YtbnndbdnejfehaaGreatDoor
