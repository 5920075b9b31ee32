import Derived.WalkKit
import Derived.Test.YtbnndbdnejfehaaGreatDoorProg
import Derived.WalkSpells
import Derived.WalkLawsBesides
import Derived.BigQuiet
import Derived.Deep.QuietTactic
import Derived.Lib.Hide
import Derived.IntWalk
import Derived.Outline
import Derived.Deep.RegionWith
import Derived.StillTailTactics
import Derived.StillTail
import Derived.ProofKit
import Derived.OpenShut
import Derived.Laws.AppendOwnNone
import Derived.Lib.Tables
import Derived.Lib.BitFns
import Derived.Test.YtbnndbdnejfehaaGreatDoorPlainBits
import Derived.Laws.CopyOwn
import Derived.Laws.BytesArg
import Derived.Deep.Onto
import Derived.Deep.RegionHeld3
import Derived.Deep.DeepCutAuto
import Derived.Deep.AppendLies
import Derived.Laws.IdiomStrings
import Derived.Deep.RegionHeld
import Derived.Maps.AppendAt
/- What stamps and attempts compute, in plain words: which one is ahead, the later one, ties, clocks. -/
namespace Go.Proofs.YtbnndbdnejfehaaGreatDoor

end Go.Proofs.YtbnndbdnejfehaaGreatDoor
/- Regions that draw their order and whose calls only make memory: one walk in the order of the text. 'f u': the worlds that are, below a block number, as the region found them. -/
namespace Go.Proofs.YtbnndbdnejfehaaGreatDoor
open Go.RowKit

/-- The worlds that are as W is below W's own size, as the values of a function on a type that is not empty. -/
theorem calm_class (W : World) : ∃ (U : Type) (f : U → World), Nonempty U ∧ (∀ u, Below W.heap.size W (f u)) ∧ (∀ w', Below W.heap.size W w' → ∃ u, w' = f u) :=
  ⟨{ w' : World // Below W.heap.size W w' }, fun u => u.val, ⟨⟨W, Below.refl _ _⟩⟩, fun u => u.property, fun w' h => ⟨⟨w', h⟩, rfl⟩⟩

/-- A region that draws its order, its operations written out, walked in the class of such worlds. -/
theorem wp_region_calm {P : Program} {id : Nat} {Q : Exit → Act → World → Prop} {a : Act} {w : World} {l : List Oper} {U : Type} (f : U → World) (hm : P.follows .mixedOrders = true) (hB : Region.lexB .any l.toArray = true)
    (h0 : ∃ u, w.drew = f u) (h : wpQuiet P l.toArray (fun w' => ∃ n, w' = f n) (fun a' => ∀ w', (∃ n, w' = f n) → Q .normal a' w') l a) : (Code.region id l.toArray true).wp P Q a w :=
  wp_region_quiet (C := fun w' => ∃ n, w' = f n) hm hB h0 (by simpa using h)

/-- A callee's contract, met in the class. -/
theorem calm_of {P : Program} {g : FuncId} {args : Array Value} {W : World} {U : Type} {f : U → World} (hf : ∀ u, Below W.heap.size W (f u)) (hg : ∀ w', Below W.heap.size W w' → ∃ u, w' = f u) {u : U} {v : Value}
    (h : Calls P g args (f u) fun e w' => e = .returned v ∧ Below (f u).heap.size (f u) w') : Calls P g args (f u) fun e w'' => e = .returned v ∧ ∃ m, w'' = f m :=
  h.mono fun _ _ ⟨he, hb⟩ => ⟨he, hg _ ((hf u).trans (hb.mono (hf u).size))⟩
theorem calm_same {P : Program} {g : FuncId} {args : Array Value} {U : Type} {f : U → World} {u : U} {v : Value}
    (h : Calls P g args (f u) fun e w' => e = .returned v ∧ f u = w') : Calls P g args (f u) fun e w'' => e = .returned v ∧ ∃ m, w'' = f m :=
  h.mono fun _ _ ⟨he, hb⟩ => ⟨he, u, hb.symm⟩
/-- What a cell of the old world holds, in each world of the class. -/
theorem calm_cell {W : World} {U : Type} {f : U → World} (hf : ∀ u, Below W.heap.size W (f u)) {a : Addr} {v : Value} (h : W.cell? a = some v) : ∀ u, (f u).cell? a = some v := fun u => by
  rw [(hf u).cell (World.block_lt_of_cell? W a h)]; exact h
/-- A block of the old world, cell by cell. -/
theorem calm_block {W : World} {U : Type} {f : U → World} (hf : ∀ u, Below W.heap.size W (f u)) {n : Nat} {cs : Array Value} {t : TypeId} {m : Nat × Nat} (h : W.heap[n]? = some (.cells cs t m)) :
    ∀ u j, (f u).cell? ⟨n, j, none⟩ = cs[j]? := fun u j => by
  have hn : n < W.heap.size := (Array.getElem?_eq_some_iff.1 h).1
  rw [(hf u).cell (by exact hn)]; exact cell_of_row W n j cs t m h
theorem heap_last (w : World) (o : Obj) : (w.alloc o).heap[w.heap.size]? = some o := heap_alloc_new w o
theorem heap_prev {w : World} {o' : Obj} {n : Nat} (o : Obj) (h : w.heap[n]? = some o') : (w.alloc o).heap[n]? = some o' :=
  (heap_alloc_old w o (Array.getElem?_eq_some_iff.1 h).1).trans h
/-- A block of the old world is there, whole, in a later one; its cells; that none is frozen. -/
theorem below_block {B : Nat} {W w1 : World} {n : Nat} {o : Obj} (h : Below B W w1) (hn : n < B) (hc : W.heap[n]? = some o) : w1.heap[n]? = some o := (h.block n hn).trans hc
theorem block_cells {w : World} {n : Nat} {cs : Array Value} {t : TypeId} (h : w.heap[n]? = some (.cells cs t (0, 0))) : ∀ j, w.cell? ⟨n, j, none⟩ = cs[j]? := fun j => cell_of_row w n j cs t (0, 0) h
theorem block_free {w : World} {n : Nat} {cs : Array Value} {t : TypeId} (h : w.heap[n]? = some (.cells cs t (0, 0))) : ∀ j, w.frozen? ⟨n, j, none⟩ = false := fun j => frozen_of_row w n j cs t h
theorem block_lt {w : World} {n : Nat} {o : Obj} (h : w.heap[n]? = some o) : n < w.heap.size := (Array.getElem?_eq_some_iff.1 h).1
/-- A callee's world is one of the class. -/
theorem calm_step {W : World} {U : Type} {f : U → World} (hf : ∀ u, Below W.heap.size W (f u)) (hg : ∀ w', Below W.heap.size W w' → ∃ u, w' = f u) {u : U} {w' : World} (h : Below (f u).heap.size (f u) w') : ∃ u', w' = f u' :=
  hg _ ((hf u).trans (h.mono (hf u).size))
theorem calm_drew {W : World} {U : Type} {f : U → World} (hf : ∀ u, Below W.heap.size W (f u)) (hg : ∀ w', Below W.heap.size W w' → ∃ u, w' = f u) (u : U) : ∃ u', (f u).drew = f u' := hg _ (hf u).drew
/-- A block of the old world is there, whole, in each world of the class. -/
theorem calm_heap {W : World} {U : Type} {f : U → World} (hf : ∀ u, Below W.heap.size W (f u)) {n : Nat} {o : Obj} (h : W.heap[n]? = some o) : ∀ u, (f u).heap[n]? = some o := fun u =>
  ((hf u).block n (Array.getElem?_eq_some_iff.1 h).1).trans h
end Go.Proofs.YtbnndbdnejfehaaGreatDoor
/- Contracts of package stamp and of its reference: which stamp, which attempt is ahead; the later one. -/
namespace Go.Proofs.YtbnndbdnejfehaaGreatDoor
open Go.RowKit

end Go.Proofs.YtbnndbdnejfehaaGreatDoor
/- A region that draws its order: a head whose operations are quiet in a class of worlds (calls that make memory among them), and a tail in one forced order, walked in whatever world of the class the head leaves. -/
namespace Go.Proofs.YtbnndbdnejfehaaGreatDoor
open Go.RowKit

section
variable {P : Program} {ops : Array Oper} {md : Region.Mode} {C : World → Prop}

end
end Go.Proofs.YtbnndbdnejfehaaGreatDoor
/- Contracts of stamp.Less, of the reference's, and of the two of attempts. -/
namespace Go.Proofs.YtbnndbdnejfehaaGreatDoor
open Go.RowKit

end Go.Proofs.YtbnndbdnejfehaaGreatDoor
/- Contracts of package stamp and of its reference: the later one of two stamps; ties. -/
namespace Go.Proofs.YtbnndbdnejfehaaGreatDoor
open Go.RowKit

end Go.Proofs.YtbnndbdnejfehaaGreatDoor
/- Slices, whoever owns them: their elements' cells; append from any source; arguments that are slices of numbers. -/
namespace Go.Proofs.YtbnndbdnejfehaaGreatDoor
open Go.ChangeShapes Go.WideShapes Go.ChangeAt Go.RowKit

/-- A slice of n elements: its cells; it lies below block number B. -/
def Sl (B : Nat) (w : World) (v : Value) (size n : Nat) (xs : List Value) : Prop :=
  xs.length = n * size ∧ ((v = .slice none 0 0 ∧ n = 0) ∨ ∃ ad cap, v = .slice (some ad) n cap ∧ n ≤ cap ∧ cap ≤ maxLen ∧ (0 < n → ∃ g o, ad = ⟨g, o, none⟩ ∧ g < B ∧ ∀ j, j < n * size → w.cell? ⟨g, o + j, none⟩ = xs[j]?))

theorem Sl.keep {B : Nat} {w w' : World} {v : Value} {size n : Nat} {xs : List Value} (h : Sl B w v size n xs) (hb : Below B w w') : Sl B w' v size n xs := by
  obtain ⟨h1, h2⟩ := h
  refine ⟨h1, ?_⟩
  rcases h2 with h2 | ⟨ad, cap, e, h3, h4, h5⟩
  · exact .inl h2
  · refine .inr ⟨ad, cap, e, h3, h4, fun hn => ?_⟩
    obtain ⟨g, o, e1, h6, h7⟩ := h5 hn
    exact ⟨g, o, e1, h6, fun j hj => by rw [hb.cell (by exact h6)]; exact h7 j hj⟩
theorem Sl.mono {B B' : Nat} {w : World} {v : Value} {size n : Nat} {xs : List Value} (h : Sl B w v size n xs) (hB : B ≤ B') : Sl B' w v size n xs := by
  obtain ⟨h1, h2⟩ := h
  refine ⟨h1, ?_⟩
  rcases h2 with h2 | ⟨ad, cap, e, h3, h4, h5⟩
  · exact .inl h2
  · refine .inr ⟨ad, cap, e, h3, h4, fun hn => ?_⟩
    obtain ⟨g, o, e1, h6, h7⟩ := h5 hn
    exact ⟨g, o, e1, by omega, h7⟩
theorem Sl.of_own {w : World} {base : Nat} {e : TypeId} {size : Nat} {v : Value} {n : Nat} {xs : List Value} (h : w.ownsRow base e size v n xs) : Sl w.heap.size w v size n xs := by
  have h0 := h
  obtain ⟨h1, h2⟩ := h
  refine ⟨h1, ?_⟩
  rcases h2 with h2 | ⟨g, cap, cur, rfl, hb, hg, hn, hm, hs, ht⟩
  · exact .inl h2
  · exact .inr ⟨_, cap, rfl, hn, hm, fun _ => ⟨g, 0, rfl, (Array.getElem?_eq_some_iff.1 hg).1, fun j hj => by rw [Nat.zero_add]; exact h0.cellAt j hj⟩⟩
/-- Its value's shape, and where an element lies. -/
theorem Sl.form {B : Nat} {w : World} {v : Value} {n : Nat} {xs : List Value} (h : Sl B w v 1 n xs) :
    ∃ a cap, v = .slice a n cap ∧ n ≤ cap ∧ cap ≤ maxLen ∧ (a = none → n = 0 ∧ cap = 0) ∧ ∀ j, j < n → ∃ g o, a = some ⟨g, o, none⟩ ∧ g < B ∧ w.cell? ⟨g, o + j, none⟩ = xs[j]? := by
  obtain ⟨h1, h2⟩ := h
  rcases h2 with ⟨rfl, rfl⟩ | ⟨ad, cap, rfl, h3, h4, h5⟩
  · exact ⟨none, 0, rfl, Nat.le_refl _, Nat.zero_le _, fun _ => ⟨rfl, rfl⟩, fun j hj => absurd hj (by omega)⟩
  · refine ⟨_, cap, rfl, h3, h4, (by intro h; cases h), fun j hj => ?_⟩
    obtain ⟨g, o, rfl, h6, h7⟩ := h5 (by omega)
    exact ⟨g, o, rfl, h6, h7 j (by omega)⟩

/-- Append to a row of the call's own, from whatever source. -/
theorem wpList_append_sl {P : Program} {w : World} {ops : Array Oper} {rest : List Oper} {o : Oper} {a : Act} {Q : Exit → Act → World → Prop} (hgd : o.guard = none) (s x : Operand) (t : TypeId)
    (ho : o.op = .call { callee := .builtin .append, args := #[s, x], argTypes := #[t, t] })
    (base : Nat) (e : TypeId) (i : TypeInfo) (z : Value) (size bytes : Nat) (ht : P.underlying t = some (.slice e)) (hi : P.info? e = some i) (hz : i.zero = some z)
    (hsize : i.size = size) (hby : i.bytes = bytes) (hzs : z.cells.size = size) (hsz : 0 < size)
    (v : Value) (n : Nat) (xs : List Value) (hs : a.eval s = v) (hown : w.ownsRow base e size v n xs)
    (B : Nat) (u : Value) (m : Nat) (news : List Value) (hx : a.eval x = u) (hsl : Sl B w u size m news) (h1 : ∀ u ∈ news, u.oneCell' = true)
    (h63 : n + m ≤ maxLen) (hbytes : (n + m) * bytes ≤ 140737488355328) (hbase : base ≤ w.heap.size)
    (h : ∀ v' w', w'.ownsRow base e size v' (n + m) (xs ++ news) → w.grownBy w' v.ownBlock → wpList P ops Q rest (a.put o.dst v') w') : wpList P ops Q (o :: rest) a w := by
  obtain ⟨hl, hc⟩ := hsl
  rcases hc with ⟨rfl, rfl⟩ | ⟨ad, cap, rfl, _, _, hcell⟩
  · have hn : news = [] := List.eq_nil_of_length_eq_zero (by simpa using hl)
    subst hn
    refine wpList_append_own_none hgd s x t ho base e i size ht hi v n xs hs hown hx ?_
    exact h v w (by simpa using hown) ⟨rfl, rfl, rfl, Nat.le_refl _, fun _ _ _ => rfl⟩
  · refine wpList_append_own _ hgd s x t ho base e i z size bytes ht hi hz hsize hby hzs hsz v n xs hs hown ad m cap news hx hl ?_ h1 h63 hbytes hbase (fun v' w' h2 h3 _ => h v' w' h2 h3)
    intro j u hu
    have hj : j < m * size := by rw [← hl]; exact (List.getElem?_eq_some_iff.1 hu).1
    have hm : 0 < m := Nat.pos_of_ne_zero (fun h => by rw [h] at hj; omega)
    obtain ⟨g, off, rfl, _, hcell⟩ := hcell hm
    have hadd : (⟨g, off, none⟩ : Addr).add j = ⟨g, off + j, none⟩ := by unfold Addr.add; split <;> simp_all
    rw [hadd, hcell j hj]; exact hu

section
variable {H : Type} {enc : TypeId × Value → H} {P : Program} {w : World}
end
end Go.Proofs.YtbnndbdnejfehaaGreatDoor
/- Contracts of package bits: bytes laid behind bytes. -/
namespace Go.Proofs.YtbnndbdnejfehaaGreatDoor
open Go.RowKit

/-- Bytes as cells. -/
def byt (xs : List Int) : List Value := xs.map (.int .u8)
end Go.Proofs.YtbnndbdnejfehaaGreatDoor
/- The contract of math/bits.Len64. -/
namespace Go.Proofs.YtbnndbdnejfehaaGreatDoor
open Go.RowKit

end Go.Proofs.YtbnndbdnejfehaaGreatDoor
/- The contract of bits.Put. -/
namespace Go.Proofs.YtbnndbdnejfehaaGreatDoor
open Go.RowKit

/-- The first k of the n bytes of v, the highest first. -/
def bePre (v n : Int) : Nat → List Int
  | 0 => []
  | k + 1 => bePre v n k ++ [v / 2 ^ (8 * (n - 1 - k)).toNat % 256]
theorem bePre_len (v n : Int) (k : Nat) : (bePre v n k).length = k := by
  induction k with
  | zero => rfl
  | succ k ih => simp [bePre, ih]
end Go.Proofs.YtbnndbdnejfehaaGreatDoor
/- The contract of bits.Get. -/
namespace Go.Proofs.YtbnndbdnejfehaaGreatDoor
open Go.RowKit

/-- The number that bytes are, the highest first. -/
def beVal : List Int → Int
  | l => l.foldl (fun a c => a * 256 + c) 0
theorem beVal_snoc (l : List Int) (c : Int) : beVal (l ++ [c]) = beVal l * 256 + c := by simp [beVal, List.foldl_append]
theorem beVal_bound : ∀ (n : Nat) (l : List Int), l.length = n → (∀ x ∈ l, 0 ≤ x ∧ x ≤ 255) → 0 ≤ beVal l ∧ beVal l < 256 ^ n := by
  intro n
  induction n with
  | zero => intro l hl _; obtain rfl := List.eq_nil_of_length_eq_zero hl; simp [beVal]
  | succ n ih =>
    intro l hl hx
    have hne : l ≠ [] := by intro h; rw [h] at hl; simp at hl
    have e := List.dropLast_concat_getLast hne
    have h1 := ih l.dropLast (by simp [hl]) (fun x hm => hx x (List.dropLast_subset _ hm))
    have h2 := hx (l.getLast hne) (List.getLast_mem hne)
    rw [← e, beVal_snoc, Int.pow_succ]
    omega
end Go.Proofs.YtbnndbdnejfehaaGreatDoor
/- Contracts of package bits and its reference: signs. -/
namespace Go.Proofs.YtbnndbdnejfehaaGreatDoor
open Go.RowKit

end Go.Proofs.YtbnndbdnejfehaaGreatDoor
/- What the statements lean on: a twin of bytes with spare room behind it, and whether it was kept. -/
namespace Go.Proofs.YtbnndbdnejfehaaGreatDoor
open Go.ChangeShapes Go.WideShapes Go.ChangeAt Go.RowKit

end Go.Proofs.YtbnndbdnejfehaaGreatDoor
/- Bytes as a text; whether a twin was kept. -/
namespace Go.Proofs.YtbnndbdnejfehaaGreatDoor
open Go.ChangeShapes Go.WideShapes Go.ChangeAt Go.RowKit

section
variable {P : Program} {w : World}
end

end Go.Proofs.YtbnndbdnejfehaaGreatDoor
/- Contracts of the reference's Put and Get. -/
namespace Go.Proofs.YtbnndbdnejfehaaGreatDoor
open Go.RowKit

theorem div_step (v : Int) (k : Nat) : v / 2 ^ (8 * k) / 256 = v / 2 ^ (8 * (k + 1)) := by
  rw [Int.ediv_ediv_of_nonneg (Int.le_of_lt (Int.pow_pos (by decide))), show (8 * (k + 1)) = 8 * k + 8 by omega, Int.pow_add]; rfl
end Go.Proofs.YtbnndbdnejfehaaGreatDoor
/- The contract of the reference's Get. -/
namespace Go.Proofs.YtbnndbdnejfehaaGreatDoor
open Go.RowKit

end Go.Proofs.YtbnndbdnejfehaaGreatDoor
/- Contracts of stamps as bytes: how they are laid, and which bytes are a stamp; package stamp and its reference. -/
namespace Go.Proofs.YtbnndbdnejfehaaGreatDoor
open Go.RowKit

/-- The bytes of a stamp. -/
def stampB (a b : Int) : List Int := bePre (orderI a) 8 8 ++ bePre (orderI b) 8 8
end Go.Proofs.YtbnndbdnejfehaaGreatDoor
/- Bytes in the order of the numbers that they lay. -/
namespace Go.Proofs.YtbnndbdnejfehaaGreatDoor
open Go.RowKit

theorem beVal_acc : ∀ (l : List Int) (a : Int), l.foldl (fun a c => a * 256 + c) a = a * 256 ^ l.length + beVal l
  | [], a => by simp [beVal]
  | c :: l, a => by
    rw [List.foldl_cons, beVal_acc l, List.length_cons, Int.pow_succ]
    have e : beVal (c :: l) = (0 * 256 + c) * 256 ^ l.length + beVal l := by
      show (c :: l).foldl _ 0 = _
      rw [List.foldl_cons, beVal_acc l]
    rw [e, Int.add_mul, Int.add_mul, Int.mul_comm (256 ^ l.length) 256, ← Int.mul_assoc a 256]
    omega
theorem beVal_cons (c : Int) (l : List Int) : beVal (c :: l) = c * 256 ^ l.length + beVal l := by
  show (c :: l).foldl _ 0 = _
  rw [List.foldl_cons, beVal_acc]; simp
theorem beVal_pre (v : Int) (n : Nat) : ∀ k : Nat, k ≤ n → 0 ≤ v → v < 2 ^ (8 * n) → beVal (bePre v n k) = v / 2 ^ (8 * (n - k))
  | 0, _, h0, h1 => by
    rw [Int.ediv_eq_zero_of_lt h0 (by simpa using h1)]; rfl
  | k + 1, hk, h0, h1 => by
    rw [bePre, beVal_snoc, beVal_pre v n k (by omega) h0 h1, show (8 * ((n : Int) - 1 - k)).toNat = 8 * (n - (k + 1)) by omega, show n - k = n - (k + 1) + 1 by omega, ← div_step]
    omega
theorem bePre_bd (v n : Int) (k : Nat) : ∀ x ∈ bePre v n k, 0 ≤ x ∧ x ≤ 255 := by
  induction k with
  | zero => intro x hx; cases hx
  | succ k ih =>
    intro x hx
    rw [bePre, List.mem_append, List.mem_singleton] at hx
    rcases hx with hx | rfl
    · exact ih x hx
    · omega
end Go.Proofs.YtbnndbdnejfehaaGreatDoor
/- Wire: the plain law: a command's bytes, and that no two commands have the same. -/
namespace Go.Proofs.YtbnndbdnejfehaaGreatDoor

/-- An int64. -/
def In64 (n : Int) : Prop := -9223372036854775808 ≤ n ∧ n ≤ 9223372036854775807
structure SpX where
  lo : ByteArray
  hi : ByteArray
deriving DecidableEq
structure WrX where
  k : ByteArray
  r : Bool
  d : ByteArray
deriving DecidableEq
structure CmX where
  k : Int
  e : Int
  n : Int
  h : Int
  yn : Int
  yl : Int
  ys : Int
  ya : Int
  sw : Int
  st : Int
  w : Int
  yes : Bool
  sp : List SpX
  wr : List WrX
deriving DecidableEq
def txW (t : ByteArray) : List Int := t.data.toList.map fun b => (b.toNat : Int)
theorem txW_len (t : ByteArray) : (txW t).length = t.size := by unfold txW; rw [List.length_map, Array.length_toList]; rfl
theorem txW_oct (t : ByteArray) : ∀ x ∈ txW t, 0 ≤ x ∧ x ≤ 255 := by
  intro x hx
  simp only [txW, List.mem_map] at hx
  obtain ⟨b, _, rfl⟩ := hx
  have := b.toNat_lt
  omega
theorem txW_inj {s t : ByteArray} (h : txW s = txW t) : s = t := by
  unfold txW at h
  have hi : ∀ {a b : UInt8}, ((a.toNat : Nat) : Int) = ((b.toNat : Nat) : Int) → a = b := fun {a b} h => UInt8.toNat_inj.1 (by omega)
  have h2 := (List.map_inj_right (fun a b h => hi h)).1 h
  cases s; cases t
  simp only [ByteArray.mk.injEq]
  exact Array.toList_inj.1 h2
def encN (v : Int) : List Int := varN (zigI v).toNat
def encT (s : ByteArray) : List Int := varN s.size ++ txW s
def encF (b : Bool) : List Int := [if b then 1 else 0]
def encY (n l s a : Int) : List Int := encN n ++ encN l ++ encN s ++ encN a
def encSp (x : SpX) : List Int := encT x.lo ++ encT x.hi
def encWr (x : WrX) : List Int := encT x.k ++ encF x.r ++ encT x.d
def encHd (c : CmX) : List Int := [1] ++ encN c.k ++ encN c.e ++ encN c.n ++ encN c.h ++ encY c.yn c.yl c.ys c.ya ++ stampB c.sw c.st ++ encN c.w ++ encF c.yes
def encSps (l : List SpX) : List Int := encN l.length ++ l.flatMap encSp
def encWrs (l : List WrX) : List Int := encN l.length ++ l.flatMap encWr
def encCm (c : CmX) : List Int := encHd c ++ encSps c.sp ++ encWrs c.wr
theorem zigI_fit {v : Int} (h : In64 v) : 0 ≤ zigI v ∧ zigI v ≤ 18446744073709551615 := by unfold zigI; obtain ⟨h0, h1⟩ := h; split <;> omega
def TxF (s : ByteArray) : Prop := s.size ≤ 9223372036854775807
def SpF (x : SpX) : Prop := TxF x.lo ∧ TxF x.hi
def WrF (x : WrX) : Prop := TxF x.k ∧ TxF x.d
structure CmF (c : CmX) : Prop where
  k : In64 c.k
  e : In64 c.e
  n : In64 c.n
  h : In64 c.h
  yn : In64 c.yn
  yl : In64 c.yl
  ys : In64 c.ys
  ya : In64 c.ya
  sw : In64 c.sw
  st : In64 c.st
  w : In64 c.w
  sp : ∀ x ∈ c.sp, SpF x
  wr : ∀ x ∈ c.wr, WrF x
  nsp : c.sp.length ≤ 9223372036854775807
  nwr : c.wr.length ≤ 9223372036854775807
end Go.Proofs.YtbnndbdnejfehaaGreatDoor
/- Contracts of numbers in seven bits a byte: how they are written, by package bits and by its reference. -/
namespace Go.Proofs.YtbnndbdnejfehaaGreatDoor
open Go.RowKit

end Go.Proofs.YtbnndbdnejfehaaGreatDoor
/- Contracts: the reference's bytes of a number; texts behind their length. -/
namespace Go.Proofs.YtbnndbdnejfehaaGreatDoor
open Go.RowKit

end Go.Proofs.YtbnndbdnejfehaaGreatDoor
/- A slice of ints, whoever owns it: where its numbers lie. -/
namespace Go.Proofs.YtbnndbdnejfehaaGreatDoor
open Go.ChangeShapes Go.WideShapes Go.ChangeAt Go.RowKit

def NumsAt (w : World) (p : Option Addr) (rs : List Int) : Prop := ∀ j, (hj : j < rs.length) → ∃ g o, p = some ⟨g, o, none⟩ ∧ g < w.heap.size ∧ w.cell? ⟨g, o + j, none⟩ = some (.int .i64 rs[j])
theorem NumsAt.keep {w w' : World} {p : Option Addr} {rs : List Int} (h : NumsAt w p rs) {B : Nat} (hb : Below B w w') (hB : w.heap.size ≤ B) : NumsAt w' p rs := fun j hj => by
  obtain ⟨g, o, e, hg, h1⟩ := h j hj
  exact ⟨g, o, e, Nat.lt_of_lt_of_le hg hb.size, (hb.cell (p := ⟨g, o + j, none⟩) (by show g < B; omega)).trans h1⟩
theorem NumsAt.nil (w : World) (p : Option Addr) : NumsAt w p [] := fun j hj => absurd hj (by simp)
end Go.Proofs.YtbnndbdnejfehaaGreatDoor
/- Wire: how numbers, texts, truths, stamps and attempts are laid behind bytes: package wire. -/
namespace Go.Proofs.YtbnndbdnejfehaaGreatDoor
open Go.ChangeShapes Go.WideShapes Go.ChangeAt Go.RowKit

theorem own_less {w w' : World} {base : Nat} {v : Value} {ys : List Int} (h : w.ownsRow base 5 1 v ys.length (byt ys)) (hb : Below w.heap.size w w') : w'.ownsRow base 5 1 v ys.length (byt ys) :=
  h.kept (row := none) ⟨hb.os, hb.tape, hb.output, hb.size, fun k hk _ => hb.block k hk⟩ (by cases v.ownBlock <;> simp)
end Go.Proofs.YtbnndbdnejfehaaGreatDoor
/- Regions walked operation by operation: the class of worlds may be made narrower as the walk goes on. -/
namespace Go.Proofs.YtbnndbdnejfehaaGreatDoor
open Go.RowKit
theorem zA {α : Type} {xs : List α} {i : Nat} (h : i < xs.toArray.size) : xs.toArray[i] = xs[i] := rfl
theorem zB {α : Type} (a : α) (xs : List α) (i : Nat) (h : i + 1 < (a :: xs).length) : (a :: xs)[i + 1] = xs[i]'(Nat.lt_of_succ_lt_succ h) := rfl
theorem zC {α : Type} (a : α) (xs : List α) (h : 0 < (a :: xs).length) : (a :: xs)[0] = a := rfl
theorem zD {α : Type} (l : List α) (i : Nat) (a : α) : l.toArray.setIfInBounds i a = (l.set i a).toArray := List.setIfInBounds_toArray ..
theorem zE {α : Type} {x : α} {xs : List α} {a : α} : (x :: xs).set 0 a = a :: xs := rfl
theorem zF {α : Type} {x : α} {xs : List α} {i : Nat} {a : α} : (x :: xs).set (i + 1) a = x :: xs.set i a := rfl
theorem tkH {P : Program} {md : Region.Mode} {ops : Array Oper} {Q : Exit → Act → World → Prop} {S : World → Prop} {i : Nat} {oi : Oper} {v : Value} {fuel : Nat} {listed : Array Bool} {a : Act} {w : World} (hi : ops[i]? = some oi) (hy : YieldsIf P ops S oi v a) (hS : S w) (h : wpAnyH P md ops Q S fuel (listed.setIfInBounds i true) (a.put oi.dst v) w)
    (hs : Region.noSelect ops = true := by kernel_rfl) (hf : Region.free md ops listed i = true := by kernel_rfl) (hr : (Region.ready md ops listed).contains i = true := by kernel_rfl) (hQ : ∀ c a w, Q (.panic c) (a.put oi.dst v) w → Q (.panic c) a w := by exact fun _ _ _ h => h) : wpAnyH P md ops Q S (fuel + 1) listed a w :=
  wpAnyH_take hi hs hf hr hQ hy hS h
theorem tkL {P : Program} {md : Region.Mode} {ops : Array Oper} {Q : Exit → Act → World → Prop} {S : World → Prop} {oi : Oper} {v : Value} {fuel : Nat} {listed : Array Bool} {a : Act} {w : World} (i : Nat) (hi : ops[i]? = some oi) (hS : S w) (h : wpAnyH P md ops Q S fuel (listed.setIfInBounds i true) (a.put oi.dst v) w)
    (hy : ∀ w', S w' → (execOp a.eval oi).run P w' = .ok (.value v) w' := by (intro wz hSw; (try dsimp only at hSw); (try simp only [zA, zB, zC]); go_simp; try with_reducible rfl)) (hw : Region.wanted oi (yielded ops a.tmps) = true := by rfl)
    (hs : Region.noSelect ops = true := by kernel_rfl) (hf : Region.free md ops listed i = true := by kernel_rfl) (hr : (Region.ready md ops listed).contains i = true := by kernel_rfl) (hQ : ∀ c a w, Q (.panic c) (a.put oi.dst v) w → Q (.panic c) a w := by exact fun _ _ _ h => h) : wpAnyH P md ops Q S (fuel + 1) listed a w :=
  wpAnyH_take hi hs hf hr hQ (Or.inl ⟨hw, hy⟩) hS h

end Go.Proofs.YtbnndbdnejfehaaGreatDoor
/- Wire: how numbers, texts, truths, stamps and attempts are laid behind bytes: package wire's and the reference's. -/
namespace Go.Proofs.YtbnndbdnejfehaaGreatDoor
open Go.ChangeShapes Go.WideShapes Go.ChangeAt Go.RowKit

def TxtsAt (w : World) (p : Option Addr) (ss : List ByteArray) : Prop := ∀ j, (hj : j < ss.length) → ∃ g o, p = some ⟨g, o, none⟩ ∧ g < w.heap.size ∧ w.cell? ⟨g, o + j, none⟩ = some (.string ss[j])
theorem TxtsAt.keep {w w' : World} {p : Option Addr} {ss : List ByteArray} (h : TxtsAt w p ss) {B : Nat} (hb : Below B w w') (hB : w.heap.size ≤ B) : TxtsAt w' p ss := fun j hj => by
  obtain ⟨g, o, e, hg, h1⟩ := h j hj
  exact ⟨g, o, e, Nat.lt_of_lt_of_le hg hb.size, (hb.cell (p := ⟨g, o + j, none⟩) (by show g < B; omega)).trans h1⟩
end Go.Proofs.YtbnndbdnejfehaaGreatDoor
/- Wire: the reference's bytes of a command. -/
namespace Go.Proofs.YtbnndbdnejfehaaGreatDoor
open Go.ChangeShapes Go.WideShapes Go.ChangeAt Go.RowKit

def SpsAt (w : World) (p : Option Addr) (L : List SpX) : Prop := ∀ j, (hj : j < L.length) → ∃ g o, p = some ⟨g, o, none⟩ ∧ g < w.heap.size ∧ w.cell? ⟨g, o + j * 2, none⟩ = some (.string L[j].lo) ∧ w.cell? ⟨g, o + j * 2 + 1, none⟩ = some (.string L[j].hi)
theorem SpsAt.keep {w w' : World} {p : Option Addr} {L : List SpX} (h : SpsAt w p L) {B : Nat} (hb : Below B w w') (hB : w.heap.size ≤ B) : SpsAt w' p L := fun j hj => by
  obtain ⟨g, o, e, hg, h1, h2⟩ := h j hj
  exact ⟨g, o, e, Nat.lt_of_lt_of_le hg hb.size, (hb.cell (p := ⟨g, o + j * 2, none⟩) (by show g < B; omega)).trans h1, (hb.cell (p := ⟨g, o + j * 2 + 1, none⟩) (by show g < B; omega)).trans h2⟩
def WrsAt (w : World) (p : Option Addr) (L : List WrX) : Prop := ∀ j, (hj : j < L.length) → ∃ g o, p = some ⟨g, o, none⟩ ∧ g < w.heap.size ∧ w.cell? ⟨g, o + j * 3, none⟩ = some (.string L[j].k) ∧ w.cell? ⟨g, o + j * 3 + 1, none⟩ = some (.bool L[j].r) ∧ w.cell? ⟨g, o + j * 3 + 2, none⟩ = some (.string L[j].d)
theorem WrsAt.keep {w w' : World} {p : Option Addr} {L : List WrX} (h : WrsAt w p L) {B : Nat} (hb : Below B w w') (hB : w.heap.size ≤ B) : WrsAt w' p L := fun j hj => by
  obtain ⟨g, o, e, hg, h1, h2, h3⟩ := h j hj
  exact ⟨g, o, e, Nat.lt_of_lt_of_le hg hb.size, (hb.cell (p := ⟨g, o + j * 3, none⟩) (by show g < B; omega)).trans h1, (hb.cell (p := ⟨g, o + j * 3 + 1, none⟩) (by show g < B; omega)).trans h2, (hb.cell (p := ⟨g, o + j * 3 + 2, none⟩) (by show g < B; omega)).trans h3⟩
theorem own_oneW (w : World) (x : Int) : (w.alloc (.cells #[.int .u8 x] 5)).ownsRow w.heap.size 5 1 (.slice (some ⟨w.heap.size, 0, none⟩) 1 1) [x].length (byt [x]) :=
  ⟨rfl, .inr ⟨w.heap.size, 1, _, rfl, Nat.le_refl _, heap_last w _, Nat.le_refl _, by unfold maxLen; decide, rfl, rfl⟩⟩
end Go.Proofs.YtbnndbdnejfehaaGreatDoor
/- Wire: writers in one form: their result has a row of its own, all blocks but the old row's are as they were, and the row is the old one or a new one. -/
namespace Go.Proofs.YtbnndbdnejfehaaGreatDoor
open Go.ChangeShapes Go.WideShapes Go.ChangeAt Go.RowKit

/-- From the world X with the row v0 to the world w with the row v. -/
structure Gw (base : Nat) (v0 : Value) (X : World) (v : Value) (w : World) (ys : List Int) : Prop where
  own : w.ownsRow base 5 1 v ys.length (byt ys)
  gr : X.grownBy w v0.ownBlock
  ob : ∀ k, v.ownBlock = some k → v0.ownBlock = some k ∨ X.heap.size ≤ k
section
variable {base : Nat} {v0 v v1 : Value} {X w w1 : World} {xs ys : List Int}
theorem Gw.refl (h : X.ownsRow base 5 1 v0 xs.length (byt xs)) : Gw base v0 X v0 X xs := ⟨h, ⟨rfl, rfl, rfl, Nat.le_refl _, fun _ _ _ => rfl⟩, fun _k hk => .inl hk⟩
theorem Gw.hz (h : Gw base v0 X v w xs) (hb : base ≤ X.heap.size) : base ≤ w.heap.size := Nat.le_trans hb h.gr.size
theorem Gw.trans (h : Gw base v0 X v w xs) (k : Gw base v w v1 w1 ys) : Gw base v0 X v1 w1 ys :=
  ⟨k.own, ⟨k.gr.os.trans h.gr.os, k.gr.tape.trans h.gr.tape, k.gr.output.trans h.gr.output, Nat.le_trans h.gr.size k.gr.size, fun i hi hn => (k.gr.block i (Nat.lt_of_lt_of_le hi h.gr.size) (fun e => by
    rcases h.ob i e.symm with e2 | e2
    · exact hn e2.symm
    · omega)).trans (h.gr.block i hi hn)⟩, fun i hi => by
    rcases k.ob i hi with e | e
    · exact h.ob i e
    · exact .inr (Nat.le_trans h.gr.size e)⟩
theorem Gw.below (h : Gw base v0 X v w xs) (hb : Below w.heap.size w w1) : Gw base v0 X v w1 xs :=
  ⟨own_less h.own hb, ⟨hb.os.trans h.gr.os, hb.tape.trans h.gr.tape, hb.output.trans h.gr.output, Nat.le_trans h.gr.size hb.size, fun i hi hn => (hb.block i (Nat.lt_of_lt_of_le hi h.gr.size)).trans (h.gr.block i hi hn)⟩, h.ob⟩
theorem Gw.drew (h : Gw base v0 X v w xs) : Gw base v0 X v w.drew xs := h.below (Below.refl _ _).drew
theorem Gw.alloc (h : Gw base v0 X v w xs) (o : Obj) : Gw base v0 X v (w.alloc o) xs := h.below ((Below.refl _ _).alloc (Nat.le_refl _) _)
theorem Gw.mono {base' : Nat} (h : Gw base v0 X v w xs) (hb : base' ≤ base) : Gw base' v0 X v w xs := ⟨h.own.mono hb, h.gr, h.ob⟩
/-- A block that is there and is not the row's stays. -/
theorem Gw.keep (h : Gw base v0 X v w xs) {g : Nat} {o : Obj} (hq : X.heap[g]? = some o) (hn : v0.ownBlock ≠ some g) : w.heap[g]? = some o ∧ v.ownBlock ≠ some g := by
  have hg := block_lt hq
  refine ⟨(h.gr.block g hg (fun e => hn e.symm)).trans hq, fun e => ?_⟩
  rcases h.ob g e with e2 | e2
  · exact hn e2
  · omega
/-- If the first row was none, all that was there stays. -/
theorem Gw.all (h : Gw base v0 X v w xs) (hn : v0.ownBlock = none) : Below X.heap.size X w :=
  ⟨h.gr.os, h.gr.tape, h.gr.output, h.gr.size, fun k hk => h.gr.block k hk (by rw [hn]; intro e; cases e)⟩
end
end Go.Proofs.YtbnndbdnejfehaaGreatDoor
/- Wire: are two lists of spans, of writes, the same? -/
namespace Go.Proofs.YtbnndbdnejfehaaGreatDoor
open Go.ChangeShapes Go.WideShapes Go.ChangeAt Go.RowKit

end Go.Proofs.YtbnndbdnejfehaaGreatDoor
/- Wire: the parts of a state; are two lists of versions, of outcomes, the same? -/
namespace Go.Proofs.YtbnndbdnejfehaaGreatDoor
open Go.ChangeShapes Go.WideShapes Go.ChangeAt Go.RowKit

structure VeX where
  w : Int
  t : Int
  r : Bool
  d : ByteArray
deriving DecidableEq
structure CeX where
  k : ByteArray
  vs : List VeX
  lk : Bool
  yn : Int
  yl : Int
  ys : Int
  ya : Int
  hm : Int
  sw : Int
  st : Int
  lr : Bool
  ld : ByteArray
deriving DecidableEq
structure OuX where
  yn : Int
  yl : Int
  ys : Int
  ya : Int
  sw : Int
  st : Int
  yes : Bool
deriving DecidableEq
structure PaX where
  e : Int
  h : Int
  fw : Int
  ft : Int
  cl : Int
  lo : Int
  cs : List CeX
  rs : List OuX
  ds : List OuX
deriving DecidableEq
def VesAt (w : World) (p : Option Addr) (L : List VeX) : Prop := ∀ j, (hj : j < L.length) → ∃ g o, p = some ⟨g, o, none⟩ ∧ g < w.heap.size ∧ w.cell? ⟨g, o + j * 4, none⟩ = some (.int .i64 L[j].w) ∧ w.cell? ⟨g, o + j * 4 + 1, none⟩ = some (.int .i64 L[j].t) ∧ w.cell? ⟨g, o + j * 4 + 2, none⟩ = some (.bool L[j].r) ∧ w.cell? ⟨g, o + j * 4 + 3, none⟩ = some (.string L[j].d)
theorem VesAt.keep {w w' : World} {p : Option Addr} {L : List VeX} (h : VesAt w p L) {B : Nat} (hb : Below B w w') (hB : w.heap.size ≤ B) : VesAt w' p L := fun j hj => by
  obtain ⟨g, o, e, hg, h0, h1, h2, h3⟩ := h j hj
  exact ⟨g, o, e, Nat.lt_of_lt_of_le hg hb.size, (hb.cell (p := ⟨g, o + j * 4, none⟩) (by show g < B; omega)).trans h0, (hb.cell (p := ⟨g, o + j * 4 + 1, none⟩) (by show g < B; omega)).trans h1, (hb.cell (p := ⟨g, o + j * 4 + 2, none⟩) (by show g < B; omega)).trans h2, (hb.cell (p := ⟨g, o + j * 4 + 3, none⟩) (by show g < B; omega)).trans h3⟩
def OusAt (w : World) (p : Option Addr) (L : List OuX) : Prop := ∀ j, (hj : j < L.length) → ∃ g o, p = some ⟨g, o, none⟩ ∧ g < w.heap.size ∧ w.cell? ⟨g, o + j * 7, none⟩ = some (.int .i64 L[j].yn) ∧ w.cell? ⟨g, o + j * 7 + 1, none⟩ = some (.int .i64 L[j].yl) ∧ w.cell? ⟨g, o + j * 7 + 2, none⟩ = some (.int .i64 L[j].ys) ∧ w.cell? ⟨g, o + j * 7 + 3, none⟩ = some (.int .i64 L[j].ya) ∧ w.cell? ⟨g, o + j * 7 + 4, none⟩ = some (.int .i64 L[j].sw) ∧ w.cell? ⟨g, o + j * 7 + 5, none⟩ = some (.int .i64 L[j].st) ∧ w.cell? ⟨g, o + j * 7 + 6, none⟩ = some (.bool L[j].yes)
theorem OusAt.keep {w w' : World} {p : Option Addr} {L : List OuX} (h : OusAt w p L) {B : Nat} (hb : Below B w w') (hB : w.heap.size ≤ B) : OusAt w' p L := fun j hj => by
  obtain ⟨g, o, e, hg, h0, h1, h2, h3, h4, h5, h6⟩ := h j hj
  exact ⟨g, o, e, Nat.lt_of_lt_of_le hg hb.size, (hb.cell (p := ⟨g, o + j * 7, none⟩) (by show g < B; omega)).trans h0, (hb.cell (p := ⟨g, o + j * 7 + 1, none⟩) (by show g < B; omega)).trans h1, (hb.cell (p := ⟨g, o + j * 7 + 2, none⟩) (by show g < B; omega)).trans h2, (hb.cell (p := ⟨g, o + j * 7 + 3, none⟩) (by show g < B; omega)).trans h3, (hb.cell (p := ⟨g, o + j * 7 + 4, none⟩) (by show g < B; omega)).trans h4, (hb.cell (p := ⟨g, o + j * 7 + 5, none⟩) (by show g < B; omega)).trans h5, (hb.cell (p := ⟨g, o + j * 7 + 6, none⟩) (by show g < B; omega)).trans h6⟩
end Go.Proofs.YtbnndbdnejfehaaGreatDoor
/- Wire: are two cells the same? Package wire's. -/
namespace Go.Proofs.YtbnndbdnejfehaaGreatDoor
open Go.ChangeShapes Go.WideShapes Go.ChangeAt Go.RowKit

end Go.Proofs.YtbnndbdnejfehaaGreatDoor
/- Wire: are two lists of cells the same? Package wire's. -/
namespace Go.Proofs.YtbnndbdnejfehaaGreatDoor
open Go.ChangeShapes Go.WideShapes Go.ChangeAt Go.RowKit

/-- A cell, and where its versions lie. -/
abbrev CeL := CeX × Option Addr × Nat
def CesAt (w : World) (p : Option Addr) (L : List CeL) : Prop := ∀ j, (hj : j < L.length) → ∃ g o, p = some ⟨g, o, none⟩ ∧ g < w.heap.size ∧ VesAt w L[j].2.1 L[j].1.vs ∧ w.cell? ⟨g, o + j * 12, none⟩ = some (.string L[j].1.k) ∧ w.cell? ⟨g, o + j * 12 + 1, none⟩ = some (.slice L[j].2.1 L[j].1.vs.length L[j].2.2) ∧ w.cell? ⟨g, o + j * 12 + 2, none⟩ = some (.bool L[j].1.lk) ∧ w.cell? ⟨g, o + j * 12 + 3, none⟩ = some (.int .i64 L[j].1.yn) ∧ w.cell? ⟨g, o + j * 12 + 4, none⟩ = some (.int .i64 L[j].1.yl) ∧ w.cell? ⟨g, o + j * 12 + 5, none⟩ = some (.int .i64 L[j].1.ys) ∧ w.cell? ⟨g, o + j * 12 + 6, none⟩ = some (.int .i64 L[j].1.ya) ∧ w.cell? ⟨g, o + j * 12 + 7, none⟩ = some (.int .i64 L[j].1.hm) ∧ w.cell? ⟨g, o + j * 12 + 8, none⟩ = some (.int .i64 L[j].1.sw) ∧ w.cell? ⟨g, o + j * 12 + 9, none⟩ = some (.int .i64 L[j].1.st) ∧ w.cell? ⟨g, o + j * 12 + 10, none⟩ = some (.bool L[j].1.lr) ∧ w.cell? ⟨g, o + j * 12 + 11, none⟩ = some (.string L[j].1.ld)
theorem CesAt.keep {w w' : World} {p : Option Addr} {L : List CeL} (h : CesAt w p L) {B : Nat} (hb : Below B w w') (hB : w.heap.size ≤ B) : CesAt w' p L := fun j hj => by
  obtain ⟨g, o, e, hg, hv, h0, h1, h2, h3, h4, h5, h6, h7, h8, h9, h10, h11⟩ := h j hj
  exact ⟨g, o, e, Nat.lt_of_lt_of_le hg hb.size, hv.keep hb hB, (hb.cell (p := ⟨g, o + j * 12, none⟩) (by show g < B; omega)).trans h0, (hb.cell (p := ⟨g, o + j * 12 + 1, none⟩) (by show g < B; omega)).trans h1, (hb.cell (p := ⟨g, o + j * 12 + 2, none⟩) (by show g < B; omega)).trans h2, (hb.cell (p := ⟨g, o + j * 12 + 3, none⟩) (by show g < B; omega)).trans h3, (hb.cell (p := ⟨g, o + j * 12 + 4, none⟩) (by show g < B; omega)).trans h4, (hb.cell (p := ⟨g, o + j * 12 + 5, none⟩) (by show g < B; omega)).trans h5, (hb.cell (p := ⟨g, o + j * 12 + 6, none⟩) (by show g < B; omega)).trans h6, (hb.cell (p := ⟨g, o + j * 12 + 7, none⟩) (by show g < B; omega)).trans h7, (hb.cell (p := ⟨g, o + j * 12 + 8, none⟩) (by show g < B; omega)).trans h8, (hb.cell (p := ⟨g, o + j * 12 + 9, none⟩) (by show g < B; omega)).trans h9, (hb.cell (p := ⟨g, o + j * 12 + 10, none⟩) (by show g < B; omega)).trans h10, (hb.cell (p := ⟨g, o + j * 12 + 11, none⟩) (by show g < B; omega)).trans h11⟩
end Go.Proofs.YtbnndbdnejfehaaGreatDoor
/- Wire: what a state's parts may be, and their bytes. -/
namespace Go.Proofs.YtbnndbdnejfehaaGreatDoor

structure VeF (x : VeX) : Prop where
  w : In64 x.w
  t : In64 x.t
  d : TxF x.d
structure OuF (x : OuX) : Prop where
  yn : In64 x.yn
  yl : In64 x.yl
  ys : In64 x.ys
  ya : In64 x.ya
  sw : In64 x.sw
  st : In64 x.st
structure CeF (x : CeX) : Prop where
  k : TxF x.k
  nvs : x.vs.length ≤ 9223372036854775807
  vs : ∀ v ∈ x.vs, VeF v
  yn : In64 x.yn
  yl : In64 x.yl
  ys : In64 x.ys
  ya : In64 x.ya
  hm : In64 x.hm
  sw : In64 x.sw
  st : In64 x.st
  ld : TxF x.ld
/-- A state, and where its cells' versions lie. -/
structure PaL where
  e : Int
  h : Int
  fw : Int
  ft : Int
  cl : Int
  lo : Int
  cs : List CeL
  rs : List OuX
  ds : List OuX
structure PaF (P : PaL) : Prop where
  e : In64 P.e
  h : In64 P.h
  fw : In64 P.fw
  ft : In64 P.ft
  cl : In64 P.cl
  lo : In64 P.lo
  cs : ∀ x ∈ P.cs, CeF x.1
  rs : ∀ x ∈ P.rs, OuF x
  ds : ∀ x ∈ P.ds, OuF x
  ncs : P.cs.length ≤ 9223372036854775807
  nrs : P.rs.length ≤ 9223372036854775807
  nds : P.ds.length ≤ 9223372036854775807
def PaL.x (P : PaL) : PaX := ⟨P.e, P.h, P.fw, P.ft, P.cl, P.lo, P.cs.map (·.1), P.rs, P.ds⟩
end Go.Proofs.YtbnndbdnejfehaaGreatDoor
/- Wire: package wire's bytes of a command. -/
namespace Go.Proofs.YtbnndbdnejfehaaGreatDoor
open Go.ChangeShapes Go.WideShapes Go.ChangeAt Go.RowKit

theorem TxtsAt.two {w : World} {g : Nat} {a b : ByteArray} {t : TypeId} (h : w.heap[g]? = some (.cells #[.string a, .string b] t (0, 0))) : TxtsAt w (some ⟨g, 0, none⟩) [a, b] := fun j hj => by
  refine ⟨g, 0, rfl, block_lt h, ?_⟩
  rw [Nat.zero_add, block_cells h]
  have : j = 0 ∨ j = 1 := by simp at hj; omega
  rcases this with rfl | rfl <;> rfl
end Go.Proofs.YtbnndbdnejfehaaGreatDoor
/- Wire: lists of outcomes as bytes: package wire's and the document's. -/
namespace Go.Proofs.YtbnndbdnejfehaaGreatDoor
open Go.ChangeShapes Go.WideShapes Go.ChangeAt Go.RowKit

theorem Gw.one {base : Nat} {X w : World} (h : Gw base (.slice none 0 0) X (.slice none 0 0) w []) (hb : base ≤ X.heap.size) (x : Int) : Gw base (.slice none 0 0) X (.slice (some ⟨w.heap.size, 0, none⟩) 1 1) (w.alloc (.cells #[.int .u8 x] 5)) [x] :=
  ⟨(own_oneW w x).mono (h.hz hb), (h.alloc _).gr, fun k hk => .inr (by simp only [Value.ownBlock, Option.some.injEq] at hk; have := h.gr.size; omega)⟩
theorem Gw.none (base : Nat) (X : World) : Gw base (.slice none 0 0) X (.slice none 0 0) X [] := Gw.refl ⟨rfl, .inl ⟨rfl, rfl⟩⟩
end Go.Proofs.YtbnndbdnejfehaaGreatDoor
/- Parts of slices of bytes. -/
namespace Go.Proofs.YtbnndbdnejfehaaGreatDoor
open Go.ChangeShapes Go.WideShapes Go.ChangeAt Go.RowKit

end Go.Proofs.YtbnndbdnejfehaaGreatDoor
/- What one may write into of an answer is written over: nothing else is turned. -/
namespace Go.Proofs.YtbnndbdnejfehaaGreatDoor
open Go.ChangeShapes Go.WideShapes Go.ChangeAt Go.RowKit

theorem grown_set (w : World) (g j : Nat) (v : Value) : w.grownBy (w.setCell ⟨g, j, none⟩ v) (some g) :=
  ⟨rfl, rfl, rfl, by simp [World.setCell], fun k _ hne => by simp [World.setCell, Array.getElem?_modify]; intro h; exact absurd (by rw [h]) hne⟩

end Go.Proofs.YtbnndbdnejfehaaGreatDoor
/- Contracts: which bytes are a stamp; package stamp and its reference. -/
namespace Go.Proofs.YtbnndbdnejfehaaGreatDoor
open Go.RowKit

end Go.Proofs.YtbnndbdnejfehaaGreatDoor
/- Contracts: how numbers in seven bits a byte are read, by package bits. -/
namespace Go.Proofs.YtbnndbdnejfehaaGreatDoor
open Go.RowKit

end Go.Proofs.YtbnndbdnejfehaaGreatDoor
/- Contracts: how numbers in seven bits a byte are read, by the reference. -/
namespace Go.Proofs.YtbnndbdnejfehaaGreatDoor
open Go.RowKit

end Go.Proofs.YtbnndbdnejfehaaGreatDoor
/- Contracts: how texts behind their length are read, by package bits and by its reference. -/
namespace Go.Proofs.YtbnndbdnejfehaaGreatDoor
open Go.ChangeShapes Go.WideShapes Go.ChangeAt Go.RowKit

/-- What bytes read as: the text, how many bytes, the error. -/
def textR (xs : List Int) : List Int × Int × Int :=
  if (takeV xs).2.2 ≠ 0 then ([], 0, (takeV xs).2.2)
  else if 1048576 < (takeV xs).1 then ([], 0, 3)
  else if (xs.length : Int) - (takeV xs).2.1 < (takeV xs).1 then ([], 0, 2)
  else ((xs.drop (takeV xs).2.1.toNat).take (takeV xs).1.toNat, (takeV xs).2.1 + (takeV xs).1, 0)
theorem textR_eq (xs : List Int) {t1 t2 t3 : Int} (h : takeV xs = (t1, t2, t3)) : textR xs = if t3 ≠ 0 then ([], 0, t3) else if 1048576 < t1 then ([], 0, 3) else if (xs.length : Int) - t2 < t1 then ([], 0, 2) else ((xs.drop t2.toNat).take t1.toNat, t2 + t1, 0) := by
  unfold textR; rw [h]
end Go.Proofs.YtbnndbdnejfehaaGreatDoor
