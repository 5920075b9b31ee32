import Derived.WalkKit
import Derived.Test.YtmhmlpfkdpjlaaaProg
import Derived.WalkSpells
import Derived.WalkLawsBesides
import Derived.BigQuiet
import Derived.Deep.QuietTactic
import Derived.Lib.Hide
import Derived.IntWalk
import Derived.Outline
import Derived.Deep.RegionWith
import Derived.StillTailTactics
/- What stamps and attempts compute, in plain words: which one is ahead, the later one, ties, clocks. -/
namespace Go.Proofs.Ytmhmlpfkdpjlaaa

def cmpI (x y : Int) : Int := if x < y then -1 else if y < x then 1 else 0
def orI : List Int → Int
  | [] => 0
  | x :: xs => if x = 0 then orI xs else x
theorem cmpI_cases (x y : Int) : (x < y ∧ cmpI x y = -1) ∨ (x = y ∧ cmpI x y = 0) ∨ (y < x ∧ cmpI x y = 1) := by
  unfold cmpI
  by_cases h1 : x < y
  · exact .inl ⟨h1, by rw [if_pos h1]⟩
  · by_cases h2 : y < x
    · exact .inr (.inr ⟨h2, by rw [if_neg h1, if_pos h2]⟩)
    · exact .inr (.inl ⟨by omega, by rw [if_neg h1, if_neg h2]⟩)
theorem cmpI_bd (x y : Int) : -1 ≤ cmpI x y ∧ cmpI x y ≤ 1 := by rcases cmpI_cases x y with h | h | h <;> omega

/-- Stamps: wall, then tie. -/
def lessS (aw at' bw bt : Int) : Bool := decide (aw < bw) || (decide (aw = bw) && decide (at' < bt))
theorem lessS_or (aw at' bw bt : Int) : decide (orI [cmpI aw bw, cmpI at' bt] < 0) = lessS aw at' bw bt := by
  unfold lessS
  rcases cmpI_cases aw bw with h | h | h <;> rcases cmpI_cases at' bt with g | g | g <;> simp only [orI, h.2, g.2] <;> simp <;> omega
/-- Attempts: node, life, number, attempt. -/
def lessT (a b c d x y z u : Int) : Bool := decide (a < x) || (decide (a = x) && (decide (b < y) || (decide (b = y) && (decide (c < z) || (decide (c = z) && decide (d < u))))))
theorem lessT_or (a b c d x y z u : Int) : decide (orI [cmpI a x, cmpI b y, cmpI c z, cmpI d u] < 0) = lessT a b c d x y z u := by
  unfold lessT
  rcases cmpI_cases a x with h | h | h
  · simp only [orI, h.2]; rw [Bool.eq_iff_iff]; simp; omega
  · rcases cmpI_cases b y with g | g | g
    · simp only [orI, h.2, g.2]; rw [Bool.eq_iff_iff]; simp; omega
    · rcases cmpI_cases c z with f | f | f
      · simp only [orI, h.2, g.2, f.2]; rw [Bool.eq_iff_iff]; simp; omega
      · rcases cmpI_cases d u with e | e | e <;> simp only [orI, h.2, g.2, f.2, e.2] <;> rw [Bool.eq_iff_iff] <;> simp <;> omega
      · simp only [orI, h.2, g.2, f.2]; rw [Bool.eq_iff_iff]; simp; omega
    · simp only [orI, h.2, g.2]; rw [Bool.eq_iff_iff]; simp; omega
  · simp only [orI, h.2]; rw [Bool.eq_iff_iff]; simp; omega
/-- Lists, by their first place where they part. -/
def lexL : List Int → List Int → Bool
  | p :: ps, q :: qs => if p = q then lexL ps qs else decide (p < q)
  | _, _ => false
theorem lexL_T (a b c d x y z u : Int) : lexL [a, b, c, d] [x, y, z, u] = lessT a b c d x y z u := by
  unfold lessT
  simp only [lexL]
  rw [Bool.eq_iff_iff]
  by_cases h1 : a = x <;> by_cases h2 : b = y <;> by_cases h3 : c = z <;> by_cases h4 : d = u <;> simp only [h1, h2, h3, h4, if_true, if_false] <;> simp <;> omega
def mxW (aw at' bw bt : Int) : Int := if lessS aw at' bw bt then bw else aw
def mxT (aw at' bw bt : Int) : Int := if lessS aw at' bw bt then bt else at'

/-- Ties. -/
def tieOk (n l s a : Int) : Bool := decide (1 ≤ n) && decide (n ≤ 9) && decide (0 ≤ a) && decide (a ≤ 15) && decide (0 ≤ l) && decide (l ≤ 1048575) && decide (0 ≤ s) && decide (s ≤ 16777215)
def tieI (n l s a : Int) : Int := ((n * 1048576 + l) * 16777216 + s) * 16 + a
theorem tie_eq (n l s a x m t b : Int) (h0 : 0 ≤ l) (h1 : l ≤ 1048575) (h2 : 0 ≤ s) (h3 : s ≤ 16777215) (h4 : 0 ≤ a) (h5 : a ≤ 15) (g0 : 0 ≤ m) (g1 : m ≤ 1048575) (g2 : 0 ≤ t) (g3 : t ≤ 16777215) (g4 : 0 ≤ b) (g5 : b ≤ 15) :
    (tieI n l s a == tieI x m t b) = (n == x && (l == m && (s == t && a == b))) := by
  unfold tieI
  rw [Bool.eq_iff_iff]; simp only [beq_iff_eq, Bool.and_eq_true]
  omega
/-- Clocks. -/
def readI (wall r : Int) : Int := max wall (min (max r 0) 1125899906842624)
def limE (w o : Int) : Int := if w < 0 ∨ o < 0 ∨ 4611686018427387904 < w + o + 1 then 5 else 0
def limI (w o : Int) : Int := if limE w o = 0 then w + o + 1 else 0
end Go.Proofs.Ytmhmlpfkdpjlaaa
/- Regions that draw their order and whose calls only make memory: one walk in the order of the text. 'f u': the worlds that are, below a block number, as the region found them. -/
namespace Go.Proofs.Ytmhmlpfkdpjlaaa
open Go.RowKit

/-- The worlds that are as W is below W's own size, as the values of a function on a type that is not empty. -/
theorem calm_class (W : World) : ∃ (U : Type) (f : U → World), Nonempty U ∧ (∀ u, Below W.heap.size W (f u)) ∧ (∀ w', Below W.heap.size W w' → ∃ u, w' = f u) :=
  ⟨{ w' : World // Below W.heap.size W w' }, fun u => u.val, ⟨⟨W, Below.refl _ _⟩⟩, fun u => u.property, fun w' h => ⟨⟨w', h⟩, rfl⟩⟩

/-- A region that draws its order, its operations written out, walked in the class of such worlds. -/
theorem wp_region_calm {P : Program} {id : Nat} {Q : Exit → Act → World → Prop} {a : Act} {w : World} {l : List Oper} {U : Type} (f : U → World) (hm : P.follows .mixedOrders = true) (hB : Region.lexB .any l.toArray = true)
    (h0 : ∃ u, w.drew = f u) (h : wpQuiet P l.toArray (fun w' => ∃ n, w' = f n) (fun a' => ∀ w', (∃ n, w' = f n) → Q .normal a' w') l a) : (Code.region id l.toArray true).wp P Q a w :=
  wp_region_quiet (C := fun w' => ∃ n, w' = f n) hm hB h0 (by simpa using h)

/-- A callee's contract, met in the class. -/
theorem calm_of {P : Program} {g : FuncId} {args : Array Value} {W : World} {U : Type} {f : U → World} (hf : ∀ u, Below W.heap.size W (f u)) (hg : ∀ w', Below W.heap.size W w' → ∃ u, w' = f u) {u : U} {v : Value}
    (h : Calls P g args (f u) fun e w' => e = .returned v ∧ Below (f u).heap.size (f u) w') : Calls P g args (f u) fun e w'' => e = .returned v ∧ ∃ m, w'' = f m :=
  h.mono fun _ _ ⟨he, hb⟩ => ⟨he, hg _ ((hf u).trans (hb.mono (hf u).size))⟩
theorem calm_same {P : Program} {g : FuncId} {args : Array Value} {U : Type} {f : U → World} {u : U} {v : Value}
    (h : Calls P g args (f u) fun e w' => e = .returned v ∧ f u = w') : Calls P g args (f u) fun e w'' => e = .returned v ∧ ∃ m, w'' = f m :=
  h.mono fun _ _ ⟨he, hb⟩ => ⟨he, u, hb.symm⟩
/-- What a cell of the old world holds, in each world of the class. -/
theorem calm_cell {W : World} {U : Type} {f : U → World} (hf : ∀ u, Below W.heap.size W (f u)) {a : Addr} {v : Value} (h : W.cell? a = some v) : ∀ u, (f u).cell? a = some v := fun u => by
  rw [(hf u).cell (World.block_lt_of_cell? W a h)]; exact h
/-- A block of the old world, cell by cell. -/
theorem calm_block {W : World} {U : Type} {f : U → World} (hf : ∀ u, Below W.heap.size W (f u)) {n : Nat} {cs : Array Value} {t : TypeId} {m : Nat × Nat} (h : W.heap[n]? = some (.cells cs t m)) :
    ∀ u j, (f u).cell? ⟨n, j, none⟩ = cs[j]? := fun u j => by
  have hn : n < W.heap.size := (Array.getElem?_eq_some_iff.1 h).1
  rw [(hf u).cell (by exact hn)]; exact cell_of_row W n j cs t m h
theorem heap_last (w : World) (o : Obj) : (w.alloc o).heap[w.heap.size]? = some o := heap_alloc_new w o
theorem heap_prev {w : World} {o' : Obj} {n : Nat} (o : Obj) (h : w.heap[n]? = some o') : (w.alloc o).heap[n]? = some o' :=
  (heap_alloc_old w o (Array.getElem?_eq_some_iff.1 h).1).trans h
/-- A block of the old world is there, whole, in a later one; its cells; that none is frozen. -/
theorem below_block {B : Nat} {W w1 : World} {n : Nat} {o : Obj} (h : Below B W w1) (hn : n < B) (hc : W.heap[n]? = some o) : w1.heap[n]? = some o := (h.block n hn).trans hc
theorem block_cells {w : World} {n : Nat} {cs : Array Value} {t : TypeId} (h : w.heap[n]? = some (.cells cs t (0, 0))) : ∀ j, w.cell? ⟨n, j, none⟩ = cs[j]? := fun j => cell_of_row w n j cs t (0, 0) h
theorem block_free {w : World} {n : Nat} {cs : Array Value} {t : TypeId} (h : w.heap[n]? = some (.cells cs t (0, 0))) : ∀ j, w.frozen? ⟨n, j, none⟩ = false := fun j => frozen_of_row w n j cs t h
theorem block_lt {w : World} {n : Nat} {o : Obj} (h : w.heap[n]? = some o) : n < w.heap.size := (Array.getElem?_eq_some_iff.1 h).1
/-- A callee's world is one of the class. -/
theorem calm_step {W : World} {U : Type} {f : U → World} (hf : ∀ u, Below W.heap.size W (f u)) (hg : ∀ w', Below W.heap.size W w' → ∃ u, w' = f u) {u : U} {w' : World} (h : Below (f u).heap.size (f u) w') : ∃ u', w' = f u' :=
  hg _ ((hf u).trans (h.mono (hf u).size))
theorem calm_drew {W : World} {U : Type} {f : U → World} (hf : ∀ u, Below W.heap.size W (f u)) (hg : ∀ w', Below W.heap.size W w' → ∃ u, w' = f u) (u : U) : ∃ u', (f u).drew = f u' := hg _ (hf u).drew
/-- A block of the old world is there, whole, in each world of the class. -/
theorem calm_heap {W : World} {U : Type} {f : U → World} (hf : ∀ u, Below W.heap.size W (f u)) {n : Nat} {o : Obj} (h : W.heap[n]? = some o) : ∀ u, (f u).heap[n]? = some o := fun u =>
  ((hf u).block n (Array.getElem?_eq_some_iff.1 h).1).trans h
end Go.Proofs.Ytmhmlpfkdpjlaaa
/- Contracts of package stamp and of its reference: which stamp, which attempt is ahead; the later one. -/
namespace Go.Proofs.Ytmhmlpfkdpjlaaa
open Go.RowKit

theorem ret_intS {k : IntKind} {a b : Int} (h : a = b) : Ending.returned (.int k a) = .returned (.int k b) := by rw [h]
theorem ret_bool {a b : Bool} (h : a = b) : Ending.returned (.bool a) = .returned (.bool b) := by rw [h]









theorem orI_drop (xs : List Int) (k : Nat) (v : Int) (hk : k < xs.length) (hv : xs.getD k 0 = v) : orI (xs.drop k) = if v = 0 then orI (xs.drop (k + 1)) else v := by
  rw [List.drop_eq_getElem_cons hk]
  have : xs[k] = v := by rw [← hv]; simp [List.getD, hk]
  simp only [orI, this]

end Go.Proofs.Ytmhmlpfkdpjlaaa
