/- Regions that draw their order and whose calls only make memory: one walk in the order of the text. 'f u': the worlds that are, below a block number, as the region found them. -/
import Derived.Test.YtabiccpodnjieaaProg
import Derived.WalkKit
import Derived.WalkSpells
import Derived.WalkLawsBesides
import Derived.BigQuiet
import Derived.Deep.QuietTactic
import Derived.Lib.Hide
import Derived.IntWalk
import Derived.Outline
import Derived.Deep.RegionWith
namespace Go.Proofs.Ytabiccpodnjieaa
open Go.RowKit

/-- The worlds that are as W is below W's own size, as the values of a function on a type that is not empty. -/
theorem calm_class (W : World) : ∃ (U : Type) (f : U → World), Nonempty U ∧ (∀ u, Below W.heap.size W (f u)) ∧ (∀ w', Below W.heap.size W w' → ∃ u, w' = f u) :=
  ⟨{ w' : World // Below W.heap.size W w' }, fun u => u.val, ⟨⟨W, Below.refl _ _⟩⟩, fun u => u.property, fun w' h => ⟨⟨w', h⟩, rfl⟩⟩

/-- A region that draws its order, its operations written out, walked in the class of such worlds. -/
theorem wp_region_calm {P : Program} {id : Nat} {Q : Exit → Act → World → Prop} {a : Act} {w : World} {l : List Oper} {U : Type} (f : U → World) (hm : P.follows .mixedOrders = true) (hB : Region.lexB .any l.toArray = true)
    (h0 : ∃ u, w.drew = f u) (h : wpQuiet P l.toArray (fun w' => ∃ n, w' = f n) (fun a' => ∀ w', (∃ n, w' = f n) → Q .normal a' w') l a) : (Code.region id l.toArray true).wp P Q a w :=
  wp_region_quiet (C := fun w' => ∃ n, w' = f n) hm hB h0 (by simpa using h)

/-- A callee's contract, met in the class. -/
theorem calm_of {P : Program} {g : FuncId} {args : Array Value} {W : World} {U : Type} {f : U → World} (hf : ∀ u, Below W.heap.size W (f u)) (hg : ∀ w', Below W.heap.size W w' → ∃ u, w' = f u) {u : U} {v : Value}
    (h : Calls P g args (f u) fun e w' => e = .returned v ∧ Below (f u).heap.size (f u) w') : Calls P g args (f u) fun e w'' => e = .returned v ∧ ∃ m, w'' = f m :=
  h.mono fun _ _ ⟨he, hb⟩ => ⟨he, hg _ ((hf u).trans (hb.mono (hf u).size))⟩
theorem calm_same {P : Program} {g : FuncId} {args : Array Value} {U : Type} {f : U → World} {u : U} {v : Value}
    (h : Calls P g args (f u) fun e w' => e = .returned v ∧ f u = w') : Calls P g args (f u) fun e w'' => e = .returned v ∧ ∃ m, w'' = f m :=
  h.mono fun _ _ ⟨he, hb⟩ => ⟨he, u, hb.symm⟩
/-- What a cell of the old world holds, in each world of the class. -/
theorem calm_cell {W : World} {U : Type} {f : U → World} (hf : ∀ u, Below W.heap.size W (f u)) {a : Addr} {v : Value} (h : W.cell? a = some v) : ∀ u, (f u).cell? a = some v := fun u => by
  rw [(hf u).cell (World.block_lt_of_cell? W a h)]; exact h
/-- A block of the old world, cell by cell. -/
theorem calm_block {W : World} {U : Type} {f : U → World} (hf : ∀ u, Below W.heap.size W (f u)) {n : Nat} {cs : Array Value} {t : TypeId} {m : Nat × Nat} (h : W.heap[n]? = some (.cells cs t m)) :
    ∀ u j, (f u).cell? ⟨n, j, none⟩ = cs[j]? := fun u j => by
  have hn : n < W.heap.size := (Array.getElem?_eq_some_iff.1 h).1
  rw [(hf u).cell (by exact hn)]; exact cell_of_row W n j cs t m h
theorem heap_last (w : World) (o : Obj) : (w.alloc o).heap[w.heap.size]? = some o := heap_alloc_new w o
theorem heap_prev {w : World} {o' : Obj} {n : Nat} (o : Obj) (h : w.heap[n]? = some o') : (w.alloc o).heap[n]? = some o' :=
  (heap_alloc_old w o (Array.getElem?_eq_some_iff.1 h).1).trans h
/-- A block of the old world is there, whole, in a later one; its cells; that none is frozen. -/
theorem below_block {B : Nat} {W w1 : World} {n : Nat} {o : Obj} (h : Below B W w1) (hn : n < B) (hc : W.heap[n]? = some o) : w1.heap[n]? = some o := (h.block n hn).trans hc
theorem block_cells {w : World} {n : Nat} {cs : Array Value} {t : TypeId} (h : w.heap[n]? = some (.cells cs t (0, 0))) : ∀ j, w.cell? ⟨n, j, none⟩ = cs[j]? := fun j => cell_of_row w n j cs t (0, 0) h
theorem block_free {w : World} {n : Nat} {cs : Array Value} {t : TypeId} (h : w.heap[n]? = some (.cells cs t (0, 0))) : ∀ j, w.frozen? ⟨n, j, none⟩ = false := fun j => frozen_of_row w n j cs t h
theorem block_lt {w : World} {n : Nat} {o : Obj} (h : w.heap[n]? = some o) : n < w.heap.size := (Array.getElem?_eq_some_iff.1 h).1
/-- A callee's world is one of the class. -/
theorem calm_step {W : World} {U : Type} {f : U → World} (hf : ∀ u, Below W.heap.size W (f u)) (hg : ∀ w', Below W.heap.size W w' → ∃ u, w' = f u) {u : U} {w' : World} (h : Below (f u).heap.size (f u) w') : ∃ u', w' = f u' :=
  hg _ ((hf u).trans (h.mono (hf u).size))
theorem calm_drew {W : World} {U : Type} {f : U → World} (hf : ∀ u, Below W.heap.size W (f u)) (hg : ∀ w', Below W.heap.size W w' → ∃ u, w' = f u) (u : U) : ∃ u', (f u).drew = f u' := hg _ (hf u).drew
/-- A block of the old world is there, whole, in each world of the class. -/
theorem calm_heap {W : World} {U : Type} {f : U → World} (hf : ∀ u, Below W.heap.size W (f u)) {n : Nat} {o : Obj} (h : W.heap[n]? = some o) : ∀ u, (f u).heap[n]? = some o := fun u =>
  ((hf u).block n (Array.getElem?_eq_some_iff.1 h).1).trans h
end Go.Proofs.Ytabiccpodnjieaa
