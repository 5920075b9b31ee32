/- Whole structs by value: loads and stores of all cells at once, whatever they are. -/
import Derived.Test.YtbnndbdnejfehaaGreatDoorProg
import Derived.Deep.MidRow
import Derived.Deep.WholeRow
import Derived.Great.BuildSlice
namespace Go.Proofs.YtbnndbdnejfehaaGreatDoor

/-- A struct is stored into a block that has just been made. -/
theorem wpList_store_new {P : Program} {ops : Array Oper} {rest : List Oper} {op : Oper} {a : Act} {w : World} {Q : Exit → Act → World → Prop} (hgd : op.guard = none) (ty : TypeId) (x y : Operand) (ho : op.op = .store ty x y)
    (c c' : Array Value) (hx : a.eval x = .pointer (some ⟨w.heap.size, 0, none⟩)) (hy : a.eval y = .agg c') (hi : (P.info? ty).map (·.size) = some c'.size) (hs : c.size = c'.size) (h1 : c'.all (·.oneCell') = true)
    (h : wpList P ops Q rest (a.put op.dst undef) (w.alloc (.cells c' ty))) : wpList P ops Q (op :: rest) a (w.alloc (.cells c ty)) :=
  wpList_plain hgd fun _ hK => by
    unfold Oper.wp execOp
    simp only [ho, hx, hy, run_storeAt_new w ty c c' hi hs h1, Sem.run_bind, Sem.run_pure, Result.andThen_ok]
    exact hK _ _ h
/-- A struct is stored into cells that are there. -/
theorem wpList_store_at {P : Program} {ops : Array Oper} {rest : List Oper} {op : Oper} {a : Act} {w : World} {Q : Exit → Act → World → Prop} (hgd : op.guard = none) (ty : TypeId) (x y : Operand) (ho : op.op = .store ty x y)
    (b o n : Nat) (cells : Array Value) (hn : cells.size = n) (hx : a.eval x = .pointer (some ⟨b, o, none⟩)) (hy : a.eval y = .agg cells)
    (ht : w.there b o n) (hi : (P.info? ty).map (·.size) = some n) (h1 : cells.all (·.oneCell') = true)
    (h : wpList P ops Q rest (a.put op.dst undef) (w.setCells b o cells.toList)) : wpList P ops Q (op :: rest) a w := by
  subst hn; exact wpList_store_mid hgd ty x y ho b o cells hx hy ht hi h1 h
theorem fill_one {cs : List Value} {n : Nat} {cells : Array Value} (hn : cs.length = n) (h0 : 0 < n) (hc : cells.size = n) : Instr.fill (fun i => some (i * n, n)) cells [(0, .agg cs.toArray)] = some cs.toArray := by
  have := Great.fill_whole h0 [.agg cs.toArray] cells (fun v hv => by rw [List.mem_singleton] at hv; rw [hv]; simpa [Value.cells] using hn) (by simp [hc])
  simpa [Value.cells] using this
/-- A slice of one struct, whatever its cells. -/
theorem wp_slice_one {P : Program} {o : Oper} {a : Act} {w : World} {K : Act → World → Prop} {Q : Exit → Act → World → Prop} (t e : TypeId) (x : Operand) (ho : o.op = .buildSlice t 1 #[(0, x)])
    (cs : List Value) (n : Nat) (ie : TypeInfo) (z : Value) (hx : a.eval x = .agg cs.toArray) (hn : cs.length = n) (h0 : 0 < n) (hl : n ≤ 2 ^ 24)
    (hu : P.underlying t = some (.slice e)) (hie : P.info? e = some ie) (hz : ie.zero = some z) (hs : ie.size = n)
    (h : K (a.put o.dst (.slice (some ⟨w.heap.size, 0, none⟩) 1 1)) (w.alloc (.cells cs.toArray e))) : o.wp P a w K Q :=
  wp_buildSlice t e 1 _ ho cs.toArray ie z hu hie hz (by rw [hs]; omega) (by rw [hs]; omega) (by
    rw [hs]
    have he : (#[(0, x)].map fun (i, x) => (i, a.eval x)).toList = [(0, .agg cs.toArray)] := by simp [hx]
    rw [he]
    exact fill_one hn h0 (by simp)) h
theorem range_of {w : World} {b o n : Nat} {cs : List Value} (hn : cs.length = n) (h : ∀ j, j < n → w.cell? ⟨b, o + j, none⟩ = cs[j]?) : w.rangeAt b o cs := fun j v hv => by
  have hj : j < cs.length := (List.getElem?_eq_some_iff.1 hv).1
  rw [h j (by omega), hv]
theorem one_all {cs : List Value} (h : cs.all (·.oneCell') = true) : cs.toArray.all (·.oneCell') = true := all_oneCell_toArray (List.all_eq_true.1 h)
end Go.Proofs.YtbnndbdnejfehaaGreatDoor
