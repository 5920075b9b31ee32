/- Whole structs by value: a struct built of two parts, a slice of two structs, whatever their cells. -/
import Derived.Test.YtjaabakobpabjaaAgg
namespace Go.Proofs.Ytjaabakobpabjaa

theorem wpList_want {P : Program} {ops : Array Oper} {rest : List Oper} {o : Oper} {a : Act} {w : World} {Q : Exit → Act → World → Prop} (hw : Region.wanted o (yielded ops a.tmps) = true) (h : ∀ K : Act → World → Prop, (∀ a w, wpList P ops Q rest a w → K a w) → o.wp P a w K Q) : wpList P ops Q (o :: rest) a w :=
  wpList_step fun K hK => by simp only [hw, if_true]; exact h K hK
/-- A load of a whole struct, its guard true. -/
theorem wpList_load_g {P : Program} {ops : Array Oper} {rest : List Oper} {op : Oper} {a : Act} {w : World} {Q : Exit → Act → World → Prop} (hw : Region.wanted op (yielded ops a.tmps) = true) (ty : TypeId) (x : Operand) (ho : op.op = .load ty x)
    (b o : Nat) (hx : a.eval x = .pointer (some ⟨b, o, none⟩)) (cs : List Value) (d : TypeDesc) (hc : w.rangeAt b o cs)
    (hu : P.underlying ty = some d) (hd : d.isRow = true) (hi : (P.info? ty).map (·.size) = some cs.length)
    (h : wpList P ops Q rest (a.put op.dst (.agg cs.toArray)) w) : wpList P ops Q (op :: rest) a w :=
  wpList_want hw fun _ hK => wp_load_mid ty x ho b o hx cs d hc hu hd hi (hK _ _ h)
theorem parts_two (a : Act) (i j : Nat) (x y : Operand) : ((#[(i, x), (j, y)] : Array (Nat × Operand)).map fun (i, x) => (i, a.eval x)).toList = [(i, a.eval x), (j, a.eval y)] := by simp
theorem run_build_two {P : Program} {o : Oper} {a : Act} (w : World) (t : TypeId) (i j : Nat) (x y : Operand) (ho : o.op = .build t #[(i, x), (j, y)]) (vx vy : Value) (hx : a.eval x = vx) (hy : a.eval y = vy) (cells : Array Value) (hb : P.built t [(i, vx), (j, vy)] = some cells) :
    (execOp a.eval o).run P w = .ok (.value (.agg cells)) w := by
  unfold execOp
  subst hx hy
  simp only [ho, Sem.run_bind, run_build w t _ cells (by rw [parts_two]; exact hb), Result.andThen_ok]
  rfl
theorem wp_build_two {P : Program} {o : Oper} {a : Act} {w : World} {K : Act → World → Prop} {Q : Exit → Act → World → Prop} (t : TypeId) (i j : Nat) (x y : Operand) (ho : o.op = .build t #[(i, x), (j, y)]) (vx vy : Value) (hx : a.eval x = vx) (hy : a.eval y = vy) (cells : Array Value) (hb : P.built t [(i, vx), (j, vy)] = some cells)
    (h : K (a.put o.dst (.agg cells)) w) : o.wp P a w K Q := by
  unfold Oper.wp
  rw [run_build_two w t i j x y ho vx vy hx hy cells hb]
  exact h
theorem wpList_build_two {P : Program} {ops : Array Oper} {rest : List Oper} {o : Oper} {a : Act} {w : World} {Q : Exit → Act → World → Prop} (hg : o.guard = none) (t : TypeId) (i j : Nat) (x y : Operand) (ho : o.op = .build t #[(i, x), (j, y)]) (vx vy : Value) (hx : a.eval x = vx) (hy : a.eval y = vy) (cells : Array Value) (hb : P.built t [(i, vx), (j, vy)] = some cells)
    (h : wpList P ops Q rest (a.put o.dst (.agg cells)) w) : wpList P ops Q (o :: rest) a w :=
  wpList_plain hg fun _ hK => wp_build_two t i j x y ho vx vy hx hy cells hb (hK _ _ h)
theorem yields_build_two {P : Program} {ops : Array Oper} {S : World → Prop} {o : Oper} {a : Act} (hw : Region.wanted o (yielded ops a.tmps) = true) (t : TypeId) (i j : Nat) (x y : Operand) (ho : o.op = .build t #[(i, x), (j, y)]) (vx vy : Value) (hx : a.eval x = vx) (hy : a.eval y = vy) (cells : Array Value) (hb : P.built t [(i, vx), (j, vy)] = some cells) : YieldsIf P ops S o (.agg cells) a :=
  .inl ⟨hw, fun w _ => run_build_two w t i j x y ho vx vy hx hy cells hb⟩
theorem fill_two {cs ds : List Value} {n : Nat} {cells : Array Value} (hn : cs.length = n) (hm : ds.length = n) (h0 : 0 < n) (hc : cells.size = 2 * n) : Instr.fill (fun i => some (i * n, n)) cells [(0, .agg cs.toArray), (1, .agg ds.toArray)] = some (cs ++ ds).toArray := by
  have := Great.fill_whole h0 [.agg cs.toArray, .agg ds.toArray] cells (fun v hv => by
    simp only [List.mem_cons, List.not_mem_nil, or_false] at hv
    rcases hv with rfl | rfl <;> simpa [Value.cells]) (by simp [hc])
  simpa [Value.cells] using this
theorem wp_slice_two {P : Program} {o : Oper} {a : Act} {w : World} {K : Act → World → Prop} {Q : Exit → Act → World → Prop} (t e : TypeId) (x y : Operand) (ho : o.op = .buildSlice t 2 #[(0, x), (1, y)])
    (cs ds : List Value) (n : Nat) (ie : TypeInfo) (z : Value) (hx : a.eval x = .agg cs.toArray) (hy : a.eval y = .agg ds.toArray) (hn : cs.length = n) (hm : ds.length = n) (h0 : 0 < n) (hl : n ≤ 1000)
    (hu : P.underlying t = some (.slice e)) (hie : P.info? e = some ie) (hz : ie.zero = some z) (hs : ie.size = n)
    (h : K (a.put o.dst (.slice (some ⟨w.heap.size, 0, none⟩) 2 2)) (w.alloc (.cells (cs ++ ds).toArray e))) : o.wp P a w K Q :=
  wp_buildSlice t e 2 _ ho (cs ++ ds).toArray ie z hu hie hz (by rw [hs]; omega) (by rw [hs]; omega) (by
    rw [hs, parts_two, hx, hy]
    exact fill_two hn hm h0 (by simp)) h
theorem wpList_slice_two {P : Program} {ops : Array Oper} {rest : List Oper} {o : Oper} {a : Act} {w : World} {Q : Exit → Act → World → Prop} (hg : o.guard = none) (t e : TypeId) (x y : Operand) (ho : o.op = .buildSlice t 2 #[(0, x), (1, y)])
    (cs ds : List Value) (n : Nat) (ie : TypeInfo) (z : Value) (hx : a.eval x = .agg cs.toArray) (hy : a.eval y = .agg ds.toArray) (hn : cs.length = n) (hm : ds.length = n) (h0 : 0 < n) (hl : n ≤ 1000)
    (hu : P.underlying t = some (.slice e)) (hie : P.info? e = some ie) (hz : ie.zero = some z) (hs : ie.size = n)
    (h : wpList P ops Q rest (a.put o.dst (.slice (some ⟨w.heap.size, 0, none⟩) 2 2)) (w.alloc (.cells (cs ++ ds).toArray e))) : wpList P ops Q (o :: rest) a w :=
  wpList_plain hg fun _ hK => wp_slice_two t e x y ho cs ds n ie z hx hy hn hm h0 hl hu hie hz hs (hK _ _ h)
end Go.Proofs.Ytjaabakobpabjaa
