import Derived.Test.YtbnndbdnejfehaaGreatDoorLogG
import Derived.Test.YtbnndbdnejfehaaGreatDoorLogP
import Derived.Test.YtbnndbdnejfehaaGreatDoorLogN0
import Derived.Test.YtbnndbdnejfehaaGreatDoorHardH
import Derived.Test.YtbnndbdnejfehaaGreatDoorAgg
import Derived.Test.YtbnndbdnejfehaaGreatDoorActE
import Derived.Test.YtbnndbdnejfehaaGreatDoorActR
import Derived.Test.YtbnndbdnejfehaaGreatDoorActC
import Derived.Test.YtbnndbdnejfehaaGreatDoorActL
/- The references: a log pushed, a log copied. -/
namespace Go.Proofs.YtbnndbdnejfehaaGreatDoor
open Go.ChangeShapes Go.WideShapes Go.ChangeAt Go.RowKit

end Go.Proofs.YtbnndbdnejfehaaGreatDoor
/- Whole structs by value: a struct built of two parts, a slice of two structs, whatever their cells. -/
namespace Go.Proofs.YtbnndbdnejfehaaGreatDoor

theorem wpList_want {P : Program} {ops : Array Oper} {rest : List Oper} {o : Oper} {a : Act} {w : World} {Q : Exit → Act → World → Prop} (hw : Region.wanted o (yielded ops a.tmps) = true) (h : ∀ K : Act → World → Prop, (∀ a w, wpList P ops Q rest a w → K a w) → o.wp P a w K Q) : wpList P ops Q (o :: rest) a w :=
  wpList_step fun K hK => by simp only [hw, if_true]; exact h K hK
/-- A load of a whole struct, its guard true. -/
theorem wpList_load_g {P : Program} {ops : Array Oper} {rest : List Oper} {op : Oper} {a : Act} {w : World} {Q : Exit → Act → World → Prop} (hw : Region.wanted op (yielded ops a.tmps) = true) (ty : TypeId) (x : Operand) (ho : op.op = .load ty x)
    (b o : Nat) (hx : a.eval x = .pointer (some ⟨b, o, none⟩)) (cs : List Value) (d : TypeDesc) (hc : w.rangeAt b o cs)
    (hu : P.underlying ty = some d) (hd : d.isRow = true) (hi : (P.info? ty).map (·.size) = some cs.length)
    (h : wpList P ops Q rest (a.put op.dst (.agg cs.toArray)) w) : wpList P ops Q (op :: rest) a w :=
  wpList_want hw fun _ hK => wp_load_mid ty x ho b o hx cs d hc hu hd hi (hK _ _ h)
end Go.Proofs.YtbnndbdnejfehaaGreatDoor
/- Core: an act begins. -/
namespace Go.Proofs.YtbnndbdnejfehaaGreatDoor
open Go.ChangeShapes Go.WideShapes Go.ChangeAt Go.RowKit

theorem wpList_build_oneA {P : Program} {ops : Array Oper} {rest : List Oper} {o : Oper} {a : Act} {w : World} {Q : Exit → Act → World → Prop} (hg : o.guard = none) (t : TypeId) (i : Nat) (x : Operand) (ho : o.op = .build t #[(i, x)]) (vx : Value) (hx : a.eval x = vx) (cells : Array Value) (hb : P.built t [(i, vx)] = some cells)
    (h : wpList P ops Q rest (a.put o.dst (.agg cells)) w) : wpList P ops Q (o :: rest) a w :=
  wpList_plain hg fun _ hK => by
    have hp : ((#[(i, x)] : Array (Nat × Operand)).map fun (i, x) => (i, a.eval x)).toList = [(i, a.eval x)] := by simp
    have hr : (execOp a.eval o).run P w = .ok (.value (.agg cells)) w := by
      unfold execOp
      subst hx
      simp only [ho, Sem.run_bind, run_build w t _ cells (by rw [hp]; exact hb), Result.andThen_ok]
      rfl
    unfold Oper.wp
    rw [hr]
    exact hK _ _ h
theorem slice_all {l : Lg} (h : 0 ≤ l.b) : sliceL l 0 (l.es.length : Int) = l.es := by
  unfold sliceL fromK
  rw [if_neg (by omega), List.drop_zero, Int.toNat_natCast, List.take_of_length_le (Nat.le_refl _)]

theorem WorldRow.kept {w w' : World} {b X : Nat} {c : Co} {q : Option Addr} {d : Nat} {cs : Array Value} (h : w.ownsRow b 47 14 (.slice q c.l.es.length d) c.l.es.length (entRow c.l.es)) (hX : w.heap[X]? = some (.cells cs 33 (0, 0))) (hg : w.grownBy w' (some X)) : CoOwn b w' ⟨c, q, d⟩ := h.kept hg (own_other h hX (by decide))
theorem own_baseC {b b' : Nat} {w : World} {x : CoX} (h : CoOwn b w x) (hb : b' ≤ b) : CoOwn b' w x := h.mono hb
theorem act_built (c : Co) (q : Option Addr) (d : Nat) : Tryz.prog.built 69 [(0, .agg (coL c q d).toArray)] = some ((coL c q d) ++ [Value.slice none 0 0]).toArray := by kernel_rfl
set_option maxRecDepth 100000 in
set_option maxHeartbeats 16000000 in
theorem begin_act (c : Co) (p : Option Addr) (k : Nat) (w : World) (hF : LgFit c.l) (hE : EnSl w (.slice p c.l.es.length k) c.l.es) :
    Calls Tryz.prog 35 #[.agg #[.int .i64 c.id, .int .i64 c.role, .int .i64 c.tm, .int .i64 c.vt, .int .i64 c.ld, .int .i64 c.wt, .int .i64 c.cm, .int .i64 c.sf, .int .i64 c.l.b, .int .i64 c.l.bt, .int .u16 c.l.j.ov, .int .u16 c.l.j.ox, .int .u16 c.l.j.ol, .int .i64 c.l.j.oe, .int .i64 c.l.j.ok, .int .u16 c.l.j.nv, .int .u16 c.l.j.nx, .int .u16 c.l.j.nl, .int .i64 c.l.j.ne, .int .i64 c.l.j.nk, .bool c.l.j.two, .slice p c.l.es.length k, .string c.sn, .int .u16 c.vs, .int .u16 c.hd, .int .i64 (c.nx 0), .int .i64 (c.nx 1), .int .i64 (c.nx 2), .int .i64 (c.nx 3), .int .i64 (c.nx 4), .int .i64 (c.nx 5), .int .i64 (c.nx 6), .int .i64 (c.nx 7), .int .i64 (c.nx 8), .int .i64 (c.nx 9), .int .i64 (c.mt 0), .int .i64 (c.mt 1), .int .i64 (c.mt 2), .int .i64 (c.mt 3), .int .i64 (c.mt 4), .int .i64 (c.mt 5), .int .i64 (c.mt 6), .int .i64 (c.mt 7), .int .i64 (c.mt 8), .int .i64 (c.mt 9)]] w fun e w' => ∃ R q d, e = .returned (.pointer (some ⟨R, 0, none⟩)) ∧ AcW 69 w.heap.size w' R ⟨c, q, d⟩ (.slice none 0 0) [] ∧ Below w.heap.size w w' := by
  obtain ⟨W, hW⟩ : ∃ z : World, w.alloc (.cells #[.int .i64 c.id, .int .i64 c.role, .int .i64 c.tm, .int .i64 c.vt, .int .i64 c.ld, .int .i64 c.wt, .int .i64 c.cm, .int .i64 c.sf, .int .i64 c.l.b, .int .i64 c.l.bt, .int .u16 c.l.j.ov, .int .u16 c.l.j.ox, .int .u16 c.l.j.ol, .int .i64 c.l.j.oe, .int .i64 c.l.j.ok, .int .u16 c.l.j.nv, .int .u16 c.l.j.nx, .int .u16 c.l.j.nl, .int .i64 c.l.j.ne, .int .i64 c.l.j.nk, .bool c.l.j.two, .slice p c.l.es.length k, .string c.sn, .int .u16 c.vs, .int .u16 c.hd, .int .i64 (c.nx 0), .int .i64 (c.nx 1), .int .i64 (c.nx 2), .int .i64 (c.nx 3), .int .i64 (c.nx 4), .int .i64 (c.nx 5), .int .i64 (c.nx 6), .int .i64 (c.nx 7), .int .i64 (c.nx 8), .int .i64 (c.nx 9), .int .i64 (c.mt 0), .int .i64 (c.mt 1), .int .i64 (c.mt 2), .int .i64 (c.mt 3), .int .i64 (c.mt 4), .int .i64 (c.mt 5), .int .i64 (c.mt 6), .int .i64 (c.mt 7), .int .i64 (c.mt 8), .int .i64 (c.mt 9)] 33) = z := ⟨_, rfl⟩
  have hb : Below w.heap.size w W := by rw [← hW]; exact (Below.refl _ _).alloc (Nat.le_refl _) _
  have hX : W.heap[w.heap.size]? = some (.cells #[.int .i64 c.id, .int .i64 c.role, .int .i64 c.tm, .int .i64 c.vt, .int .i64 c.ld, .int .i64 c.wt, .int .i64 c.cm, .int .i64 c.sf, .int .i64 c.l.b, .int .i64 c.l.bt, .int .u16 c.l.j.ov, .int .u16 c.l.j.ox, .int .u16 c.l.j.ol, .int .i64 c.l.j.oe, .int .i64 c.l.j.ok, .int .u16 c.l.j.nv, .int .u16 c.l.j.nx, .int .u16 c.l.j.nl, .int .i64 c.l.j.ne, .int .i64 c.l.j.nk, .bool c.l.j.two, .slice p c.l.es.length k, .string c.sn, .int .u16 c.vs, .int .u16 c.hd, .int .i64 (c.nx 0), .int .i64 (c.nx 1), .int .i64 (c.nx 2), .int .i64 (c.nx 3), .int .i64 (c.nx 4), .int .i64 (c.nx 5), .int .i64 (c.nx 6), .int .i64 (c.nx 7), .int .i64 (c.nx 8), .int .i64 (c.nx 9), .int .i64 (c.mt 0), .int .i64 (c.mt 1), .int .i64 (c.mt 2), .int .i64 (c.mt 3), .int .i64 (c.mt 4), .int .i64 (c.mt 5), .int .i64 (c.mt 6), .int .i64 (c.mt 7), .int .i64 (c.mt 8), .int .i64 (c.mt 9)] 33 (0, 0)) := by rw [← hW]; exact heap_last w _
  obtain ⟨X, eX⟩ : ∃ X, w.heap.size = X := ⟨_, rfl⟩
  rw [eX] at hX
  have kX := block_cells hX
  have HE := Lib.hid (hE.keep hb (Nat.le_refl _))
  have HF : Hid (LgFit c.l) := hF; have HB := Lib.hid hb; have HX := Lib.hid hX; have HEX := Lib.hid eX; have HW := Lib.hid hW
  clear hE hF hb hX eX hW
  go_enter Tryz.func35, Tryz.ntmps35
  obtain ⟨Q', hQ⟩ : ∃ Q', bodyPost Tryz.prog Tryz.f35 (fun e w' => ∃ R q d, e = .returned (.pointer (some ⟨R, 0, none⟩)) ∧ AcW 69 w.heap.size w' R ⟨c, q, d⟩ (.slice none 0 0) [] ∧ Below w.heap.size w w') = Q' := ⟨_, rfl⟩
  have HQ : Hid (∀ (a : Act) (w' : World) (R : Nat) (q : Option Addr) (d : Nat), a.tmps.getD 2 undef = .pointer (some ⟨R, 0, none⟩) → a.defers = [] → AcW 69 w.heap.size w' R ⟨c, q, d⟩ (.slice none 0 0) [] → Below w.heap.size w w' → Q' .ret a w') := fun a w' R q d h6 hd hn hb => by
    rw [← hQ]; exact bodyPost_ret (v := .pointer (some ⟨R, 0, none⟩)) (by rw [results_tmp rfl, h6]) hd ⟨R, q, d, rfl, hn, hb⟩
  rw [hQ]
  clear hQ
  go_upto_region 1 with fail
  rw [HW.out]
  (try rw [HEX.out])
  clear HW
  have HC := Lib.hid (slice_any c.l p k 0 (c.l.es.length : Int) W HF.out.b0 HF.out.b1 HF.out.n (by decide) (by have := HF.out.n; omega) HE.out)
  go_wp2_with fail
  refine HC.out.mono ?_; rintro r w2 ⟨u, rfl, hu, b2⟩
  rewrite [slice_all HF.out.b0] at hu
  obtain ⟨q, d, rfl⟩ := own_formH hu
  have hX2 := below_block b2 (block_lt HX.out) HX.out
  have k21 : w2.cell? ⟨X, 21, none⟩ = some (.slice p c.l.es.length k) := block_cells hX2 21
  have f21 : w2.frozen? ⟨X, 21, none⟩ = false := block_free hX2 21
  have hX3 : (w2.setCell ⟨X, 21, none⟩ (.slice q c.l.es.length d)).heap[X]? = some (.cells (coL c q d).toArray 33 (0, 0)) := cells_setW hX2 21 _
  have hgr := grown_setW w2 X 21 (.slice q c.l.es.length d)
  have hE3 : CoOwn W.heap.size (w2.setCell ⟨X, 21, none⟩ (.slice q c.l.es.length d)) ⟨c, q, d⟩ := WorldRow.kept hu hX2 hgr
  have HE3 := Lib.hid (own_baseC hE3 HB.out.size)
  have HB3 := Lib.hid ((HB.out.trans (b2.mono HB.out.size)).grown hgr (by have := HB.out.size; have := b2.size; omega) (fun b e => by simp only [Option.some.injEq] at e; have := HEX.out; omega))
  have HRG := Lib.hid (range_of (n := 45) (cs := coL c q d) rfl (fun j _ => by rw [Nat.zero_add, block_cells hX3, List.getElem?_toArray] : ∀ j, j < 45 → (w2.setCell ⟨X, 21, none⟩ (.slice q c.l.es.length d)).cell? ⟨X, 0 + j, none⟩ = (coL c q d)[j]?))
  clear hu b2 hX2 hX3 hgr hE3 HC kX
  go_wp2_with (first | (with_reducible refine wpList_load_mid (op := ⟨some 12, _, _, _, _, _⟩) rfl _ _ rfl X 0 rfl (coL c q d) _ HRG.out Tryz.underlying33 rfl (by kernel_rfl) ?_) | (with_reducible refine wpList_build_oneA (o := ⟨some 13, _, _, _, _, _⟩) rfl _ 0 _ rfl (.agg (coL c q d).toArray) rfl ((coL c q d) ++ [Value.slice none 0 0]).toArray (act_built c q d) ?_))
  have hz : ∀ w3 : World, CoOwn w.heap.size w3 ⟨c, q, d⟩ → Below w.heap.size w w3 → AcW 69 w.heap.size (w3.alloc (.cells ((coL c q d) ++ [Value.slice none 0 0]).toArray 69)) w3.heap.size ⟨c, q, d⟩ (.slice none 0 0) [] ∧ Below w.heap.size w (w3.alloc (.cells ((coL c q d) ++ [Value.slice none 0 0]).toArray 69)) := fun w3 h1 h2 =>
    ⟨⟨h2.size, heap_last w3 _, ⟨by decide, by decide⟩, own_keptC h1 ((Below.refl _ _).alloc (Nat.le_refl _) _), MsAt.nil _ _, fun y hy => absurd hy (by simp)⟩, h2.alloc h2.size _⟩
  have hsz : (w2.setCell ⟨X, 21, none⟩ (.slice q c.l.es.length d)).heap.size = w2.heap.size := by simp [World.setCell]
  have hz1 := (hz _ HE3.out HB3.out).1
  first | exact HQ.out _ _ _ q d rfl rfl hz1 (hz _ HE3.out HB3.out).2 | (rewrite [hsz] at hz1; exact HQ.out _ _ _ q d rfl rfl hz1 (hz _ HE3.out HB3.out).2)
end Go.Proofs.YtbnndbdnejfehaaGreatDoor
/- Core: what a step of a core tells: the core behind it, and what it sends. -/
namespace Go.Proofs.YtbnndbdnejfehaaGreatDoor
open Go.ChangeShapes Go.WideShapes Go.ChangeAt Go.RowKit

theorem act_range {R : Nat} {c : Co} {q : Option Addr} {d : Nat} {v : Value} {w : World} (h : RAll R ((coL c q d) ++ [v]).toArray w) : w.rangeAt R 0 (coL c q d) :=
  range_of (n := 45) rfl (fun j hj => by rw [Nat.zero_add, h.r j, List.getElem?_toArray, List.getElem?_append_left (by show j < 45; exact hj)])
/-- A core and what it sends, in rows of the call's own. -/
def CoEnd (w : World) (a : Ac) (e : Ending) (w' : World) : Prop :=
  ∃ q d v l, e = .returned (.tuple #[.agg (coL a.c q d).toArray, v]) ∧ l.map MsX.m = a.out ∧ CoOwn w.heap.size w' ⟨a.c, q, d⟩ ∧ MsAt w.heap.size w' v l ∧ (∀ y ∈ l, ∀ b, y.bk = some b → CoX.bk ⟨a.c, q, d⟩ ≠ some b) ∧ Below w.heap.size w w'
theorem co_end {T : TypeId} {B R Z : Nat} {w W : World} {c : Co} {q : Option Addr} {d : Nat} {v : Value} {l : List MsX} {cs : Array Value} {a : Ac} (hA : AcW T B W R ⟨c, q, d⟩ v l) (hZ : W.heap[Z]? = some (.cells cs 33 (0, 0))) (hRZ : R ≠ Z) (hv : v.ownBlock ≠ some Z) (hB : w.heap.size ≤ B) (hb : Below w.heap.size w W) (hwZ : w.heap.size ≤ Z) (hc : c = a.c) (ho : l.map MsX.m = a.out) :
    CoEnd w a (.returned (.tuple #[.agg (coL c q d).toArray, v])) (W.setCells Z 0 (coL c q d)) := by
  have hg := (block_setCells (coL c q d) 0 hZ).2
  have hA2 := hA.other hZ (by decide) (fun e => hRZ e.symm) hv hg
  subst hc
  exact ⟨q, d, v, l, rfl, ho, own_baseC hA2.en hB, hA2.out.mono hB, hA2.sep, hb.grown hg hb.size (fun b e => by simp only [Option.some.injEq] at e; omega)⟩
/-- The class of a region that asks: the core's cells, a number's. -/
structure AskS (R g n : Nat) (cs : List Value) (u : Value) (w' : World) : Prop where
  r : ∀ j, j < 45 → w'.cell? ⟨R, j, none⟩ = cs[j]?
  c : w'.cell? ⟨g, n, none⟩ = some u
theorem AskS.of {T : TypeId} {B R g n : Nat} {w : World} {c : Co} {q : Option Addr} {d : Nat} {v u : Value} {l : List MsX} (h : AcW T B w R ⟨c, q, d⟩ v l) (hc : w.cell? ⟨g, n, none⟩ = some u) : AskS R g n (coL c q d) u w :=
  ⟨fun j hj => by rw [block_cells h.blk, List.getElem?_toArray, List.getElem?_append_left (by show j < 45; exact hj)], hc⟩
theorem AskS.log {R g n : Nat} {c : Co} {q : Option Addr} {d : Nat} {u : Value} {w : World} (h : AskS R g n (coL c q d) u w) : w.rangeAt R 8 [.int .i64 c.l.b, .int .i64 c.l.bt, .int .u16 c.l.j.ov, .int .u16 c.l.j.ox, .int .u16 c.l.j.ol, .int .i64 c.l.j.oe, .int .i64 c.l.j.ok, .int .u16 c.l.j.nv, .int .u16 c.l.j.nx, .int .u16 c.l.j.nl, .int .i64 c.l.j.ne, .int .i64 c.l.j.nk, .bool c.l.j.two, .slice q c.l.es.length d] := range_of (n := 14) rfl (fun j hj => by
  rw [h.r (8 + j) (by omega)]
  rcases (show j = 0 ∨ j = 1 ∨ j = 2 ∨ j = 3 ∨ j = 4 ∨ j = 5 ∨ j = 6 ∨ j = 7 ∨ j = 8 ∨ j = 9 ∨ j = 10 ∨ j = 11 ∨ j = 12 ∨ j = 13 by omega) with rfl | rfl | rfl | rfl | rfl | rfl | rfl | rfl | rfl | rfl | rfl | rfl | rfl | rfl <;> rfl)
end Go.Proofs.YtbnndbdnejfehaaGreatDoor
