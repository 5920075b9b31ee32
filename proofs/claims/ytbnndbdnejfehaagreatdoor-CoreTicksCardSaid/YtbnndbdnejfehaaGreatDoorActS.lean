import Derived.Test.YtbnndbdnejfehaaGreatDoorActE
import Derived.Test.YtbnndbdnejfehaaGreatDoorLogS
import Derived.Test.YtbnndbdnejfehaaGreatDoorAgg2
import Derived.Test.YtbnndbdnejfehaaGreatDoorActD
import Derived.Test.YtbnndbdnejfehaaGreatDoorActN0
/- Core: an act begins. -/
namespace Go.Proofs.YtbnndbdnejfehaaGreatDoor
open Go.ChangeShapes Go.WideShapes Go.ChangeAt Go.RowKit

theorem wpList_build_oneA {P : Program} {ops : Array Oper} {rest : List Oper} {o : Oper} {a : Act} {w : World} {Q : Exit → Act → World → Prop} (hg : o.guard = none) (t : TypeId) (i : Nat) (x : Operand) (ho : o.op = .build t #[(i, x)]) (vx : Value) (hx : a.eval x = vx) (cells : Array Value) (hb : P.built t [(i, vx)] = some cells)
    (h : wpList P ops Q rest (a.put o.dst (.agg cells)) w) : wpList P ops Q (o :: rest) a w :=
  wpList_plain hg fun _ hK => by
    have hp : ((#[(i, x)] : Array (Nat × Operand)).map fun (i, x) => (i, a.eval x)).toList = [(i, a.eval x)] := by simp
    have hr : (execOp a.eval o).run P w = .ok (.value (.agg cells)) w := by
      unfold execOp
      subst hx
      simp only [ho, Sem.run_bind, run_build w t _ cells (by rw [hp]; exact hb), Result.andThen_ok]
      rfl
    unfold Oper.wp
    rw [hr]
    exact hK _ _ h
theorem slice_all {l : Lg} (h : 0 ≤ l.b) : sliceL l 0 (l.es.length : Int) = l.es := by
  unfold sliceL fromK
  rw [if_neg (by omega), List.drop_zero, Int.toNat_natCast, List.take_of_length_le (Nat.le_refl _)]

theorem WorldRow.kept {w w' : World} {b X : Nat} {c : Co} {q : Option Addr} {d : Nat} {cs : Array Value} (h : w.ownsRow b 47 14 (.slice q c.l.es.length d) c.l.es.length (entRow c.l.es)) (hX : w.heap[X]? = some (.cells cs 33 (0, 0))) (hg : w.grownBy w' (some X)) : CoOwn b w' ⟨c, q, d⟩ := h.kept hg (own_other h hX (by decide))
theorem own_baseC {b b' : Nat} {w : World} {x : CoX} (h : CoOwn b w x) (hb : b' ≤ b) : CoOwn b' w x := h.mono hb
theorem act_built (c : Co) (q : Option Addr) (d : Nat) : Tryz.prog.built 69 [(0, .agg (coL c q d).toArray)] = some ((coL c q d) ++ [Value.slice none 0 0]).toArray := by kernel_rfl
set_option maxRecDepth 100000 in
set_option maxHeartbeats 16000000 in
theorem begin_act (c : Co) (p : Option Addr) (k : Nat) (w : World) (hF : LgFit c.l) (hE : EnSl w (.slice p c.l.es.length k) c.l.es) :
    Calls Tryz.prog 35 #[.agg #[.int .i64 c.id, .int .i64 c.role, .int .i64 c.tm, .int .i64 c.vt, .int .i64 c.ld, .int .i64 c.wt, .int .i64 c.cm, .int .i64 c.sf, .int .i64 c.l.b, .int .i64 c.l.bt, .int .u16 c.l.j.ov, .int .u16 c.l.j.ox, .int .u16 c.l.j.ol, .int .i64 c.l.j.oe, .int .i64 c.l.j.ok, .int .u16 c.l.j.nv, .int .u16 c.l.j.nx, .int .u16 c.l.j.nl, .int .i64 c.l.j.ne, .int .i64 c.l.j.nk, .bool c.l.j.two, .slice p c.l.es.length k, .string c.sn, .int .u16 c.vs, .int .u16 c.hd, .int .i64 (c.nx 0), .int .i64 (c.nx 1), .int .i64 (c.nx 2), .int .i64 (c.nx 3), .int .i64 (c.nx 4), .int .i64 (c.nx 5), .int .i64 (c.nx 6), .int .i64 (c.nx 7), .int .i64 (c.nx 8), .int .i64 (c.nx 9), .int .i64 (c.mt 0), .int .i64 (c.mt 1), .int .i64 (c.mt 2), .int .i64 (c.mt 3), .int .i64 (c.mt 4), .int .i64 (c.mt 5), .int .i64 (c.mt 6), .int .i64 (c.mt 7), .int .i64 (c.mt 8), .int .i64 (c.mt 9)]] w fun e w' => ∃ R q d, e = .returned (.pointer (some ⟨R, 0, none⟩)) ∧ AcW 69 w.heap.size w' R ⟨c, q, d⟩ (.slice none 0 0) [] ∧ Below w.heap.size w w' := by
  obtain ⟨W, hW⟩ : ∃ z : World, w.alloc (.cells #[.int .i64 c.id, .int .i64 c.role, .int .i64 c.tm, .int .i64 c.vt, .int .i64 c.ld, .int .i64 c.wt, .int .i64 c.cm, .int .i64 c.sf, .int .i64 c.l.b, .int .i64 c.l.bt, .int .u16 c.l.j.ov, .int .u16 c.l.j.ox, .int .u16 c.l.j.ol, .int .i64 c.l.j.oe, .int .i64 c.l.j.ok, .int .u16 c.l.j.nv, .int .u16 c.l.j.nx, .int .u16 c.l.j.nl, .int .i64 c.l.j.ne, .int .i64 c.l.j.nk, .bool c.l.j.two, .slice p c.l.es.length k, .string c.sn, .int .u16 c.vs, .int .u16 c.hd, .int .i64 (c.nx 0), .int .i64 (c.nx 1), .int .i64 (c.nx 2), .int .i64 (c.nx 3), .int .i64 (c.nx 4), .int .i64 (c.nx 5), .int .i64 (c.nx 6), .int .i64 (c.nx 7), .int .i64 (c.nx 8), .int .i64 (c.nx 9), .int .i64 (c.mt 0), .int .i64 (c.mt 1), .int .i64 (c.mt 2), .int .i64 (c.mt 3), .int .i64 (c.mt 4), .int .i64 (c.mt 5), .int .i64 (c.mt 6), .int .i64 (c.mt 7), .int .i64 (c.mt 8), .int .i64 (c.mt 9)] 33) = z := ⟨_, rfl⟩
  have hb : Below w.heap.size w W := by rw [← hW]; exact (Below.refl _ _).alloc (Nat.le_refl _) _
  have hX : W.heap[w.heap.size]? = some (.cells #[.int .i64 c.id, .int .i64 c.role, .int .i64 c.tm, .int .i64 c.vt, .int .i64 c.ld, .int .i64 c.wt, .int .i64 c.cm, .int .i64 c.sf, .int .i64 c.l.b, .int .i64 c.l.bt, .int .u16 c.l.j.ov, .int .u16 c.l.j.ox, .int .u16 c.l.j.ol, .int .i64 c.l.j.oe, .int .i64 c.l.j.ok, .int .u16 c.l.j.nv, .int .u16 c.l.j.nx, .int .u16 c.l.j.nl, .int .i64 c.l.j.ne, .int .i64 c.l.j.nk, .bool c.l.j.two, .slice p c.l.es.length k, .string c.sn, .int .u16 c.vs, .int .u16 c.hd, .int .i64 (c.nx 0), .int .i64 (c.nx 1), .int .i64 (c.nx 2), .int .i64 (c.nx 3), .int .i64 (c.nx 4), .int .i64 (c.nx 5), .int .i64 (c.nx 6), .int .i64 (c.nx 7), .int .i64 (c.nx 8), .int .i64 (c.nx 9), .int .i64 (c.mt 0), .int .i64 (c.mt 1), .int .i64 (c.mt 2), .int .i64 (c.mt 3), .int .i64 (c.mt 4), .int .i64 (c.mt 5), .int .i64 (c.mt 6), .int .i64 (c.mt 7), .int .i64 (c.mt 8), .int .i64 (c.mt 9)] 33 (0, 0)) := by rw [← hW]; exact heap_last w _
  obtain ⟨X, eX⟩ : ∃ X, w.heap.size = X := ⟨_, rfl⟩
  rw [eX] at hX
  have kX := block_cells hX
  have HE := Lib.hid (hE.keep hb (Nat.le_refl _))
  have HF : Hid (LgFit c.l) := hF; have HB := Lib.hid hb; have HX := Lib.hid hX; have HEX := Lib.hid eX; have HW := Lib.hid hW
  clear hE hF hb hX eX hW
  go_enter Tryz.func35, Tryz.ntmps35
  obtain ⟨Q', hQ⟩ : ∃ Q', bodyPost Tryz.prog Tryz.f35 (fun e w' => ∃ R q d, e = .returned (.pointer (some ⟨R, 0, none⟩)) ∧ AcW 69 w.heap.size w' R ⟨c, q, d⟩ (.slice none 0 0) [] ∧ Below w.heap.size w w') = Q' := ⟨_, rfl⟩
  have HQ : Hid (∀ (a : Act) (w' : World) (R : Nat) (q : Option Addr) (d : Nat), a.tmps.getD 2 undef = .pointer (some ⟨R, 0, none⟩) → a.defers = [] → AcW 69 w.heap.size w' R ⟨c, q, d⟩ (.slice none 0 0) [] → Below w.heap.size w w' → Q' .ret a w') := fun a w' R q d h6 hd hn hb => by
    rw [← hQ]; exact bodyPost_ret (v := .pointer (some ⟨R, 0, none⟩)) (by rw [results_tmp rfl, h6]) hd ⟨R, q, d, rfl, hn, hb⟩
  rw [hQ]
  clear hQ
  go_upto_region 1 with fail
  rw [HW.out]
  (try rw [HEX.out])
  clear HW
  have HC := Lib.hid (slice_any c.l p k 0 (c.l.es.length : Int) W HF.out.b0 HF.out.b1 HF.out.n (by decide) (by have := HF.out.n; omega) HE.out)
  go_wp2_with fail
  refine HC.out.mono ?_; rintro r w2 ⟨u, rfl, hu, b2⟩
  rewrite [slice_all HF.out.b0] at hu
  obtain ⟨q, d, rfl⟩ := own_formH hu
  have hX2 := below_block b2 (block_lt HX.out) HX.out
  have k21 : w2.cell? ⟨X, 21, none⟩ = some (.slice p c.l.es.length k) := block_cells hX2 21
  have f21 : w2.frozen? ⟨X, 21, none⟩ = false := block_free hX2 21
  have hX3 : (w2.setCell ⟨X, 21, none⟩ (.slice q c.l.es.length d)).heap[X]? = some (.cells (coL c q d).toArray 33 (0, 0)) := cells_setW hX2 21 _
  have hgr := grown_setW w2 X 21 (.slice q c.l.es.length d)
  have hE3 : CoOwn W.heap.size (w2.setCell ⟨X, 21, none⟩ (.slice q c.l.es.length d)) ⟨c, q, d⟩ := WorldRow.kept hu hX2 hgr
  have HE3 := Lib.hid (own_baseC hE3 HB.out.size)
  have HB3 := Lib.hid ((HB.out.trans (b2.mono HB.out.size)).grown hgr (by have := HB.out.size; have := b2.size; omega) (fun b e => by simp only [Option.some.injEq] at e; have := HEX.out; omega))
  have HRG := Lib.hid (range_of (n := 45) (cs := coL c q d) rfl (fun j _ => by rw [Nat.zero_add, block_cells hX3, List.getElem?_toArray] : ∀ j, j < 45 → (w2.setCell ⟨X, 21, none⟩ (.slice q c.l.es.length d)).cell? ⟨X, 0 + j, none⟩ = (coL c q d)[j]?))
  clear hu b2 hX2 hX3 hgr hE3 HC kX
  go_wp2_with (first | (with_reducible refine wpList_load_mid (op := ⟨some 12, _, _, _, _, _⟩) rfl _ _ rfl X 0 rfl (coL c q d) _ HRG.out Tryz.underlying33 rfl (by kernel_rfl) ?_) | (with_reducible refine wpList_build_oneA (o := ⟨some 13, _, _, _, _, _⟩) rfl _ 0 _ rfl (.agg (coL c q d).toArray) rfl ((coL c q d) ++ [Value.slice none 0 0]).toArray (act_built c q d) ?_))
  have hz : ∀ w3 : World, CoOwn w.heap.size w3 ⟨c, q, d⟩ → Below w.heap.size w w3 → AcW 69 w.heap.size (w3.alloc (.cells ((coL c q d) ++ [Value.slice none 0 0]).toArray 69)) w3.heap.size ⟨c, q, d⟩ (.slice none 0 0) [] ∧ Below w.heap.size w (w3.alloc (.cells ((coL c q d) ++ [Value.slice none 0 0]).toArray 69)) := fun w3 h1 h2 =>
    ⟨⟨h2.size, heap_last w3 _, ⟨by decide, by decide⟩, own_keptC h1 ((Below.refl _ _).alloc (Nat.le_refl _) _), MsAt.nil _ _, fun y hy => absurd hy (by simp)⟩, h2.alloc h2.size _⟩
  have hsz : (w2.setCell ⟨X, 21, none⟩ (.slice q c.l.es.length d)).heap.size = w2.heap.size := by simp [World.setCell]
  have hz1 := (hz _ HE3.out HB3.out).1
  first | exact HQ.out _ _ _ q d rfl rfl hz1 (hz _ HE3.out HB3.out).2 | (rewrite [hsz] at hz1; exact HQ.out _ _ _ q d rfl rfl hz1 (hz _ HE3.out HB3.out).2)
theorem ract_built (c : Co) (q : Option Addr) (d : Nat) : Tryz.prog.built 76 [(0, .agg (coL c q d).toArray)] = some ((coL c q d) ++ [Value.slice none 0 0]).toArray := by kernel_rfl
set_option maxRecDepth 100000 in
set_option maxHeartbeats 16000000 in
theorem rbegin_act (c : Co) (p : Option Addr) (k : Nat) (w : World) (hF : LgFit c.l) (hE : EnSl w (.slice p c.l.es.length k) c.l.es) :
    Calls Tryz.prog 48 #[.agg #[.int .i64 c.id, .int .i64 c.role, .int .i64 c.tm, .int .i64 c.vt, .int .i64 c.ld, .int .i64 c.wt, .int .i64 c.cm, .int .i64 c.sf, .int .i64 c.l.b, .int .i64 c.l.bt, .int .u16 c.l.j.ov, .int .u16 c.l.j.ox, .int .u16 c.l.j.ol, .int .i64 c.l.j.oe, .int .i64 c.l.j.ok, .int .u16 c.l.j.nv, .int .u16 c.l.j.nx, .int .u16 c.l.j.nl, .int .i64 c.l.j.ne, .int .i64 c.l.j.nk, .bool c.l.j.two, .slice p c.l.es.length k, .string c.sn, .int .u16 c.vs, .int .u16 c.hd, .int .i64 (c.nx 0), .int .i64 (c.nx 1), .int .i64 (c.nx 2), .int .i64 (c.nx 3), .int .i64 (c.nx 4), .int .i64 (c.nx 5), .int .i64 (c.nx 6), .int .i64 (c.nx 7), .int .i64 (c.nx 8), .int .i64 (c.nx 9), .int .i64 (c.mt 0), .int .i64 (c.mt 1), .int .i64 (c.mt 2), .int .i64 (c.mt 3), .int .i64 (c.mt 4), .int .i64 (c.mt 5), .int .i64 (c.mt 6), .int .i64 (c.mt 7), .int .i64 (c.mt 8), .int .i64 (c.mt 9)]] w fun e w' => ∃ R q d, e = .returned (.pointer (some ⟨R, 0, none⟩)) ∧ AcW 76 w.heap.size w' R ⟨c, q, d⟩ (.slice none 0 0) [] ∧ Below w.heap.size w w' := by
  obtain ⟨W, hW⟩ : ∃ z : World, w.alloc (.cells #[.int .i64 c.id, .int .i64 c.role, .int .i64 c.tm, .int .i64 c.vt, .int .i64 c.ld, .int .i64 c.wt, .int .i64 c.cm, .int .i64 c.sf, .int .i64 c.l.b, .int .i64 c.l.bt, .int .u16 c.l.j.ov, .int .u16 c.l.j.ox, .int .u16 c.l.j.ol, .int .i64 c.l.j.oe, .int .i64 c.l.j.ok, .int .u16 c.l.j.nv, .int .u16 c.l.j.nx, .int .u16 c.l.j.nl, .int .i64 c.l.j.ne, .int .i64 c.l.j.nk, .bool c.l.j.two, .slice p c.l.es.length k, .string c.sn, .int .u16 c.vs, .int .u16 c.hd, .int .i64 (c.nx 0), .int .i64 (c.nx 1), .int .i64 (c.nx 2), .int .i64 (c.nx 3), .int .i64 (c.nx 4), .int .i64 (c.nx 5), .int .i64 (c.nx 6), .int .i64 (c.nx 7), .int .i64 (c.nx 8), .int .i64 (c.nx 9), .int .i64 (c.mt 0), .int .i64 (c.mt 1), .int .i64 (c.mt 2), .int .i64 (c.mt 3), .int .i64 (c.mt 4), .int .i64 (c.mt 5), .int .i64 (c.mt 6), .int .i64 (c.mt 7), .int .i64 (c.mt 8), .int .i64 (c.mt 9)] 33) = z := ⟨_, rfl⟩
  have hb : Below w.heap.size w W := by rw [← hW]; exact (Below.refl _ _).alloc (Nat.le_refl _) _
  have hX : W.heap[w.heap.size]? = some (.cells #[.int .i64 c.id, .int .i64 c.role, .int .i64 c.tm, .int .i64 c.vt, .int .i64 c.ld, .int .i64 c.wt, .int .i64 c.cm, .int .i64 c.sf, .int .i64 c.l.b, .int .i64 c.l.bt, .int .u16 c.l.j.ov, .int .u16 c.l.j.ox, .int .u16 c.l.j.ol, .int .i64 c.l.j.oe, .int .i64 c.l.j.ok, .int .u16 c.l.j.nv, .int .u16 c.l.j.nx, .int .u16 c.l.j.nl, .int .i64 c.l.j.ne, .int .i64 c.l.j.nk, .bool c.l.j.two, .slice p c.l.es.length k, .string c.sn, .int .u16 c.vs, .int .u16 c.hd, .int .i64 (c.nx 0), .int .i64 (c.nx 1), .int .i64 (c.nx 2), .int .i64 (c.nx 3), .int .i64 (c.nx 4), .int .i64 (c.nx 5), .int .i64 (c.nx 6), .int .i64 (c.nx 7), .int .i64 (c.nx 8), .int .i64 (c.nx 9), .int .i64 (c.mt 0), .int .i64 (c.mt 1), .int .i64 (c.mt 2), .int .i64 (c.mt 3), .int .i64 (c.mt 4), .int .i64 (c.mt 5), .int .i64 (c.mt 6), .int .i64 (c.mt 7), .int .i64 (c.mt 8), .int .i64 (c.mt 9)] 33 (0, 0)) := by rw [← hW]; exact heap_last w _
  obtain ⟨X, eX⟩ : ∃ X, w.heap.size = X := ⟨_, rfl⟩
  rw [eX] at hX
  have kX := block_cells hX
  have HE := Lib.hid (hE.keep hb (Nat.le_refl _))
  have HF : Hid (LgFit c.l) := hF; have HB := Lib.hid hb; have HX := Lib.hid hX; have HEX := Lib.hid eX; have HW := Lib.hid hW
  clear hE hF hb hX eX hW
  go_enter Tryz.func48, Tryz.ntmps48
  obtain ⟨Q', hQ⟩ : ∃ Q', bodyPost Tryz.prog Tryz.f48 (fun e w' => ∃ R q d, e = .returned (.pointer (some ⟨R, 0, none⟩)) ∧ AcW 76 w.heap.size w' R ⟨c, q, d⟩ (.slice none 0 0) [] ∧ Below w.heap.size w w') = Q' := ⟨_, rfl⟩
  have HQ : Hid (∀ (a : Act) (w' : World) (R : Nat) (q : Option Addr) (d : Nat), a.tmps.getD 2 undef = .pointer (some ⟨R, 0, none⟩) → a.defers = [] → AcW 76 w.heap.size w' R ⟨c, q, d⟩ (.slice none 0 0) [] → Below w.heap.size w w' → Q' .ret a w') := fun a w' R q d h6 hd hn hb => by
    rw [← hQ]; exact bodyPost_ret (v := .pointer (some ⟨R, 0, none⟩)) (by rw [results_tmp rfl, h6]) hd ⟨R, q, d, rfl, hn, hb⟩
  rw [hQ]
  clear hQ
  go_upto_region 1 with fail
  rw [HW.out]
  (try rw [HEX.out])
  clear HW
  have HC := Lib.hid (copy_any c.l p k W HF.out.n HE.out)
  go_wp2_with fail
  refine HC.out.mono ?_; rintro r w2 ⟨q, d, rfl, hu, b2⟩
  have hX2 := below_block b2 (block_lt HX.out) HX.out
  have HT := Lib.hid (there_of_block (o := 8) (n := 14) hX2 (by show 8 + 14 ≤ 45; decide))
  have hX3 : (w2.setCells X 8 [.int .i64 c.l.b, .int .i64 c.l.bt, .int .u16 c.l.j.ov, .int .u16 c.l.j.ox, .int .u16 c.l.j.ol, .int .i64 c.l.j.oe, .int .i64 c.l.j.ok, .int .u16 c.l.j.nv, .int .u16 c.l.j.nx, .int .u16 c.l.j.nl, .int .i64 c.l.j.ne, .int .i64 c.l.j.nk, .bool c.l.j.two, .slice q c.l.es.length d]).heap[X]? = some (.cells (coL c q d).toArray 33 (0, 0)) := (block_setCells [.int .i64 c.l.b, .int .i64 c.l.bt, .int .u16 c.l.j.ov, .int .u16 c.l.j.ox, .int .u16 c.l.j.ol, .int .i64 c.l.j.oe, .int .i64 c.l.j.ok, .int .u16 c.l.j.nv, .int .u16 c.l.j.nx, .int .u16 c.l.j.nl, .int .i64 c.l.j.ne, .int .i64 c.l.j.nk, .bool c.l.j.two, .slice q c.l.es.length d] 8 hX2).1
  have hgr := (block_setCells [.int .i64 c.l.b, .int .i64 c.l.bt, .int .u16 c.l.j.ov, .int .u16 c.l.j.ox, .int .u16 c.l.j.ol, .int .i64 c.l.j.oe, .int .i64 c.l.j.ok, .int .u16 c.l.j.nv, .int .u16 c.l.j.nx, .int .u16 c.l.j.nl, .int .i64 c.l.j.ne, .int .i64 c.l.j.nk, .bool c.l.j.two, .slice q c.l.es.length d] 8 hX2).2
  have hE3 : CoOwn W.heap.size (w2.setCells X 8 [.int .i64 c.l.b, .int .i64 c.l.bt, .int .u16 c.l.j.ov, .int .u16 c.l.j.ox, .int .u16 c.l.j.ol, .int .i64 c.l.j.oe, .int .i64 c.l.j.ok, .int .u16 c.l.j.nv, .int .u16 c.l.j.nx, .int .u16 c.l.j.nl, .int .i64 c.l.j.ne, .int .i64 c.l.j.nk, .bool c.l.j.two, .slice q c.l.es.length d]) ⟨c, q, d⟩ := WorldRow.kept hu hX2 hgr
  have HE3 := Lib.hid (own_baseC hE3 HB.out.size)
  have HB3 := Lib.hid ((HB.out.trans (b2.mono HB.out.size)).grown hgr (by have := HB.out.size; have := b2.size; omega) (fun b e => by simp only [Option.some.injEq] at e; have := HEX.out; omega))
  have HRG := Lib.hid (range_of (n := 45) (cs := coL c q d) rfl (fun j _ => by rw [Nat.zero_add, block_cells hX3, List.getElem?_toArray] : ∀ j, j < 45 → (w2.setCells X 8 [.int .i64 c.l.b, .int .i64 c.l.bt, .int .u16 c.l.j.ov, .int .u16 c.l.j.ox, .int .u16 c.l.j.ol, .int .i64 c.l.j.oe, .int .i64 c.l.j.ok, .int .u16 c.l.j.nv, .int .u16 c.l.j.nx, .int .u16 c.l.j.nl, .int .i64 c.l.j.ne, .int .i64 c.l.j.nk, .bool c.l.j.two, .slice q c.l.es.length d]).cell? ⟨X, 0 + j, none⟩ = (coL c q d)[j]?))
  clear hu b2 hX2 hX3 hgr hE3 HC kX
  go_wp2_with (first | (with_reducible refine wpList_store_at (op := ⟨none, .store 30 _ _, _, _, _, _⟩) rfl _ _ _ rfl X 8 14 #[.int .i64 c.l.b, .int .i64 c.l.bt, .int .u16 c.l.j.ov, .int .u16 c.l.j.ox, .int .u16 c.l.j.ol, .int .i64 c.l.j.oe, .int .i64 c.l.j.ok, .int .u16 c.l.j.nv, .int .u16 c.l.j.nx, .int .u16 c.l.j.nl, .int .i64 c.l.j.ne, .int .i64 c.l.j.nk, .bool c.l.j.two, .slice q c.l.es.length d] (by kernel_rfl) rfl rfl HT.out (by kernel_rfl) (one_all rfl) ?_) | (with_reducible refine wpList_load_mid (op := ⟨some 7, _, _, _, _, _⟩) rfl _ _ rfl X 0 rfl (coL c q d) _ HRG.out Tryz.underlying33 rfl (by kernel_rfl) ?_) | (with_reducible refine wpList_build_oneA (o := ⟨some 8, _, _, _, _, _⟩) rfl _ 0 _ rfl (.agg (coL c q d).toArray) rfl ((coL c q d) ++ [Value.slice none 0 0]).toArray (ract_built c q d) ?_))
  have hz : ∀ w3 : World, CoOwn w.heap.size w3 ⟨c, q, d⟩ → Below w.heap.size w w3 → AcW 76 w.heap.size (w3.alloc (.cells ((coL c q d) ++ [Value.slice none 0 0]).toArray 76)) w3.heap.size ⟨c, q, d⟩ (.slice none 0 0) [] ∧ Below w.heap.size w (w3.alloc (.cells ((coL c q d) ++ [Value.slice none 0 0]).toArray 76)) := fun w3 h1 h2 =>
    ⟨⟨h2.size, heap_last w3 _, ⟨by decide, by decide⟩, own_keptC h1 ((Below.refl _ _).alloc (Nat.le_refl _) _), MsAt.nil _ _, fun y hy => absurd hy (by simp)⟩, h2.alloc h2.size _⟩
  have hsz : (w2.setCells X 8 [.int .i64 c.l.b, .int .i64 c.l.bt, .int .u16 c.l.j.ov, .int .u16 c.l.j.ox, .int .u16 c.l.j.ol, .int .i64 c.l.j.oe, .int .i64 c.l.j.ok, .int .u16 c.l.j.nv, .int .u16 c.l.j.nx, .int .u16 c.l.j.nl, .int .i64 c.l.j.ne, .int .i64 c.l.j.nk, .bool c.l.j.two, .slice q c.l.es.length d]).heap.size = w2.heap.size := by simp [World.setCells, World.setCell]
  have hz1 := (hz _ HE3.out HB3.out).1
  first | exact HQ.out _ _ _ q d rfl rfl hz1 (hz _ HE3.out HB3.out).2 | (rewrite [hsz] at hz1; exact HQ.out _ _ _ q d rfl rfl hz1 (hz _ HE3.out HB3.out).2)
end Go.Proofs.YtbnndbdnejfehaaGreatDoor
/- Core: what a step of a core tells: the core behind it, and what it sends. -/
namespace Go.Proofs.YtbnndbdnejfehaaGreatDoor
open Go.ChangeShapes Go.WideShapes Go.ChangeAt Go.RowKit

theorem act_range {R : Nat} {c : Co} {q : Option Addr} {d : Nat} {v : Value} {w : World} (h : RAll R ((coL c q d) ++ [v]).toArray w) : w.rangeAt R 0 (coL c q d) :=
  range_of (n := 45) rfl (fun j hj => by rw [Nat.zero_add, h.r j, List.getElem?_toArray, List.getElem?_append_left (by show j < 45; exact hj)])
/-- A core and what it sends, in rows of the call's own. -/
def CoEnd (w : World) (a : Ac) (e : Ending) (w' : World) : Prop :=
  ∃ q d v l, e = .returned (.tuple #[.agg (coL a.c q d).toArray, v]) ∧ l.map MsX.m = a.out ∧ CoOwn w.heap.size w' ⟨a.c, q, d⟩ ∧ MsAt w.heap.size w' v l ∧ (∀ y ∈ l, ∀ b, y.bk = some b → CoX.bk ⟨a.c, q, d⟩ ≠ some b) ∧ Below w.heap.size w w'
theorem co_end {T : TypeId} {B R Z : Nat} {w W : World} {c : Co} {q : Option Addr} {d : Nat} {v : Value} {l : List MsX} {cs : Array Value} {a : Ac} (hA : AcW T B W R ⟨c, q, d⟩ v l) (hZ : W.heap[Z]? = some (.cells cs 33 (0, 0))) (hRZ : R ≠ Z) (hv : v.ownBlock ≠ some Z) (hB : w.heap.size ≤ B) (hb : Below w.heap.size w W) (hwZ : w.heap.size ≤ Z) (hc : c = a.c) (ho : l.map MsX.m = a.out) :
    CoEnd w a (.returned (.tuple #[.agg (coL c q d).toArray, v])) (W.setCells Z 0 (coL c q d)) := by
  have hg := (block_setCells (coL c q d) 0 hZ).2
  have hA2 := hA.other hZ (by decide) (fun e => hRZ e.symm) hv hg
  subst hc
  exact ⟨q, d, v, l, rfl, ho, own_baseC hA2.en hB, hA2.out.mono hB, hA2.sep, hb.grown hg hb.size (fun b e => by simp only [Option.some.injEq] at e; omega)⟩
/-- The class of a region that asks: the core's cells, a number's. -/
structure AskS (R g n : Nat) (cs : List Value) (u : Value) (w' : World) : Prop where
  r : ∀ j, j < 45 → w'.cell? ⟨R, j, none⟩ = cs[j]?
  c : w'.cell? ⟨g, n, none⟩ = some u
theorem AskS.of {T : TypeId} {B R g n : Nat} {w : World} {c : Co} {q : Option Addr} {d : Nat} {v u : Value} {l : List MsX} (h : AcW T B w R ⟨c, q, d⟩ v l) (hc : w.cell? ⟨g, n, none⟩ = some u) : AskS R g n (coL c q d) u w :=
  ⟨fun j hj => by rw [block_cells h.blk, List.getElem?_toArray, List.getElem?_append_left (by show j < 45; exact hj)], hc⟩
theorem AskS.log {R g n : Nat} {c : Co} {q : Option Addr} {d : Nat} {u : Value} {w : World} (h : AskS R g n (coL c q d) u w) : w.rangeAt R 8 [.int .i64 c.l.b, .int .i64 c.l.bt, .int .u16 c.l.j.ov, .int .u16 c.l.j.ox, .int .u16 c.l.j.ol, .int .i64 c.l.j.oe, .int .i64 c.l.j.ok, .int .u16 c.l.j.nv, .int .u16 c.l.j.nx, .int .u16 c.l.j.nl, .int .i64 c.l.j.ne, .int .i64 c.l.j.nk, .bool c.l.j.two, .slice q c.l.es.length d] := range_of (n := 14) rfl (fun j hj => by
  rw [h.r (8 + j) (by omega)]
  rcases (show j = 0 ∨ j = 1 ∨ j = 2 ∨ j = 3 ∨ j = 4 ∨ j = 5 ∨ j = 6 ∨ j = 7 ∨ j = 8 ∨ j = 9 ∨ j = 10 ∨ j = 11 ∨ j = 12 ∨ j = 13 by omega) with rfl | rfl | rfl | rfl | rfl | rfl | rfl | rfl | rfl | rfl | rfl | rfl | rfl | rfl <;> rfl)
end Go.Proofs.YtbnndbdnejfehaaGreatDoor
/- Core: a moment later (the program's Tick). -/
namespace Go.Proofs.YtbnndbdnejfehaaGreatDoor
open Go.ChangeShapes Go.WideShapes Go.ChangeAt Go.RowKit

theorem CoFit.wait {N : Nat} {c : Co} (h : CoFit N c) (x : Int) : CoFit N { c with wt := x } := ⟨h.lo, h.n, h.id0, h.id1, h.nx, h.mt, h.cm0, h.cm1⟩
set_option maxRecDepth 100000 in
set_option maxHeartbeats 16000000 in
theorem tick_any (N : Nat) (c : Co) (p : Option Addr) (k : Nat) (w : World) (hF : CoFit N c) (htm : 0 ≤ c.tm ∧ c.tm ≤ 2199023255552) (hwt : 0 ≤ c.wt ∧ c.wt ≤ 2199023255552) (hN : N < 500000) (hT : Tab w) (hE : EnSl w (.slice p c.l.es.length k) c.l.es) :
    Calls Tryz.prog 19 #[.agg #[.int .i64 c.id, .int .i64 c.role, .int .i64 c.tm, .int .i64 c.vt, .int .i64 c.ld, .int .i64 c.wt, .int .i64 c.cm, .int .i64 c.sf, .int .i64 c.l.b, .int .i64 c.l.bt, .int .u16 c.l.j.ov, .int .u16 c.l.j.ox, .int .u16 c.l.j.ol, .int .i64 c.l.j.oe, .int .i64 c.l.j.ok, .int .u16 c.l.j.nv, .int .u16 c.l.j.nx, .int .u16 c.l.j.nl, .int .i64 c.l.j.ne, .int .i64 c.l.j.nk, .bool c.l.j.two, .slice p c.l.es.length k, .string c.sn, .int .u16 c.vs, .int .u16 c.hd, .int .i64 (c.nx 0), .int .i64 (c.nx 1), .int .i64 (c.nx 2), .int .i64 (c.nx 3), .int .i64 (c.nx 4), .int .i64 (c.nx 5), .int .i64 (c.nx 6), .int .i64 (c.nx 7), .int .i64 (c.nx 8), .int .i64 (c.nx 9), .int .i64 (c.mt 0), .int .i64 (c.mt 1), .int .i64 (c.mt 2), .int .i64 (c.mt 3), .int .i64 (c.mt 4), .int .i64 (c.mt 5), .int .i64 (c.mt 6), .int .i64 (c.mt 7), .int .i64 (c.mt 8), .int .i64 (c.mt 9)]] w (CoEnd w (tickA c)) := by
  obtain ⟨W0, hW0⟩ : ∃ z : World, w.alloc (.cells #[.int .i64 c.id, .int .i64 c.role, .int .i64 c.tm, .int .i64 c.vt, .int .i64 c.ld, .int .i64 c.wt, .int .i64 c.cm, .int .i64 c.sf, .int .i64 c.l.b, .int .i64 c.l.bt, .int .u16 c.l.j.ov, .int .u16 c.l.j.ox, .int .u16 c.l.j.ol, .int .i64 c.l.j.oe, .int .i64 c.l.j.ok, .int .u16 c.l.j.nv, .int .u16 c.l.j.nx, .int .u16 c.l.j.nl, .int .i64 c.l.j.ne, .int .i64 c.l.j.nk, .bool c.l.j.two, .slice p c.l.es.length k, .string c.sn, .int .u16 c.vs, .int .u16 c.hd, .int .i64 (c.nx 0), .int .i64 (c.nx 1), .int .i64 (c.nx 2), .int .i64 (c.nx 3), .int .i64 (c.nx 4), .int .i64 (c.nx 5), .int .i64 (c.nx 6), .int .i64 (c.nx 7), .int .i64 (c.nx 8), .int .i64 (c.nx 9), .int .i64 (c.mt 0), .int .i64 (c.mt 1), .int .i64 (c.mt 2), .int .i64 (c.mt 3), .int .i64 (c.mt 4), .int .i64 (c.mt 5), .int .i64 (c.mt 6), .int .i64 (c.mt 7), .int .i64 (c.mt 8), .int .i64 (c.mt 9)] 33) = z := ⟨_, rfl⟩
  obtain ⟨W, hW⟩ : ∃ z : World, W0.alloc (.cells #[.int .i64 0, .int .i64 0, .int .i64 0, .int .i64 0, .int .i64 0, .int .i64 0, .int .i64 0, .int .i64 0, .int .i64 0, .int .i64 0, .int .u16 0, .int .u16 0, .int .u16 0, .int .i64 0, .int .i64 0, .int .u16 0, .int .u16 0, .int .u16 0, .int .i64 0, .int .i64 0, .bool false, .slice none 0 0, .string ⟨#[]⟩, .int .u16 0, .int .u16 0, .int .i64 0, .int .i64 0, .int .i64 0, .int .i64 0, .int .i64 0, .int .i64 0, .int .i64 0, .int .i64 0, .int .i64 0, .int .i64 0, .int .i64 0, .int .i64 0, .int .i64 0, .int .i64 0, .int .i64 0, .int .i64 0, .int .i64 0, .int .i64 0, .int .i64 0, .int .i64 0] 33) = z := ⟨_, rfl⟩
  have hs0 : W0.heap.size = w.heap.size + 1 := by rw [← hW0]; simp
  have b0 : Below w.heap.size w W0 := by rw [← hW0]; exact (Below.refl _ _).alloc (Nat.le_refl _) _
  have b1 : Below W0.heap.size W0 W := by rw [← hW]; exact (Below.refl _ _).alloc (Nat.le_refl _) _
  have bW := b0.trans (b1.mono b0.size)
  have hX : W.heap[w.heap.size]? = some (.cells #[.int .i64 c.id, .int .i64 c.role, .int .i64 c.tm, .int .i64 c.vt, .int .i64 c.ld, .int .i64 c.wt, .int .i64 c.cm, .int .i64 c.sf, .int .i64 c.l.b, .int .i64 c.l.bt, .int .u16 c.l.j.ov, .int .u16 c.l.j.ox, .int .u16 c.l.j.ol, .int .i64 c.l.j.oe, .int .i64 c.l.j.ok, .int .u16 c.l.j.nv, .int .u16 c.l.j.nx, .int .u16 c.l.j.nl, .int .i64 c.l.j.ne, .int .i64 c.l.j.nk, .bool c.l.j.two, .slice p c.l.es.length k, .string c.sn, .int .u16 c.vs, .int .u16 c.hd, .int .i64 (c.nx 0), .int .i64 (c.nx 1), .int .i64 (c.nx 2), .int .i64 (c.nx 3), .int .i64 (c.nx 4), .int .i64 (c.nx 5), .int .i64 (c.nx 6), .int .i64 (c.nx 7), .int .i64 (c.nx 8), .int .i64 (c.nx 9), .int .i64 (c.mt 0), .int .i64 (c.mt 1), .int .i64 (c.mt 2), .int .i64 (c.mt 3), .int .i64 (c.mt 4), .int .i64 (c.mt 5), .int .i64 (c.mt 6), .int .i64 (c.mt 7), .int .i64 (c.mt 8), .int .i64 (c.mt 9)] 33 (0, 0)) := below_block b1 (by omega) (by rw [← hW0]; exact heap_last w _)
  have hZ : W.heap[w.heap.size + 1]? = some (.cells (coL co0 none 0).toArray 33 (0, 0)) := by rw [← hW, ← hs0]; exact heap_last W0 _
  obtain ⟨X, eX⟩ : ∃ z, w.heap.size = z := ⟨_, rfl⟩
  obtain ⟨Z, eZ⟩ : ∃ z, X + 1 = z := ⟨_, rfl⟩
  rw [eX] at hX hZ
  rw [eZ] at hZ
  have hWs : W.heap.size = Z + 1 := by rw [← hW]; simp only [World.size_alloc]; omega
  have HWG := Lib.hid (show (w.alloc (.cells #[.int .i64 c.id, .int .i64 c.role, .int .i64 c.tm, .int .i64 c.vt, .int .i64 c.ld, .int .i64 c.wt, .int .i64 c.cm, .int .i64 c.sf, .int .i64 c.l.b, .int .i64 c.l.bt, .int .u16 c.l.j.ov, .int .u16 c.l.j.ox, .int .u16 c.l.j.ol, .int .i64 c.l.j.oe, .int .i64 c.l.j.ok, .int .u16 c.l.j.nv, .int .u16 c.l.j.nx, .int .u16 c.l.j.nl, .int .i64 c.l.j.ne, .int .i64 c.l.j.nk, .bool c.l.j.two, .slice p c.l.es.length k, .string c.sn, .int .u16 c.vs, .int .u16 c.hd, .int .i64 (c.nx 0), .int .i64 (c.nx 1), .int .i64 (c.nx 2), .int .i64 (c.nx 3), .int .i64 (c.nx 4), .int .i64 (c.nx 5), .int .i64 (c.nx 6), .int .i64 (c.nx 7), .int .i64 (c.nx 8), .int .i64 (c.nx 9), .int .i64 (c.mt 0), .int .i64 (c.mt 1), .int .i64 (c.mt 2), .int .i64 (c.mt 3), .int .i64 (c.mt 4), .int .i64 (c.mt 5), .int .i64 (c.mt 6), .int .i64 (c.mt 7), .int .i64 (c.mt 8), .int .i64 (c.mt 9)] 33)).alloc (.cells #[.int .i64 0, .int .i64 0, .int .i64 0, .int .i64 0, .int .i64 0, .int .i64 0, .int .i64 0, .int .i64 0, .int .i64 0, .int .i64 0, .int .u16 0, .int .u16 0, .int .u16 0, .int .i64 0, .int .i64 0, .int .u16 0, .int .u16 0, .int .u16 0, .int .i64 0, .int .i64 0, .bool false, .slice none 0 0, .string ⟨#[]⟩, .int .u16 0, .int .u16 0, .int .i64 0, .int .i64 0, .int .i64 0, .int .i64 0, .int .i64 0, .int .i64 0, .int .i64 0, .int .i64 0, .int .i64 0, .int .i64 0, .int .i64 0, .int .i64 0, .int .i64 0, .int .i64 0, .int .i64 0, .int .i64 0, .int .i64 0, .int .i64 0, .int .i64 0, .int .i64 0] 33) = W by rw [hW0]; exact hW)
  have HX := Lib.hid hX; have HZ := Lib.hid hZ; have HBW := Lib.hid bW; have HEX := Lib.hid eX; have HEZ := Lib.hid eZ; have HF : Hid (CoFit N c) := hF; have HNN := Lib.hid hN; have HWS := Lib.hid hWs
  have HT := Lib.hid (hT.keep bW)
  have HRX := Lib.hid (show W.rangeAt X 0 (coL c p k) from range_of (n := 45) rfl (fun j _ => by have hX' : W.heap[X]? = some (.cells (coL c p k).toArray 33 (0, 0)) := hX; rw [Nat.zero_add, block_cells hX', List.getElem?_toArray]))
  have HBG := Lib.hid (show Calls Tryz.prog 35 #[.agg (coL c p k).toArray] W fun e w' => ∃ R q d, e = .returned (.pointer (some ⟨R, 0, none⟩)) ∧ AcW 69 W.heap.size w' R ⟨c, q, d⟩ (.slice none 0 0) [] ∧ Below W.heap.size W w' from begin_act c p k W hF.lo.f (hE.keep bW (Nat.le_refl _)))
  have hwr : IntKind.i64.wrap (c.wt + 1) = c.wt + 1 := by rw [IntKind.wrap_i64]; omega
  obtain ⟨A, hA⟩ : ∃ A, tickA c = A := ⟨_, rfl⟩
  have HA := Lib.hid hA
  rw [hA]
  clear hF hT hE hW0 hW hs0 b0 b1 bW hX hZ eX eZ hN hWs hA
  go_enter Tryz.func19, Tryz.ntmps19
  go_upto_region 1 with fail
  rw [HWG.out, HEX.out]
  (try rw [HEZ.out])
  clear HWG
  go_wp2_with (with_reducible refine wpList_load_mid (op := ⟨some 5, _, _, _, _, _⟩) rfl _ _ rfl X 0 rfl (coL c p k) _ HRX.out Tryz.underlying33 rfl (by kernel_rfl) ?_)
  refine HBG.out.mono ?_; rintro r w1 ⟨R, q, d, rfl, hA, b1⟩
  have hRW := hA.le
  have hp1 := hA.put 5 (.int .i64 (c.wt + 1)) (by decide) ⟨{ c with wt := c.wt + 1 }, q, d⟩ rfl rfl rfl rfl
  have k5 : w1.cell? ⟨R, 5, none⟩ = some (.int .i64 c.wt) := block_cells hA.blk 5
  have f5 : w1.frozen? ⟨R, 5, none⟩ = false := block_free hA.blk 5
  obtain ⟨c1, hc1⟩ : ∃ c1 : Co, { c with wt := c.wt + 1 } = c1 := ⟨_, rfl⟩
  rw [hc1] at hp1
  have hRX : R ≠ X := by have := HWS.out; have := HEZ.out; omega
  have hRZ : R ≠ Z := by have := HWS.out; omega
  have HA1 := Lib.hid hp1.1; have HR1 := Lib.hid ((AcR.below (R := R) (v := .slice none 0 0) b1).trans hp1.2)
  have HC1 := Lib.hid hc1
  have HF1 : Hid (CoFit N c1) := by show CoFit N c1; rw [← hc1]; exact HF.out.wait _
  clear hA b1 hp1 hc1 HBG HRX
  go_upto_block 0 with fail
  obtain ⟨W1, hW1⟩ : ∃ z : World, w1.setCell ⟨R, 5, none⟩ (.int .i64 (c.wt + 1)) = z := ⟨_, rfl⟩
  rw [hW1] at HA1 HR1 ⊢
  clear hW1 k5 f5 hwr
  have HT1 := Lib.hid (HT.out.keep (HR1.out.base hRW (fun b e => by cases e) (Nat.le_refl _)))
  have hW0 : 0 < W.heap.size := by have := HWS.out; omega
  go_cut [] from 16 to 69 (fun wx => Hid (∃ q d v l, l.map MsX.m = A.out ∧ AcW 69 W.heap.size wx R ⟨A.c, q, d⟩ v l ∧ AcR W wx R (.slice none 0 0) v))
  case first =>
    have hX1 := (HR1.out.blk HX.out (fun e => hRX e.symm) (fun e => by cases e)).1
    have kX1 : W1.cell? ⟨X, 1, none⟩ = some (.int .i64 c.role) := block_cells hX1 1
    have k5 : W1.cell? ⟨R, 5, none⟩ = some (.int .i64 c1.wt) := block_cells HA1.out.blk 5
    clear hX1
    by_cases hr : c.role = 2
    · have e1 : (c.role == 2) = true := by simp [hr]
      have HRO := Lib.hid hr
      clear hr
      obtain ⟨x, hx⟩ : ∃ x, c1.wt = x := ⟨_, rfl⟩
      have hxe : c.wt + 1 = x := by rw [← hx, ← HC1.out]
      rw [hx] at k5
      have hxb : 0 ≤ x ∧ x ≤ 2199023255553 := by omega
      have HXE := Lib.hid hxe
      clear hx hxe
      go_upto_if 26 with fail
      obtain ⟨o1, ho1⟩ : ∃ o1 : List Ms, (if x % 2 = 0 then allM c1 else []) = o1 := ⟨_, rfl⟩
      have HO1 := Lib.hid ho1
      clear ho1
      go_cut [] from 26 to 28 (fun wx => Hid (∃ v l, l.map MsX.m = o1 ∧ AcW 69 W.heap.size wx R ⟨c1, q, d⟩ v l ∧ AcR W wx R (.slice none 0 0) v))
      case first =>
        by_cases hm : x % 2 = 0
        · have hmb : (x % 2 == 0) = true := by simp [hm]
          have HAL := Lib.hid (all_act W.heap.size R c1 q d (.slice none 0 0) [] W1 HA1.out HF1.out.lo.f HT1.out HF1.out.nx (by decide))
          have HOA : Hid (allM c1 = o1) := by show _ = _; rw [← HO1.out, if_pos hm]
          clear hm
          go_wp2_with fail
          refine HAL.out.mono ?_; rintro r w2 ⟨rfl, v2, l2, hl2, hA2, hr2⟩
          have HO : Hid (∃ v l, l.map MsX.m = o1 ∧ AcW 69 W.heap.size w2 R ⟨c1, q, d⟩ v l ∧ AcR W w2 R (.slice none 0 0) v) := ⟨v2, l2, by rw [hl2, HOA.out]; rfl, hA2, HR1.out.trans hr2⟩
          clear hl2 hA2 hr2 HAL
          go_wp2_with fail
          go_meet
          case rel => exact HO
        · have hmb : (x % 2 == 0) = false := by simp [hm]
          have HO : Hid (∃ v l, l.map MsX.m = o1 ∧ AcW 69 W.heap.size W1 R ⟨c1, q, d⟩ v l ∧ AcR W W1 R (.slice none 0 0) v) := ⟨.slice none 0 0, [], by rw [← HO1.out, if_neg hm]; rfl, HA1.out, HR1.out⟩
          clear hm
          go_wp2_with fail
          go_meet
          case rel => exact HO
      case rest =>
        obtain ⟨W2, hW2⟩ : ∃ z : World, z = wc := ⟨_, rfl⟩
        rw [← hW2] at hcut ⊢
        obtain ⟨v2, l2, hl2, hA2, hr2⟩ := hcut.out
        have HL2 := Lib.hid hl2; have HA2 := Lib.hid hA2; have HR2 := Lib.hid hr2
        have k5 : W2.cell? ⟨R, 5, none⟩ = some (.int .i64 x) := by have := block_cells hA2.blk 5; rw [← HXE.out, show c.wt + 1 = c1.wt from by rw [← HC1.out]]; exact this
        have hTA : A = onLook ⟨c1, o1⟩ := by
          rw [← HA.out, ← HO1.out, ← HC1.out, ← HXE.out]
          unfold tickA
          rw [if_pos HRO.out]
          by_cases hm : (c.wt + 1) % 2 = 0
          · rw [if_pos hm, if_pos (show (c.wt + 1).emod 2 = 0 from hm)]
            rw [allA_eq]; rfl
          · rw [if_neg hm, if_neg (show ¬ (c.wt + 1).emod 2 = 0 from hm)]
        have HTA := Lib.hid hTA
        clear hW2 hcut hl2 hA2 hr2 hTA
        by_cases h10 : x = 10
        · have h10b : (x == 10) = true := by simp [h10]
          have HZ1 : Hid (A = ⟨looksC c1, o1⟩) := by
            show _ = _
            rw [HTA.out]; unfold onLook
            rw [if_pos (show c1.wt = 10 by rw [← HC1.out]; exact HXE.out.trans h10)]
          have HLO := Lib.hid (looks_act W.heap.size R c1 q d v2 l2 W2 HA2.out HF1.out.lo.f)
          clear h10
          go_wp2_with fail
          refine HLO.out.mono ?_; rintro r w3 ⟨rfl, hA3, hr3⟩
          have HO : Hid (∃ q d v l, l.map MsX.m = A.out ∧ AcW 69 W.heap.size w3 R ⟨A.c, q, d⟩ v l ∧ AcR W w3 R (.slice none 0 0) v) := ⟨q, d, v2, l2, by rw [HZ1.out]; exact HL2.out, by rw [HZ1.out]; exact hA3, HR2.out.trans hr3⟩
          clear hA3 hr3 HLO
          go_wp2_with fail
          go_meet
          case rel => exact HO
        · have h10b : (x == 10) = false := by simp [h10]
          have HZ1 : Hid (A = ⟨c1, o1⟩) := by
            show _ = _
            rw [HTA.out]; unfold onLook
            rw [if_neg (show ¬ c1.wt = 10 by rw [← HC1.out]; exact fun h => h10 (HXE.out.symm.trans h))]
          have HO : Hid (∃ q d v l, l.map MsX.m = A.out ∧ AcW 69 W.heap.size W2 R ⟨A.c, q, d⟩ v l ∧ AcR W W2 R (.slice none 0 0) v) := ⟨q, d, v2, l2, by rw [HZ1.out]; exact HL2.out, by rw [HZ1.out]; exact HA2.out, HR2.out⟩
          clear h10
          go_wp2_with fail
          go_meet
          case rel => exact HO
    · have e1 : (c.role == 2) = false := by simp [hr]
      obtain ⟨J, hJ⟩ : ∃ J, confL c1.l = J := ⟨_, rfl⟩
      have hl1 : c1.l = c.l := by rw [← HC1.out]
      have hi1 : c1.id = c.id := by rw [← HC1.out]
      have ht1 : c1.tm = c.tm := by rw [← HC1.out]
      have hw1 : c1.wt = c.wt + 1 := by rw [← HC1.out]
      obtain ⟨G, hG⟩ : ∃ G, leadsN J c1.id = G := ⟨_, rfl⟩
      have hTA : A = if G = true ∧ patience c1.id ≤ c1.wt ∧ c1.tm < 1099511627776 then standsA ⟨c1, []⟩ else ⟨c1, []⟩ := by
        rw [← HA.out, ← hG, ← hJ, hl1, hi1, ht1, hw1, ← HC1.out]
        unfold tickA
        rw [if_neg hr]
      have HTA := Lib.hid hTA; have HG := Lib.hid hG; have HJ := Lib.hid hJ
      have HJO : Hid (JnO J) := by show JnO J; rw [← hJ]; exact HF1.out.lo.conf
      have hid0 := HF1.out.id0; have hid1 := HF1.out.id1
      have HSAME : Hid (A = ⟨c1, []⟩ → ∀ wx, Below W1.heap.size W1 wx → ∃ q d v l, l.map MsX.m = A.out ∧ AcW 69 W.heap.size wx R ⟨A.c, q, d⟩ v l ∧ AcR W wx R (.slice none 0 0) v) := fun e wx hb => ⟨q, d, .slice none 0 0, [], by rw [e]; rfl, by rw [e]; exact HA1.out.keep hb, HR1.out.trans (AcR.below hb)⟩
      clear hJ hl1 hG hTA hr hi1 ht1 hw1 k5
      go_upto_region 8 with fail
      have h0 : Below W1.heap.size W1 W1.drew := (Below.refl _ _).drew
      refine wp_region_held_drew (S := fun w' => Below W1.heap.size W1 w') (by kernel_rfl) h0 (fun hHeld => ?_)
      obtain ⟨wd, ewd⟩ : ∃ x, W1.drew = x := ⟨_, rfl⟩
      rewrite [ewd] at h0 hHeld ⊢
      have k0 : ∀ w', Below W1.heap.size W1 w' → w'.cell? ⟨R, 0, none⟩ = some (.int .i64 c1.id) := fun w' h => block_cells (below_block h HA1.out.lt HA1.out.blk) 0
      have k5 : ∀ w', Below W1.heap.size W1 w' → w'.cell? ⟨R, 5, none⟩ = some (.int .i64 c1.wt) := fun w' h => block_cells (below_block h HA1.out.lt HA1.out.blk) 5
      have k2 : ∀ w', Below W1.heap.size W1 w' → w'.cell? ⟨R, 2, none⟩ = some (.int .i64 c1.tm) := fun w' h => block_cells (below_block h HA1.out.lt HA1.out.blk) 2
      clear ewd
      refine tkL 0 rfl hHeld ?_
      try simp only [zA, zC, Act.put, zD, zE, zF]
      refine tkL 2 rfl hHeld ?_
      try simp only [zA, zB, zC, Act.put, zD, zE, zF]
      refine tkL 3 rfl hHeld ?_
      try simp only [zA, zB, zC, Act.put, zD, zE, zF]
      refine tkL 4 rfl hHeld ?_
      try simp only [zA, zB, zC, Act.put, zD, zE, zF]
      refine tkL 5 rfl hHeld ?_
      try simp only [zA, zB, zC, Act.put, zD, zE, zF]
      refine tkL 6 rfl hHeld ?_
      try simp only [zA, zB, zC, Act.put, zD, zE, zF]
      refine wpAnyH_ready (rs := [1]) (by kernel_rfl) (by simp) ?_; refine AllReadyH.cons rfl (fun K hK => ?_) AllReadyH.nil; (try simp only [zA, zB, zC]); go_simp
      refine (show Calls Tryz.prog 42 #[.pointer (some ⟨R, 0, none⟩)] wd fun e w' => e = .returned (.agg #[.int .u16 J.ov, .int .u16 J.ox, .int .u16 J.ol, .int .i64 J.oe, .int .i64 J.ok, .int .u16 J.nv, .int .u16 J.nx, .int .u16 J.nl, .int .i64 J.ne, .int .i64 J.nk, .bool J.two]) ∧ Below wd.heap.size wd w' from by have := joint_act R c1 q d (.slice none 0 0) wd (below_block h0 HA1.out.lt HA1.out.blk) HF1.out.lo.f ((EnSl.of_own HA1.out.en).keep h0 (Nat.le_refl _)); rw [HJ.out] at this; exact this).mono ?_; rintro r0 w2 ⟨rfl, bs2⟩
      have s2 := h0.trans (bs2.mono h0.size)
      refine hK.out _ _ s2 (fun _ => ?_)
      clear hK K hHeld bs2 
      try simp only [zA, zB, zC, Act.put, zD, zE, zF]
      have hHeld := s2
      refine wpAnyH_ready (rs := [7]) (by kernel_rfl) (by simp) ?_; refine AllReadyH.cons rfl (fun K hK => ?_) AllReadyH.nil; (try simp only [zA, zB, zC]); go_simp
      refine (show Calls Tryz.prog 68 #[.agg #[.int .u16 J.ov, .int .u16 J.ox, .int .u16 J.ol, .int .i64 J.oe, .int .i64 J.ok, .int .u16 J.nv, .int .u16 J.nx, .int .u16 J.nl, .int .i64 J.ne, .int .i64 J.nk, .bool J.two], .int .i64 c1.id] w2 fun e w' => e = .returned (.bool G) ∧ Below w2.heap.size w2 w' from by have := jLeads J c1.id HJO.out.f w2; rw [HG.out] at this; exact this).mono ?_; rintro r0 w3 ⟨rfl, bs3⟩
      have s3 := s2.trans (bs3.mono s2.size)
      refine hK.out _ _ s3 (fun _ => ?_)
      clear hK K hHeld bs3 
      try simp only [zA, zB, zC, Act.put, zD, zE, zF]
      have hHeld := s3
      refine tkL 8 rfl hHeld ?_
      try simp only [zA, zB, zC, Act.put, zD, zE, zF]
      cases G with
      | false =>
        have HZ1 : Hid (A = ⟨c1, []⟩) := by show _ = _; rw [HTA.out]; exact if_neg (fun h => absurd h.1 (by decide))
        refine tkH (i := 9) (v := undef) rfl (Or.inr ⟨by rfl, rfl⟩) hHeld ?_
        try simp only [zA, zB, zC, Act.put, zD, zE, zF]
        refine tkH (i := 10) (v := undef) rfl (Or.inr ⟨by rfl, rfl⟩) hHeld ?_
        try simp only [zA, zB, zC, Act.put, zD, zE, zF]
        refine tkH (i := 11) (v := undef) rfl (Or.inr ⟨by rfl, rfl⟩) hHeld ?_
        try simp only [zA, zB, zC, Act.put, zD, zE, zF]
        refine tkH (i := 12) (v := undef) rfl (Or.inr ⟨by rfl, rfl⟩) hHeld ?_
        try simp only [zA, zB, zC, Act.put, zD, zE, zF]
        refine tkH (i := 13) (v := undef) rfl (Or.inr ⟨by rfl, rfl⟩) hHeld ?_
        try simp only [zA, zB, zC, Act.put, zD, zE, zF]
        refine tkH (i := 14) (v := undef) rfl (Or.inr ⟨by rfl, rfl⟩) hHeld ?_
        try simp only [zA, zB, zC, Act.put, zD, zE, zF]
        refine tkH (i := 15) (v := undef) rfl (Or.inr ⟨by rfl, rfl⟩) hHeld ?_
        try simp only [zA, zB, zC, Act.put, zD, zE, zF]
        refine tkH (i := 16) (v := undef) rfl (Or.inr ⟨by rfl, rfl⟩) hHeld ?_
        try simp only [zA, zB, zC, Act.put, zD, zE, zF]
        refine tkH (i := 17) (v := undef) rfl (Or.inr ⟨by rfl, rfl⟩) hHeld ?_
        try simp only [zA, zB, zC, Act.put, zD, zE, zF]
        refine tkH (i := 18) (v := undef) rfl (Or.inr ⟨by rfl, rfl⟩) hHeld ?_
        try simp only [zA, zB, zC, Act.put, zD, zE, zF]
        refine tkH (i := 19) (v := undef) rfl (Or.inr ⟨by rfl, rfl⟩) hHeld ?_
        try simp only [zA, zB, zC, Act.put, zD, zE, zF]
        refine tkH (i := 20) (v := undef) rfl (Or.inr ⟨by rfl, rfl⟩) hHeld ?_
        try simp only [zA, zB, zC, Act.put, zD, zE, zF]
        refine tkL 21 rfl hHeld ?_
        try simp only [zA, zB, zC, Act.put, zD, zE, zF]
        refine tkL 22 rfl hHeld ?_
        try simp only [zA, zB, zC, Act.put, zD, zE, zF]
        refine tkH (i := 23) (v := undef) rfl (Or.inr ⟨by rfl, rfl⟩) hHeld ?_
        try simp only [zA, zB, zC, Act.put, zD, zE, zF]
        refine tkH (i := 24) (v := undef) rfl (Or.inr ⟨by rfl, rfl⟩) hHeld ?_
        try simp only [zA, zB, zC, Act.put, zD, zE, zF]
        refine tkH (i := 25) (v := undef) rfl (Or.inr ⟨by rfl, rfl⟩) hHeld ?_
        try simp only [zA, zB, zC, Act.put, zD, zE, zF]
        refine tkH (i := 26) (v := undef) rfl (Or.inr ⟨by rfl, rfl⟩) hHeld ?_
        try simp only [zA, zB, zC, Act.put, zD, zE, zF]
        refine tkH (i := 27) (v := undef) rfl (Or.inr ⟨by rfl, rfl⟩) hHeld ?_
        try simp only [zA, zB, zC, Act.put, zD, zE, zF]
        refine tkH (i := 28) (v := undef) rfl (Or.inr ⟨by rfl, rfl⟩) hHeld ?_
        try simp only [zA, zB, zC, Act.put, zD, zE, zF]
        refine tkL 29 rfl hHeld ?_
        try simp only [zA, zB, zC, Act.put, zD, zE, zF]
        refine tkL 30 rfl hHeld ?_
        try simp only [zA, zB, zC, Act.put, zD, zE, zF]
        refine wpAnyH_done (by kernel_rfl) ?_ _
        have HO := Lib.hid (HSAME.out HZ1.out w3 s3)
        clear hHeld k0 k5 k2 s2 s3 h0
        go_wp2_with fail
        go_meet
        case rel => exact HO
      | true =>
        obtain ⟨P, hP⟩ : ∃ P, patience c1.id = P := ⟨_, rfl⟩
        have HP := Lib.hid hP
        clear hP
        refine tkL 9 rfl hHeld ?_
        try simp only [zA, zB, zC, Act.put, zD, zE, zF]
        refine tkL 10 rfl hHeld ?_
        try simp only [zA, zB, zC, Act.put, zD, zE, zF]
        refine tkL 11 rfl hHeld ?_
        try simp only [zA, zB, zC, Act.put, zD, zE, zF]
        refine tkL 12 rfl hHeld ?_
        try simp only [zA, zB, zC, Act.put, zD, zE, zF]
        refine tkL 13 rfl hHeld ?_
        try simp only [zA, zB, zC, Act.put, zD, zE, zF]
        refine tkL 14 rfl hHeld ?_
        try simp only [zA, zB, zC, Act.put, zD, zE, zF]
        refine tkL 15 rfl hHeld ?_
        try simp only [zA, zB, zC, Act.put, zD, zE, zF]
        refine tkL 16 rfl hHeld ?_
        try simp only [zA, zB, zC, Act.put, zD, zE, zF]
        refine tkL 17 rfl hHeld ?_
        try simp only [zA, zB, zC, Act.put, zD, zE, zF]
        refine tkL 18 rfl hHeld ?_
        try simp only [zA, zB, zC, Act.put, zD, zE, zF]
        refine wpAnyH_ready (rs := [19]) (by kernel_rfl) (by simp) ?_; refine AllReadyH.cons rfl (fun K hK => ?_) AllReadyH.nil; (try simp only [zA, zB, zC]); go_simp
        refine (show Calls Tryz.prog 23 #[.int .i64 c1.id] w3 fun e w' => e = .returned (.int .i64 P) ∧ w3 = w' from by have := patience_any c1.id w3 (by omega) (by omega); rw [HP.out] at this; exact this).mono ?_; rintro r0 w4 ⟨rfl, rfl⟩
        refine hK.out _ _ s3 (fun _ => ?_)
        clear hK K hHeld
        try simp only [zA, zB, zC, Act.put, zD, zE, zF]
        have hHeld := s3
        by_cases h2 : P ≤ c1.wt
        · have h2b : decide (P ≤ c1.wt) = true := by simp [h2]
          refine tkL 20 rfl hHeld ?_
          try simp only [zA, zB, zC, Act.put, zD, zE, zF]
          refine tkL 21 rfl hHeld ?_
          try simp only [zA, zB, zC, Act.put, zD, zE, zF]
          refine tkL 22 rfl hHeld ?_
          try simp only [zA, zB, zC, Act.put, zD, zE, zF]
          by_cases h3 : c1.tm < 1099511627776
          · have h3b : decide (c1.tm < 1099511627776) = true := by simp [h3]
            have HZ1 : Hid (A = standsA ⟨c1, []⟩) := by show _ = _; rw [HTA.out]; exact if_pos ⟨rfl, by rw [HP.out]; exact h2, h3⟩
            refine tkL 23 rfl hHeld ?_
            try simp only [zA, zB, zC, Act.put, zD, zE, zF]
            refine tkL 24 rfl hHeld ?_
            try simp only [zA, zB, zC, Act.put, zD, zE, zF]
            refine tkL 25 rfl hHeld ?_
            try simp only [zA, zB, zC, Act.put, zD, zE, zF]
            refine tkL 26 rfl hHeld ?_
            try simp only [zA, zB, zC, Act.put, zD, zE, zF]
            refine tkL 27 rfl hHeld ?_
            try simp only [zA, zB, zC, Act.put, zD, zE, zF]
            refine tkL 28 rfl hHeld ?_
            try simp only [zA, zB, zC, Act.put, zD, zE, zF]
            refine tkL 29 rfl hHeld ?_
            try simp only [zA, zB, zC, Act.put, zD, zE, zF]
            refine tkL 30 rfl hHeld ?_
            try simp only [zA, zB, zC, Act.put, zD, zE, zF]
            refine wpAnyH_done (by kernel_rfl) ?_ _
            have HA3 := Lib.hid (HA1.out.keep s3)
            have HR3 := Lib.hid (HR1.out.trans (AcR.below s3))
            have HST := Lib.hid (stands_act W.heap.size R N c1 q d (.slice none 0 0) [] w3 HA3.out hW0 (HT1.out.keep s3) HF1.out (by rw [← HC1.out]; exact htm) (by have := HNN.out; omega) (by decide))
            clear hHeld k0 k5 k2 s2 s3 h0 h2 h3
            go_wp2_with fail
            refine HST.out.mono ?_; rintro r w5 ⟨rfl, v5, q5, d5, l5, hl5, hA5, hr5⟩
            have HO : Hid (∃ q d v l, l.map MsX.m = A.out ∧ AcW 69 W.heap.size w5 R ⟨A.c, q, d⟩ v l ∧ AcR W w5 R (.slice none 0 0) v) := ⟨q5, d5, v5, l5, by rw [HZ1.out]; exact hl5, by rw [HZ1.out]; exact hA5, HR3.out.trans hr5⟩
            clear hl5 hA5 hr5 HST
            go_wp2_with fail
            go_meet
            case rel => exact HO
          · have h3b : decide (c1.tm < 1099511627776) = false := by simp; omega
            have HZ1 : Hid (A = ⟨c1, []⟩) := by show _ = _; rw [HTA.out]; exact if_neg (fun h => h3 h.2.2)
            refine tkL 23 rfl hHeld ?_
            try simp only [zA, zB, zC, Act.put, zD, zE, zF]
            refine tkL 24 rfl hHeld ?_
            try simp only [zA, zB, zC, Act.put, zD, zE, zF]
            refine tkL 25 rfl hHeld ?_
            try simp only [zA, zB, zC, Act.put, zD, zE, zF]
            refine tkL 26 rfl hHeld ?_
            try simp only [zA, zB, zC, Act.put, zD, zE, zF]
            refine tkL 27 rfl hHeld ?_
            try simp only [zA, zB, zC, Act.put, zD, zE, zF]
            refine tkL 28 rfl hHeld ?_
            try simp only [zA, zB, zC, Act.put, zD, zE, zF]
            refine tkL 29 rfl hHeld ?_
            try simp only [zA, zB, zC, Act.put, zD, zE, zF]
            refine tkL 30 rfl hHeld ?_
            try simp only [zA, zB, zC, Act.put, zD, zE, zF]
            refine wpAnyH_done (by kernel_rfl) ?_ _
            have HO := Lib.hid (HSAME.out HZ1.out w3 s3)
            clear hHeld k0 k5 k2 s2 s3 h0 h2 h3
            go_wp2_with fail
            go_meet
            case rel => exact HO
        · have h2b : decide (P ≤ c1.wt) = false := by simp; omega
          have HZ1 : Hid (A = ⟨c1, []⟩) := by show _ = _; rw [HTA.out]; exact if_neg (fun h => h2 (by rw [← HP.out]; exact h.2.1))
          refine tkL 20 rfl hHeld ?_
          try simp only [zA, zB, zC, Act.put, zD, zE, zF]
          refine tkL 21 rfl hHeld ?_
          try simp only [zA, zB, zC, Act.put, zD, zE, zF]
          refine tkL 22 rfl hHeld ?_
          try simp only [zA, zB, zC, Act.put, zD, zE, zF]
          refine tkH (i := 23) (v := undef) rfl (Or.inr ⟨by rfl, rfl⟩) hHeld ?_
          try simp only [zA, zB, zC, Act.put, zD, zE, zF]
          refine tkH (i := 24) (v := undef) rfl (Or.inr ⟨by rfl, rfl⟩) hHeld ?_
          try simp only [zA, zB, zC, Act.put, zD, zE, zF]
          refine tkH (i := 25) (v := undef) rfl (Or.inr ⟨by rfl, rfl⟩) hHeld ?_
          try simp only [zA, zB, zC, Act.put, zD, zE, zF]
          refine tkH (i := 26) (v := undef) rfl (Or.inr ⟨by rfl, rfl⟩) hHeld ?_
          try simp only [zA, zB, zC, Act.put, zD, zE, zF]
          refine tkH (i := 27) (v := undef) rfl (Or.inr ⟨by rfl, rfl⟩) hHeld ?_
          try simp only [zA, zB, zC, Act.put, zD, zE, zF]
          refine tkH (i := 28) (v := undef) rfl (Or.inr ⟨by rfl, rfl⟩) hHeld ?_
          try simp only [zA, zB, zC, Act.put, zD, zE, zF]
          refine tkL 29 rfl hHeld ?_
          try simp only [zA, zB, zC, Act.put, zD, zE, zF]
          refine tkL 30 rfl hHeld ?_
          try simp only [zA, zB, zC, Act.put, zD, zE, zF]
          refine wpAnyH_done (by kernel_rfl) ?_ _
          have HO := Lib.hid (HSAME.out HZ1.out w3 s3)
          clear hHeld k0 k5 k2 s2 s3 h0 h2
          go_wp2_with fail
          go_meet
          case rel => exact HO
  case rest =>
    obtain ⟨W9, hW9⟩ : ∃ z : World, z = wc := ⟨_, rfl⟩
    rw [← hW9] at hcut ⊢
    obtain ⟨q9, d9, v9, l9, hl9, hA9, hr9⟩ := hcut.out
    obtain ⟨c9, hc9⟩ : ∃ c9, A.c = c9 := ⟨_, rfl⟩
    rw [hc9] at hA9
    have HL9 := Lib.hid hl9; have HA9 := Lib.hid hA9; have HR9 := Lib.hid hr9; have HC9 := Lib.hid hc9
    have hz9 := HR9.out.blk HZ.out (fun e => hRZ e.symm) (fun e => by cases e)
    have HZ9 := Lib.hid hz9.1; have HV9 := Lib.hid hz9.2
    have HB9 := Lib.hid (show Below w.heap.size w W9 from HBW.out.trans ((HR9.out.base hRW (fun b e => by cases e) (Nat.le_refl _)).mono HBW.out.size))
    clear hW9 hcut hl9 hA9 hr9 hc9 hz9 HA1 HR1 HT1
    go_upto_region 10 with fail
    have hAe := HA9.out.keep (Below.refl _ _).drew
    have hZe : W9.drew.heap[Z]? = some (.cells (coL co0 none 0).toArray 33 (0, 0)) := HZ9.out
    have hte := there_of_block (o := 0) (n := 45) hZe (Nat.le_of_ble_eq_true rfl)
    have hSe : RAll R ((coL c9 q9 d9) ++ [v9]).toArray W9.drew := RAll.of (w := W9.drew) hAe.blk
    refine wp_region_held_drew (S := RAll R ((coL c9 q9 d9) ++ [v9]).toArray) (by kernel_rfl) hSe (fun hHeld => ?_)
    have HBe := Lib.hid (HB9.out.drew)
    obtain ⟨we, ewe⟩ : ∃ x, W9.drew = x := ⟨_, rfl⟩
    rewrite [ewe] at hHeld hAe hZe hte hSe HBe ⊢
    have HAe := Lib.hid hAe; have HZe := Lib.hid hZe; have HTe := Lib.hid hte
    have k45 : ∀ w', RAll R ((coL c9 q9 d9) ++ [v9]).toArray w' → w'.cell? ⟨R, 45, none⟩ = some v9 := fun w' h => h.r 45
    have s2e : RAll R ((coL c9 q9 d9) ++ [v9]).toArray (we.setCells Z 0 (coL c9 q9 d9)) := ⟨fun j => by
      have hg := (block_setCells (coL c9 q9 d9) 0 HZe.out).2
      exact block_cells ((hg.block R HAe.out.lt (fun e => hRZ (by simpa using e))).trans HAe.out.blk) j⟩
    clear ewe hAe hZe hte hSe
    refine tkL 0 rfl hHeld ?_
    try simp only [zA, zC, Act.put, zD, zE, zF]
    refine tkL 1 rfl hHeld ?_
    try simp only [zA, zB, zC, Act.put, zD, zE, zF]
    refine tkL 2 rfl hHeld ?_
    try simp only [zA, zB, zC, Act.put, zD, zE, zF]
    refine tkH (i := 3) (v := .agg (coL c9 q9 d9).toArray) rfl (yieldsIf_load_mid (by rfl) _ _ rfl R 0 rfl (coL c9 q9 d9) _ (fun w' h => act_range h) Tryz.underlying33 rfl (by kernel_rfl)) hHeld ?_
    try simp only [zA, zB, zC, Act.put, zD, zE, zF]
    refine tkL 4 rfl hHeld ?_
    try simp only [zA, zB, zC, Act.put, zD, zE, zF]
    refine tkL 5 rfl hHeld ?_
    try simp only [zA, zB, zC, Act.put, zD, zE, zF]
    refine tkL 6 rfl hHeld ?_
    try simp only [zA, zB, zC, Act.put, zD, zE, zF]
    refine tkL 7 rfl hHeld ?_
    try simp only [zA, zB, zC, Act.put, zD, zE, zF]
    refine wpAnyH_ready (rs := [8]) (by kernel_rfl) (by simp) ?_; refine AllReadyH.cons rfl (fun K hK => ?_) AllReadyH.nil
    rw [if_pos (by rfl)]
    refine wp_store_mid _ _ _ (by rfl) Z 0 (coL c9 q9 d9).toArray (by rfl) (by rfl) HTe.out (by kernel_rfl) (one_all rfl) ?_
    refine hK.out _ _ s2e (fun _ => ?_)
    clear hK K hHeld k45
    try simp only [zA, zB, zC, Act.put]
    have hHeld := s2e
    refine tkL 9 rfl hHeld ?_
    try simp only [zA, zB, zC, Act.put, zD, zE, zF]
    refine wpAnyH_done (by kernel_rfl) ?_ _
    clear hHeld s2e
    go_wp2_with fail
    have hZf : (we.setCells Z 0 (coL c9 q9 d9)).heap[Z]? = some (.cells (coL c9 q9 d9).toArray 33 (0, 0)) := setCells_full (n := 45) (vs := (coL c9 q9 d9).toArray) HZe.out rfl rfl
    refine bodyPost_ret (v := .tuple #[.agg (coL c9 q9 d9).toArray, v9]) ?_ rfl ?_
    · rw [results_cell_tmp rfl]
      simp [asAddr, run_loadVar_row _ Z _ _ _ _ _ hZf Tryz.underlying33 rfl (by kernel_rfl), Result.andThen]
    · exact co_end HAe.out HZe.out hRZ HV9.out (by have := HWS.out; have := HEZ.out; have := HEX.out; omega) HBe.out (by have := HEZ.out; have := HEX.out; omega) HC9.out.symm HL9.out
end Go.Proofs.YtbnndbdnejfehaaGreatDoor
