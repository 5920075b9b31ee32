/- Core: methods of an act: yields, the configuration in force, the last entry, sending. -/
import Derived.Test.YtbnndbdnejfehaaGreatDoorLogV
import Derived.Test.YtbnndbdnejfehaaGreatDoorAgg
import Derived.Test.YtbnndbdnejfehaaGreatDoorLogW
import Derived.Test.YtbnndbdnejfehaaGreatDoorHardH
import Derived.Test.YtbnndbdnejfehaaGreatDoorGwJ
import Derived.Test.YtbnndbdnejfehaaGreatDoorTakeT
namespace Go.Proofs.YtbnndbdnejfehaaGreatDoor
open Go.ChangeShapes Go.WideShapes Go.ChangeAt Go.RowKit

theorem setL_app : ∀ (vs : List Value) (a b : List Value), vs.length = b.length → setL (a ++ b) a.length vs = a ++ vs
  | [], a, b, h => by
    have : b = [] := List.eq_nil_of_length_eq_zero (by simpa using h.symm)
    rw [this]; rfl
  | v :: r, a, [], h => by simp at h
  | v :: r, a, x :: b, h => by
    rw [setL, List.set_append_right _ _ (Nat.le_refl _), Nat.sub_self, List.set_cons_zero]
    have := setL_app r (a ++ [v]) b (by simpa using h)
    simpa using this
theorem setL_allA {vs xs : List Value} (h : vs.length = xs.length) : setL xs 0 vs = vs := by
  have := setL_app vs [] xs h
  simpa using this
theorem setCells_full {w : World} {X n : Nat} {cur vs : Array Value} {t : TypeId} (h : w.heap[X]? = some (.cells cur t (0, 0))) (hc : cur.size = n) (hv : vs.size = n) : (w.setCells X 0 vs.toList).heap[X]? = some (.cells vs t (0, 0)) := by
  have h1 := (block_setCells vs.toList 0 h).1
  have h2 : setL cur.toList 0 vs.toList = vs.toList := setL_allA (by rw [Array.length_toList, Array.length_toList, hc, hv])
  rw [h2, Array.toArray_toList] at h1
  exact h1
theorem sl_rowsA {w : World} {g : Nat} {t : TypeId} {c : Array Value} (h : w.heap[g]? = some (.cells c t (0, 0))) (cs : List Value) (hc : c = cs.toArray) : Sl (g + 1) w (.slice (some ⟨g, 0, none⟩) 1 1) cs.length 1 cs :=
  ⟨(Nat.one_mul _).symm, .inr ⟨_, 1, rfl, Nat.le_refl _, by unfold maxLen; decide, fun _ => ⟨g, 0, rfl, Nat.lt_succ_self _, fun j _ => by
    rw [block_cells h, hc, List.getElem?_toArray, Nat.zero_add]⟩⟩⟩
theorem ms_oneA (m : Ms) (q : Option Addr) (d : Nat) : ∀ u ∈ msC m q d, u.oneCell' = true := List.all_eq_true.1 (show (msC m q d).all (·.oneCell') = true from rfl)
/-- Another block of the call's own is written over. -/
theorem AcW.other {T t : TypeId} {B R X : Nat} {w w' : World} {x : CoX} {v : Value} {l : List MsX} {cs : Array Value} (h : AcW T B w R x v l) (hq : w.heap[X]? = some (.cells cs t (0, 0))) (ht : t ≠ 47) (hR : X ≠ R) (hv : v.ownBlock ≠ some X) (hg : w.grownBy w' (some X)) : AcW T B w' R x v l :=
  ⟨h.le, (hg.block R h.lt (fun e => hR (by simpa using e.symm))).trans h.blk, h.ne, h.en.kept hg (own_other h.en hq ht),
    ⟨h.out.own.kept hg (by cases hb : v.ownBlock with
      | none => exact .inl rfl
      | some b => exact .inr (fun e => hv (by rw [hb]; exact e))), fun y hy => (h.out.en y hy).kept hg (own_other (h.out.en y hy) hq ht)⟩, h.sep⟩
theorem MsOwn.other {t : TypeId} {B X : Nat} {w w' : World} {x : MsX} {cs : Array Value} (h : MsOwn B w x) (hq : w.heap[X]? = some (.cells cs t (0, 0))) (ht : t ≠ 47) (hg : w.grownBy w' (some X)) : MsOwn B w' x := h.kept hg (own_other h hq ht)
theorem AcR.drew {w w' : World} {R : Nat} {v v' : Value} (h : AcR w w' R v v') : AcR w w'.drew R v v' := h.trans (AcR.below (Below.refl _ _).drew)
theorem AcR.upto {w W W1 W2 : World} {R X : Nat} {v : Value} (h : AcR w W R v v) (hd : Below W.heap.size W W1) (hg : W1.grownBy W2 (some X)) (hX : w.heap.size = X) : AcR w W2 R v v :=
  ⟨hg.os.trans (hd.os.trans h.os), hg.tape.trans (hd.tape.trans h.tape), hg.output.trans (hd.output.trans h.output), Nat.le_trans h.size (Nat.le_trans hd.size hg.size), fun b hb hR hv => by
    have h1 := (h.oth b hb hR hv).1
    have h2 := hd.block b (Nat.lt_of_lt_of_le hb h.size)
    have h3 := hg.block b (Nat.lt_of_lt_of_le hb (Nat.le_trans h.size hd.size)) (fun e => by simp only [Option.some.injEq] at e; omega)
    exact ⟨h3.trans (h2.trans h1), hv⟩⟩
/-- The class of a region that sends: the core's cells, the message's. -/
structure SndS (R X : Nat) (cs ms : Array Value) (w' : World) : Prop where
  r : ∀ j, j < 45 → w'.cell? ⟨R, j, none⟩ = cs[j]?
  x : ∀ j, w'.cell? ⟨X, j, none⟩ = ms[j]?
theorem SndS.outs {T t' : TypeId} {B R X : Nat} {ms : Array Value} {w : World} {x : CoX} {v v' : Value} {l : List MsX} (h : AcW T B w R x v' l) (hX : w.heap[X]? = some (.cells ms t' (0, 0))) : SndS R X (x.v ++ [v]).toArray ms w := ⟨fun j hj => by
    rw [block_cells h.blk, List.getElem?_toArray, List.getElem?_toArray, List.getElem?_append_left (by show j < 45; exact hj), List.getElem?_append_left (by show j < 45; exact hj)], block_cells hX⟩
theorem SndS.of {R X : Nat} {cs ms : Array Value} {t t' : TypeId} {w : World} (hR : w.heap[R]? = some (.cells cs t (0, 0))) (hX : w.heap[X]? = some (.cells ms t' (0, 0))) : SndS R X cs ms w := ⟨fun j _ => block_cells hR j, block_cells hX⟩

theorem Tryz.infoMs : (Tryz.prog.info? 39).map (fun i => (i.zero, i.size, i.bytes)) = some (some (.agg #[.int .i64 0, .int .i64 0, .int .i64 0, .int .i64 0, .int .i64 0, .int .i64 0, .int .i64 0, .int .i64 0, .bool false, .slice none 0 0, .string ⟨#[]⟩, .int .u16 0, .int .u16 0, .int .u16 0, .int .i64 0, .int .i64 0, .int .u16 0, .int .u16 0, .int .u16 0, .int .i64 0, .int .i64 0, .bool false]), 22, 168) := by kernel_rfl
set_option maxRecDepth 100000 in
set_option maxHeartbeats 8000000 in
theorem yields_act (B R : Nat) (c : Co) (p : Option Addr) (k : Nat) (v : Value) (l : List MsX) (w : World) (h : AcW 69 B w R ⟨c, p, k⟩ v l) :
    Calls Tryz.prog 117 #[.pointer (some ⟨R, 0, none⟩)] w fun e w' => e = .returned (.tuple #[]) ∧ AcW 69 B w' R ⟨yieldsC c, p, k⟩ v l ∧ AcR w w' R v v := by
  have hp1 := h.put 1 (.int .i64 0) (by decide) ⟨{ c with role := 0 }, p, k⟩ rfl rfl rfl rfl
  have hp2 := hp1.1.put 4 (.int .i64 0) (by decide) ⟨{ c with role := 0, ld := 0 }, p, k⟩ rfl rfl rfl rfl
  have hp3 := hp2.1.put 5 (.int .i64 0) (by decide) ⟨yieldsC c, p, k⟩ rfl rfl rfl rfl
  have HP := Lib.hid (And.intro hp3.1 ((hp1.2.trans hp2.2).trans hp3.2))
  have k1 : w.cell? ⟨R, 1, none⟩ = some (.int .i64 c.role) := block_cells h.blk 1
  have f1 : w.frozen? ⟨R, 1, none⟩ = false := block_free h.blk 1
  have k4 : (w.setCell ⟨R, 1, none⟩ (.int .i64 0)).cell? ⟨R, 4, none⟩ = some (.int .i64 c.ld) := block_cells hp1.1.blk 4
  have f4 : (w.setCell ⟨R, 1, none⟩ (.int .i64 0)).frozen? ⟨R, 4, none⟩ = false := block_free hp1.1.blk 4
  have k5 : ((w.setCell ⟨R, 1, none⟩ (.int .i64 0)).setCell ⟨R, 4, none⟩ (.int .i64 0)).cell? ⟨R, 5, none⟩ = some (.int .i64 c.wt) := block_cells hp2.1.blk 5
  have f5 : ((w.setCell ⟨R, 1, none⟩ (.int .i64 0)).setCell ⟨R, 4, none⟩ (.int .i64 0)).frozen? ⟨R, 5, none⟩ = false := block_free hp2.1.blk 5
  clear h hp1 hp2 hp3
  go_enter Tryz.func117, Tryz.ntmps117
  go_wp2_with fail
  go_end0
  exact ⟨rfl, HP.out.1, HP.out.2⟩
set_option maxRecDepth 100000 in
set_option maxHeartbeats 8000000 in
theorem joint_act (R : Nat) (c : Co) (p : Option Addr) (k : Nat) (v : Value) (w : World) (hR : w.heap[R]? = some (.cells #[.int .i64 c.id, .int .i64 c.role, .int .i64 c.tm, .int .i64 c.vt, .int .i64 c.ld, .int .i64 c.wt, .int .i64 c.cm, .int .i64 c.sf, .int .i64 c.l.b, .int .i64 c.l.bt, .int .u16 c.l.j.ov, .int .u16 c.l.j.ox, .int .u16 c.l.j.ol, .int .i64 c.l.j.oe, .int .i64 c.l.j.ok, .int .u16 c.l.j.nv, .int .u16 c.l.j.nx, .int .u16 c.l.j.nl, .int .i64 c.l.j.ne, .int .i64 c.l.j.nk, .bool c.l.j.two, .slice p c.l.es.length k, .string c.sn, .int .u16 c.vs, .int .u16 c.hd, .int .i64 (c.nx 0), .int .i64 (c.nx 1), .int .i64 (c.nx 2), .int .i64 (c.nx 3), .int .i64 (c.nx 4), .int .i64 (c.nx 5), .int .i64 (c.nx 6), .int .i64 (c.nx 7), .int .i64 (c.nx 8), .int .i64 (c.nx 9), .int .i64 (c.mt 0), .int .i64 (c.mt 1), .int .i64 (c.mt 2), .int .i64 (c.mt 3), .int .i64 (c.mt 4), .int .i64 (c.mt 5), .int .i64 (c.mt 6), .int .i64 (c.mt 7), .int .i64 (c.mt 8), .int .i64 (c.mt 9), v] 69 (0, 0))) (hF : LgFit c.l) (hE : EnSl w (.slice p c.l.es.length k) c.l.es) :
    Calls Tryz.prog 42 #[.pointer (some ⟨R, 0, none⟩)] w fun e w' => e = .returned (.agg #[.int .u16 (confL c.l).ov, .int .u16 (confL c.l).ox, .int .u16 (confL c.l).ol, .int .i64 (confL c.l).oe, .int .i64 (confL c.l).ok, .int .u16 (confL c.l).nv, .int .u16 (confL c.l).nx, .int .u16 (confL c.l).nl, .int .i64 (confL c.l).ne, .int .i64 (confL c.l).nk, .bool (confL c.l).two]) ∧ Below w.heap.size w w' := by
  obtain ⟨J, hJ⟩ : ∃ J, confL c.l = J := ⟨_, rfl⟩
  obtain ⟨W, hW⟩ : ∃ z : World, w.alloc (.cells #[.int .u16 0, .int .u16 0, .int .u16 0, .int .i64 0, .int .i64 0, .int .u16 0, .int .u16 0, .int .u16 0, .int .i64 0, .int .i64 0, .bool false] 27) = z := ⟨_, rfl⟩
  have hb : Below w.heap.size w W := by rw [← hW]; exact (Below.refl _ _).alloc (Nat.le_refl _) _
  have hX : W.heap[w.heap.size]? = some (.cells #[.int .u16 0, .int .u16 0, .int .u16 0, .int .i64 0, .int .i64 0, .int .u16 0, .int .u16 0, .int .u16 0, .int .i64 0, .int .i64 0, .bool false] 27 (0, 0)) := by rw [← hW]; exact heap_last w _
  have kR := block_cells (below_block hb (block_lt hR) hR)
  have HC := Lib.hid (show Calls Tryz.prog 95 #[.agg #[.int .i64 c.l.b, .int .i64 c.l.bt, .int .u16 c.l.j.ov, .int .u16 c.l.j.ox, .int .u16 c.l.j.ol, .int .i64 c.l.j.oe, .int .i64 c.l.j.ok, .int .u16 c.l.j.nv, .int .u16 c.l.j.nx, .int .u16 c.l.j.nl, .int .i64 c.l.j.ne, .int .i64 c.l.j.nk, .bool c.l.j.two, .slice p c.l.es.length k]] W fun r w' => r = .returned (.agg #[.int .u16 J.ov, .int .u16 J.ox, .int .u16 J.ol, .int .i64 J.oe, .int .i64 J.ok, .int .u16 J.nv, .int .u16 J.nx, .int .u16 J.nl, .int .i64 J.ne, .int .i64 J.nk, .bool J.two]) ∧ Below W.heap.size W w' from by
    have := conf_any c.l p k W hF.n (hE.keep hb (Nat.le_refl _)); rw [hJ] at this; exact this)
  have HW := Lib.hid hW; have HB := Lib.hid hb; have HX := Lib.hid hX
  obtain ⟨X, eX⟩ : ∃ X, w.heap.size = X := ⟨_, rfl⟩
  rw [eX] at HX
  rw [hJ]
  have HEX := Lib.hid eX
  clear hW hb hX hE hR hJ eX hF
  go_enter Tryz.func42, Tryz.ntmps42
  go_upto_region 1 with fail
  rw [HW.out]
  (try rw [HEX.out])
  clear HW
  go_wp2_with fail
  refine HC.out.mono ?_; rintro r w2 ⟨rfl, hb2⟩
  have hX2 := below_block hb2 (block_lt HX.out) HX.out
  have HX2 := Lib.hid hX2
  have HT := Lib.hid (there_of_block (n := 11) (o := 0) hX2 (by decide))
  have HB2 := Lib.hid (HB.out.trans (hb2.mono HB.out.size))
  clear hb2 hX2 HC kR HX
  go_wp2_with (with_reducible refine wpList_store_at (op := ⟨none, .store 27 _ _, _, _, _, _⟩) rfl _ _ _ rfl X 0 11 #[.int .u16 J.ov, .int .u16 J.ox, .int .u16 J.ol, .int .i64 J.oe, .int .i64 J.ok, .int .u16 J.nv, .int .u16 J.nx, .int .u16 J.nl, .int .i64 J.ne, .int .i64 J.nk, .bool J.two] (by kernel_rfl) rfl rfl HT.out (by kernel_rfl) (one_all rfl) ?_)
  have hX3 := setCells_full HX2.out (n := 11) rfl (vs := #[.int .u16 J.ov, .int .u16 J.ox, .int .u16 J.ol, .int .i64 J.oe, .int .i64 J.ok, .int .u16 J.nv, .int .u16 J.nx, .int .u16 J.nl, .int .i64 J.ne, .int .i64 J.nk, .bool J.two]) rfl
  refine bodyPost_ret (v := .agg #[.int .u16 J.ov, .int .u16 J.ox, .int .u16 J.ol, .int .i64 J.oe, .int .i64 J.ok, .int .u16 J.nv, .int .u16 J.nx, .int .u16 J.nl, .int .i64 J.ne, .int .i64 J.nk, .bool J.two]) ?_ rfl ⟨rfl, ?_⟩
  · exact results_cell_row rfl _ _ X _ _ _ _ (by rfl) hX3 Tryz.underlying27 rfl (by kernel_rfl)
  · exact HB2.out.grown (block_setCells _ 0 HX2.out).2 HB2.out.size (fun b e => by simp only [Option.some.injEq] at e; rw [← e, HEX.out]; exact Nat.le_refl _)
set_option maxRecDepth 100000 in
set_option maxHeartbeats 8000000 in
theorem last_act (R : Nat) (c : Co) (p : Option Addr) (k : Nat) (v : Value) (w : World) (hR : w.heap[R]? = some (.cells #[.int .i64 c.id, .int .i64 c.role, .int .i64 c.tm, .int .i64 c.vt, .int .i64 c.ld, .int .i64 c.wt, .int .i64 c.cm, .int .i64 c.sf, .int .i64 c.l.b, .int .i64 c.l.bt, .int .u16 c.l.j.ov, .int .u16 c.l.j.ox, .int .u16 c.l.j.ol, .int .i64 c.l.j.oe, .int .i64 c.l.j.ok, .int .u16 c.l.j.nv, .int .u16 c.l.j.nx, .int .u16 c.l.j.nl, .int .i64 c.l.j.ne, .int .i64 c.l.j.nk, .bool c.l.j.two, .slice p c.l.es.length k, .string c.sn, .int .u16 c.vs, .int .u16 c.hd, .int .i64 (c.nx 0), .int .i64 (c.nx 1), .int .i64 (c.nx 2), .int .i64 (c.nx 3), .int .i64 (c.nx 4), .int .i64 (c.nx 5), .int .i64 (c.nx 6), .int .i64 (c.nx 7), .int .i64 (c.nx 8), .int .i64 (c.nx 9), .int .i64 (c.mt 0), .int .i64 (c.mt 1), .int .i64 (c.mt 2), .int .i64 (c.mt 3), .int .i64 (c.mt 4), .int .i64 (c.mt 5), .int .i64 (c.mt 6), .int .i64 (c.mt 7), .int .i64 (c.mt 8), .int .i64 (c.mt 9), v] 69 (0, 0))) (hF : LgFit c.l) (hE : EnSl w (.slice p c.l.es.length k) c.l.es) :
    Calls Tryz.prog 96 #[.pointer (some ⟨R, 0, none⟩)] w fun e w' => e = .returned (.tuple #[.int .i64 c.l.last, .int .i64 (lastTerm c.l)]) ∧ Below w.heap.size w w' := by
  obtain ⟨X, hX⟩ : ∃ X, c.l.last = X := ⟨_, rfl⟩
  obtain ⟨⟨T, b⟩, hT⟩ : ∃ T, termL c.l X = T := ⟨_, rfl⟩
  have hlt : lastTerm c.l = T := by unfold lastTerm; rw [hX, hT]
  have hXb : -9223372036854775808 ≤ X ∧ X ≤ 9223372036854775807 := by rw [← hX]; exact hF.last0
  have HCL := Lib.hid (show ∀ w', Below w.heap.size w w' → Calls Tryz.prog 64 #[.agg #[.int .i64 c.l.b, .int .i64 c.l.bt, .int .u16 c.l.j.ov, .int .u16 c.l.j.ox, .int .u16 c.l.j.ol, .int .i64 c.l.j.oe, .int .i64 c.l.j.ok, .int .u16 c.l.j.nv, .int .u16 c.l.j.nx, .int .u16 c.l.j.nl, .int .i64 c.l.j.ne, .int .i64 c.l.j.nk, .bool c.l.j.two, .slice p c.l.es.length k]] w' fun r w2 => r = .returned (.int .i64 X) ∧ Below w'.heap.size w' w2 from fun w' _ => by have := last_any c.l p k w' hF.b0 hF.b1 hF.n; rw [hX] at this; exact this)
  have HCT := Lib.hid (show ∀ w', Below w.heap.size w w' → Calls Tryz.prog 65 #[.agg #[.int .i64 c.l.b, .int .i64 c.l.bt, .int .u16 c.l.j.ov, .int .u16 c.l.j.ox, .int .u16 c.l.j.ol, .int .i64 c.l.j.oe, .int .i64 c.l.j.ok, .int .u16 c.l.j.nv, .int .u16 c.l.j.nx, .int .u16 c.l.j.nl, .int .i64 c.l.j.ne, .int .i64 c.l.j.nk, .bool c.l.j.two, .slice p c.l.es.length k], .int .i64 X] w' fun r w2 => r = .returned (.tuple #[.int .i64 T, .bool b]) ∧ Below w'.heap.size w' w2 from fun w' hb => by have := term_is c.l p k w' hF hXb (hE.keep hb (Nat.le_refl _)); rw [hT] at this; exact this)
  have HK := Lib.hid (show ∀ w', Below w.heap.size w w' → ∀ j, w'.cell? ⟨R, j, none⟩ = #[.int .i64 c.id, .int .i64 c.role, .int .i64 c.tm, .int .i64 c.vt, .int .i64 c.ld, .int .i64 c.wt, .int .i64 c.cm, .int .i64 c.sf, .int .i64 c.l.b, .int .i64 c.l.bt, .int .u16 c.l.j.ov, .int .u16 c.l.j.ox, .int .u16 c.l.j.ol, .int .i64 c.l.j.oe, .int .i64 c.l.j.ok, .int .u16 c.l.j.nv, .int .u16 c.l.j.nx, .int .u16 c.l.j.nl, .int .i64 c.l.j.ne, .int .i64 c.l.j.nk, .bool c.l.j.two, .slice p c.l.es.length k, .string c.sn, .int .u16 c.vs, .int .u16 c.hd, .int .i64 (c.nx 0), .int .i64 (c.nx 1), .int .i64 (c.nx 2), .int .i64 (c.nx 3), .int .i64 (c.nx 4), .int .i64 (c.nx 5), .int .i64 (c.nx 6), .int .i64 (c.nx 7), .int .i64 (c.nx 8), .int .i64 (c.nx 9), .int .i64 (c.mt 0), .int .i64 (c.mt 1), .int .i64 (c.mt 2), .int .i64 (c.mt 3), .int .i64 (c.mt 4), .int .i64 (c.mt 5), .int .i64 (c.mt 6), .int .i64 (c.mt 7), .int .i64 (c.mt 8), .int .i64 (c.mt 9), v][j]? from fun w' hb => block_cells (below_block hb (block_lt hR) hR))
  rw [hX, hlt]
  have kR := block_cells hR
  clear hR hF hE hX hT hlt hXb
  go_enter Tryz.func96, Tryz.ntmps96
  go_wp2_with fail
  refine (HCL.out w (Below.refl _ _)).mono ?_; rintro r w1 ⟨rfl, hb1⟩
  have HB1 := Lib.hid hb1
  clear kR hb1
  have kR := HK.out w1 HB1.out
  go_wp2_with fail
  refine (HCT.out w1 HB1.out).mono ?_; rintro r w2 ⟨rfl, hb2⟩
  have HB2 := Lib.hid (HB1.out.trans (hb2.mono HB1.out.size))
  clear kR hb2
  go_wp2_with fail
  go_ret2
  exact ⟨rfl, HB2.out⟩
set_option maxRecDepth 100000 in
set_option maxHeartbeats 8000000 in
theorem send_act (B R : Nat) (c : Co) (p : Option Addr) (k : Nat) (v : Value) (l : List MsX) (to' : Int) (m : Ms) (q : Option Addr) (d : Nat) (w : World) (h : AcW 69 B w R ⟨c, p, k⟩ v l) (hm : MsOwn B w ⟨m, q, d⟩) (hs : ∀ b, MsX.bk ⟨m, q, d⟩ = some b → CoX.bk ⟨c, p, k⟩ ≠ some b) (hl : l.length ≤ 100000) :
    Calls Tryz.prog 89 #[.pointer (some ⟨R, 0, none⟩), .int .i64 to', .agg #[.int .i64 m.k, .int .i64 m.fr, .int .i64 m.dst, .int .i64 m.tm, .int .i64 m.ix, .int .i64 m.lt, .int .i64 m.cm, .int .i64 m.sf, .bool m.yes, .slice q m.es.length d, .string m.sn, .int .u16 m.cf.ov, .int .u16 m.cf.ox, .int .u16 m.cf.ol, .int .i64 m.cf.oe, .int .i64 m.cf.ok, .int .u16 m.cf.nv, .int .u16 m.cf.nx, .int .u16 m.cf.nl, .int .i64 m.cf.ne, .int .i64 m.cf.nk, .bool m.cf.two]] w fun e w' => e = .returned (.tuple #[]) ∧ ∃ v', AcW 69 B w' R ⟨c, p, k⟩ v' (l ++ [⟨putM c to' m, q, d⟩]) ∧ AcR w w' R v v' := by
  obtain ⟨i0, hi0, hz0, hz1, hz2⟩ := info_parts Tryz.infoMs
  obtain ⟨W, hW⟩ : ∃ z : World, w.alloc (.cells #[.int .i64 m.k, .int .i64 m.fr, .int .i64 m.dst, .int .i64 m.tm, .int .i64 m.ix, .int .i64 m.lt, .int .i64 m.cm, .int .i64 m.sf, .bool m.yes, .slice q m.es.length d, .string m.sn, .int .u16 m.cf.ov, .int .u16 m.cf.ox, .int .u16 m.cf.ol, .int .i64 m.cf.oe, .int .i64 m.cf.ok, .int .u16 m.cf.nv, .int .u16 m.cf.nx, .int .u16 m.cf.nl, .int .i64 m.cf.ne, .int .i64 m.cf.nk, .bool m.cf.two] 39) = z := ⟨_, rfl⟩
  have hb : Below w.heap.size w W := by rw [← hW]; exact (Below.refl _ _).alloc (Nat.le_refl _) _
  have hX : W.heap[w.heap.size]? = some (.cells #[.int .i64 m.k, .int .i64 m.fr, .int .i64 m.dst, .int .i64 m.tm, .int .i64 m.ix, .int .i64 m.lt, .int .i64 m.cm, .int .i64 m.sf, .bool m.yes, .slice q m.es.length d, .string m.sn, .int .u16 m.cf.ov, .int .u16 m.cf.ox, .int .u16 m.cf.ol, .int .i64 m.cf.oe, .int .i64 m.cf.ok, .int .u16 m.cf.nv, .int .u16 m.cf.nx, .int .u16 m.cf.nl, .int .i64 m.cf.ne, .int .i64 m.cf.nk, .bool m.cf.two] 39 (0, 0)) := by rw [← hW]; exact heap_last w _
  have HA := Lib.hid (h.keep hb)
  have HM := Lib.hid (own_keptC hm hb)
  have hRX : R < w.heap.size := h.lt
  have HVX := Lib.hid (show v.ownBlock ≠ some w.heap.size from fun e => by have := (h.vge _ e).2; omega)
  have hR : W.heap[R]? = some (.cells #[.int .i64 c.id, .int .i64 c.role, .int .i64 c.tm, .int .i64 c.vt, .int .i64 c.ld, .int .i64 c.wt, .int .i64 c.cm, .int .i64 c.sf, .int .i64 c.l.b, .int .i64 c.l.bt, .int .u16 c.l.j.ov, .int .u16 c.l.j.ox, .int .u16 c.l.j.ol, .int .i64 c.l.j.oe, .int .i64 c.l.j.ok, .int .u16 c.l.j.nv, .int .u16 c.l.j.nx, .int .u16 c.l.j.nl, .int .i64 c.l.j.ne, .int .i64 c.l.j.nk, .bool c.l.j.two, .slice p c.l.es.length k, .string c.sn, .int .u16 c.vs, .int .u16 c.hd, .int .i64 (c.nx 0), .int .i64 (c.nx 1), .int .i64 (c.nx 2), .int .i64 (c.nx 3), .int .i64 (c.nx 4), .int .i64 (c.nx 5), .int .i64 (c.nx 6), .int .i64 (c.nx 7), .int .i64 (c.nx 8), .int .i64 (c.nx 9), .int .i64 (c.mt 0), .int .i64 (c.mt 1), .int .i64 (c.mt 2), .int .i64 (c.mt 3), .int .i64 (c.mt 4), .int .i64 (c.mt 5), .int .i64 (c.mt 6), .int .i64 (c.mt 7), .int .i64 (c.mt 8), .int .i64 (c.mt 9), v] 69 (0, 0)) := HA.out.blk
  have HR := Lib.hid hR; have HX := Lib.hid hX; have HW := Lib.hid hW; have HB := Lib.hid (AcR.below (R := R) (v := v) hb); have HS := Lib.hid hs
  obtain ⟨X, eX⟩ : ∃ X, w.heap.size = X := ⟨_, rfl⟩
  rw [eX] at HX HVX hRX
  have HEX := Lib.hid eX
  have kR := block_cells hR
  have kX := block_cells HX.out
  have fX := block_free HX.out
  have hne : ¬ R = X := by omega
  have hne2 : ¬ X = R := by omega
  clear h hm hs hW hb hX hR eX
  go_enter Tryz.func89, Tryz.ntmps89
  go_upto_region 1 with fail
  rw [HW.out]
  (try rw [HEX.out])
  clear HW
  apply cut2W
  · intro hcut
    go_region_law (fail)
    all_goals exact hcut
  obtain ⟨W2, hW2⟩ : ∃ z : World, (((W.setCell ⟨X, 1, none⟩ (.int .i64 c.id)).setCell ⟨X, 2, none⟩ (.int .i64 to')).setCell ⟨X, 3, none⟩ (.int .i64 c.tm)).drew = z := ⟨_, rfl⟩
  have hXd : W.heap[X]? = some (.cells #[.int .i64 m.k, .int .i64 m.fr, .int .i64 m.dst, .int .i64 m.tm, .int .i64 m.ix, .int .i64 m.lt, .int .i64 m.cm, .int .i64 m.sf, .bool m.yes, .slice q m.es.length d, .string m.sn, .int .u16 m.cf.ov, .int .u16 m.cf.ox, .int .u16 m.cf.ol, .int .i64 m.cf.oe, .int .i64 m.cf.ok, .int .u16 m.cf.nv, .int .u16 m.cf.nx, .int .u16 m.cf.nl, .int .i64 m.cf.ne, .int .i64 m.cf.nk, .bool m.cf.two] 39 (0, 0)) := HX.out
  have hX2 : W2.heap[X]? = some (.cells (msC (putM c to' m) q d).toArray 39 (0, 0)) := by
    rw [← hW2]; exact cells_setW (cells_setW (cells_setW hXd 1 _) 2 _) 3 _
  have hg2 : W.grownBy W2 (some X) := by
    rw [← hW2]; exact grown_drewW (grown_transW (grown_transW (grown_setW _ X 1 _) (grown_setW _ X 2 _)) (grown_setW _ X 3 _))
  have HA2 := Lib.hid (HA.out.other hXd (by decide) hne2 HVX.out hg2)
  have HM2 := Lib.hid (MsOwn.other HM.out hXd (by decide) hg2)
  have HBR := Lib.hid (AcR.upto HB.out (Below.refl W.heap.size W) hg2 HEX.out)
  rw [hW2]
  clear hW2 hXd hg2 HA HM HR HX HB kR kX fX
  go_upto_region 2 with fail
  have hR2 : W2.drew.heap[R]? = some (.cells #[.int .i64 c.id, .int .i64 c.role, .int .i64 c.tm, .int .i64 c.vt, .int .i64 c.ld, .int .i64 c.wt, .int .i64 c.cm, .int .i64 c.sf, .int .i64 c.l.b, .int .i64 c.l.bt, .int .u16 c.l.j.ov, .int .u16 c.l.j.ox, .int .u16 c.l.j.ol, .int .i64 c.l.j.oe, .int .i64 c.l.j.ok, .int .u16 c.l.j.nv, .int .u16 c.l.j.nx, .int .u16 c.l.j.nl, .int .i64 c.l.j.ne, .int .i64 c.l.j.nk, .bool c.l.j.two, .slice p c.l.es.length k, .string c.sn, .int .u16 c.vs, .int .u16 c.hd, .int .i64 (c.nx 0), .int .i64 (c.nx 1), .int .i64 (c.nx 2), .int .i64 (c.nx 3), .int .i64 (c.nx 4), .int .i64 (c.nx 5), .int .i64 (c.nx 6), .int .i64 (c.nx 7), .int .i64 (c.nx 8), .int .i64 (c.nx 9), .int .i64 (c.mt 0), .int .i64 (c.mt 1), .int .i64 (c.mt 2), .int .i64 (c.mt 3), .int .i64 (c.mt 4), .int .i64 (c.mt 5), .int .i64 (c.mt 6), .int .i64 (c.mt 7), .int .i64 (c.mt 8), .int .i64 (c.mt 9), v] 69 (0, 0)) := HA2.out.blk
  have h0 : SndS R X #[.int .i64 c.id, .int .i64 c.role, .int .i64 c.tm, .int .i64 c.vt, .int .i64 c.ld, .int .i64 c.wt, .int .i64 c.cm, .int .i64 c.sf, .int .i64 c.l.b, .int .i64 c.l.bt, .int .u16 c.l.j.ov, .int .u16 c.l.j.ox, .int .u16 c.l.j.ol, .int .i64 c.l.j.oe, .int .i64 c.l.j.ok, .int .u16 c.l.j.nv, .int .u16 c.l.j.nx, .int .u16 c.l.j.nl, .int .i64 c.l.j.ne, .int .i64 c.l.j.nk, .bool c.l.j.two, .slice p c.l.es.length k, .string c.sn, .int .u16 c.vs, .int .u16 c.hd, .int .i64 (c.nx 0), .int .i64 (c.nx 1), .int .i64 (c.nx 2), .int .i64 (c.nx 3), .int .i64 (c.nx 4), .int .i64 (c.nx 5), .int .i64 (c.nx 6), .int .i64 (c.nx 7), .int .i64 (c.nx 8), .int .i64 (c.nx 9), .int .i64 (c.mt 0), .int .i64 (c.mt 1), .int .i64 (c.mt 2), .int .i64 (c.mt 3), .int .i64 (c.mt 4), .int .i64 (c.mt 5), .int .i64 (c.mt 6), .int .i64 (c.mt 7), .int .i64 (c.mt 8), .int .i64 (c.mt 9), v] (msC (putM c to' m) q d).toArray W2.drew := SndS.of hR2 hX2
  refine wp_region_held_drew (S := SndS R X #[.int .i64 c.id, .int .i64 c.role, .int .i64 c.tm, .int .i64 c.vt, .int .i64 c.ld, .int .i64 c.wt, .int .i64 c.cm, .int .i64 c.sf, .int .i64 c.l.b, .int .i64 c.l.bt, .int .u16 c.l.j.ov, .int .u16 c.l.j.ox, .int .u16 c.l.j.ol, .int .i64 c.l.j.oe, .int .i64 c.l.j.ok, .int .u16 c.l.j.nv, .int .u16 c.l.j.nx, .int .u16 c.l.j.nl, .int .i64 c.l.j.ne, .int .i64 c.l.j.nk, .bool c.l.j.two, .slice p c.l.es.length k, .string c.sn, .int .u16 c.vs, .int .u16 c.hd, .int .i64 (c.nx 0), .int .i64 (c.nx 1), .int .i64 (c.nx 2), .int .i64 (c.nx 3), .int .i64 (c.nx 4), .int .i64 (c.nx 5), .int .i64 (c.nx 6), .int .i64 (c.nx 7), .int .i64 (c.nx 8), .int .i64 (c.nx 9), .int .i64 (c.mt 0), .int .i64 (c.mt 1), .int .i64 (c.mt 2), .int .i64 (c.mt 3), .int .i64 (c.mt 4), .int .i64 (c.mt 5), .int .i64 (c.mt 6), .int .i64 (c.mt 7), .int .i64 (c.mt 8), .int .i64 (c.mt 9), v] (msC (putM c to' m) q d).toArray) (by kernel_rfl) h0 (fun hHeld => ?_)
  have HA3 := Lib.hid (HA2.out.keep (Below.refl _ _).drew); have HM3 := Lib.hid (own_keptC HM2.out (Below.refl _ _).drew)
  have HX3 : Hid (W2.drew.heap[X]? = some (.cells (msC (putM c to' m) q d).toArray 39 (0, 0))) := hX2
  have HBR3 := Lib.hid (HBR.out.drew)
  obtain ⟨wd, ewd⟩ : ∃ x, W2.drew = x := ⟨_, rfl⟩
  rw [ewd] at h0 hHeld HA3 HM3 HX3 HBR3 ⊢
  clear ewd hR2 HA2 HM2 HBR hX2
  have kE : wd.cell? ⟨R, 45, none⟩ = some v := block_cells HA3.out.blk 45
  refine tkL 0 rfl hHeld ?_
  try simp only [zA, zC, Act.put, zD, zE, zF]
  refine tkL 1 rfl hHeld ?_
  try simp only [zA, zB, zC, Act.put, zD, zE, zF]
  refine tkL 2 rfl hHeld ?_
  try simp only [zA, zB, zC, Act.put, zD, zE, zF]
  refine tkL 3 rfl hHeld ?_
  try simp only [zA, zB, zC, Act.put, zD, zE, zF]
  refine tkH (i := 5) (v := .agg (msC (putM c to' m) q d).toArray) rfl (yieldsIf_load_mid (by rfl) _ _ rfl X 0 rfl (msC (putM c to' m) q d) _ (fun w' h => range_of (n := 22) rfl (fun j _ => by rw [Nat.zero_add, h.x, List.getElem?_toArray])) Tryz.underlying39 rfl (by kernel_rfl)) hHeld ?_
  try simp only [zA, zB, zC, Act.put, zD, zE, zF]
  have hYb : (wd.alloc (.cells (msC (putM c to' m) q d).toArray 39)).heap[R]? = some (.cells #[.int .i64 c.id, .int .i64 c.role, .int .i64 c.tm, .int .i64 c.vt, .int .i64 c.ld, .int .i64 c.wt, .int .i64 c.cm, .int .i64 c.sf, .int .i64 c.l.b, .int .i64 c.l.bt, .int .u16 c.l.j.ov, .int .u16 c.l.j.ox, .int .u16 c.l.j.ol, .int .i64 c.l.j.oe, .int .i64 c.l.j.ok, .int .u16 c.l.j.nv, .int .u16 c.l.j.nx, .int .u16 c.l.j.nl, .int .i64 c.l.j.ne, .int .i64 c.l.j.nk, .bool c.l.j.two, .slice p c.l.es.length k, .string c.sn, .int .u16 c.vs, .int .u16 c.hd, .int .i64 (c.nx 0), .int .i64 (c.nx 1), .int .i64 (c.nx 2), .int .i64 (c.nx 3), .int .i64 (c.nx 4), .int .i64 (c.nx 5), .int .i64 (c.nx 6), .int .i64 (c.nx 7), .int .i64 (c.nx 8), .int .i64 (c.nx 9), .int .i64 (c.mt 0), .int .i64 (c.mt 1), .int .i64 (c.mt 2), .int .i64 (c.mt 3), .int .i64 (c.mt 4), .int .i64 (c.mt 5), .int .i64 (c.mt 6), .int .i64 (c.mt 7), .int .i64 (c.mt 8), .int .i64 (c.mt 9), v] 69 (0, 0)) := heap_prev _ HA3.out.blk
  have SB : SndS R X #[.int .i64 c.id, .int .i64 c.role, .int .i64 c.tm, .int .i64 c.vt, .int .i64 c.ld, .int .i64 c.wt, .int .i64 c.cm, .int .i64 c.sf, .int .i64 c.l.b, .int .i64 c.l.bt, .int .u16 c.l.j.ov, .int .u16 c.l.j.ox, .int .u16 c.l.j.ol, .int .i64 c.l.j.oe, .int .i64 c.l.j.ok, .int .u16 c.l.j.nv, .int .u16 c.l.j.nx, .int .u16 c.l.j.nl, .int .i64 c.l.j.ne, .int .i64 c.l.j.nk, .bool c.l.j.two, .slice p c.l.es.length k, .string c.sn, .int .u16 c.vs, .int .u16 c.hd, .int .i64 (c.nx 0), .int .i64 (c.nx 1), .int .i64 (c.nx 2), .int .i64 (c.nx 3), .int .i64 (c.nx 4), .int .i64 (c.nx 5), .int .i64 (c.nx 6), .int .i64 (c.nx 7), .int .i64 (c.nx 8), .int .i64 (c.nx 9), .int .i64 (c.mt 0), .int .i64 (c.mt 1), .int .i64 (c.mt 2), .int .i64 (c.mt 3), .int .i64 (c.mt 4), .int .i64 (c.mt 5), .int .i64 (c.mt 6), .int .i64 (c.mt 7), .int .i64 (c.mt 8), .int .i64 (c.mt 9), v] (msC (putM c to' m) q d).toArray (wd.alloc (.cells (msC (putM c to' m) q d).toArray 39)) := SndS.of hYb (heap_prev _ HX3.out)
  have kE2 : (wd.alloc (.cells (msC (putM c to' m) q d).toArray 39)).cell? ⟨R, 45, none⟩ = some v := block_cells hYb 45
  clear hYb
  apply cut2W
  · intro hcut
    refine wpAnyH_ready (rs := [4, 6]) (by kernel_rfl) (by simp) ?_
    refine AllReadyH.cons rfl (fun K hK => ?_) (AllReadyH.cons rfl (fun K hK => ?_) AllReadyH.nil)
    · try simp only [zA, zB, zC]
      go_simp
      refine hK.out _ _ hHeld (fun _ => ?_)
      clear hK K
      try simp only [zA, zB, zC, Act.put, zD, zE, zF]
      refine wpAnyH_ready (rs := [6]) (by kernel_rfl) (by simp) ?_; refine AllReadyH.cons rfl (fun K hK => ?_) AllReadyH.nil
      rw [if_pos (by rfl)]
      refine wp_slice_one _ 39 _ rfl (msC (putM c to' m) q d) 22 i0 (.agg #[.int .i64 0, .int .i64 0, .int .i64 0, .int .i64 0, .int .i64 0, .int .i64 0, .int .i64 0, .int .i64 0, .bool false, .slice none 0 0, .string ⟨#[]⟩, .int .u16 0, .int .u16 0, .int .u16 0, .int .i64 0, .int .i64 0, .int .u16 0, .int .u16 0, .int .u16 0, .int .i64 0, .int .i64 0, .bool false]) (by rfl) rfl (by decide) (by decide) Tryz.underlying34 hi0 hz0 hz1 ?_
      refine hK.out _ _ SB (fun _ => ?_)
      clear hK K
      try simp only [zA, zB, zC, Act.put, zD, zE, zF]
      exact hcut
    · rw [if_pos (by rfl)]
      refine wp_slice_one _ 39 _ rfl (msC (putM c to' m) q d) 22 i0 (.agg #[.int .i64 0, .int .i64 0, .int .i64 0, .int .i64 0, .int .i64 0, .int .i64 0, .int .i64 0, .int .i64 0, .bool false, .slice none 0 0, .string ⟨#[]⟩, .int .u16 0, .int .u16 0, .int .u16 0, .int .i64 0, .int .i64 0, .int .u16 0, .int .u16 0, .int .u16 0, .int .i64 0, .int .i64 0, .bool false]) (by rfl) rfl (by decide) (by decide) Tryz.underlying34 hi0 hz0 hz1 ?_
      refine hK.out _ _ SB (fun _ => ?_)
      clear hK K
      try simp only [zA, zB, zC, Act.put, zD, zE, zF]
      refine wpAnyH_ready (rs := [4]) (by kernel_rfl) (by simp) ?_; refine AllReadyH.cons rfl (fun K hK => ?_) AllReadyH.nil
      try simp only [zA, zB, zC]
      go_simp
      refine hK.out _ _ SB (fun _ => ?_)
      clear hK K
      try simp only [zA, zB, zC, Act.put, zD, zE, zF]
      exact hcut
  obtain ⟨wb, hwb⟩ : ∃ z : World, wd.alloc (.cells (msC (putM c to' m) q d).toArray 39) = z := ⟨_, rfl⟩
  have bb : Below wd.heap.size wd wb := by rw [← hwb]; exact (Below.refl _ _).alloc (Nat.le_refl _) _
  have hY : wb.heap[wd.heap.size]? = some (.cells (msC (putM c to' m) q d).toArray 39 (0, 0)) := by rw [← hwb]; exact heap_last wd _
  rw [hwb]
  have hA4 := HA3.out.keep bb
  have hM4 : MsOwn B wb ⟨m, q, d⟩ := own_keptC HM3.out bb
  have hX4 := below_block bb (block_lt HX3.out) HX3.out
  have hB4 := HBR3.out.trans (AcR.below bb)
  clear hwb bb SB kE kE2 hHeld h0 HA3 HM3 HX3 HBR3
  refine wpAnyH_ready (rs := [7]) (by kernel_rfl) (by simp) ?_; refine AllReadyH.cons rfl (fun K hK => ?_) AllReadyH.nil
  rw [if_pos (by rfl)]
  refine wp_append_any _ _ 34 (by rfl) B 39 i0 (.agg #[.int .i64 0, .int .i64 0, .int .i64 0, .int .i64 0, .int .i64 0, .int .i64 0, .int .i64 0, .int .i64 0, .bool false, .slice none 0 0, .string ⟨#[]⟩, .int .u16 0, .int .u16 0, .int .u16 0, .int .i64 0, .int .i64 0, .int .u16 0, .int .u16 0, .int .u16 0, .int .i64 0, .int .i64 0, .bool false]) 22 168 Tryz.underlying34 hi0 hz0 hz1 hz2 rfl (by decide) v l.length (msRow l) (by rfl) hA4.out.own (wd.heap.size + 1) (.slice (some ⟨wd.heap.size, 0, none⟩) 1 1) 1 (msC (putM c to' m) q d) (by rfl) (sl_rowsA hY _ rfl) (ms_oneA _ _ _) (by unfold maxLen; omega) (by omega) (by have := hA4.le; have := hA4.lt; omega) ?_
  intro v4 w4 h2 h3 h4
  obtain ⟨p4, c4, rfl⟩ := own_formH h2
  have hvX : v.ownBlock ≠ some X := HVX.out
  have hR5 : w4.heap[R]? = some (.cells #[.int .i64 c.id, .int .i64 c.role, .int .i64 c.tm, .int .i64 c.vt, .int .i64 c.ld, .int .i64 c.wt, .int .i64 c.cm, .int .i64 c.sf, .int .i64 c.l.b, .int .i64 c.l.bt, .int .u16 c.l.j.ov, .int .u16 c.l.j.ox, .int .u16 c.l.j.ol, .int .i64 c.l.j.oe, .int .i64 c.l.j.ok, .int .u16 c.l.j.nv, .int .u16 c.l.j.nx, .int .u16 c.l.j.nl, .int .i64 c.l.j.ne, .int .i64 c.l.j.nk, .bool c.l.j.two, .slice p c.l.es.length k, .string c.sn, .int .u16 c.vs, .int .u16 c.hd, .int .i64 (c.nx 0), .int .i64 (c.nx 1), .int .i64 (c.nx 2), .int .i64 (c.nx 3), .int .i64 (c.nx 4), .int .i64 (c.nx 5), .int .i64 (c.nx 6), .int .i64 (c.nx 7), .int .i64 (c.nx 8), .int .i64 (c.nx 9), .int .i64 (c.mt 0), .int .i64 (c.mt 1), .int .i64 (c.mt 2), .int .i64 (c.mt 3), .int .i64 (c.mt 4), .int .i64 (c.mt 5), .int .i64 (c.mt 6), .int .i64 (c.mt 7), .int .i64 (c.mt 8), .int .i64 (c.mt 9), v] 69 (0, 0)) := (h3.block R hA4.lt (fun e => hA4.vR e.symm)).trans hA4.blk
  have hX5 := (h3.block X (block_lt hX4) (fun e => hvX e.symm)).trans hX4
  have hen : CoOwn B w4 ⟨c, p, k⟩ := hA4.en.kept h3 (own_apartH hA4.en hA4.out.own (by decide))
  have hms : MsAt B w4 (.slice p4 (l.length + 1) c4) (l ++ [⟨putM c to' m, q, d⟩]) := ⟨by rw [List.length_append, msRow_app]; exact h2, fun y hy => by
    rcases List.mem_append.1 hy with hy | hy
    · exact (hA4.out.en y hy).kept h3 (own_apartH (hA4.out.en y hy) hA4.out.own (by decide))
    · rw [List.mem_singleton] at hy; rw [hy]; exact hM4.kept h3 (own_apartH hM4 hA4.out.own (by decide))⟩
  have hsp : ∀ y ∈ l ++ [(⟨putM c to' m, q, d⟩ : MsX)], ∀ b, y.bk = some b → CoX.bk ⟨c, p, k⟩ ≠ some b := fun y hy b hb => by
    rcases List.mem_append.1 hy with hy | hy
    · exact hA4.sep y hy b hb
    · rw [List.mem_singleton] at hy; rw [hy] at hb; exact HS.out b hb
  have hfin := AcW.outs (x := ⟨c, p, k⟩) hR5 hA4.le hA4.ne hen hms hsp
  have hbr := (hB4.trans (AcR.row h3 (by
    rcases h4 with e | e
    · exact .inl e
    · exact .inr ⟨_, e, Nat.le_refl _⟩))).trans (AcR.grown (v := .slice p4 (l.length + 1) c4) hfin.2)
  have HF := Lib.hid (And.intro hfin.1 hbr)
  have S5 : SndS R X #[.int .i64 c.id, .int .i64 c.role, .int .i64 c.tm, .int .i64 c.vt, .int .i64 c.ld, .int .i64 c.wt, .int .i64 c.cm, .int .i64 c.sf, .int .i64 c.l.b, .int .i64 c.l.bt, .int .u16 c.l.j.ov, .int .u16 c.l.j.ox, .int .u16 c.l.j.ol, .int .i64 c.l.j.oe, .int .i64 c.l.j.ok, .int .u16 c.l.j.nv, .int .u16 c.l.j.nx, .int .u16 c.l.j.nl, .int .i64 c.l.j.ne, .int .i64 c.l.j.nk, .bool c.l.j.two, .slice p c.l.es.length k, .string c.sn, .int .u16 c.vs, .int .u16 c.hd, .int .i64 (c.nx 0), .int .i64 (c.nx 1), .int .i64 (c.nx 2), .int .i64 (c.nx 3), .int .i64 (c.nx 4), .int .i64 (c.nx 5), .int .i64 (c.nx 6), .int .i64 (c.nx 7), .int .i64 (c.nx 8), .int .i64 (c.nx 9), .int .i64 (c.mt 0), .int .i64 (c.mt 1), .int .i64 (c.mt 2), .int .i64 (c.mt 3), .int .i64 (c.mt 4), .int .i64 (c.mt 5), .int .i64 (c.mt 6), .int .i64 (c.mt 7), .int .i64 (c.mt 8), .int .i64 (c.mt 9), v] (msC (putM c to' m) q d).toArray w4 := SndS.of hR5 hX5
  have S6 : SndS R X #[.int .i64 c.id, .int .i64 c.role, .int .i64 c.tm, .int .i64 c.vt, .int .i64 c.ld, .int .i64 c.wt, .int .i64 c.cm, .int .i64 c.sf, .int .i64 c.l.b, .int .i64 c.l.bt, .int .u16 c.l.j.ov, .int .u16 c.l.j.ox, .int .u16 c.l.j.ol, .int .i64 c.l.j.oe, .int .i64 c.l.j.ok, .int .u16 c.l.j.nv, .int .u16 c.l.j.nx, .int .u16 c.l.j.nl, .int .i64 c.l.j.ne, .int .i64 c.l.j.nk, .bool c.l.j.two, .slice p c.l.es.length k, .string c.sn, .int .u16 c.vs, .int .u16 c.hd, .int .i64 (c.nx 0), .int .i64 (c.nx 1), .int .i64 (c.nx 2), .int .i64 (c.nx 3), .int .i64 (c.nx 4), .int .i64 (c.nx 5), .int .i64 (c.nx 6), .int .i64 (c.nx 7), .int .i64 (c.nx 8), .int .i64 (c.nx 9), .int .i64 (c.mt 0), .int .i64 (c.mt 1), .int .i64 (c.mt 2), .int .i64 (c.mt 3), .int .i64 (c.mt 4), .int .i64 (c.mt 5), .int .i64 (c.mt 6), .int .i64 (c.mt 7), .int .i64 (c.mt 8), .int .i64 (c.mt 9), v] (msC (putM c to' m) q d).toArray (w4.setCell ⟨R, 45, none⟩ (.slice p4 (l.length + 1) c4)) := SndS.outs (v := v) hfin.1 ((hfin.2.block X (block_lt hX5) (fun e => hne2 (by simpa using e))).trans hX5)
  refine hK.out _ _ S5 (fun _ => ?_)
  have kE : w4.cell? ⟨R, 45, none⟩ = some v := block_cells hR5 45
  have fE : w4.frozen? ⟨R, 45, none⟩ = false := block_free hR5 45
  clear hK K h2 h3 h4 hen hms hsp hfin hbr hR5 hX5 hA4 hM4 hX4 hB4 hY
  try simp only [zA, zB, zC, Act.put, zD, zE, zF]
  have hHeld := S5
  refine tkL 8 rfl hHeld ?_
  try simp only [zA, zB, zC, Act.put, zD, zE, zF]
  refine tkL 9 rfl hHeld ?_
  try simp only [zA, zB, zC, Act.put, zD, zE, zF]
  refine wpAnyH_ready (rs := [10]) (by kernel_rfl) (by simp) ?_; refine AllReadyH.cons rfl (fun K hK => ?_) AllReadyH.nil
  try simp only [zA, zB, zC]
  go_simp
  refine hK.out _ _ S6 (fun _ => ?_)
  clear hK K hHeld S5 S6 kE fE
  try simp only [zA, zB, zC, Act.put, zD, zE, zF]
  refine wpAnyH_done (by kernel_rfl) ?_ _
  go_wp2_with fail
  go_end0
  exact ⟨rfl, _, HF.out.1, HF.out.2⟩
set_option maxRecDepth 100000 in
set_option maxHeartbeats 8000000 in
theorem ryields_act (B R : Nat) (c : Co) (p : Option Addr) (k : Nat) (v : Value) (l : List MsX) (w : World) (h : AcW 76 B w R ⟨c, p, k⟩ v l) :
    Calls Tryz.prog 72 #[.pointer (some ⟨R, 0, none⟩)] w fun e w' => e = .returned (.tuple #[]) ∧ AcW 76 B w' R ⟨yieldsC c, p, k⟩ v l ∧ AcR w w' R v v := by
  have hp1 := h.put 1 (.int .i64 0) (by decide) ⟨{ c with role := 0 }, p, k⟩ rfl rfl rfl rfl
  have hp2 := hp1.1.put 4 (.int .i64 0) (by decide) ⟨{ c with role := 0, ld := 0 }, p, k⟩ rfl rfl rfl rfl
  have hp3 := hp2.1.put 5 (.int .i64 0) (by decide) ⟨yieldsC c, p, k⟩ rfl rfl rfl rfl
  have HP := Lib.hid (And.intro hp3.1 ((hp1.2.trans hp2.2).trans hp3.2))
  have k1 : w.cell? ⟨R, 1, none⟩ = some (.int .i64 c.role) := block_cells h.blk 1
  have f1 : w.frozen? ⟨R, 1, none⟩ = false := block_free h.blk 1
  have k4 : (w.setCell ⟨R, 1, none⟩ (.int .i64 0)).cell? ⟨R, 4, none⟩ = some (.int .i64 c.ld) := block_cells hp1.1.blk 4
  have f4 : (w.setCell ⟨R, 1, none⟩ (.int .i64 0)).frozen? ⟨R, 4, none⟩ = false := block_free hp1.1.blk 4
  have k5 : ((w.setCell ⟨R, 1, none⟩ (.int .i64 0)).setCell ⟨R, 4, none⟩ (.int .i64 0)).cell? ⟨R, 5, none⟩ = some (.int .i64 c.wt) := block_cells hp2.1.blk 5
  have f5 : ((w.setCell ⟨R, 1, none⟩ (.int .i64 0)).setCell ⟨R, 4, none⟩ (.int .i64 0)).frozen? ⟨R, 5, none⟩ = false := block_free hp2.1.blk 5
  clear h hp1 hp2 hp3
  go_enter Tryz.func72, Tryz.ntmps72
  go_wp2_with fail
  go_end0
  exact ⟨rfl, HP.out.1, HP.out.2⟩
set_option maxRecDepth 100000 in
set_option maxHeartbeats 8000000 in
theorem rjoint_act (R : Nat) (c : Co) (p : Option Addr) (k : Nat) (v : Value) (w : World) (hR : w.heap[R]? = some (.cells #[.int .i64 c.id, .int .i64 c.role, .int .i64 c.tm, .int .i64 c.vt, .int .i64 c.ld, .int .i64 c.wt, .int .i64 c.cm, .int .i64 c.sf, .int .i64 c.l.b, .int .i64 c.l.bt, .int .u16 c.l.j.ov, .int .u16 c.l.j.ox, .int .u16 c.l.j.ol, .int .i64 c.l.j.oe, .int .i64 c.l.j.ok, .int .u16 c.l.j.nv, .int .u16 c.l.j.nx, .int .u16 c.l.j.nl, .int .i64 c.l.j.ne, .int .i64 c.l.j.nk, .bool c.l.j.two, .slice p c.l.es.length k, .string c.sn, .int .u16 c.vs, .int .u16 c.hd, .int .i64 (c.nx 0), .int .i64 (c.nx 1), .int .i64 (c.nx 2), .int .i64 (c.nx 3), .int .i64 (c.nx 4), .int .i64 (c.nx 5), .int .i64 (c.nx 6), .int .i64 (c.nx 7), .int .i64 (c.nx 8), .int .i64 (c.nx 9), .int .i64 (c.mt 0), .int .i64 (c.mt 1), .int .i64 (c.mt 2), .int .i64 (c.mt 3), .int .i64 (c.mt 4), .int .i64 (c.mt 5), .int .i64 (c.mt 6), .int .i64 (c.mt 7), .int .i64 (c.mt 8), .int .i64 (c.mt 9), v] 76 (0, 0))) (hF : LgFit c.l) (hE : EnSl w (.slice p c.l.es.length k) c.l.es) :
    Calls Tryz.prog 54 #[.pointer (some ⟨R, 0, none⟩)] w fun e w' => e = .returned (.agg #[.int .u16 (confL c.l).ov, .int .u16 (confL c.l).ox, .int .u16 (confL c.l).ol, .int .i64 (confL c.l).oe, .int .i64 (confL c.l).ok, .int .u16 (confL c.l).nv, .int .u16 (confL c.l).nx, .int .u16 (confL c.l).nl, .int .i64 (confL c.l).ne, .int .i64 (confL c.l).nk, .bool (confL c.l).two]) ∧ Below w.heap.size w w' := by
  obtain ⟨J, hJ⟩ : ∃ J, confL c.l = J := ⟨_, rfl⟩
  obtain ⟨W, hW⟩ : ∃ z : World, w.alloc (.cells #[.int .u16 0, .int .u16 0, .int .u16 0, .int .i64 0, .int .i64 0, .int .u16 0, .int .u16 0, .int .u16 0, .int .i64 0, .int .i64 0, .bool false] 27) = z := ⟨_, rfl⟩
  have hb : Below w.heap.size w W := by rw [← hW]; exact (Below.refl _ _).alloc (Nat.le_refl _) _
  have hX : W.heap[w.heap.size]? = some (.cells #[.int .u16 0, .int .u16 0, .int .u16 0, .int .i64 0, .int .i64 0, .int .u16 0, .int .u16 0, .int .u16 0, .int .i64 0, .int .i64 0, .bool false] 27 (0, 0)) := by rw [← hW]; exact heap_last w _
  have kR := block_cells (below_block hb (block_lt hR) hR)
  have HC := Lib.hid (show Calls Tryz.prog 108 #[.agg #[.int .i64 c.l.b, .int .i64 c.l.bt, .int .u16 c.l.j.ov, .int .u16 c.l.j.ox, .int .u16 c.l.j.ol, .int .i64 c.l.j.oe, .int .i64 c.l.j.ok, .int .u16 c.l.j.nv, .int .u16 c.l.j.nx, .int .u16 c.l.j.nl, .int .i64 c.l.j.ne, .int .i64 c.l.j.nk, .bool c.l.j.two, .slice p c.l.es.length k]] W fun r w' => r = .returned (.agg #[.int .u16 J.ov, .int .u16 J.ox, .int .u16 J.ol, .int .i64 J.oe, .int .i64 J.ok, .int .u16 J.nv, .int .u16 J.nx, .int .u16 J.nl, .int .i64 J.ne, .int .i64 J.nk, .bool J.two]) ∧ Below W.heap.size W w' from by
    have := rconf_any c.l p k W hF (hE.keep hb (Nat.le_refl _)); rw [hJ] at this; exact this)
  have HW := Lib.hid hW; have HB := Lib.hid hb; have HX := Lib.hid hX
  obtain ⟨X, eX⟩ : ∃ X, w.heap.size = X := ⟨_, rfl⟩
  rw [eX] at HX
  rw [hJ]
  have HEX := Lib.hid eX
  clear hW hb hX hE hR hJ eX hF
  go_enter Tryz.func54, Tryz.ntmps54
  go_upto_region 1 with fail
  rw [HW.out]
  (try rw [HEX.out])
  clear HW
  go_wp2_with fail
  refine HC.out.mono ?_; rintro r w2 ⟨rfl, hb2⟩
  have hX2 := below_block hb2 (block_lt HX.out) HX.out
  have HX2 := Lib.hid hX2
  have HT := Lib.hid (there_of_block (n := 11) (o := 0) hX2 (by decide))
  have HB2 := Lib.hid (HB.out.trans (hb2.mono HB.out.size))
  clear hb2 hX2 HC kR HX
  go_wp2_with (with_reducible refine wpList_store_at (op := ⟨none, .store 27 _ _, _, _, _, _⟩) rfl _ _ _ rfl X 0 11 #[.int .u16 J.ov, .int .u16 J.ox, .int .u16 J.ol, .int .i64 J.oe, .int .i64 J.ok, .int .u16 J.nv, .int .u16 J.nx, .int .u16 J.nl, .int .i64 J.ne, .int .i64 J.nk, .bool J.two] (by kernel_rfl) rfl rfl HT.out (by kernel_rfl) (one_all rfl) ?_)
  have hX3 := setCells_full HX2.out (n := 11) rfl (vs := #[.int .u16 J.ov, .int .u16 J.ox, .int .u16 J.ol, .int .i64 J.oe, .int .i64 J.ok, .int .u16 J.nv, .int .u16 J.nx, .int .u16 J.nl, .int .i64 J.ne, .int .i64 J.nk, .bool J.two]) rfl
  refine bodyPost_ret (v := .agg #[.int .u16 J.ov, .int .u16 J.ox, .int .u16 J.ol, .int .i64 J.oe, .int .i64 J.ok, .int .u16 J.nv, .int .u16 J.nx, .int .u16 J.nl, .int .i64 J.ne, .int .i64 J.nk, .bool J.two]) ?_ rfl ⟨rfl, ?_⟩
  · exact results_cell_row rfl _ _ X _ _ _ _ (by rfl) hX3 Tryz.underlying27 rfl (by kernel_rfl)
  · exact HB2.out.grown (block_setCells _ 0 HX2.out).2 HB2.out.size (fun b e => by simp only [Option.some.injEq] at e; rw [← e, HEX.out]; exact Nat.le_refl _)
set_option maxRecDepth 100000 in
set_option maxHeartbeats 8000000 in
theorem rsend_act (B R : Nat) (c : Co) (p : Option Addr) (k : Nat) (v : Value) (l : List MsX) (to' : Int) (m : Ms) (q : Option Addr) (d : Nat) (w : World) (h : AcW 76 B w R ⟨c, p, k⟩ v l) (hm : MsOwn B w ⟨m, q, d⟩) (hs : ∀ b, MsX.bk ⟨m, q, d⟩ = some b → CoX.bk ⟨c, p, k⟩ ≠ some b) (hl : l.length ≤ 100000) :
    Calls Tryz.prog 49 #[.pointer (some ⟨R, 0, none⟩), .int .i64 to', .agg #[.int .i64 m.k, .int .i64 m.fr, .int .i64 m.dst, .int .i64 m.tm, .int .i64 m.ix, .int .i64 m.lt, .int .i64 m.cm, .int .i64 m.sf, .bool m.yes, .slice q m.es.length d, .string m.sn, .int .u16 m.cf.ov, .int .u16 m.cf.ox, .int .u16 m.cf.ol, .int .i64 m.cf.oe, .int .i64 m.cf.ok, .int .u16 m.cf.nv, .int .u16 m.cf.nx, .int .u16 m.cf.nl, .int .i64 m.cf.ne, .int .i64 m.cf.nk, .bool m.cf.two]] w fun e w' => e = .returned (.tuple #[]) ∧ ∃ v', AcW 76 B w' R ⟨c, p, k⟩ v' (l ++ [⟨putM c to' m, q, d⟩]) ∧ AcR w w' R v v' := by
  obtain ⟨i0, hi0, hz0, hz1, hz2⟩ := info_parts Tryz.infoMs
  obtain ⟨W, hW⟩ : ∃ z : World, w.alloc (.cells #[.int .i64 m.k, .int .i64 m.fr, .int .i64 m.dst, .int .i64 m.tm, .int .i64 m.ix, .int .i64 m.lt, .int .i64 m.cm, .int .i64 m.sf, .bool m.yes, .slice q m.es.length d, .string m.sn, .int .u16 m.cf.ov, .int .u16 m.cf.ox, .int .u16 m.cf.ol, .int .i64 m.cf.oe, .int .i64 m.cf.ok, .int .u16 m.cf.nv, .int .u16 m.cf.nx, .int .u16 m.cf.nl, .int .i64 m.cf.ne, .int .i64 m.cf.nk, .bool m.cf.two] 39) = z := ⟨_, rfl⟩
  have hb : Below w.heap.size w W := by rw [← hW]; exact (Below.refl _ _).alloc (Nat.le_refl _) _
  have hX : W.heap[w.heap.size]? = some (.cells #[.int .i64 m.k, .int .i64 m.fr, .int .i64 m.dst, .int .i64 m.tm, .int .i64 m.ix, .int .i64 m.lt, .int .i64 m.cm, .int .i64 m.sf, .bool m.yes, .slice q m.es.length d, .string m.sn, .int .u16 m.cf.ov, .int .u16 m.cf.ox, .int .u16 m.cf.ol, .int .i64 m.cf.oe, .int .i64 m.cf.ok, .int .u16 m.cf.nv, .int .u16 m.cf.nx, .int .u16 m.cf.nl, .int .i64 m.cf.ne, .int .i64 m.cf.nk, .bool m.cf.two] 39 (0, 0)) := by rw [← hW]; exact heap_last w _
  have HA := Lib.hid (h.keep hb)
  have HM := Lib.hid (own_keptC hm hb)
  have hRX : R < w.heap.size := h.lt
  have HVX := Lib.hid (show v.ownBlock ≠ some w.heap.size from fun e => by have := (h.vge _ e).2; omega)
  have hR : W.heap[R]? = some (.cells #[.int .i64 c.id, .int .i64 c.role, .int .i64 c.tm, .int .i64 c.vt, .int .i64 c.ld, .int .i64 c.wt, .int .i64 c.cm, .int .i64 c.sf, .int .i64 c.l.b, .int .i64 c.l.bt, .int .u16 c.l.j.ov, .int .u16 c.l.j.ox, .int .u16 c.l.j.ol, .int .i64 c.l.j.oe, .int .i64 c.l.j.ok, .int .u16 c.l.j.nv, .int .u16 c.l.j.nx, .int .u16 c.l.j.nl, .int .i64 c.l.j.ne, .int .i64 c.l.j.nk, .bool c.l.j.two, .slice p c.l.es.length k, .string c.sn, .int .u16 c.vs, .int .u16 c.hd, .int .i64 (c.nx 0), .int .i64 (c.nx 1), .int .i64 (c.nx 2), .int .i64 (c.nx 3), .int .i64 (c.nx 4), .int .i64 (c.nx 5), .int .i64 (c.nx 6), .int .i64 (c.nx 7), .int .i64 (c.nx 8), .int .i64 (c.nx 9), .int .i64 (c.mt 0), .int .i64 (c.mt 1), .int .i64 (c.mt 2), .int .i64 (c.mt 3), .int .i64 (c.mt 4), .int .i64 (c.mt 5), .int .i64 (c.mt 6), .int .i64 (c.mt 7), .int .i64 (c.mt 8), .int .i64 (c.mt 9), v] 76 (0, 0)) := HA.out.blk
  have HR := Lib.hid hR; have HX := Lib.hid hX; have HW := Lib.hid hW; have HB := Lib.hid (AcR.below (R := R) (v := v) hb); have HS := Lib.hid hs
  obtain ⟨X, eX⟩ : ∃ X, w.heap.size = X := ⟨_, rfl⟩
  rw [eX] at HX HVX hRX
  have HEX := Lib.hid eX
  have kR := block_cells hR
  have kX := block_cells HX.out
  have fX := block_free HX.out
  have hne : ¬ R = X := by omega
  have hne2 : ¬ X = R := by omega
  clear h hm hs hW hb hX hR eX
  go_enter Tryz.func49, Tryz.ntmps49
  go_upto_region 1 with fail
  rw [HW.out]
  (try rw [HEX.out])
  clear HW
  apply cut2W
  · intro hcut
    go_region_law (fail)
    all_goals exact hcut
  obtain ⟨W2, hW2⟩ : ∃ z : World, (((W.setCell ⟨X, 1, none⟩ (.int .i64 c.id)).setCell ⟨X, 2, none⟩ (.int .i64 to')).setCell ⟨X, 3, none⟩ (.int .i64 c.tm)).drew = z := ⟨_, rfl⟩
  have hXd : W.heap[X]? = some (.cells #[.int .i64 m.k, .int .i64 m.fr, .int .i64 m.dst, .int .i64 m.tm, .int .i64 m.ix, .int .i64 m.lt, .int .i64 m.cm, .int .i64 m.sf, .bool m.yes, .slice q m.es.length d, .string m.sn, .int .u16 m.cf.ov, .int .u16 m.cf.ox, .int .u16 m.cf.ol, .int .i64 m.cf.oe, .int .i64 m.cf.ok, .int .u16 m.cf.nv, .int .u16 m.cf.nx, .int .u16 m.cf.nl, .int .i64 m.cf.ne, .int .i64 m.cf.nk, .bool m.cf.two] 39 (0, 0)) := HX.out
  have hX2 : W2.heap[X]? = some (.cells (msC (putM c to' m) q d).toArray 39 (0, 0)) := by
    rw [← hW2]; exact cells_setW (cells_setW (cells_setW hXd 1 _) 2 _) 3 _
  have hg2 : W.grownBy W2 (some X) := by
    rw [← hW2]; exact grown_drewW (grown_transW (grown_transW (grown_setW _ X 1 _) (grown_setW _ X 2 _)) (grown_setW _ X 3 _))
  have HA2 := Lib.hid (HA.out.other hXd (by decide) hne2 HVX.out hg2)
  have HM2 := Lib.hid (MsOwn.other HM.out hXd (by decide) hg2)
  have HBR := Lib.hid (AcR.upto HB.out (Below.refl W.heap.size W) hg2 HEX.out)
  rw [hW2]
  clear hW2 hXd hg2 HA HM HR HX HB kR kX fX
  go_upto_region 2 with fail
  have hR2 : W2.drew.heap[R]? = some (.cells #[.int .i64 c.id, .int .i64 c.role, .int .i64 c.tm, .int .i64 c.vt, .int .i64 c.ld, .int .i64 c.wt, .int .i64 c.cm, .int .i64 c.sf, .int .i64 c.l.b, .int .i64 c.l.bt, .int .u16 c.l.j.ov, .int .u16 c.l.j.ox, .int .u16 c.l.j.ol, .int .i64 c.l.j.oe, .int .i64 c.l.j.ok, .int .u16 c.l.j.nv, .int .u16 c.l.j.nx, .int .u16 c.l.j.nl, .int .i64 c.l.j.ne, .int .i64 c.l.j.nk, .bool c.l.j.two, .slice p c.l.es.length k, .string c.sn, .int .u16 c.vs, .int .u16 c.hd, .int .i64 (c.nx 0), .int .i64 (c.nx 1), .int .i64 (c.nx 2), .int .i64 (c.nx 3), .int .i64 (c.nx 4), .int .i64 (c.nx 5), .int .i64 (c.nx 6), .int .i64 (c.nx 7), .int .i64 (c.nx 8), .int .i64 (c.nx 9), .int .i64 (c.mt 0), .int .i64 (c.mt 1), .int .i64 (c.mt 2), .int .i64 (c.mt 3), .int .i64 (c.mt 4), .int .i64 (c.mt 5), .int .i64 (c.mt 6), .int .i64 (c.mt 7), .int .i64 (c.mt 8), .int .i64 (c.mt 9), v] 76 (0, 0)) := HA2.out.blk
  have h0 : SndS R X #[.int .i64 c.id, .int .i64 c.role, .int .i64 c.tm, .int .i64 c.vt, .int .i64 c.ld, .int .i64 c.wt, .int .i64 c.cm, .int .i64 c.sf, .int .i64 c.l.b, .int .i64 c.l.bt, .int .u16 c.l.j.ov, .int .u16 c.l.j.ox, .int .u16 c.l.j.ol, .int .i64 c.l.j.oe, .int .i64 c.l.j.ok, .int .u16 c.l.j.nv, .int .u16 c.l.j.nx, .int .u16 c.l.j.nl, .int .i64 c.l.j.ne, .int .i64 c.l.j.nk, .bool c.l.j.two, .slice p c.l.es.length k, .string c.sn, .int .u16 c.vs, .int .u16 c.hd, .int .i64 (c.nx 0), .int .i64 (c.nx 1), .int .i64 (c.nx 2), .int .i64 (c.nx 3), .int .i64 (c.nx 4), .int .i64 (c.nx 5), .int .i64 (c.nx 6), .int .i64 (c.nx 7), .int .i64 (c.nx 8), .int .i64 (c.nx 9), .int .i64 (c.mt 0), .int .i64 (c.mt 1), .int .i64 (c.mt 2), .int .i64 (c.mt 3), .int .i64 (c.mt 4), .int .i64 (c.mt 5), .int .i64 (c.mt 6), .int .i64 (c.mt 7), .int .i64 (c.mt 8), .int .i64 (c.mt 9), v] (msC (putM c to' m) q d).toArray W2.drew := SndS.of hR2 hX2
  refine wp_region_held_drew (S := SndS R X #[.int .i64 c.id, .int .i64 c.role, .int .i64 c.tm, .int .i64 c.vt, .int .i64 c.ld, .int .i64 c.wt, .int .i64 c.cm, .int .i64 c.sf, .int .i64 c.l.b, .int .i64 c.l.bt, .int .u16 c.l.j.ov, .int .u16 c.l.j.ox, .int .u16 c.l.j.ol, .int .i64 c.l.j.oe, .int .i64 c.l.j.ok, .int .u16 c.l.j.nv, .int .u16 c.l.j.nx, .int .u16 c.l.j.nl, .int .i64 c.l.j.ne, .int .i64 c.l.j.nk, .bool c.l.j.two, .slice p c.l.es.length k, .string c.sn, .int .u16 c.vs, .int .u16 c.hd, .int .i64 (c.nx 0), .int .i64 (c.nx 1), .int .i64 (c.nx 2), .int .i64 (c.nx 3), .int .i64 (c.nx 4), .int .i64 (c.nx 5), .int .i64 (c.nx 6), .int .i64 (c.nx 7), .int .i64 (c.nx 8), .int .i64 (c.nx 9), .int .i64 (c.mt 0), .int .i64 (c.mt 1), .int .i64 (c.mt 2), .int .i64 (c.mt 3), .int .i64 (c.mt 4), .int .i64 (c.mt 5), .int .i64 (c.mt 6), .int .i64 (c.mt 7), .int .i64 (c.mt 8), .int .i64 (c.mt 9), v] (msC (putM c to' m) q d).toArray) (by kernel_rfl) h0 (fun hHeld => ?_)
  have HA3 := Lib.hid (HA2.out.keep (Below.refl _ _).drew); have HM3 := Lib.hid (own_keptC HM2.out (Below.refl _ _).drew)
  have HX3 : Hid (W2.drew.heap[X]? = some (.cells (msC (putM c to' m) q d).toArray 39 (0, 0))) := hX2
  have HBR3 := Lib.hid (HBR.out.drew)
  obtain ⟨wd, ewd⟩ : ∃ x, W2.drew = x := ⟨_, rfl⟩
  rw [ewd] at h0 hHeld HA3 HM3 HX3 HBR3 ⊢
  clear ewd hR2 HA2 HM2 HBR hX2
  have kE : wd.cell? ⟨R, 45, none⟩ = some v := block_cells HA3.out.blk 45
  refine tkL 0 rfl hHeld ?_
  try simp only [zA, zC, Act.put, zD, zE, zF]
  refine tkL 1 rfl hHeld ?_
  try simp only [zA, zB, zC, Act.put, zD, zE, zF]
  refine tkL 2 rfl hHeld ?_
  try simp only [zA, zB, zC, Act.put, zD, zE, zF]
  refine tkL 3 rfl hHeld ?_
  try simp only [zA, zB, zC, Act.put, zD, zE, zF]
  refine tkH (i := 5) (v := .agg (msC (putM c to' m) q d).toArray) rfl (yieldsIf_load_mid (by rfl) _ _ rfl X 0 rfl (msC (putM c to' m) q d) _ (fun w' h => range_of (n := 22) rfl (fun j _ => by rw [Nat.zero_add, h.x, List.getElem?_toArray])) Tryz.underlying39 rfl (by kernel_rfl)) hHeld ?_
  try simp only [zA, zB, zC, Act.put, zD, zE, zF]
  have hYb : (wd.alloc (.cells (msC (putM c to' m) q d).toArray 39)).heap[R]? = some (.cells #[.int .i64 c.id, .int .i64 c.role, .int .i64 c.tm, .int .i64 c.vt, .int .i64 c.ld, .int .i64 c.wt, .int .i64 c.cm, .int .i64 c.sf, .int .i64 c.l.b, .int .i64 c.l.bt, .int .u16 c.l.j.ov, .int .u16 c.l.j.ox, .int .u16 c.l.j.ol, .int .i64 c.l.j.oe, .int .i64 c.l.j.ok, .int .u16 c.l.j.nv, .int .u16 c.l.j.nx, .int .u16 c.l.j.nl, .int .i64 c.l.j.ne, .int .i64 c.l.j.nk, .bool c.l.j.two, .slice p c.l.es.length k, .string c.sn, .int .u16 c.vs, .int .u16 c.hd, .int .i64 (c.nx 0), .int .i64 (c.nx 1), .int .i64 (c.nx 2), .int .i64 (c.nx 3), .int .i64 (c.nx 4), .int .i64 (c.nx 5), .int .i64 (c.nx 6), .int .i64 (c.nx 7), .int .i64 (c.nx 8), .int .i64 (c.nx 9), .int .i64 (c.mt 0), .int .i64 (c.mt 1), .int .i64 (c.mt 2), .int .i64 (c.mt 3), .int .i64 (c.mt 4), .int .i64 (c.mt 5), .int .i64 (c.mt 6), .int .i64 (c.mt 7), .int .i64 (c.mt 8), .int .i64 (c.mt 9), v] 76 (0, 0)) := heap_prev _ HA3.out.blk
  have SB : SndS R X #[.int .i64 c.id, .int .i64 c.role, .int .i64 c.tm, .int .i64 c.vt, .int .i64 c.ld, .int .i64 c.wt, .int .i64 c.cm, .int .i64 c.sf, .int .i64 c.l.b, .int .i64 c.l.bt, .int .u16 c.l.j.ov, .int .u16 c.l.j.ox, .int .u16 c.l.j.ol, .int .i64 c.l.j.oe, .int .i64 c.l.j.ok, .int .u16 c.l.j.nv, .int .u16 c.l.j.nx, .int .u16 c.l.j.nl, .int .i64 c.l.j.ne, .int .i64 c.l.j.nk, .bool c.l.j.two, .slice p c.l.es.length k, .string c.sn, .int .u16 c.vs, .int .u16 c.hd, .int .i64 (c.nx 0), .int .i64 (c.nx 1), .int .i64 (c.nx 2), .int .i64 (c.nx 3), .int .i64 (c.nx 4), .int .i64 (c.nx 5), .int .i64 (c.nx 6), .int .i64 (c.nx 7), .int .i64 (c.nx 8), .int .i64 (c.nx 9), .int .i64 (c.mt 0), .int .i64 (c.mt 1), .int .i64 (c.mt 2), .int .i64 (c.mt 3), .int .i64 (c.mt 4), .int .i64 (c.mt 5), .int .i64 (c.mt 6), .int .i64 (c.mt 7), .int .i64 (c.mt 8), .int .i64 (c.mt 9), v] (msC (putM c to' m) q d).toArray (wd.alloc (.cells (msC (putM c to' m) q d).toArray 39)) := SndS.of hYb (heap_prev _ HX3.out)
  have kE2 : (wd.alloc (.cells (msC (putM c to' m) q d).toArray 39)).cell? ⟨R, 45, none⟩ = some v := block_cells hYb 45
  clear hYb
  apply cut2W
  · intro hcut
    refine wpAnyH_ready (rs := [4, 6]) (by kernel_rfl) (by simp) ?_
    refine AllReadyH.cons rfl (fun K hK => ?_) (AllReadyH.cons rfl (fun K hK => ?_) AllReadyH.nil)
    · try simp only [zA, zB, zC]
      go_simp
      refine hK.out _ _ hHeld (fun _ => ?_)
      clear hK K
      try simp only [zA, zB, zC, Act.put, zD, zE, zF]
      refine wpAnyH_ready (rs := [6]) (by kernel_rfl) (by simp) ?_; refine AllReadyH.cons rfl (fun K hK => ?_) AllReadyH.nil
      rw [if_pos (by rfl)]
      refine wp_slice_one _ 39 _ rfl (msC (putM c to' m) q d) 22 i0 (.agg #[.int .i64 0, .int .i64 0, .int .i64 0, .int .i64 0, .int .i64 0, .int .i64 0, .int .i64 0, .int .i64 0, .bool false, .slice none 0 0, .string ⟨#[]⟩, .int .u16 0, .int .u16 0, .int .u16 0, .int .i64 0, .int .i64 0, .int .u16 0, .int .u16 0, .int .u16 0, .int .i64 0, .int .i64 0, .bool false]) (by rfl) rfl (by decide) (by decide) Tryz.underlying34 hi0 hz0 hz1 ?_
      refine hK.out _ _ SB (fun _ => ?_)
      clear hK K
      try simp only [zA, zB, zC, Act.put, zD, zE, zF]
      exact hcut
    · rw [if_pos (by rfl)]
      refine wp_slice_one _ 39 _ rfl (msC (putM c to' m) q d) 22 i0 (.agg #[.int .i64 0, .int .i64 0, .int .i64 0, .int .i64 0, .int .i64 0, .int .i64 0, .int .i64 0, .int .i64 0, .bool false, .slice none 0 0, .string ⟨#[]⟩, .int .u16 0, .int .u16 0, .int .u16 0, .int .i64 0, .int .i64 0, .int .u16 0, .int .u16 0, .int .u16 0, .int .i64 0, .int .i64 0, .bool false]) (by rfl) rfl (by decide) (by decide) Tryz.underlying34 hi0 hz0 hz1 ?_
      refine hK.out _ _ SB (fun _ => ?_)
      clear hK K
      try simp only [zA, zB, zC, Act.put, zD, zE, zF]
      refine wpAnyH_ready (rs := [4]) (by kernel_rfl) (by simp) ?_; refine AllReadyH.cons rfl (fun K hK => ?_) AllReadyH.nil
      try simp only [zA, zB, zC]
      go_simp
      refine hK.out _ _ SB (fun _ => ?_)
      clear hK K
      try simp only [zA, zB, zC, Act.put, zD, zE, zF]
      exact hcut
  obtain ⟨wb, hwb⟩ : ∃ z : World, wd.alloc (.cells (msC (putM c to' m) q d).toArray 39) = z := ⟨_, rfl⟩
  have bb : Below wd.heap.size wd wb := by rw [← hwb]; exact (Below.refl _ _).alloc (Nat.le_refl _) _
  have hY : wb.heap[wd.heap.size]? = some (.cells (msC (putM c to' m) q d).toArray 39 (0, 0)) := by rw [← hwb]; exact heap_last wd _
  rw [hwb]
  have hA4 := HA3.out.keep bb
  have hM4 : MsOwn B wb ⟨m, q, d⟩ := own_keptC HM3.out bb
  have hX4 := below_block bb (block_lt HX3.out) HX3.out
  have hB4 := HBR3.out.trans (AcR.below bb)
  clear hwb bb SB kE kE2 hHeld h0 HA3 HM3 HX3 HBR3
  refine wpAnyH_ready (rs := [7]) (by kernel_rfl) (by simp) ?_; refine AllReadyH.cons rfl (fun K hK => ?_) AllReadyH.nil
  rw [if_pos (by rfl)]
  refine wp_append_any _ _ 34 (by rfl) B 39 i0 (.agg #[.int .i64 0, .int .i64 0, .int .i64 0, .int .i64 0, .int .i64 0, .int .i64 0, .int .i64 0, .int .i64 0, .bool false, .slice none 0 0, .string ⟨#[]⟩, .int .u16 0, .int .u16 0, .int .u16 0, .int .i64 0, .int .i64 0, .int .u16 0, .int .u16 0, .int .u16 0, .int .i64 0, .int .i64 0, .bool false]) 22 168 Tryz.underlying34 hi0 hz0 hz1 hz2 rfl (by decide) v l.length (msRow l) (by rfl) hA4.out.own (wd.heap.size + 1) (.slice (some ⟨wd.heap.size, 0, none⟩) 1 1) 1 (msC (putM c to' m) q d) (by rfl) (sl_rowsA hY _ rfl) (ms_oneA _ _ _) (by unfold maxLen; omega) (by omega) (by have := hA4.le; have := hA4.lt; omega) ?_
  intro v4 w4 h2 h3 h4
  obtain ⟨p4, c4, rfl⟩ := own_formH h2
  have hvX : v.ownBlock ≠ some X := HVX.out
  have hR5 : w4.heap[R]? = some (.cells #[.int .i64 c.id, .int .i64 c.role, .int .i64 c.tm, .int .i64 c.vt, .int .i64 c.ld, .int .i64 c.wt, .int .i64 c.cm, .int .i64 c.sf, .int .i64 c.l.b, .int .i64 c.l.bt, .int .u16 c.l.j.ov, .int .u16 c.l.j.ox, .int .u16 c.l.j.ol, .int .i64 c.l.j.oe, .int .i64 c.l.j.ok, .int .u16 c.l.j.nv, .int .u16 c.l.j.nx, .int .u16 c.l.j.nl, .int .i64 c.l.j.ne, .int .i64 c.l.j.nk, .bool c.l.j.two, .slice p c.l.es.length k, .string c.sn, .int .u16 c.vs, .int .u16 c.hd, .int .i64 (c.nx 0), .int .i64 (c.nx 1), .int .i64 (c.nx 2), .int .i64 (c.nx 3), .int .i64 (c.nx 4), .int .i64 (c.nx 5), .int .i64 (c.nx 6), .int .i64 (c.nx 7), .int .i64 (c.nx 8), .int .i64 (c.nx 9), .int .i64 (c.mt 0), .int .i64 (c.mt 1), .int .i64 (c.mt 2), .int .i64 (c.mt 3), .int .i64 (c.mt 4), .int .i64 (c.mt 5), .int .i64 (c.mt 6), .int .i64 (c.mt 7), .int .i64 (c.mt 8), .int .i64 (c.mt 9), v] 76 (0, 0)) := (h3.block R hA4.lt (fun e => hA4.vR e.symm)).trans hA4.blk
  have hX5 := (h3.block X (block_lt hX4) (fun e => hvX e.symm)).trans hX4
  have hen : CoOwn B w4 ⟨c, p, k⟩ := hA4.en.kept h3 (own_apartH hA4.en hA4.out.own (by decide))
  have hms : MsAt B w4 (.slice p4 (l.length + 1) c4) (l ++ [⟨putM c to' m, q, d⟩]) := ⟨by rw [List.length_append, msRow_app]; exact h2, fun y hy => by
    rcases List.mem_append.1 hy with hy | hy
    · exact (hA4.out.en y hy).kept h3 (own_apartH (hA4.out.en y hy) hA4.out.own (by decide))
    · rw [List.mem_singleton] at hy; rw [hy]; exact hM4.kept h3 (own_apartH hM4 hA4.out.own (by decide))⟩
  have hsp : ∀ y ∈ l ++ [(⟨putM c to' m, q, d⟩ : MsX)], ∀ b, y.bk = some b → CoX.bk ⟨c, p, k⟩ ≠ some b := fun y hy b hb => by
    rcases List.mem_append.1 hy with hy | hy
    · exact hA4.sep y hy b hb
    · rw [List.mem_singleton] at hy; rw [hy] at hb; exact HS.out b hb
  have hfin := AcW.outs (x := ⟨c, p, k⟩) hR5 hA4.le hA4.ne hen hms hsp
  have hbr := (hB4.trans (AcR.row h3 (by
    rcases h4 with e | e
    · exact .inl e
    · exact .inr ⟨_, e, Nat.le_refl _⟩))).trans (AcR.grown (v := .slice p4 (l.length + 1) c4) hfin.2)
  have HF := Lib.hid (And.intro hfin.1 hbr)
  have S5 : SndS R X #[.int .i64 c.id, .int .i64 c.role, .int .i64 c.tm, .int .i64 c.vt, .int .i64 c.ld, .int .i64 c.wt, .int .i64 c.cm, .int .i64 c.sf, .int .i64 c.l.b, .int .i64 c.l.bt, .int .u16 c.l.j.ov, .int .u16 c.l.j.ox, .int .u16 c.l.j.ol, .int .i64 c.l.j.oe, .int .i64 c.l.j.ok, .int .u16 c.l.j.nv, .int .u16 c.l.j.nx, .int .u16 c.l.j.nl, .int .i64 c.l.j.ne, .int .i64 c.l.j.nk, .bool c.l.j.two, .slice p c.l.es.length k, .string c.sn, .int .u16 c.vs, .int .u16 c.hd, .int .i64 (c.nx 0), .int .i64 (c.nx 1), .int .i64 (c.nx 2), .int .i64 (c.nx 3), .int .i64 (c.nx 4), .int .i64 (c.nx 5), .int .i64 (c.nx 6), .int .i64 (c.nx 7), .int .i64 (c.nx 8), .int .i64 (c.nx 9), .int .i64 (c.mt 0), .int .i64 (c.mt 1), .int .i64 (c.mt 2), .int .i64 (c.mt 3), .int .i64 (c.mt 4), .int .i64 (c.mt 5), .int .i64 (c.mt 6), .int .i64 (c.mt 7), .int .i64 (c.mt 8), .int .i64 (c.mt 9), v] (msC (putM c to' m) q d).toArray w4 := SndS.of hR5 hX5
  have S6 : SndS R X #[.int .i64 c.id, .int .i64 c.role, .int .i64 c.tm, .int .i64 c.vt, .int .i64 c.ld, .int .i64 c.wt, .int .i64 c.cm, .int .i64 c.sf, .int .i64 c.l.b, .int .i64 c.l.bt, .int .u16 c.l.j.ov, .int .u16 c.l.j.ox, .int .u16 c.l.j.ol, .int .i64 c.l.j.oe, .int .i64 c.l.j.ok, .int .u16 c.l.j.nv, .int .u16 c.l.j.nx, .int .u16 c.l.j.nl, .int .i64 c.l.j.ne, .int .i64 c.l.j.nk, .bool c.l.j.two, .slice p c.l.es.length k, .string c.sn, .int .u16 c.vs, .int .u16 c.hd, .int .i64 (c.nx 0), .int .i64 (c.nx 1), .int .i64 (c.nx 2), .int .i64 (c.nx 3), .int .i64 (c.nx 4), .int .i64 (c.nx 5), .int .i64 (c.nx 6), .int .i64 (c.nx 7), .int .i64 (c.nx 8), .int .i64 (c.nx 9), .int .i64 (c.mt 0), .int .i64 (c.mt 1), .int .i64 (c.mt 2), .int .i64 (c.mt 3), .int .i64 (c.mt 4), .int .i64 (c.mt 5), .int .i64 (c.mt 6), .int .i64 (c.mt 7), .int .i64 (c.mt 8), .int .i64 (c.mt 9), v] (msC (putM c to' m) q d).toArray (w4.setCell ⟨R, 45, none⟩ (.slice p4 (l.length + 1) c4)) := SndS.outs (v := v) hfin.1 ((hfin.2.block X (block_lt hX5) (fun e => hne2 (by simpa using e))).trans hX5)
  refine hK.out _ _ S5 (fun _ => ?_)
  have kE : w4.cell? ⟨R, 45, none⟩ = some v := block_cells hR5 45
  have fE : w4.frozen? ⟨R, 45, none⟩ = false := block_free hR5 45
  clear hK K h2 h3 h4 hen hms hsp hfin hbr hR5 hX5 hA4 hM4 hX4 hB4 hY
  try simp only [zA, zB, zC, Act.put, zD, zE, zF]
  have hHeld := S5
  refine tkL 8 rfl hHeld ?_
  try simp only [zA, zB, zC, Act.put, zD, zE, zF]
  refine tkL 9 rfl hHeld ?_
  try simp only [zA, zB, zC, Act.put, zD, zE, zF]
  refine wpAnyH_ready (rs := [10]) (by kernel_rfl) (by simp) ?_; refine AllReadyH.cons rfl (fun K hK => ?_) AllReadyH.nil
  try simp only [zA, zB, zC]
  go_simp
  refine hK.out _ _ S6 (fun _ => ?_)
  clear hK K hHeld S5 S6 kE fE
  try simp only [zA, zB, zC, Act.put, zD, zE, zF]
  refine wpAnyH_done (by kernel_rfl) ?_ _
  go_wp2_with fail
  go_end0
  exact ⟨rfl, _, HF.out.1, HF.out.2⟩
end Go.Proofs.YtbnndbdnejfehaaGreatDoor
