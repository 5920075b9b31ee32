import Derived.Test.YtbnndbdnejfehaaGreatDoorHardA
import Derived.Test.YtbnndbdnejfehaaGreatDoorLogU
import Derived.Test.YtbnndbdnejfehaaGreatDoorLogP
import Derived.Test.YtbnndbdnejfehaaGreatDoorLogV
import Derived.Test.YtbnndbdnejfehaaGreatDoorLogG
import Derived.Test.YtbnndbdnejfehaaGreatDoorActAd
import Derived.Test.YtbnndbdnejfehaaGreatDoorLogZa
import Derived.Test.YtbnndbdnejfehaaGreatDoorPlainHard
/- Hard: what a record says to a core: letters H and X, and none. -/
namespace Go.Proofs.YtbnndbdnejfehaaGreatDoor
open Go.ChangeShapes Go.WideShapes Go.ChangeAt Go.RowKit

/-- Two cells of a core are stored. -/
theorem CsAt.put2 {base : Nat} {w : World} {g cap : Nat} {l : List CoX} (h : CsAt base w (.slice (some ⟨g, 0, none⟩) l.length cap) l) {n : Nat} (hn : n < l.length) (i j : Nat) (hi : i < 45) (hj : j < 45) (y z : CoX) (u v : Value) (hy : y.v = l[n].v.set i u) (hz : z.v = y.v.set j v) (ey : CoOwn base w y) (ez : CoOwn base (w.setCell ⟨g, n * 45 + i, none⟩ u) z) :
    CsAt base ((w.setCell ⟨g, n * 45 + i, none⟩ u).setCell ⟨g, n * 45 + j, none⟩ v) (.slice (some ⟨g, 0, none⟩) (l.set n z).length cap) (l.set n z) ∧ Below base w ((w.setCell ⟨g, n * 45 + i, none⟩ u).setCell ⟨g, n * 45 + j, none⟩ v) := by
  obtain ⟨h1, b1⟩ := h.put hn i hi y u hy ey
  have hn2 : n < (l.set n y).length := by simpa using hn
  obtain ⟨h2, b2⟩ := h1.put hn2 j hj z v (by rw [hz]; simp) ez
  rw [List.set_set] at h2
  exact ⟨h2, b1.trans (b2.mono (Nat.le_refl _))⟩
end Go.Proofs.YtbnndbdnejfehaaGreatDoor
/- Hard: what a record says to a core: letter S. -/
namespace Go.Proofs.YtbnndbdnejfehaaGreatDoor
open Go.ChangeShapes Go.WideShapes Go.ChangeAt Go.RowKit

end Go.Proofs.YtbnndbdnejfehaaGreatDoor
/- Hard: what a record says to a core: letter E. -/
namespace Go.Proofs.YtbnndbdnejfehaaGreatDoor
open Go.ChangeShapes Go.WideShapes Go.ChangeAt Go.RowKit

/-- In the midst of an entry's record: the cores, the entry's block. -/
structure TrE (B G cap X : Nat) (l : List CoX) (ev : Array Value) (w0 w : World) : Prop where
  b : Below B w0 w
  l : CsAt B w (.slice (some ⟨G, 0, none⟩) l.length cap) l
  x : w.heap[X]? = some (.cells ev 47 (0, 0))
theorem TrE.keep {B G cap X : Nat} {l : List CoX} {ev : Array Value} {w0 w w' : World} (h : TrE B G cap X l ev w0 w) (hb : Below w.heap.size w w') : TrE B G cap X l ev w0 w' :=
  ⟨h.b.trans (hb.mono (Nat.le_of_lt (Nat.lt_of_le_of_lt h.l.lt.1 h.l.lt.2))), h.l.keep hb, below_block hb (block_lt h.x) h.x⟩
def SE (G n X : Nat) (b : Int) (ev : Array Value) (w : World) : Prop := w.cell? ⟨G, n * 45 + 8, none⟩ = some (.int .i64 b) ∧ ∀ j, w.cell? ⟨X, j, none⟩ = ev[j]?
theorem TrE.s {B G cap X n : Nat} {l : List CoX} {ev : Array Value} {w0 w : World} {x : CoX} (h : TrE B G cap X l ev w0 w) (hn : n < l.length) (hx : l[n] = x) : SE G n X x.c.l.b ev w :=
  ⟨by rw [h.l.cell hn 8 (by decide), hx]; rfl, block_cells h.x⟩
theorem TrE.sp {B G cap X n : Nat} {l : List CoX} {ev : Array Value} {w0 w : World} {x : CoX} (h : TrE B G cap X l ev w0 w) (hn : n < l.length) (hx : l[n] = x) (u : Value) : SE G n X x.c.l.b ev (w.setCell ⟨G, n * 45 + 21, none⟩ u) := by
  have hX : X ≠ G := fun e => by
    obtain ⟨cur, hq⟩ := h.l.block
    have := h.x
    rw [e, hq] at this
    simp only [Option.some.injEq, Obj.cells.injEq] at this
    exact absurd this.2.1 (by decide)
  refine ⟨?_, ?_⟩
  · rw [World.cell?_setCell_other _ _ _ _ (by intro e; simp at e)]; exact (h.s hn hx).1
  · exact block_cells ((Below.heap_setCell _ _ _ _ (by show X ≠ G; exact hX)).trans h.x)
structure TrO (B X : Nat) (l : List CoX) (w : World) (v : Value) (L : List Ent) : Prop where
  own : w.ownsRow B 47 14 v L.length (entRow L)
  gt : ∀ b, v.ownBlock = some b → X < b
  ap : ∀ y ∈ l, (Value.slice y.p y.c.l.es.length y.k).ownBlock = none ∨ (Value.slice y.p y.c.l.es.length y.k).ownBlock ≠ v.ownBlock
theorem TrO.keep {B X : Nat} {l : List CoX} {w w' : World} {v : Value} {L : List Ent} (h : TrO B X l w v L) (hb : Below w.heap.size w w') : TrO B X l w' v L := ⟨own_keptC h.own hb, h.gt, h.ap⟩
theorem TrE.new {B G cap X : Nat} {l : List CoX} {ev : Array Value} {w0 w w' : World} {v : Value} {L : List Ent} (h : TrE B G cap X l ev w0 w) (ho : w'.ownsRow w.heap.size 47 14 v L.length (entRow L)) (_hb : Below w.heap.size w w') : TrO B X l w' v L :=
  ⟨ho.mono (Nat.le_of_lt (Nat.lt_of_le_of_lt h.l.lt.1 h.l.lt.2)), fun b hbb => Nat.lt_of_lt_of_le (block_lt h.x) (ho.lt b hbb).1, fun y hy => by
    cases e : (Value.slice y.p y.c.l.es.length y.k).ownBlock with
    | none => exact .inl rfl
    | some b => exact .inr fun h2 => by have := ((h.l.en y hy).lt b e).2; have := (ho.lt b h2.symm).1; omega⟩
end Go.Proofs.YtbnndbdnejfehaaGreatDoor
/- Hard: what a record says to a core: letter E, with a joint. -/
namespace Go.Proofs.YtbnndbdnejfehaaGreatDoor
open Go.ChangeShapes Go.WideShapes Go.ChangeAt Go.RowKit

end Go.Proofs.YtbnndbdnejfehaaGreatDoor
/- Hard: what a record says to a core; a new core; lists of joints and of records. -/
namespace Go.Proofs.YtbnndbdnejfehaaGreatDoor
open Go.ChangeShapes Go.WideShapes Go.ChangeAt Go.RowKit

set_option maxRecDepth 100000 in
set_option maxHeartbeats 4000000 in
theorem hcnew_any (id : Int) (j : Jn) (w : World) :
    Calls Tryz.prog 29 #[.int .i64 id, .agg #[.int .u16 j.ov, .int .u16 j.ox, .int .u16 j.ol, .int .i64 j.oe, .int .i64 j.ok, .int .u16 j.nv, .int .u16 j.nx, .int .u16 j.nl, .int .i64 j.ne, .int .i64 j.nk, .bool j.two]] w fun e w' => e = .returned (.agg (coL (newCo id j) none 0).toArray) ∧ Below w.heap.size w w' := by
  obtain ⟨W, hW⟩ : ∃ z : World, w.alloc (.cells #[.int .u16 j.ov, .int .u16 j.ox, .int .u16 j.ol, .int .i64 j.oe, .int .i64 j.ok, .int .u16 j.nv, .int .u16 j.nx, .int .u16 j.nl, .int .i64 j.ne, .int .i64 j.nk, .bool j.two] 27) = z := ⟨_, rfl⟩
  have hb : Below w.heap.size w W := by rw [← hW]; exact (Below.refl _ _).alloc (Nat.le_refl _) _
  have hq : W.heap[w.heap.size]? = some (.cells #[.int .u16 j.ov, .int .u16 j.ox, .int .u16 j.ol, .int .i64 j.oe, .int .i64 j.ok, .int .u16 j.nv, .int .u16 j.nx, .int .u16 j.nl, .int .i64 j.ne, .int .i64 j.nk, .bool j.two] 27 (0, 0)) := by rw [← hW]; exact heap_last w _
  have hz : W.heap.size = w.heap.size + 1 := by rw [← hW]; simp
  have HB := Lib.hid hb; have HW := Lib.hid hW; have HZ := Lib.hid hz; have HQ := Lib.hid hq
  clear hb hW hz hq
  go_enter Tryz.func29, Tryz.ntmps29
  go_upto_region 1 with fail
  rw [HW.out, ← HZ.out]
  have hq2 := heap_prev (.cells #[.int .i64 0, .int .i64 0, .int .i64 0, .int .i64 0, .int .i64 0, .int .i64 0, .int .i64 0, .int .i64 0, .int .i64 0, .int .i64 0, .int .u16 0, .int .u16 0, .int .u16 0, .int .i64 0, .int .i64 0, .int .u16 0, .int .u16 0, .int .u16 0, .int .i64 0, .int .i64 0, .bool false, .slice none 0 0, .string ⟨#[]⟩, .int .u16 0, .int .u16 0, .int .i64 0, .int .i64 0, .int .i64 0, .int .i64 0, .int .i64 0, .int .i64 0, .int .i64 0, .int .i64 0, .int .i64 0, .int .i64 0, .int .i64 0, .int .i64 0, .int .i64 0, .int .i64 0, .int .i64 0, .int .i64 0, .int .i64 0, .int .i64 0, .int .i64 0, .int .i64 0] 33) HQ.out
  have kJ := block_cells hq2
  clear hq2
  go_wp2_with (with_reducible refine wpList_store_new (op := ⟨none, .store 33 _ _, _, _, _, _⟩) rfl _ _ _ rfl _ (coL (newCo id j) none 0).toArray rfl rfl (by kernel_rfl) rfl (one_all rfl) ?_)
  have hC := heap_last W (.cells (coL (newCo id j) none 0).toArray 33)
  refine bodyPost_ret (v := .agg (coL (newCo id j) none 0).toArray) ?_ rfl ⟨rfl, HB.out.trans ((Below.refl _ _).alloc HB.out.size _)⟩
  exact results_cell_row rfl _ _ W.heap.size _ _ _ _ (by rfl) hC Tryz.underlying33 rfl (by kernel_rfl)
end Go.Proofs.YtbnndbdnejfehaaGreatDoor
/- Hard: package hard's Build. -/
namespace Go.Proofs.YtbnndbdnejfehaaGreatDoor
open Go.ChangeShapes Go.WideShapes Go.ChangeAt Go.RowKit

def jnL (j : Jn) : List Value := [.int .u16 j.ov, .int .u16 j.ox, .int .u16 j.ol, .int .i64 j.oe, .int .i64 j.ok, .int .u16 j.nv, .int .u16 j.nx, .int .u16 j.nl, .int .i64 j.ne, .int .i64 j.nk, .bool j.two]
/-- A list of joints. -/
def JnAt (w : World) (q : Option Addr) (js : List Jn) : Prop := ∀ k, (hk : k < js.length) → ∃ g o, q = some ⟨g, o, none⟩ ∧ g < w.heap.size ∧ ∀ i, i < 11 → w.cell? ⟨g, o + k * 11 + i, none⟩ = (jnL js[k])[i]?
/-- A record, and where its bytes lie. -/
structure RcX where
  p : Option Addr
  c : Nat
  xs : List Int
def RcAt (B : Nat) (w : World) (q : Option Addr) (L : List RcX) : Prop := ∀ k, (hk : k < L.length) → ∃ g o, q = some ⟨g, o, none⟩ ∧ g < B ∧ w.cell? ⟨g, o + k, none⟩ = some (.slice L[k].p L[k].xs.length L[k].c) ∧ Sl B w (.slice L[k].p L[k].xs.length L[k].c) 1 L[k].xs.length (byt L[k].xs)
theorem JnAt.keep {w w' : World} {q : Option Addr} {js : List Jn} (h : JnAt w q js) (hb : Below w.heap.size w w') : JnAt w' q js := fun k hk => by
  obtain ⟨g, o, e, hg, hc⟩ := h k hk
  exact ⟨g, o, e, Nat.lt_of_lt_of_le hg hb.size, fun i hi => (hb.cell (p := ⟨g, o + k * 11 + i, none⟩) hg).trans (hc i hi)⟩
theorem RcAt.keep {B : Nat} {w w' : World} {q : Option Addr} {L : List RcX} (h : RcAt B w q L) (hb : Below B w w') : RcAt B w' q L := fun k hk => by
  obtain ⟨g, o, e, hg, hc, hs⟩ := h k hk
  exact ⟨g, o, e, hg, (hb.cell (p := ⟨g, o + k, none⟩) hg).trans hc, hs.keep hb⟩
theorem CoOwn.new (base : Nat) (w : World) (id : Int) (j : Jn) : CoOwn base w ⟨newCo id j, none, 0⟩ := ⟨rfl, .inl ⟨rfl, rfl⟩⟩
theorem CsAt.nil (base : Nat) (w : World) : CsAt base w (.slice none 0 0) [] := ⟨⟨rfl, .inl ⟨rfl, rfl⟩⟩, fun x hx => by cases hx⟩
/-- How great cores are that records have built. -/
def LInv (k : Nat) (l : List CoX) : Prop := ∀ x ∈ l, 0 ≤ x.c.l.b ∧ x.c.l.b ≤ 1125899906842624 ∧ x.c.l.es.length ≤ k
theorem LInv.up {k : Nat} {l : List CoX} (h : LInv k l) : LInv (k + 1) l := fun x hx => ⟨(h x hx).1, (h x hx).2.1, by have := (h x hx).2.2; omega⟩
theorem sayB_en {xs : List Int} (ho : Oct xs) {b bt : Int} {j : JoX} {s : ByteArray} {a : Int} (h : sayB a xs = some (.sn b bt j s)) : CnV b := by
  unfold sayB at h
  split at h
  · unfold allR at h; split at h <;> simp at h
  · split at h
    · unfold allR at h
      split at h
      · rename_i hr
        simp only [Option.some.injEq, Rc.sn.injEq] at h
        have := ((rd2_ok hrC_ok (rd2_ok hrC_ok (rd2_ok hrJ_ok rdTw_ok))).sound xs (snB xs false).1 [] ho (by show snB xs false = _; rw [← hr])).1.1
        rw [h.1] at this; exact this
      · simp at h
    · split at h
      · unfold allR at h; split at h <;> simp at h
      · split at h
        · unfold allR at h; split at h <;> simp at h
        · simp at h
theorem snL_len (l : Lg) (b bt : Int) (j : Jn) : (snL l b bt j).es.length ≤ l.es.length := by
  unfold snL
  dsimp only
  split
  · unfold compactL
    split
    · rw [List.length_drop]; omega
    · simp
  · simp
theorem LInv.say {k : Nat} {l : List CoX} (h : LInv k l) {n : Nat} (hn : n < l.length) {a : Int} {xs : List Int} (ho : Oct xs) {rc : Rc} (hs : sayB a xs = some rc) {y : CoX} (hy : y.c = apRc l[n].c rc) : LInv (k + 1) (l.set n y) := fun x hx => by
  rcases List.mem_or_eq_of_mem_set hx with hx | rfl
  · exact h.up x hx
  · have h0 := h _ (List.getElem_mem hn)
    rw [hy]
    cases rc with
    | hd tm vt => exact ⟨h0.1, h0.2.1, by have := h0.2.2; show _ ≤ k + 1; exact Nat.le_succ_of_le this⟩
    | sn b bt j s =>
      have hb := sayB_en ho hs
      exact ⟨hb.1, hb.2, by have := snL_len l[n].c.l b bt (jnX j); have := h0.2.2; show (snL l[n].c.l b bt (jnX j)).es.length ≤ k + 1; omega⟩
    | en i e =>
      unfold apRc
      dsimp only
      split
      · exact ⟨h0.1, h0.2.1, by show (_ ++ [e]).length ≤ _; rw [List.length_append, List.length_take]; have := h0.2.2; simp only [List.length_singleton]; omega⟩
      · exact ⟨h0.1, h0.2.1, by have := h0.2.2; omega⟩
    | ct i => exact ⟨h0.1, h0.2.1, by show (List.take _ _).length ≤ _; rw [List.length_take]; have := h0.2.2; omega⟩
end Go.Proofs.YtbnndbdnejfehaaGreatDoor
/- Core: does core do anything yet: the plain law. -/
namespace Go.Proofs.YtbnndbdnejfehaaGreatDoor

/-- Three voters. -/
def j3 : Jn := ⟨14, 0, 0, 2, 2, 0, 0, 0, 0, 0, false⟩
def mV3 : Ms := { ms0 with k := 2, fr := 2, dst := 1, tm := 1, yes := true }
/-- A new core that has waited. -/
def c3 (i : Int) : Co := { newCo 1 j3 with wt := i }
theorem j3_ok : JnO j3 := by
  constructor <;> first | decide +kernel | (constructor <;> constructor <;> first | (unfold In16 joX j3; decide) | (unfold In64 joX j3; decide))
theorem lg3_ok : LgO { lg0 with j := j3 } := ⟨⟨by decide, by decide, by decide⟩, j3_ok, fun e h => by cases h⟩
theorem fit3 {c : Co} (hl : c.l = { lg0 with j := j3 }) (hi : c.id = 1) (hx : c.nx = fun _ => 0) (hm : c.mt = fun _ => 0) (hc : c.cm = 0) (N : Nat) : CoFit N c := by
  refine ⟨by rw [hl]; exact lg3_ok, by rw [hl]; exact Nat.zero_le _, by omega, by omega, fun n _ => ?_, fun n _ => ?_, ?_, ?_⟩
  · rw [hx]; exact ⟨Int.le_refl _, (by decide : (0 : Int) ≤ 4611686018427387904)⟩
  · rw [hm, hl]; exact ⟨Int.le_refl _, Int.le_refl _⟩
  · rw [hc, hl]; decide
  · rw [hc, hl]; decide
theorem c3_fit (i : Int) (N : Nat) : CoFit N (c3 i) := fit3 rfl rfl rfl rfl rfl N
theorem tick3 (i : Nat) (h : i < 15) : tickA (c3 i) = ⟨c3 (i + 1 : Nat), []⟩ := by
  have e : tickA (c3 i) = if leadsN (confL (c3 i).l) 1 = true ∧ patience 1 ≤ (i : Int) + 1 ∧ (0 : Int) < 1099511627776 then standsA ⟨c3 ((i : Int) + 1), []⟩ else ⟨c3 ((i : Int) + 1), []⟩ := by
    unfold tickA; exact if_neg (show ¬((0 : Int) = 2) by decide)
  rw [e, if_neg (by intro h2; have := h2.2.1; unfold patience at this; omega)]
  rfl
theorem tick3e : tickA (c3 15) = ⟨candC (c3 16), askL (candC (c3 16))⟩ := by
  have e : tickA (c3 15) = if leadsN (confL (c3 15).l) 1 = true ∧ patience 1 ≤ (15 : Int) + 1 ∧ (0 : Int) < 1099511627776 then standsA ⟨c3 16, []⟩ else ⟨c3 16, []⟩ := by
    unfold tickA; exact if_neg (by decide)
  rw [e, if_pos (by decide +kernel)]
  exact stands_no [] (by decide +kernel)
theorem cand3_fit (N : Nat) : CoFit N (candC (c3 16)) := fit3 rfl rfl rfl rfl rfl N
theorem cand3_out : (askL (candC (c3 16))).length = 2 := by decide +kernel
theorem step3 : (stepB (candC (c3 16)) mV3).c.role = 2 ∧ (stepB (candC (c3 16)) mV3).out.length = 2 := by decide +kernel
end Go.Proofs.YtbnndbdnejfehaaGreatDoor
/- Core: does core do anything yet (the law's own). -/
namespace Go.Proofs.YtbnndbdnejfehaaGreatDoor
open Go.ChangeShapes Go.WideShapes Go.ChangeAt Go.RowKit

/-- A new core after so many ticks, and what it sent last. -/
def b13 (n : Nat) : Ac := if n = 16 then ⟨candC (c3 16), askL (candC (c3 16))⟩ else ⟨c3 n, []⟩
theorem b13_fit (n : Nat) (N : Nat) : CoFit N (b13 n).c := by
  unfold b13; split
  · exact cand3_fit N
  · exact c3_fit _ N
theorem b13_tm {n : Nat} (h : n < 16) : (b13 n).c.tm = 0 ∧ (b13 n).c.wt = n := by
  unfold b13; rw [if_neg (by omega)]; exact ⟨rfl, rfl⟩
theorem b13_tick {n : Nat} (h : n < 16) : tickA (b13 n).c = b13 (n + 1) := by
  unfold b13
  rw [if_neg (by omega)]
  by_cases h2 : n = 15
  · subst h2; exact tick3e
  · rw [if_neg (by omega)]; exact tick3 n (by omega)
theorem store_own {B C : Nat} {w : World} {cs : Array Value} {x : CoX} (vs : List Value) (ho : CoOwn B w x) (hC : w.heap[C]? = some (.cells cs 33 (0, 0))) : CoOwn B (w.setCells C 0 vs) x :=
  ho.kept (block_setCells vs 0 hC).2 (own_other ho hC (by decide))
theorem store_below {w0 w : World} {C : Nat} {cs : Array Value} {t : TypeId} (vs : List Value) (hb : Below w0.heap.size w0 w) (hC : w.heap[C]? = some (.cells cs t (0, 0))) (h : w0.heap.size ≤ C) : Below w0.heap.size w0 (w.setCells C 0 vs) := by
  have hg := (block_setCells vs 0 hC).2
  exact hb.grown hg hb.size (fun b e => by simp only [Option.some.injEq] at e; omega)
set_option maxRecDepth 100000 in
theorem three_any (w : World) : Calls Tryz.prog 30 #[] w fun e w' => e = .returned (.agg (jnL j3).toArray) ∧ Below w.heap.size w w' := by
  go_enter Tryz.func30, Tryz.ntmps30
  go_wp2_with fail
  refine bodyPost_ret (v := .agg (jnL j3).toArray) ?_ rfl ⟨rfl, (Below.refl _ _).alloc (Nat.le_refl _) _⟩
  exact results_cell_row rfl _ _ w.heap.size _ _ _ _ (by rfl) (heap_last w _) Tryz.underlying27 rfl (by kernel_rfl)
theorem core_range {X : Nat} {w : World} {c : Co} {q : Option Addr} {d : Nat} (h : w.heap[X]? = some (.cells (coL c q d).toArray 33 (0, 0))) : w.rangeAt X 0 (coL c q d) :=
  range_of (n := 45) rfl (fun j _ => by rw [Nat.zero_add, block_cells h, List.getElem?_toArray])
theorem b13_len {l : List MsX} (h : l.map MsX.m = (b13 16).out) : l.length = 2 := by
  have h2 := congrArg List.length h
  rw [List.length_map] at h2
  rw [h2]; exact cand3_out
set_option maxRecDepth 100000 in
set_option maxHeartbeats 16000000 in
theorem begun13_any (w : World) (hT : Tab w) : Calls Tryz.prog 7 #[] w fun e w' => e = .returned (.bool true) ∧ Below w.heap.size w w' := by
  have HT := Lib.hid hT
  clear hT
  go_enter Tryz.func7, Tryz.ntmps7
  go_wp2_with fail
  refine (three_any w).mono ?_; rintro e w1 ⟨rfl, b1⟩
  have HB1 := Lib.hid b1
  clear b1
  go_wp2_with fail
  refine (show Calls Tryz.prog 29 #[.int .i64 1, .agg (jnL j3).toArray] w1 _ from hcnew_any 1 j3 w1).mono ?_; rintro e w2 ⟨rfl, b2⟩
  have HB2 := Lib.hid (HB1.out.trans (b2.mono HB1.out.size))
  clear b2 HB1
  go_upto_region 2 with (with_reducible refine wpList_store_new (op := ⟨none, .store 33 _ _, _, _, _, _⟩) rfl _ _ _ rfl _ (coL (newCo 1 j3) none 0).toArray rfl rfl (by kernel_rfl) rfl (one_all rfl) ?_)
  obtain ⟨w3, hw⟩ : ∃ z : World, w2.alloc (.cells (coL (newCo 1 j3) none 0).toArray 33) = z := ⟨_, rfl⟩
  have b3 : Below w2.heap.size w2 w3 := by rw [← hw]; exact (Below.refl _ _).alloc (Nat.le_refl _) _
  have hC : w3.heap[w2.heap.size]? = some (.cells (coL (newCo 1 j3) none 0).toArray 33 (0, 0)) := by rw [← hw]; exact heap_last w2 _
  (try rw [hw])
  obtain ⟨C, eC⟩ : ∃ z, w2.heap.size = z := ⟨_, rfl⟩
  (try rw [eC])
  rw [eC] at hC
  have HB3 := Lib.hid (HB2.out.trans (b3.mono HB2.out.size))
  have HC3 := Lib.hid hC
  have HCW := Lib.hid (show w.heap.size ≤ C from by rw [← eC]; exact HB2.out.size)
  clear hw b3 hC eC HB2
  go_wp2_with fail
  go_loopw [2, 3] (fun v i wr => ∃ n : Nat, n ≤ 16 ∧ i = .int .i64 n ∧ Hid (∃ p d l, l.map MsX.m = (b13 n).out ∧ MsAt w.heap.size wr v l ∧ wr.heap[C]? = some (.cells (coL (b13 n).c p d).toArray 33 (0, 0)) ∧ CoOwn w.heap.size wr ⟨(b13 n).c, p, d⟩ ∧ Below w.heap.size w wr)) (fun _ i _ => 16 - (intOf i).toNat)
  case atStart => exact ⟨0, by omega, rfl, Lib.hid ⟨none, 0, [], rfl, MsAt.nil _ _, HC3.out, CoOwn.new _ _ _ _, HB3.out⟩⟩
  case round =>
    obtain ⟨n, hn, rfl, HR⟩ := hrel
    obtain ⟨wk, rfl⟩ : ∃ wk : World, wk = wr := ⟨_, rfl⟩
    obtain ⟨p, d, l, hl, hM, hC, hO, hB⟩ := HR.out
    have HP := Lib.hid (show Calls Tryz.prog 23 #[.int .i64 1] wk fun e w' => e = .returned (.int .i64 16) ∧ wk = w' from patience_any 1 wk (by decide) (by decide))
    have HRG := Lib.hid (core_range hC)
    have HTH := fun (wz : World) (hb : Below wk.heap.size wk wz) => there_of_block (o := 0) (n := 45) (below_block hb (block_lt hC) hC) (Nat.le_of_ble_eq_true rfl)
    by_cases h16 : n < 16
    · have hd : decide ((n : Int) < 16) = true := by simp; omega
      have HTK := Lib.hid (show Calls Tryz.prog 19 #[.agg (coL (b13 n).c p d).toArray] wk (CoEnd wk (b13 (n + 1))) from by
        have h1 := tick_any 5 (b13 n).c p d wk (b13_fit _ _) (by rw [(b13_tm h16).1]; omega) (by rw [(b13_tm h16).2]; omega) (by decide) (HT.out.keep hB) (EnSl.of_own hO)
        rw [b13_tick h16] at h1; exact h1)
      have HC := Lib.hid hC; have HB := Lib.hid hB; have HTG := Lib.hid HTH
      clear hl hM hC hO hB HTH HR
      go_wp2_with fail
      refine HP.out.mono ?_; rintro e w4 ⟨rfl, rfl⟩
      go_wp2_with (with_reducible refine wpList_load_mid (op := ⟨some 14, _, _, _, _, _⟩) rfl _ _ rfl C 0 rfl (coL (b13 n).c p d) _ HRG.out Tryz.underlying33 rfl (by kernel_rfl) ?_)
      refine HTK.out.mono ?_; rintro e wz ⟨p9, d9, v9, l9, rfl, hl9, hO9, hM9, -, hb9⟩
      obtain ⟨c9, hc9⟩ : ∃ c9, (b13 (n + 1)).c = c9 := ⟨_, rfl⟩
      rw [hc9] at hO9
      have hCz := below_block hb9 (block_lt HC.out) HC.out
      have HTZ := Lib.hid (HTG.out wz hb9)
      have HO : Hid (∃ p d l, l.map MsX.m = (b13 (n + 1)).out ∧ MsAt w.heap.size (wz.setCells C 0 (coL c9 p9 d9)) v9 l ∧ (wz.setCells C 0 (coL c9 p9 d9)).heap[C]? = some (.cells (coL (b13 (n + 1)).c p d).toArray 33 (0, 0)) ∧ CoOwn w.heap.size (wz.setCells C 0 (coL c9 p9 d9)) ⟨(b13 (n + 1)).c, p, d⟩ ∧ Below w.heap.size w (wz.setCells C 0 (coL c9 p9 d9))) := by
        rw [hc9]
        exact ⟨p9, d9, l9, hl9, (hM9.mono HB.out.size).grown hCz (by decide) (by decide) (block_setCells (coL c9 p9 d9) 0 hCz).2, setCells_full (n := 45) (vs := (coL c9 p9 d9).toArray) hCz rfl rfl, store_own _ (own_baseC hO9 HB.out.size) hCz, store_below _ (HB.out.trans (hb9.mono HB.out.size)) hCz HCW.out⟩
      rw [hc9]
      clear hl9 hO9 hM9 hb9 hCz hc9 HTK
      go_wp2_with (with_reducible refine wpList_store_at (op := ⟨none, .store 33 _ _, _, _, _, _⟩) rfl _ _ _ rfl C 0 45 (coL c9 p9 d9).toArray (by kernel_rfl) rfl rfl HTZ.out (by kernel_rfl) (one_all rfl) ?_)
      go_roundw
      case rel => exact ⟨n + 1, by omega, by go_num, HO⟩
      case measure => simp [intOf]; omega
    · obtain rfl : n = 16 := by omega
      have hd : decide (((16 : Nat) : Int) < 16) = false := by decide
      have hlen := b13_len hl
      obtain ⟨pv, cv, rfl⟩ := own_formH hM.own
      obtain ⟨cc, hcc⟩ : ∃ cc, (b13 16).c = cc := ⟨_, rfl⟩
      have hro : cc.role = 1 := by rw [← hcc]; rfl
      have hst : (stepB cc mV3).c.role = 2 ∧ (stepB cc mV3).out.length = 2 := by rw [← hcc]; exact step3
      have hfc : CoFit 5 cc := by rw [← hcc]; exact b13_fit 16 5
      rw [hcc] at hC hO HRG
      obtain ⟨A, hA⟩ : ∃ A, stepB cc mV3 = A := ⟨_, rfl⟩
      have HST := Lib.hid (show Calls Tryz.prog 12 #[.agg (coL cc p d).toArray, .agg (msC mV3 none 0).toArray] wk (CoEnd wk A) from by
        have h1 := step_any 5 cc p d mV3 none 0 wk hfc (by decide) (HT.out.keep hB) (EnSl.of_own hO) (EnSl.of_own (B := 0) (e := 47) ⟨rfl, .inl ⟨rfl, rfl⟩⟩) (by decide) (fun e h => by cases h) jnF0
        rw [hA] at h1; exact h1)
      rw [hA] at hst
      have HC := Lib.hid hC; have HB := Lib.hid hB; have HRO := Lib.hid hro; have HS2 := Lib.hid hst
      rw [hlen]
      clear hl hM hC hO hB HTH HR hcc hro hst hfc hA hlen
      go_wp2_with fail
      refine HP.out.mono ?_; rintro e w4 ⟨rfl, rfl⟩
      go_wp2_with (with_reducible refine wpList_load_mid (op := ⟨some 19, _, _, _, _, _⟩) rfl _ _ rfl C 0 rfl (coL cc p d) _ HRG.out Tryz.underlying33 rfl (by kernel_rfl) ?_)
      refine HST.out.mono ?_; rintro e wz ⟨p9, d9, v9, l9, rfl, hl9, hO9, hM9, -, hb9⟩
      obtain ⟨c9, hc9⟩ : ∃ c9, A.c = c9 := ⟨_, rfl⟩
      have hlen9 : l9.length = 2 := by have := congrArg List.length hl9; rw [List.length_map] at this; rw [this]; exact HS2.out.2
      have hro9 : c9.role = 2 := by rw [← hc9]; exact HS2.out.1
      obtain ⟨pw, cw, rfl⟩ := own_formH hM9.own
      rw [hc9, hlen9]
      have hCz := below_block hb9 (block_lt HC.out) HC.out
      have HCZ := Lib.hid hCz; have HBZ := Lib.hid (HB.out.trans (hb9.mono HB.out.size)); have HR9 := Lib.hid hro9
      clear hlen9 hl9 hO9 hM9 hb9 hc9 hCz hro9
      go_upto_region 8 with (with_reducible refine wpList_store_new (op := ⟨none, .store 33 _ _, _, _, _, _⟩) rfl _ _ _ rfl _ (coL c9 p9 d9).toArray rfl rfl (by kernel_rfl) rfl (one_all rfl) ?_)
      obtain ⟨w5, hw⟩ : ∃ z : World, wz.alloc (.cells (coL c9 p9 d9).toArray 33) = z := ⟨_, rfl⟩
      have b5 : Below wz.heap.size wz w5 := by rw [← hw]; exact (Below.refl _ _).alloc (Nat.le_refl _) _
      have hD : w5.heap[wz.heap.size]? = some (.cells (coL c9 p9 d9).toArray 33 (0, 0)) := by rw [← hw]; exact heap_last wz _
      (try rw [hw])
      have hc5 := below_block b5 (block_lt HCZ.out) HCZ.out
      have kC1 : w5.cell? ⟨C, 1, none⟩ = some (.int .i64 1) := by rw [← HRO.out]; exact block_cells hc5 1
      have kD1 : w5.cell? ⟨wz.heap.size, 1, none⟩ = some (.int .i64 2) := by rw [← HR9.out]; exact block_cells hD 1
      have HB5 := Lib.hid (HBZ.out.trans (b5.mono HBZ.out.size))
      clear hw b5 hD hc5
      go_wp2_with fail
      go_ret
      exact ⟨rfl, HB5.out⟩
end Go.Proofs.YtbnndbdnejfehaaGreatDoor
/- Hard: is a core not too great? -/
namespace Go.Proofs.YtbnndbdnejfehaaGreatDoor
open Go.ChangeShapes Go.WideShapes Go.ChangeAt Go.RowKit

def lightC (c : Co) : Bool := lightB c.l [] && decide (c.sn.size ≤ 300)
set_option maxRecDepth 100000 in
set_option maxHeartbeats 4000000 in
theorem light13_any (c : Co) (p : Option Addr) (k : Nat) (w : World) (hE : EnSl w (.slice p c.l.es.length k) c.l.es) :
    Calls Tryz.prog 8 #[.agg #[.int .i64 c.id, .int .i64 c.role, .int .i64 c.tm, .int .i64 c.vt, .int .i64 c.ld, .int .i64 c.wt, .int .i64 c.cm, .int .i64 c.sf, .int .i64 c.l.b, .int .i64 c.l.bt, .int .u16 c.l.j.ov, .int .u16 c.l.j.ox, .int .u16 c.l.j.ol, .int .i64 c.l.j.oe, .int .i64 c.l.j.ok, .int .u16 c.l.j.nv, .int .u16 c.l.j.nx, .int .u16 c.l.j.nl, .int .i64 c.l.j.ne, .int .i64 c.l.j.nk, .bool c.l.j.two, .slice p c.l.es.length k, .string c.sn, .int .u16 c.vs, .int .u16 c.hd, .int .i64 (c.nx 0), .int .i64 (c.nx 1), .int .i64 (c.nx 2), .int .i64 (c.nx 3), .int .i64 (c.nx 4), .int .i64 (c.nx 5), .int .i64 (c.nx 6), .int .i64 (c.nx 7), .int .i64 (c.nx 8), .int .i64 (c.nx 9), .int .i64 (c.mt 0), .int .i64 (c.mt 1), .int .i64 (c.mt 2), .int .i64 (c.mt 3), .int .i64 (c.mt 4), .int .i64 (c.mt 5), .int .i64 (c.mt 6), .int .i64 (c.mt 7), .int .i64 (c.mt 8), .int .i64 (c.mt 9)]] w fun e w' => e = .returned (.bool (lightC c)) ∧ Below w.heap.size w w' := by
  obtain ⟨W, hW⟩ : ∃ x : World, w.alloc (.cells #[.int .i64 c.id, .int .i64 c.role, .int .i64 c.tm, .int .i64 c.vt, .int .i64 c.ld, .int .i64 c.wt, .int .i64 c.cm, .int .i64 c.sf, .int .i64 c.l.b, .int .i64 c.l.bt, .int .u16 c.l.j.ov, .int .u16 c.l.j.ox, .int .u16 c.l.j.ol, .int .i64 c.l.j.oe, .int .i64 c.l.j.ok, .int .u16 c.l.j.nv, .int .u16 c.l.j.nx, .int .u16 c.l.j.nl, .int .i64 c.l.j.ne, .int .i64 c.l.j.nk, .bool c.l.j.two, .slice p c.l.es.length k, .string c.sn, .int .u16 c.vs, .int .u16 c.hd, .int .i64 (c.nx 0), .int .i64 (c.nx 1), .int .i64 (c.nx 2), .int .i64 (c.nx 3), .int .i64 (c.nx 4), .int .i64 (c.nx 5), .int .i64 (c.nx 6), .int .i64 (c.nx 7), .int .i64 (c.nx 8), .int .i64 (c.nx 9), .int .i64 (c.mt 0), .int .i64 (c.mt 1), .int .i64 (c.mt 2), .int .i64 (c.mt 3), .int .i64 (c.mt 4), .int .i64 (c.mt 5), .int .i64 (c.mt 6), .int .i64 (c.mt 7), .int .i64 (c.mt 8), .int .i64 (c.mt 9)] 33) = x := ⟨_, rfl⟩
  have hb : Below w.heap.size w W := by rw [← hW]; exact (Below.refl _ _).alloc (Nat.le_refl _) _
  have hA : W.heap[w.heap.size]? = some (.cells #[.int .i64 c.id, .int .i64 c.role, .int .i64 c.tm, .int .i64 c.vt, .int .i64 c.ld, .int .i64 c.wt, .int .i64 c.cm, .int .i64 c.sf, .int .i64 c.l.b, .int .i64 c.l.bt, .int .u16 c.l.j.ov, .int .u16 c.l.j.ox, .int .u16 c.l.j.ol, .int .i64 c.l.j.oe, .int .i64 c.l.j.ok, .int .u16 c.l.j.nv, .int .u16 c.l.j.nx, .int .u16 c.l.j.nl, .int .i64 c.l.j.ne, .int .i64 c.l.j.nk, .bool c.l.j.two, .slice p c.l.es.length k, .string c.sn, .int .u16 c.vs, .int .u16 c.hd, .int .i64 (c.nx 0), .int .i64 (c.nx 1), .int .i64 (c.nx 2), .int .i64 (c.nx 3), .int .i64 (c.nx 4), .int .i64 (c.nx 5), .int .i64 (c.nx 6), .int .i64 (c.nx 7), .int .i64 (c.nx 8), .int .i64 (c.nx 9), .int .i64 (c.mt 0), .int .i64 (c.mt 1), .int .i64 (c.mt 2), .int .i64 (c.mt 3), .int .i64 (c.mt 4), .int .i64 (c.mt 5), .int .i64 (c.mt 6), .int .i64 (c.mt 7), .int .i64 (c.mt 8), .int .i64 (c.mt 9)] 33 (0, 0)) := by rw [← hW]; exact heap_last w _
  have HC := Lib.hid (light_any c.l p k [] none 0 W (hE.keep hb (Nat.le_refl _)) ⟨rfl, .inl ⟨rfl, rfl⟩⟩)
  have HB := Lib.hid hb; have HA := Lib.hid hA
  have HW := Lib.hid hW
  have kA := block_cells hA
  clear hE hb hA hW
  go_enter Tryz.func8, Tryz.ntmps8
  go_upto_region 1 with fail
  rw [HW.out]
  clear HW
  go_wp2_with fail
  refine HC.out.mono ?_; rintro e w1 ⟨rfl, b1⟩
  have HB1 := Lib.hid (HB.out.trans (b1.mono HB.out.size))
  have kB := block_cells (below_block b1 (block_lt HA.out) HA.out)
  have HL : Hid (lightC c = (lightB c.l [] && decide (c.sn.size ≤ 300))) := rfl
  clear kA b1
  have hu : undef = Value.tuple #[] := rfl
  cases hl : lightB c.l [] with
  | false =>
    rw [hl] at HL
    have HL2 := Lib.hid HL.out
    clear hl HL
    go_wp2_with fail
    go_ret
    exact ⟨by rw [HL2.out]; rfl, HB1.out⟩
  | true =>
    rw [hl] at HL
    have HL2 := Lib.hid HL.out
    clear hl HL
    by_cases hs : c.sn.size ≤ 300
    · have hd : decide ((c.sn.size : Int) ≤ 300) = true := by simp; omega
      have HD : Hid (decide (c.sn.size ≤ 300) = true) := by show _ = _; simpa using hs
      go_wp2_with fail
      go_ret
      exact ⟨by rw [HL2.out, HD.out]; rfl, HB1.out⟩
    · have hd : decide ((c.sn.size : Int) ≤ 300) = false := by simp; omega
      have HD : Hid (decide (c.sn.size ≤ 300) = false) := by show _ = _; simpa using hs
      go_wp2_with fail
      go_ret
      exact ⟨by rw [HL2.out, HD.out]; rfl, HB1.out⟩
end Go.Proofs.YtbnndbdnejfehaaGreatDoor
/- Core: is a message not too great (the law's lightMsg). -/
namespace Go.Proofs.YtbnndbdnejfehaaGreatDoor
open Go.ChangeShapes Go.WideShapes Go.ChangeAt Go.RowKit

def lightM (m : Ms) : Bool := lightB lg0 m.es && decide (m.sn.size ≤ 300)
set_option maxRecDepth 100000 in
set_option maxHeartbeats 4000000 in
theorem lightM_any (m : Ms) (q : Option Addr) (d : Nat) (w : World) (hM : EnSl w (.slice q m.es.length d) m.es) :
    Calls Tryz.prog 10 #[.agg #[.int .i64 m.k, .int .i64 m.fr, .int .i64 m.dst, .int .i64 m.tm, .int .i64 m.ix, .int .i64 m.lt, .int .i64 m.cm, .int .i64 m.sf, .bool m.yes, .slice q m.es.length d, .string m.sn, .int .u16 m.cf.ov, .int .u16 m.cf.ox, .int .u16 m.cf.ol, .int .i64 m.cf.oe, .int .i64 m.cf.ok, .int .u16 m.cf.nv, .int .u16 m.cf.nx, .int .u16 m.cf.nl, .int .i64 m.cf.ne, .int .i64 m.cf.nk, .bool m.cf.two]] w fun e w' => e = .returned (.bool (lightM m)) ∧ Below w.heap.size w w' := by
  obtain ⟨W, hW⟩ : ∃ x : World, w.alloc (.cells #[.int .i64 m.k, .int .i64 m.fr, .int .i64 m.dst, .int .i64 m.tm, .int .i64 m.ix, .int .i64 m.lt, .int .i64 m.cm, .int .i64 m.sf, .bool m.yes, .slice q m.es.length d, .string m.sn, .int .u16 m.cf.ov, .int .u16 m.cf.ox, .int .u16 m.cf.ol, .int .i64 m.cf.oe, .int .i64 m.cf.ok, .int .u16 m.cf.nv, .int .u16 m.cf.nx, .int .u16 m.cf.nl, .int .i64 m.cf.ne, .int .i64 m.cf.nk, .bool m.cf.two] 39) = x := ⟨_, rfl⟩
  have hb : Below w.heap.size w W := by rw [← hW]; exact (Below.refl _ _).alloc (Nat.le_refl _) _
  have hA : W.heap[w.heap.size]? = some (.cells #[.int .i64 m.k, .int .i64 m.fr, .int .i64 m.dst, .int .i64 m.tm, .int .i64 m.ix, .int .i64 m.lt, .int .i64 m.cm, .int .i64 m.sf, .bool m.yes, .slice q m.es.length d, .string m.sn, .int .u16 m.cf.ov, .int .u16 m.cf.ox, .int .u16 m.cf.ol, .int .i64 m.cf.oe, .int .i64 m.cf.ok, .int .u16 m.cf.nv, .int .u16 m.cf.nx, .int .u16 m.cf.nl, .int .i64 m.cf.ne, .int .i64 m.cf.nk, .bool m.cf.two] 39 (0, 0)) := by rw [← hW]; exact heap_last w _
  have HC := Lib.hid (light_any lg0 none 0 m.es q d W ⟨rfl, .inl ⟨rfl, rfl⟩⟩ (hM.keep hb (Nat.le_refl _)))
  have HB := Lib.hid hb; have HA := Lib.hid hA
  have HW := Lib.hid hW
  have kA := block_cells hA
  clear hM hb hA hW
  go_enter Tryz.func10, Tryz.ntmps10
  go_upto_region 1 with fail
  rw [HW.out]
  clear HW
  go_wp2_with fail
  refine HC.out.mono ?_; rintro e w1 ⟨rfl, b1⟩
  have HB1 := Lib.hid (HB.out.trans (b1.mono HB.out.size))
  have kB := block_cells (below_block b1 (block_lt HA.out) HA.out)
  have HL : Hid (lightM m = (lightB lg0 m.es && decide (m.sn.size ≤ 300))) := rfl
  clear kA b1
  have hu : undef = Value.tuple #[] := rfl
  cases hl : lightB lg0 m.es with
  | false =>
    rw [hl] at HL
    have HL2 := Lib.hid HL.out
    clear hl HL
    go_wp2_with fail
    go_ret
    exact ⟨by rw [HL2.out]; rfl, HB1.out⟩
  | true =>
    rw [hl] at HL
    have HL2 := Lib.hid HL.out
    clear hl HL
    by_cases hs : m.sn.size ≤ 300
    · have hd : decide ((m.sn.size : Int) ≤ 300) = true := by simp; omega
      have HD : Hid (decide (m.sn.size ≤ 300) = true) := by show _ = _; simpa using hs
      go_wp2_with fail
      go_ret
      exact ⟨by rw [HL2.out, HD.out]; rfl, HB1.out⟩
    · have hd : decide ((m.sn.size : Int) ≤ 300) = false := by simp; omega
      have HD : Hid (decide (m.sn.size ≤ 300) = false) := by show _ = _; simpa using hs
      go_wp2_with fail
      go_ret
      exact ⟨by rw [HL2.out, HD.out]; rfl, HB1.out⟩
end Go.Proofs.YtbnndbdnejfehaaGreatDoor
