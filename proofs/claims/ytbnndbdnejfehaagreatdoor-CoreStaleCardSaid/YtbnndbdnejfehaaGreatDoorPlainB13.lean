import Derived.Test.YtbnndbdnejfehaaGreatDoorEqEnt
import Derived.Test.YtbnndbdnejfehaaGreatDoorLogG
import Derived.Test.YtbnndbdnejfehaaGreatDoorLogN0
import Derived.Test.YtbnndbdnejfehaaGreatDoorLogV
import Derived.Test.YtbnndbdnejfehaaGreatDoorActAd
import Derived.Test.YtbnndbdnejfehaaGreatDoorActS
/- Hard: what a record says to a core: letters H and X, and none. -/
namespace Go.Proofs.YtbnndbdnejfehaaGreatDoor
open Go.ChangeShapes Go.WideShapes Go.ChangeAt Go.RowKit

/-- Two cells of a core are stored. -/
theorem CsAt.put2 {base : Nat} {w : World} {g cap : Nat} {l : List CoX} (h : CsAt base w (.slice (some ⟨g, 0, none⟩) l.length cap) l) {n : Nat} (hn : n < l.length) (i j : Nat) (hi : i < 45) (hj : j < 45) (y z : CoX) (u v : Value) (hy : y.v = l[n].v.set i u) (hz : z.v = y.v.set j v) (ey : CoOwn base w y) (ez : CoOwn base (w.setCell ⟨g, n * 45 + i, none⟩ u) z) :
    CsAt base ((w.setCell ⟨g, n * 45 + i, none⟩ u).setCell ⟨g, n * 45 + j, none⟩ v) (.slice (some ⟨g, 0, none⟩) (l.set n z).length cap) (l.set n z) ∧ Below base w ((w.setCell ⟨g, n * 45 + i, none⟩ u).setCell ⟨g, n * 45 + j, none⟩ v) := by
  obtain ⟨h1, b1⟩ := h.put hn i hi y u hy ey
  have hn2 : n < (l.set n y).length := by simpa using hn
  obtain ⟨h2, b2⟩ := h1.put hn2 j hj z v (by rw [hz]; simp) ez
  rw [List.set_set] at h2
  exact ⟨h2, b1.trans (b2.mono (Nat.le_refl _))⟩
end Go.Proofs.YtbnndbdnejfehaaGreatDoor
/- Hard: what a record says to a core: letter S. -/
namespace Go.Proofs.YtbnndbdnejfehaaGreatDoor
open Go.ChangeShapes Go.WideShapes Go.ChangeAt Go.RowKit

end Go.Proofs.YtbnndbdnejfehaaGreatDoor
/- Hard: what a record says to a core: letter E. -/
namespace Go.Proofs.YtbnndbdnejfehaaGreatDoor
open Go.ChangeShapes Go.WideShapes Go.ChangeAt Go.RowKit

/-- In the midst of an entry's record: the cores, the entry's block. -/
structure TrE (B G cap X : Nat) (l : List CoX) (ev : Array Value) (w0 w : World) : Prop where
  b : Below B w0 w
  l : CsAt B w (.slice (some ⟨G, 0, none⟩) l.length cap) l
  x : w.heap[X]? = some (.cells ev 47 (0, 0))
theorem TrE.keep {B G cap X : Nat} {l : List CoX} {ev : Array Value} {w0 w w' : World} (h : TrE B G cap X l ev w0 w) (hb : Below w.heap.size w w') : TrE B G cap X l ev w0 w' :=
  ⟨h.b.trans (hb.mono (Nat.le_of_lt (Nat.lt_of_le_of_lt h.l.lt.1 h.l.lt.2))), h.l.keep hb, below_block hb (block_lt h.x) h.x⟩
def SE (G n X : Nat) (b : Int) (ev : Array Value) (w : World) : Prop := w.cell? ⟨G, n * 45 + 8, none⟩ = some (.int .i64 b) ∧ ∀ j, w.cell? ⟨X, j, none⟩ = ev[j]?
theorem TrE.s {B G cap X n : Nat} {l : List CoX} {ev : Array Value} {w0 w : World} {x : CoX} (h : TrE B G cap X l ev w0 w) (hn : n < l.length) (hx : l[n] = x) : SE G n X x.c.l.b ev w :=
  ⟨by rw [h.l.cell hn 8 (by decide), hx]; rfl, block_cells h.x⟩
theorem TrE.sp {B G cap X n : Nat} {l : List CoX} {ev : Array Value} {w0 w : World} {x : CoX} (h : TrE B G cap X l ev w0 w) (hn : n < l.length) (hx : l[n] = x) (u : Value) : SE G n X x.c.l.b ev (w.setCell ⟨G, n * 45 + 21, none⟩ u) := by
  have hX : X ≠ G := fun e => by
    obtain ⟨cur, hq⟩ := h.l.block
    have := h.x
    rw [e, hq] at this
    simp only [Option.some.injEq, Obj.cells.injEq] at this
    exact absurd this.2.1 (by decide)
  refine ⟨?_, ?_⟩
  · rw [World.cell?_setCell_other _ _ _ _ (by intro e; simp at e)]; exact (h.s hn hx).1
  · exact block_cells ((Below.heap_setCell _ _ _ _ (by show X ≠ G; exact hX)).trans h.x)
structure TrO (B X : Nat) (l : List CoX) (w : World) (v : Value) (L : List Ent) : Prop where
  own : w.ownsRow B 47 14 v L.length (entRow L)
  gt : ∀ b, v.ownBlock = some b → X < b
  ap : ∀ y ∈ l, (Value.slice y.p y.c.l.es.length y.k).ownBlock = none ∨ (Value.slice y.p y.c.l.es.length y.k).ownBlock ≠ v.ownBlock
theorem TrO.keep {B X : Nat} {l : List CoX} {w w' : World} {v : Value} {L : List Ent} (h : TrO B X l w v L) (hb : Below w.heap.size w w') : TrO B X l w' v L := ⟨own_keptC h.own hb, h.gt, h.ap⟩
theorem TrE.new {B G cap X : Nat} {l : List CoX} {ev : Array Value} {w0 w w' : World} {v : Value} {L : List Ent} (h : TrE B G cap X l ev w0 w) (ho : w'.ownsRow w.heap.size 47 14 v L.length (entRow L)) (_hb : Below w.heap.size w w') : TrO B X l w' v L :=
  ⟨ho.mono (Nat.le_of_lt (Nat.lt_of_le_of_lt h.l.lt.1 h.l.lt.2)), fun b hbb => Nat.lt_of_lt_of_le (block_lt h.x) (ho.lt b hbb).1, fun y hy => by
    cases e : (Value.slice y.p y.c.l.es.length y.k).ownBlock with
    | none => exact .inl rfl
    | some b => exact .inr fun h2 => by have := ((h.l.en y hy).lt b e).2; have := (ho.lt b h2.symm).1; omega⟩
end Go.Proofs.YtbnndbdnejfehaaGreatDoor
/- Hard: what a record says to a core: letter E, with a joint. -/
namespace Go.Proofs.YtbnndbdnejfehaaGreatDoor
open Go.ChangeShapes Go.WideShapes Go.ChangeAt Go.RowKit

end Go.Proofs.YtbnndbdnejfehaaGreatDoor
/- Hard: what a record says to a core; a new core; lists of joints and of records. -/
namespace Go.Proofs.YtbnndbdnejfehaaGreatDoor
open Go.ChangeShapes Go.WideShapes Go.ChangeAt Go.RowKit

set_option maxRecDepth 100000 in
set_option maxHeartbeats 4000000 in
theorem hcnew_any (id : Int) (j : Jn) (w : World) :
    Calls Tryz.prog 29 #[.int .i64 id, .agg #[.int .u16 j.ov, .int .u16 j.ox, .int .u16 j.ol, .int .i64 j.oe, .int .i64 j.ok, .int .u16 j.nv, .int .u16 j.nx, .int .u16 j.nl, .int .i64 j.ne, .int .i64 j.nk, .bool j.two]] w fun e w' => e = .returned (.agg (coL (newCo id j) none 0).toArray) ∧ Below w.heap.size w w' := by
  obtain ⟨W, hW⟩ : ∃ z : World, w.alloc (.cells #[.int .u16 j.ov, .int .u16 j.ox, .int .u16 j.ol, .int .i64 j.oe, .int .i64 j.ok, .int .u16 j.nv, .int .u16 j.nx, .int .u16 j.nl, .int .i64 j.ne, .int .i64 j.nk, .bool j.two] 27) = z := ⟨_, rfl⟩
  have hb : Below w.heap.size w W := by rw [← hW]; exact (Below.refl _ _).alloc (Nat.le_refl _) _
  have hq : W.heap[w.heap.size]? = some (.cells #[.int .u16 j.ov, .int .u16 j.ox, .int .u16 j.ol, .int .i64 j.oe, .int .i64 j.ok, .int .u16 j.nv, .int .u16 j.nx, .int .u16 j.nl, .int .i64 j.ne, .int .i64 j.nk, .bool j.two] 27 (0, 0)) := by rw [← hW]; exact heap_last w _
  have hz : W.heap.size = w.heap.size + 1 := by rw [← hW]; simp
  have HB := Lib.hid hb; have HW := Lib.hid hW; have HZ := Lib.hid hz; have HQ := Lib.hid hq
  clear hb hW hz hq
  go_enter Tryz.func29, Tryz.ntmps29
  go_upto_region 1 with fail
  rw [HW.out, ← HZ.out]
  have hq2 := heap_prev (.cells #[.int .i64 0, .int .i64 0, .int .i64 0, .int .i64 0, .int .i64 0, .int .i64 0, .int .i64 0, .int .i64 0, .int .i64 0, .int .i64 0, .int .u16 0, .int .u16 0, .int .u16 0, .int .i64 0, .int .i64 0, .int .u16 0, .int .u16 0, .int .u16 0, .int .i64 0, .int .i64 0, .bool false, .slice none 0 0, .string ⟨#[]⟩, .int .u16 0, .int .u16 0, .int .i64 0, .int .i64 0, .int .i64 0, .int .i64 0, .int .i64 0, .int .i64 0, .int .i64 0, .int .i64 0, .int .i64 0, .int .i64 0, .int .i64 0, .int .i64 0, .int .i64 0, .int .i64 0, .int .i64 0, .int .i64 0, .int .i64 0, .int .i64 0, .int .i64 0, .int .i64 0] 33) HQ.out
  have kJ := block_cells hq2
  clear hq2
  go_wp2_with (with_reducible refine wpList_store_new (op := ⟨none, .store 33 _ _, _, _, _, _⟩) rfl _ _ _ rfl _ (coL (newCo id j) none 0).toArray rfl rfl (by kernel_rfl) rfl (one_all rfl) ?_)
  have hC := heap_last W (.cells (coL (newCo id j) none 0).toArray 33)
  refine bodyPost_ret (v := .agg (coL (newCo id j) none 0).toArray) ?_ rfl ⟨rfl, HB.out.trans ((Below.refl _ _).alloc HB.out.size _)⟩
  exact results_cell_row rfl _ _ W.heap.size _ _ _ _ (by rfl) hC Tryz.underlying33 rfl (by kernel_rfl)
end Go.Proofs.YtbnndbdnejfehaaGreatDoor
/- Hard: package hard's Build. -/
namespace Go.Proofs.YtbnndbdnejfehaaGreatDoor
open Go.ChangeShapes Go.WideShapes Go.ChangeAt Go.RowKit

def jnL (j : Jn) : List Value := [.int .u16 j.ov, .int .u16 j.ox, .int .u16 j.ol, .int .i64 j.oe, .int .i64 j.ok, .int .u16 j.nv, .int .u16 j.nx, .int .u16 j.nl, .int .i64 j.ne, .int .i64 j.nk, .bool j.two]
/-- A list of joints. -/
def JnAt (w : World) (q : Option Addr) (js : List Jn) : Prop := ∀ k, (hk : k < js.length) → ∃ g o, q = some ⟨g, o, none⟩ ∧ g < w.heap.size ∧ ∀ i, i < 11 → w.cell? ⟨g, o + k * 11 + i, none⟩ = (jnL js[k])[i]?
/-- A record, and where its bytes lie. -/
structure RcX where
  p : Option Addr
  c : Nat
  xs : List Int
def RcAt (B : Nat) (w : World) (q : Option Addr) (L : List RcX) : Prop := ∀ k, (hk : k < L.length) → ∃ g o, q = some ⟨g, o, none⟩ ∧ g < B ∧ w.cell? ⟨g, o + k, none⟩ = some (.slice L[k].p L[k].xs.length L[k].c) ∧ Sl B w (.slice L[k].p L[k].xs.length L[k].c) 1 L[k].xs.length (byt L[k].xs)
theorem JnAt.keep {w w' : World} {q : Option Addr} {js : List Jn} (h : JnAt w q js) (hb : Below w.heap.size w w') : JnAt w' q js := fun k hk => by
  obtain ⟨g, o, e, hg, hc⟩ := h k hk
  exact ⟨g, o, e, Nat.lt_of_lt_of_le hg hb.size, fun i hi => (hb.cell (p := ⟨g, o + k * 11 + i, none⟩) hg).trans (hc i hi)⟩
theorem RcAt.keep {B : Nat} {w w' : World} {q : Option Addr} {L : List RcX} (h : RcAt B w q L) (hb : Below B w w') : RcAt B w' q L := fun k hk => by
  obtain ⟨g, o, e, hg, hc, hs⟩ := h k hk
  exact ⟨g, o, e, hg, (hb.cell (p := ⟨g, o + k, none⟩) hg).trans hc, hs.keep hb⟩
theorem CoOwn.new (base : Nat) (w : World) (id : Int) (j : Jn) : CoOwn base w ⟨newCo id j, none, 0⟩ := ⟨rfl, .inl ⟨rfl, rfl⟩⟩
theorem CsAt.nil (base : Nat) (w : World) : CsAt base w (.slice none 0 0) [] := ⟨⟨rfl, .inl ⟨rfl, rfl⟩⟩, fun x hx => by cases hx⟩
/-- How great cores are that records have built. -/
def LInv (k : Nat) (l : List CoX) : Prop := ∀ x ∈ l, 0 ≤ x.c.l.b ∧ x.c.l.b ≤ 1125899906842624 ∧ x.c.l.es.length ≤ k
theorem LInv.up {k : Nat} {l : List CoX} (h : LInv k l) : LInv (k + 1) l := fun x hx => ⟨(h x hx).1, (h x hx).2.1, by have := (h x hx).2.2; omega⟩
theorem sayB_en {xs : List Int} (ho : Oct xs) {b bt : Int} {j : JoX} {s : ByteArray} {a : Int} (h : sayB a xs = some (.sn b bt j s)) : CnV b := by
  unfold sayB at h
  split at h
  · unfold allR at h; split at h <;> simp at h
  · split at h
    · unfold allR at h
      split at h
      · rename_i hr
        simp only [Option.some.injEq, Rc.sn.injEq] at h
        have := ((rd2_ok hrC_ok (rd2_ok hrC_ok (rd2_ok hrJ_ok rdTw_ok))).sound xs (snB xs false).1 [] ho (by show snB xs false = _; rw [← hr])).1.1
        rw [h.1] at this; exact this
      · simp at h
    · split at h
      · unfold allR at h; split at h <;> simp at h
      · split at h
        · unfold allR at h; split at h <;> simp at h
        · simp at h
theorem snL_len (l : Lg) (b bt : Int) (j : Jn) : (snL l b bt j).es.length ≤ l.es.length := by
  unfold snL
  dsimp only
  split
  · unfold compactL
    split
    · rw [List.length_drop]; omega
    · simp
  · simp
theorem LInv.say {k : Nat} {l : List CoX} (h : LInv k l) {n : Nat} (hn : n < l.length) {a : Int} {xs : List Int} (ho : Oct xs) {rc : Rc} (hs : sayB a xs = some rc) {y : CoX} (hy : y.c = apRc l[n].c rc) : LInv (k + 1) (l.set n y) := fun x hx => by
  rcases List.mem_or_eq_of_mem_set hx with hx | rfl
  · exact h.up x hx
  · have h0 := h _ (List.getElem_mem hn)
    rw [hy]
    cases rc with
    | hd tm vt => exact ⟨h0.1, h0.2.1, by have := h0.2.2; show _ ≤ k + 1; exact Nat.le_succ_of_le this⟩
    | sn b bt j s =>
      have hb := sayB_en ho hs
      exact ⟨hb.1, hb.2, by have := snL_len l[n].c.l b bt (jnX j); have := h0.2.2; show (snL l[n].c.l b bt (jnX j)).es.length ≤ k + 1; omega⟩
    | en i e =>
      unfold apRc
      dsimp only
      split
      · exact ⟨h0.1, h0.2.1, by show (_ ++ [e]).length ≤ _; rw [List.length_append, List.length_take]; have := h0.2.2; simp only [List.length_singleton]; omega⟩
      · exact ⟨h0.1, h0.2.1, by have := h0.2.2; omega⟩
    | ct i => exact ⟨h0.1, h0.2.1, by show (List.take _ _).length ≤ _; rw [List.length_take]; have := h0.2.2; omega⟩
end Go.Proofs.YtbnndbdnejfehaaGreatDoor
/- Core: does core do anything yet: the plain law. -/
namespace Go.Proofs.YtbnndbdnejfehaaGreatDoor

/-- Three voters. -/
def j3 : Jn := ⟨14, 0, 0, 2, 2, 0, 0, 0, 0, 0, false⟩
def mV3 : Ms := { ms0 with k := 2, fr := 2, dst := 1, tm := 1, yes := true }
/-- A new core that has waited. -/
def c3 (i : Int) : Co := { newCo 1 j3 with wt := i }
theorem j3_ok : JnO j3 := by
  constructor <;> first | decide +kernel | (constructor <;> constructor <;> first | (unfold In16 joX j3; decide) | (unfold In64 joX j3; decide))
theorem lg3_ok : LgO { lg0 with j := j3 } := ⟨⟨by decide, by decide, by decide⟩, j3_ok, fun e h => by cases h⟩
theorem fit3 {c : Co} (hl : c.l = { lg0 with j := j3 }) (hi : c.id = 1) (hx : c.nx = fun _ => 0) (hm : c.mt = fun _ => 0) (hc : c.cm = 0) (N : Nat) : CoFit N c := by
  refine ⟨by rw [hl]; exact lg3_ok, by rw [hl]; exact Nat.zero_le _, by omega, by omega, fun n _ => ?_, fun n _ => ?_, ?_, ?_⟩
  · rw [hx]; exact ⟨Int.le_refl _, (by decide : (0 : Int) ≤ 4611686018427387904)⟩
  · rw [hm, hl]; exact ⟨Int.le_refl _, Int.le_refl _⟩
  · rw [hc, hl]; decide
  · rw [hc, hl]; decide
theorem c3_fit (i : Int) (N : Nat) : CoFit N (c3 i) := fit3 rfl rfl rfl rfl rfl N
theorem tick3 (i : Nat) (h : i < 15) : tickA (c3 i) = ⟨c3 (i + 1 : Nat), []⟩ := by
  have e : tickA (c3 i) = if leadsN (confL (c3 i).l) 1 = true ∧ patience 1 ≤ (i : Int) + 1 ∧ (0 : Int) < 1099511627776 then standsA ⟨c3 ((i : Int) + 1), []⟩ else ⟨c3 ((i : Int) + 1), []⟩ := by
    unfold tickA; exact if_neg (show ¬((0 : Int) = 2) by decide)
  rw [e, if_neg (by intro h2; have := h2.2.1; unfold patience at this; omega)]
  rfl
theorem tick3e : tickA (c3 15) = ⟨candC (c3 16), askL (candC (c3 16))⟩ := by
  have e : tickA (c3 15) = if leadsN (confL (c3 15).l) 1 = true ∧ patience 1 ≤ (15 : Int) + 1 ∧ (0 : Int) < 1099511627776 then standsA ⟨c3 16, []⟩ else ⟨c3 16, []⟩ := by
    unfold tickA; exact if_neg (by decide)
  rw [e, if_pos (by decide +kernel)]
  exact stands_no [] (by decide +kernel)
theorem cand3_fit (N : Nat) : CoFit N (candC (c3 16)) := fit3 rfl rfl rfl rfl rfl N
theorem cand3_out : (askL (candC (c3 16))).length = 2 := by decide +kernel
theorem step3 : (stepB (candC (c3 16)) mV3).c.role = 2 ∧ (stepB (candC (c3 16)) mV3).out.length = 2 := by decide +kernel
end Go.Proofs.YtbnndbdnejfehaaGreatDoor
