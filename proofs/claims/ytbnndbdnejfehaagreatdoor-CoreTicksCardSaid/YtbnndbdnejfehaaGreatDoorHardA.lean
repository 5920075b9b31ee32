import Derived.Test.YtbnndbdnejfehaaGreatDoorHrA
import Derived.Laws.OwnMore
import Derived.Test.YtbnndbdnejfehaaGreatDoorAgg
import Derived.Test.YtbnndbdnejfehaaGreatDoorPlainHard
import Derived.Test.YtbnndbdnejfehaaGreatDoorTakeT
/- Hard: a row of cores in memory of the call's own. -/
namespace Go.Proofs.YtbnndbdnejfehaaGreatDoor
open Go.ChangeShapes Go.WideShapes Go.ChangeAt Go.RowKit

theorem own_keptC {w w' : World} {b : Nat} {e : TypeId} {size n : Nat} {v : Value} {xs : List Value} (h : w.ownsRow b e size v n xs) (hb : Below w.heap.size w w') : w'.ownsRow b e size v n xs := h.kept (row := none) ⟨hb.os, hb.tape, hb.output, hb.size, fun k hk _ => hb.block k hk⟩ (by cases v.ownBlock <;> simp)
/-- A core, and where its entries lie. -/
structure CoX where
  c : Co
  p : Option Addr
  k : Nat
def coL (c : Co) (p : Option Addr) (k : Nat) : List Value := [.int .i64 c.id, .int .i64 c.role, .int .i64 c.tm, .int .i64 c.vt, .int .i64 c.ld, .int .i64 c.wt, .int .i64 c.cm, .int .i64 c.sf, .int .i64 c.l.b, .int .i64 c.l.bt, .int .u16 c.l.j.ov, .int .u16 c.l.j.ox, .int .u16 c.l.j.ol, .int .i64 c.l.j.oe, .int .i64 c.l.j.ok, .int .u16 c.l.j.nv, .int .u16 c.l.j.nx, .int .u16 c.l.j.nl, .int .i64 c.l.j.ne, .int .i64 c.l.j.nk, .bool c.l.j.two, .slice p c.l.es.length k, .string c.sn, .int .u16 c.vs, .int .u16 c.hd, .int .i64 (c.nx 0), .int .i64 (c.nx 1), .int .i64 (c.nx 2), .int .i64 (c.nx 3), .int .i64 (c.nx 4), .int .i64 (c.nx 5), .int .i64 (c.nx 6), .int .i64 (c.nx 7), .int .i64 (c.nx 8), .int .i64 (c.nx 9), .int .i64 (c.mt 0), .int .i64 (c.mt 1), .int .i64 (c.mt 2), .int .i64 (c.mt 3), .int .i64 (c.mt 4), .int .i64 (c.mt 5), .int .i64 (c.mt 6), .int .i64 (c.mt 7), .int .i64 (c.mt 8), .int .i64 (c.mt 9)]
abbrev CoX.v (x : CoX) : List Value := coL x.c x.p x.k
def coRow (l : List CoX) : List Value := l.flatMap CoX.v
theorem coRow_cons (x : CoX) (t : List CoX) : coRow (x :: t) = x.v ++ coRow t := List.flatMap_cons
theorem coRow_get {l : List CoX} {n j : Nat} (hn : n < l.length) (hj : j < 45) : (coRow l)[n * 45 + j]? = l[n].v[j]? := by
  induction l generalizing n with
  | nil => simp at hn
  | cons x t ih =>
    rw [coRow_cons]
    cases n with
    | zero => rw [Nat.zero_mul, Nat.zero_add, List.getElem?_append_left (by show j < 45; exact hj)]; rfl
    | succ n =>
      rw [List.getElem?_append_right (by show 45 ≤ _; omega), show (n + 1) * 45 + j - x.v.length = n * 45 + j by (show (n + 1) * 45 + j - 45 = _; omega), ih (by simpa using hn)]
      rfl
theorem coRow_set {l : List CoX} {n j : Nat} (hn : n < l.length) (hj : j < 45) (y : CoX) (u : Value) (h : y.v = l[n].v.set j u) : (coRow l).set (n * 45 + j) u = coRow (l.set n y) := by
  induction l generalizing n with
  | nil => simp at hn
  | cons x t ih =>
    rw [coRow_cons]
    cases n with
    | zero =>
      rw [Nat.zero_mul, Nat.zero_add, List.set_append_left _ _ (by show j < 45; exact hj), List.set_cons_zero, coRow_cons, h]; rfl
    | succ n =>
      rw [List.set_append_right _ _ (by show 45 ≤ _; omega), show (n + 1) * 45 + j - x.v.length = n * 45 + j by (show (n + 1) * 45 + j - 45 = _; omega), ih (by simpa using hn) (by simpa using h), List.set_cons_succ, coRow_cons]
/-- A core's entries lie in a row of the call's own. -/
def CoOwn (base : Nat) (w : World) (x : CoX) : Prop := w.ownsRow base 47 14 (.slice x.p x.c.l.es.length x.k) x.c.l.es.length (entRow x.c.l.es)
/-- A row of cores. -/
structure CsAt (base : Nat) (w : World) (v : Value) (l : List CoX) : Prop where
  own : w.ownsRow base 33 45 v l.length (coRow l)
  en : ∀ x ∈ l, CoOwn base w x
theorem CsAt.keep {base : Nat} {w w' : World} {v : Value} {l : List CoX} (h : CsAt base w v l) (hb : Below w.heap.size w w') : CsAt base w' v l := ⟨own_keptC h.own hb, fun x hx => own_keptC (h.en x hx) hb⟩
theorem own_other {w : World} {b : Nat} {e t : TypeId} {sz n g : Nat} {v : Value} {xs : List Value} {cs : Array Value} (ho : w.ownsRow b e sz v n xs) (hq : w.heap[g]? = some (.cells cs t (0, 0))) (he : t ≠ e) : v.ownBlock = none ∨ v.ownBlock ≠ some g := by
  rcases ho.2 with ⟨rfl, -⟩ | ⟨g1, c1, cur1, rfl, -, q1, -⟩
  · exact .inl rfl
  · refine .inr fun h => ?_
    simp only [Value.ownBlock, Option.some.injEq] at h
    subst h
    rw [q1] at hq
    simp only [Option.some.injEq, Obj.cells.injEq] at hq
    exact he hq.2.1.symm
/-- Another block's writing leaves it. -/
theorem CsAt.grown {base : Nat} {w w' : World} {v : Value} {l : List CoX} (h : CsAt base w v l) {R : Nat} {cs : Array Value} {t : TypeId} (hq : w.heap[R]? = some (.cells cs t (0, 0))) (h1 : t ≠ 33) (h2 : t ≠ 47) (hg : w.grownBy w' (some R)) : CsAt base w' v l :=
  ⟨h.own.kept hg (own_other h.own hq h1), fun x hx => (h.en x hx).kept hg (own_other (h.en x hx) hq h2)⟩
/-- A core's cells. -/
theorem CsAt.cell {base : Nat} {w : World} {g cap : Nat} {l : List CoX} (h : CsAt base w (.slice (some ⟨g, 0, none⟩) l.length cap) l) {n : Nat} (hn : n < l.length) (j : Nat) (hj : j < 45) : w.cell? ⟨g, n * 45 + j, none⟩ = l[n].v[j]? := by
  rw [h.own.cellAt _ (by omega), coRow_get hn hj]
theorem CsAt.free {base : Nat} {w : World} {g cap : Nat} {l : List CoX} (h : CsAt base w (.slice (some ⟨g, 0, none⟩) l.length cap) l) (j : Nat) : w.frozen? ⟨g, j, none⟩ = false := h.own.frozenAt j
theorem CsAt.lt {base : Nat} {w : World} {g cap n : Nat} {l : List CoX} (h : CsAt base w (.slice (some ⟨g, 0, none⟩) n cap) l) : base ≤ g ∧ g < w.heap.size := h.own.lt g rfl
/-- A cell of a core is stored. -/
theorem CsAt.put {base : Nat} {w : World} {g cap : Nat} {l : List CoX} (h : CsAt base w (.slice (some ⟨g, 0, none⟩) l.length cap) l) {n : Nat} (hn : n < l.length) (j : Nat) (hj : j < 45) (y : CoX) (u : Value) (hy : y.v = l[n].v.set j u) (he : CoOwn base w y) :
    CsAt base (w.setCell ⟨g, n * 45 + j, none⟩ u) (.slice (some ⟨g, 0, none⟩) (l.set n y).length cap) (l.set n y) ∧ Below base w (w.setCell ⟨g, n * 45 + j, none⟩ u) := by
  have hs := h.own.stored (n * 45 + j) u
  have hq : ∃ cur, w.heap[g]? = some (.cells cur 33 (0, 0)) := by
    rcases h.own.2 with ⟨h', _⟩ | ⟨g', cap', cur, h', _, hg, _⟩
    · simp at h'
    · simp only [Value.slice.injEq, Option.some.injEq, Addr.mk.injEq, and_true, true_and] at h'
      obtain ⟨rfl, rfl⟩ := h'
      exact ⟨cur, hg⟩
  obtain ⟨cur, hq⟩ := hq
  refine ⟨⟨?_, fun x hx => ?_⟩, (Below.refl base w).setCell h.lt.1 u⟩
  · rw [List.length_set, ← coRow_set hn hj y u hy]; exact hs.1
  · have hk : ∀ x, CoOwn base w x → CoOwn base (w.setCell ⟨g, n * 45 + j, none⟩ u) x := fun x hx => hx.kept hs.2 (own_other hx hq (by decide))
    rcases List.mem_or_eq_of_mem_set hx with hx | rfl
    · exact hk x (h.en x hx)
    · exact hk _ he
/-- Values that are stored one behind the other. -/
def setL : List Value → Nat → List Value → List Value
  | xs, _, [] => xs
  | xs, j, v :: r => setL (xs.set j v) (j + 1) r
theorem flat_set : ∀ {L : List (List Value)} (_ : ∀ x ∈ L, x.length = 45) {n j : Nat} (hn : n < L.length) (_ : j < 45) (u : Value), L.flatten.set (n * 45 + j) u = (L.set n (L[n].set j u)).flatten
  | [], _, _, _, hn, _, _ => absurd hn (by simp)
  | x :: t, h, 0, j, _, hj, u => by
    have hx := h x (by simp)
    rw [List.flatten_cons, Nat.zero_mul, Nat.zero_add, List.set_append_left _ _ (by omega), List.set_cons_zero, List.flatten_cons]; rfl
  | x :: t, h, n + 1, j, hn, hj, u => by
    have hx := h x (by simp)
    rw [List.flatten_cons, List.set_append_right _ _ (by omega), show (n + 1) * 45 + j - x.length = n * 45 + j by omega, flat_set (fun y hy => h y (by simp [hy])) (by simpa using hn) hj u, List.set_cons_succ, List.flatten_cons]; rfl
theorem flat_setL : ∀ (vs : List Value) {L : List (List Value)} (_ : ∀ x ∈ L, x.length = 45) {n j : Nat} (hn : n < L.length) (_ : j + vs.length ≤ 45), setL L.flatten (n * 45 + j) vs = (L.set n (setL L[n] j vs)).flatten
  | [], L, _, n, j, hn, _ => by simp [setL]
  | v :: r, L, h, n, j, hn, hj => by
    rw [List.length_cons] at hj
    have h2 : ∀ x ∈ L.set n (L[n].set j v), x.length = 45 := fun x hx => by
      rcases List.mem_or_eq_of_mem_set hx with hx | rfl
      · exact h x hx
      · rw [List.length_set]; exact h _ (List.getElem_mem hn)
    rw [setL, flat_set h hn (by omega) v, Nat.add_assoc, flat_setL r h2 (by simpa using hn) (by omega), List.set_set]
    simp [setL]
theorem own_setCells {base : Nat} {e : TypeId} {size g n cap : Nat} : ∀ (vs : List Value) {w : World} {xs : List Value} (j : Nat), w.ownsRow base e size (.slice (some ⟨g, 0, none⟩) n cap) n xs → (w.setCells g j vs).ownsRow base e size (.slice (some ⟨g, 0, none⟩) n cap) n (setL xs j vs) ∧ w.grownBy (w.setCells g j vs) (some g)
  | [], w, xs, j, h => ⟨h, ⟨rfl, rfl, rfl, Nat.le_refl _, fun _ _ _ => rfl⟩⟩
  | v :: r, w, xs, j, h => by
    have h1 := h.stored j v
    have h2 := own_setCells r (j + 1) h1.1
    exact ⟨h2.1, grown_transW h1.2 h2.2⟩
theorem CsAt.block {base : Nat} {w : World} {g cap : Nat} {l : List CoX} (h : CsAt base w (.slice (some ⟨g, 0, none⟩) l.length cap) l) : ∃ cur, w.heap[g]? = some (.cells cur 33 (0, 0)) := by
  rcases h.own.2 with ⟨h', _⟩ | ⟨g', cap', cur, h', _, hg, _⟩
  · simp at h'
  · simp only [Value.slice.injEq, Option.some.injEq, Addr.mk.injEq, and_true, true_and] at h'
    obtain ⟨rfl, rfl⟩ := h'
    exact ⟨cur, hg⟩
theorem CsAt.there {base : Nat} {w : World} {g cap : Nat} {l : List CoX} (h : CsAt base w (.slice (some ⟨g, 0, none⟩) l.length cap) l) {n j m : Nat} (hn : n < l.length) (hj : j + m ≤ 45) : w.there g (n * 45 + j) m := fun i hi => by
  have hc := h.cell hn (j + i) (by omega)
  rw [← Nat.add_assoc] at hc
  refine ⟨?_, h.free _⟩
  rw [hc, List.getElem?_eq_getElem (by show j + i < 45; omega)]; rfl
/-- Some cells of a core are stored. -/
theorem CsAt.puts {base : Nat} {w : World} {g cap : Nat} {l : List CoX} (h : CsAt base w (.slice (some ⟨g, 0, none⟩) l.length cap) l) {n : Nat} (hn : n < l.length) (j : Nat) (vs : List Value) (hj : j + vs.length ≤ 45) (y : CoX) (hy : y.v = setL l[n].v j vs) (he : CoOwn base w y) :
    CsAt base (w.setCells g (n * 45 + j) vs) (.slice (some ⟨g, 0, none⟩) (l.set n y).length cap) (l.set n y) ∧ Below base w (w.setCells g (n * 45 + j) vs) := by
  have hs := own_setCells vs (n * 45 + j) h.own
  obtain ⟨cur, hq⟩ := h.block
  have hr : setL (coRow l) (n * 45 + j) vs = coRow (l.set n y) := by
    have h1 := flat_setL vs (L := l.map CoX.v) (fun x hx => by obtain ⟨z, -, rfl⟩ := List.mem_map.1 hx; rfl) (n := n) (j := j) (by simpa using hn) hj
    rw [List.getElem_map, ← hy, ← List.map_set] at h1
    exact h1
  refine ⟨⟨?_, fun x hx => ?_⟩, (Below.refl base w).grown hs.2 (by have := h.own.lt g rfl; omega) (fun k e => by cases e; exact (h.own.lt g rfl).1)⟩
  · rw [List.length_set, ← hr]; exact hs.1
  · have hk : ∀ x, CoOwn base w x → CoOwn base (w.setCells g (n * 45 + j) vs) x := fun x hx => hx.kept hs.2 (own_other hx hq (by decide))
    rcases List.mem_or_eq_of_mem_set hx with hx | rfl
    · exact hk x (h.en x hx)
    · exact hk _ he
theorem block_setCells {g : Nat} {t : TypeId} : ∀ (vs : List Value) (o : Nat) {w : World} {cur : Array Value}, w.heap[g]? = some (.cells cur t (0, 0)) → (w.setCells g o vs).heap[g]? = some (.cells (setL cur.toList o vs).toArray t (0, 0)) ∧ w.grownBy (w.setCells g o vs) (some g)
  | [], o, w, cur, h => ⟨by simpa [setL, World.setCells] using h, ⟨rfl, rfl, rfl, Nat.le_refl _, fun _ _ _ => rfl⟩⟩
  | v :: r, o, w, cur, h => by
    have h1 := block_setCells r (o + 1) (cells_setW h o v)
    rw [Array.toList_setIfInBounds] at h1
    exact ⟨h1.1, grown_transW (grown_setW w g o v) h1.2⟩
theorem there_of_block {w : World} {g o n : Nat} {cur : Array Value} {t : TypeId} (h : w.heap[g]? = some (.cells cur t (0, 0))) (hn : o + n ≤ cur.size) : w.there g o n := fun j hj => by
  refine ⟨?_, block_free h _⟩
  rw [block_cells h, Array.getElem?_eq_getElem (by omega)]; rfl
end Go.Proofs.YtbnndbdnejfehaaGreatDoor
/- Hard: records: letters, numbers, entries: package hard's and the reference's. -/
namespace Go.Proofs.YtbnndbdnejfehaaGreatDoor
open Go.ChangeShapes Go.WideShapes Go.ChangeAt Go.RowKit

theorem own_keptH {w w' : World} {b : Nat} {e : TypeId} {size n : Nat} {v : Value} {xs : List Value} (h : w.ownsRow b e size v n xs) (hb : Below w.heap.size w w') : w'.ownsRow b e size v n xs := h.kept (row := none) ⟨hb.os, hb.tape, hb.output, hb.size, fun k hk _ => hb.block k hk⟩ (by cases v.ownBlock <;> simp)
end Go.Proofs.YtbnndbdnejfehaaGreatDoor
