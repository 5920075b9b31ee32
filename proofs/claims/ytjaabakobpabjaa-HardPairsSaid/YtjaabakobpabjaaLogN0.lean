/- entries: Merge: what its memory keeps. -/
import Derived.Test.YtjaabakobpabjaaLogM
namespace Go.Proofs.Ytjaabakobpabjaa
open Go.ChangeShapes Go.WideShapes Go.ChangeAt Go.RowKit

/-- A log in a memory of its own, a number, and whether it is well. -/
def LgEnd3 (B : Nat) (w : World) (x : Lg × Int × Bool) (r : Ending) (w' : World) : Prop :=
  ∃ p c, r = .returned (.tuple #[.agg #[.int .i64 x.1.b, .int .i64 x.1.bt, .int .u16 x.1.j.ov, .int .u16 x.1.j.ox, .int .u16 x.1.j.ol, .int .i64 x.1.j.oe, .int .i64 x.1.j.ok, .int .u16 x.1.j.nv, .int .u16 x.1.j.nx, .int .u16 x.1.j.nl, .int .i64 x.1.j.ne, .int .i64 x.1.j.nk, .bool x.1.j.two, .slice p x.1.es.length c], .int .i64 x.2.1, .bool x.2.2]) ∧ w'.ownsRow B 85 14 (.slice p x.1.es.length c) x.1.es.length (entRow x.1.es) ∧ Below w.heap.size w w'
structure MgW (w : World) (l : Lg) (p : Option Addr) (c : Nat) (p3 : Option Addr) (c3 A : Nat) (W : World) : Prop where
  a : W.heap[w.heap.size]? = some (.cells #[.int .i64 l.b, .int .i64 l.bt, .int .u16 l.j.ov, .int .u16 l.j.ox, .int .u16 l.j.ol, .int .i64 l.j.oe, .int .i64 l.j.ok, .int .u16 l.j.nv, .int .u16 l.j.nx, .int .u16 l.j.nl, .int .i64 l.j.ne, .int .i64 l.j.nk, .bool l.j.two, .slice p l.es.length c] 45 (0, 0))
  z : W.heap[w.heap.size + 1]? = some (.cells #[.int .i64 0, .int .i64 0, .int .u16 0, .int .u16 0, .int .u16 0, .int .i64 0, .int .i64 0, .int .u16 0, .int .u16 0, .int .u16 0, .int .i64 0, .int .i64 0, .bool false, .slice none 0 0] 45 (0, 0))
  t : W.heap[A]? = some (.cells #[.int .i64 l.b, .int .i64 l.bt, .int .u16 l.j.ov, .int .u16 l.j.ox, .int .u16 l.j.ol, .int .i64 l.j.oe, .int .i64 l.j.ok, .int .u16 l.j.nv, .int .u16 l.j.nx, .int .u16 l.j.nl, .int .i64 l.j.ne, .int .i64 l.j.nk, .bool l.j.two, .slice p3 l.es.length c3] 45 (0, 0))
  o : W.ownsRow (w.heap.size + 2) 85 14 (.slice p3 l.es.length c3) l.es.length (entRow l.es)
  b : Below w.heap.size w W
  s : w.heap.size + 2 ≤ W.heap.size
theorem MgW.keep {w : World} {l : Lg} {p : Option Addr} {c : Nat} {p3 : Option Addr} {c3 A : Nat} {W W' : World} (h : MgW w l p c p3 c3 A W) (hb : Below W.heap.size W W') : MgW w l p c p3 c3 A W' :=
  ⟨below_block hb (block_lt h.a) h.a, below_block hb (block_lt h.z) h.z, below_block hb (block_lt h.t) h.t, own_belowL h.o hb (Nat.le_refl _), h.b.trans (hb.mono h.b.size), Nat.le_trans h.s hb.size⟩
theorem MgW.alloc {w : World} {l : Lg} {p : Option Addr} {c : Nat} {p3 : Option Addr} {c3 A : Nat} {W : World} (h : MgW w l p c p3 c3 A W) (o : Obj) : MgW w l p c p3 c3 A (W.alloc o) := h.keep ((Below.refl _ _).alloc (Nat.le_refl _) _)
theorem MgW.same {w : World} {l : Lg} {p : Option Addr} {c : Nat} {p3 : Option Addr} {c3 A : Nat} {W : World} (h : MgW w l p c p3 c3 A W) {n : Int} {b : Bool} {x : Lg × Int × Bool} (hx : Hid (x = (l, n, b))) :
    (∀ j, (put14 W (w.heap.size + 1) (.int .i64 l.b) (.int .i64 l.bt) (.int .u16 l.j.ov) (.int .u16 l.j.ox) (.int .u16 l.j.ol) (.int .i64 l.j.oe) (.int .i64 l.j.ok) (.int .u16 l.j.nv) (.int .u16 l.j.nx) (.int .u16 l.j.nl) (.int .i64 l.j.ne) (.int .i64 l.j.nk) (.bool l.j.two) (.slice p3 l.es.length c3)).cell? ⟨w.heap.size + 1, j, none⟩ = #[.int .i64 l.b, .int .i64 l.bt, .int .u16 l.j.ov, .int .u16 l.j.ox, .int .u16 l.j.ol, .int .i64 l.j.oe, .int .i64 l.j.ok, .int .u16 l.j.nv, .int .u16 l.j.nx, .int .u16 l.j.nl, .int .i64 l.j.ne, .int .i64 l.j.nk, .bool l.j.two, .slice p3 l.es.length c3][j]?) ∧ LgEnd3 w.heap.size w x (.returned (.tuple #[.agg #[.int .i64 l.b, .int .i64 l.bt, .int .u16 l.j.ov, .int .u16 l.j.ox, .int .u16 l.j.ol, .int .i64 l.j.oe, .int .i64 l.j.ok, .int .u16 l.j.nv, .int .u16 l.j.nx, .int .u16 l.j.nl, .int .i64 l.j.ne, .int .i64 l.j.nk, .bool l.j.two, .slice p3 l.es.length c3], .int .i64 n, .bool b])) (put14 W (w.heap.size + 1) (.int .i64 l.b) (.int .i64 l.bt) (.int .u16 l.j.ov) (.int .u16 l.j.ox) (.int .u16 l.j.ol) (.int .i64 l.j.oe) (.int .i64 l.j.ok) (.int .u16 l.j.nv) (.int .u16 l.j.nx) (.int .u16 l.j.nl) (.int .i64 l.j.ne) (.int .i64 l.j.nk) (.bool l.j.two) (.slice p3 l.es.length c3)) := by
  have F := put14_ok h.z h.b (Nat.le_succ _) (.int .i64 l.b) (.int .i64 l.bt) (.int .u16 l.j.ov) (.int .u16 l.j.ox) (.int .u16 l.j.ol) (.int .i64 l.j.oe) (.int .i64 l.j.ok) (.int .u16 l.j.nv) (.int .u16 l.j.nx) (.int .u16 l.j.nl) (.int .i64 l.j.ne) (.int .i64 l.j.nk) (.bool l.j.two) (.slice p3 l.es.length c3)
  have G := own_farL h.o (put14_grown W (w.heap.size + 1) (.int .i64 l.b) (.int .i64 l.bt) (.int .u16 l.j.ov) (.int .u16 l.j.ox) (.int .u16 l.j.ol) (.int .i64 l.j.oe) (.int .i64 l.j.ok) (.int .u16 l.j.nv) (.int .u16 l.j.nx) (.int .u16 l.j.nl) (.int .i64 l.j.ne) (.int .i64 l.j.nk) (.bool l.j.two) (.slice p3 l.es.length c3)) (Nat.lt_succ_self _)
  refine ⟨block_cells F.1, ?_⟩
  have hx' := hx.out
  subst hx'
  exact ⟨p3, c3, rfl, G.mono (Nat.le_add_right _ _), F.2⟩
theorem MgW.front {w : World} {l : Lg} {p : Option Addr} {c : Nat} {p3 : Option Addr} {c3 A : Nat} {W w8 : World} (h : MgW w l p c p3 c3 A W) {f : Lg} {p5 : Option Addr} {c5 : Nat} (ho : w8.ownsRow W.heap.size 85 14 (.slice p5 f.es.length c5) f.es.length (entRow f.es)) (hb : Below W.heap.size W w8) {n : Int} {x : Lg × Int × Bool} (hx : Hid (x = (f, n, true))) :
    (∀ j, (put14 w8 (w.heap.size + 1) (.int .i64 f.b) (.int .i64 f.bt) (.int .u16 f.j.ov) (.int .u16 f.j.ox) (.int .u16 f.j.ol) (.int .i64 f.j.oe) (.int .i64 f.j.ok) (.int .u16 f.j.nv) (.int .u16 f.j.nx) (.int .u16 f.j.nl) (.int .i64 f.j.ne) (.int .i64 f.j.nk) (.bool f.j.two) (.slice p5 f.es.length c5)).cell? ⟨w.heap.size + 1, j, none⟩ = #[.int .i64 f.b, .int .i64 f.bt, .int .u16 f.j.ov, .int .u16 f.j.ox, .int .u16 f.j.ol, .int .i64 f.j.oe, .int .i64 f.j.ok, .int .u16 f.j.nv, .int .u16 f.j.nx, .int .u16 f.j.nl, .int .i64 f.j.ne, .int .i64 f.j.nk, .bool f.j.two, .slice p5 f.es.length c5][j]?) ∧ LgEnd3 w.heap.size w x (.returned (.tuple #[.agg #[.int .i64 f.b, .int .i64 f.bt, .int .u16 f.j.ov, .int .u16 f.j.ox, .int .u16 f.j.ol, .int .i64 f.j.oe, .int .i64 f.j.ok, .int .u16 f.j.nv, .int .u16 f.j.nx, .int .u16 f.j.nl, .int .i64 f.j.ne, .int .i64 f.j.nk, .bool f.j.two, .slice p5 f.es.length c5], .int .i64 n, .bool true])) (put14 w8 (w.heap.size + 1) (.int .i64 f.b) (.int .i64 f.bt) (.int .u16 f.j.ov) (.int .u16 f.j.ox) (.int .u16 f.j.ol) (.int .i64 f.j.oe) (.int .i64 f.j.ok) (.int .u16 f.j.nv) (.int .u16 f.j.nx) (.int .u16 f.j.nl) (.int .i64 f.j.ne) (.int .i64 f.j.nk) (.bool f.j.two) (.slice p5 f.es.length c5)) := by
  have h8 := h.keep hb
  have F := put14_ok h8.z h8.b (Nat.le_succ _) (.int .i64 f.b) (.int .i64 f.bt) (.int .u16 f.j.ov) (.int .u16 f.j.ox) (.int .u16 f.j.ol) (.int .i64 f.j.oe) (.int .i64 f.j.ok) (.int .u16 f.j.nv) (.int .u16 f.j.nx) (.int .u16 f.j.nl) (.int .i64 f.j.ne) (.int .i64 f.j.nk) (.bool f.j.two) (.slice p5 f.es.length c5)
  have G := own_farL ho (put14_grown w8 (w.heap.size + 1) (.int .i64 f.b) (.int .i64 f.bt) (.int .u16 f.j.ov) (.int .u16 f.j.ox) (.int .u16 f.j.ol) (.int .i64 f.j.oe) (.int .i64 f.j.ok) (.int .u16 f.j.nv) (.int .u16 f.j.nx) (.int .u16 f.j.nl) (.int .i64 f.j.ne) (.int .i64 f.j.nk) (.bool f.j.two) (.slice p5 f.es.length c5)) (Nat.lt_of_lt_of_le (Nat.lt_succ_self _) h.s)
  refine ⟨block_cells F.1, ?_⟩
  have hx' := hx.out
  subst hx'
  exact ⟨p5, c5, rfl, G.mono (Nat.le_trans (Nat.le_add_right _ _) h.s), F.2⟩
theorem EnSl.cells {w : World} {g o n c : Nat} {E : List Ent} (h : EnSl w (.slice (some ⟨g, o, none⟩) n c) E) (k : Nat) (hk : k < E.length) : g < w.heap.size ∧ ∀ j, j < 14 → w.cell? ⟨g, o + k * 14 + j, none⟩ = (entC E[k])[j]? := by
  obtain ⟨g', o', cap, hv, hg, hc⟩ := h.at k hk
  simp only [Value.slice.injEq, Option.some.injEq, Addr.mk.injEq, and_true] at hv
  obtain ⟨⟨rfl, rfl⟩, -⟩ := hv
  exact ⟨hg, hc⟩
/-- What is taken, from the k-th of the entries on. -/
theorem MgW.taken {w : World} {l : Lg} {p : Option Addr} {c : Nat} {p3 : Option Addr} {c3 A : Nat} {W : World} (h : MgW w l p c p3 c3 A W) (hE : EnSl w (.slice p l.es.length c) l.es) {g o c2 : Nat} {E : List Ent} (h2 : EnSl w (.slice (some ⟨g, o, none⟩) E.length c2) E) {m k : Nat} (hk : k < E.length) (hm : m ≤ l.es.length) (hl : l.es.length + E.length ≤ 1000000) {f : Lg} (hf : Hid (frontL l m (E.drop k) = f)) {N : Nat} (hN : Hid (E.length = N)) :
    Calls Try.prog 83 #[.agg #[.int .i64 l.b, .int .i64 l.bt, .int .u16 l.j.ov, .int .u16 l.j.ox, .int .u16 l.j.ol, .int .i64 l.j.oe, .int .i64 l.j.ok, .int .u16 l.j.nv, .int .u16 l.j.nx, .int .u16 l.j.nl, .int .i64 l.j.ne, .int .i64 l.j.nk, .bool l.j.two, .slice p l.es.length c], .int .i64 m, .slice (some ⟨g, o + k * 14, none⟩) (N - k) (c2 - k)] W.drew fun r w' => ∃ p5 c5, r = .returned (.agg #[.int .i64 f.b, .int .i64 f.bt, .int .u16 f.j.ov, .int .u16 f.j.ox, .int .u16 f.j.ol, .int .i64 f.j.oe, .int .i64 f.j.ok, .int .u16 f.j.nv, .int .u16 f.j.nx, .int .u16 f.j.nl, .int .i64 f.j.ne, .int .i64 f.j.nk, .bool f.j.two, .slice p5 f.es.length c5]) ∧ w'.ownsRow W.heap.size 85 14 (.slice p5 f.es.length c5) f.es.length (entRow f.es) ∧ Below W.heap.size W w' := by
  have hb : Below w.heap.size w W.drew := h.b.trans ((Below.refl _ _).drew.mono h.b.size)
  have h3 := (h2.keep hb (Nat.le_refl _)).drop (k := k) (by omega)
  have hm3 : Option.map (fun x => x.add (k * 14)) (some (⟨g, o, none⟩ : Addr)) = some ⟨g, o + k * 14, none⟩ := by simp [add_plain]
  rw [hm3] at h3
  have hld : (E.drop k).length = N - k := by rw [List.length_drop, hN.out]
  have h4 := front_any l p c m (E.drop k) _ (c2 - k) W.drew hm (hE.keep hb (Nat.le_refl _)) h3 (by rw [List.length_drop]; omega)
  rw [hf.out, hld] at h4
  refine h4.mono ?_
  rintro r w' ⟨p5, c5, rfl, ho, hb'⟩
  exact ⟨p5, c5, rfl, ho, ((Below.refl _ _).drew).trans hb'⟩
end Go.Proofs.Ytjaabakobpabjaa
