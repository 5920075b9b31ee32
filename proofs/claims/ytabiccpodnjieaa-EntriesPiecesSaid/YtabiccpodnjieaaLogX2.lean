/- Entries that lie apart from a block: they stay when it is written. -/
import Derived.Test.YtabiccpodnjieaaLogX0
namespace Go.Proofs.Ytabiccpodnjieaa
open Go.ChangeShapes Go.WideShapes Go.ChangeAt Go.RowKit

structure FarE (A : Nat) (w : World) (p : Option Addr) (c : Nat) (L : List Ent) : Prop where
  e : EnSl w (.slice p L.length c) L
  f : 0 < L.length → ∀ a, p = some a → a.block ≠ A
theorem FarE.keep {A B : Nat} {w w' : World} {p : Option Addr} {c : Nat} {L : List Ent} (h : FarE A w p c L) (hb : Below B w w') (hB : w.heap.size ≤ B) : FarE A w' p c L := ⟨h.e.keep hb hB, h.f⟩
theorem cell_eqL {w w' : World} {a : Addr} (h : w'.heap[a.block]? = w.heap[a.block]?) : w'.cell? a = w.cell? a := by
  unfold World.cell?; rw [h]
theorem FarE.grown {A : Nat} {w w' : World} {p : Option Addr} {c : Nat} {L : List Ent} (h : FarE A w p c L) (hg : w.grownBy w' (some A)) : FarE A w' p c L := by
  refine ⟨?_, h.f⟩
  obtain ⟨h1, h2⟩ := h.e
  refine ⟨h1, ?_⟩
  rcases h2 with h2 | ⟨ad, cap, e, h3, h4, h5⟩
  · exact .inl h2
  · refine .inr ⟨ad, cap, e, h3, h4, fun hn => ?_⟩
    obtain ⟨g, o, e1, h6, h7⟩ := h5 hn
    have he : p = some ad := by simp only [Value.slice.injEq] at e; exact e.1
    have hne := h.f hn ad he
    subst e1
    refine ⟨g, o, rfl, Nat.lt_of_lt_of_le h6 hg.size, fun j hj => ?_⟩
    rw [← h7 j hj]
    exact cell_eqL (hg.block g h6 (fun x => hne (by simpa using x)))
theorem FarE.of_own {A B : Nat} {w : World} {t : TypeId} {p : Option Addr} {c : Nat} {L : List Ent} (h : w.ownsRow B t 14 (.slice p L.length c) L.length (entRow L)) (hB : A < B) : FarE A w p c L := by
  refine ⟨EnSl.of_own h, fun _ a ha => ?_⟩
  subst ha
  have := (own_geL h a.block (by simp [Value.ownBlock])).1
  omega
theorem FarE.of_below {A : Nat} {w : World} {p : Option Addr} {c : Nat} {L : List Ent} (h : EnSl w (.slice p L.length c) L) (hA : w.heap.size ≤ A) : FarE A w p c L := by
  refine ⟨h, fun hn a ha => ?_⟩
  obtain ⟨h1, h2⟩ := h
  rcases h2 with ⟨h2, h3⟩ | ⟨ad, cap, e, h3, h4, h5⟩
  · omega
  · obtain ⟨g, o, e1, h6, h7⟩ := h5 hn
    simp only [Value.slice.injEq] at e
    obtain ⟨rfl, -⟩ := e
    simp only [Option.some.injEq] at ha
    subst ha e1
    show g ≠ A; omega
/-- Another log is written into the block. -/
theorem put_log {A B : Nat} {w wk : World} {l m : Lg} {p p2 : Option Addr} {c c2 : Nat} (hl : Lies wk A l p c) (hb : Below B w wk) (hB : B ≤ A) (hm : FarE A wk p2 c2 m.es) :
    Lies (put14 wk A (.int .i64 m.b) (.int .i64 m.bt) (.int .u16 m.j.ov) (.int .u16 m.j.ox) (.int .u16 m.j.ol) (.int .i64 m.j.oe) (.int .i64 m.j.ok) (.int .u16 m.j.nv) (.int .u16 m.j.nx) (.int .u16 m.j.nl) (.int .i64 m.j.ne) (.int .i64 m.j.nk) (.bool m.j.two) (.slice p2 m.es.length c2)) A m p2 c2 ∧ Below B w (put14 wk A (.int .i64 m.b) (.int .i64 m.bt) (.int .u16 m.j.ov) (.int .u16 m.j.ox) (.int .u16 m.j.ol) (.int .i64 m.j.oe) (.int .i64 m.j.ok) (.int .u16 m.j.nv) (.int .u16 m.j.nx) (.int .u16 m.j.nl) (.int .i64 m.j.ne) (.int .i64 m.j.nk) (.bool m.j.two) (.slice p2 m.es.length c2)) ∧ FarE A (put14 wk A (.int .i64 m.b) (.int .i64 m.bt) (.int .u16 m.j.ov) (.int .u16 m.j.ox) (.int .u16 m.j.ol) (.int .i64 m.j.oe) (.int .i64 m.j.ok) (.int .u16 m.j.nv) (.int .u16 m.j.nx) (.int .u16 m.j.nl) (.int .i64 m.j.ne) (.int .i64 m.j.nk) (.bool m.j.two) (.slice p2 m.es.length c2)) p2 c2 m.es := by
  have F := put14_ok hl.h hb hB (.int .i64 m.b) (.int .i64 m.bt) (.int .u16 m.j.ov) (.int .u16 m.j.ox) (.int .u16 m.j.ol) (.int .i64 m.j.oe) (.int .i64 m.j.ok) (.int .u16 m.j.nv) (.int .u16 m.j.nx) (.int .u16 m.j.nl) (.int .i64 m.j.ne) (.int .i64 m.j.nk) (.bool m.j.two) (.slice p2 m.es.length c2)
  have G := hm.grown (put14_grown wk A (.int .i64 m.b) (.int .i64 m.bt) (.int .u16 m.j.ov) (.int .u16 m.j.ox) (.int .u16 m.j.ol) (.int .i64 m.j.oe) (.int .i64 m.j.ok) (.int .u16 m.j.nv) (.int .u16 m.j.nx) (.int .u16 m.j.nl) (.int .i64 m.j.ne) (.int .i64 m.j.nk) (.bool m.j.two) (.slice p2 m.es.length c2))
  exact ⟨⟨F.1, G.e⟩, F.2, G⟩
end Go.Proofs.Ytabiccpodnjieaa
