/- The reference of entries: Compact. -/
import Derived.Test.YtabiccpodnjieaaLogU
import Derived.Test.YtabiccpodnjieaaLogS0
import Derived.Test.YtabiccpodnjieaaLogG
import Derived.Test.YtabiccpodnjieaaPlainCompactW
namespace Go.Proofs.Ytabiccpodnjieaa
open Go.ChangeShapes Go.WideShapes Go.ChangeAt Go.RowKit

/-- What is laid out when k entries have been passed. -/
def outL (l : Lg) (D : Nat) (k : Nat) : Lg := ⟨l.b + D, (termL l (l.b + D)).1, confF l.j (l.es.take (min k D)), (l.es.take k).drop D⟩
structure OutAt (w : World) (O : Nat) (m : Lg) (q : Option Addr) (cc : Nat) (wr : World) : Prop where
  h : wr.heap[O]? = some (.cells #[.int .i64 m.b, .int .i64 m.bt, .int .u16 m.j.ov, .int .u16 m.j.ox, .int .u16 m.j.ol, .int .i64 m.j.oe, .int .i64 m.j.ok, .int .u16 m.j.nv, .int .u16 m.j.nx, .int .u16 m.j.nl, .int .i64 m.j.ne, .int .i64 m.j.nk, .bool m.j.two, .slice q m.es.length cc] 32 (0, 0))
  o : wr.ownsRow (O + 1) 47 14 (.slice q m.es.length cc) m.es.length (entRow m.es)
  b : Below O w wr
theorem OutAt.keep {w wr w' : World} {O : Nat} {m : Lg} {q : Option Addr} {cc : Nat} (h : OutAt w O m q cc wr) (hb : Below wr.heap.size wr w') : OutAt w O m q cc w' :=
  ⟨below_block hb (block_lt h.h) h.h, own_belowL h.o hb (Nat.le_refl _), h.b.trans (hb.mono (Nat.le_of_lt (block_lt h.h)))⟩
theorem OutAt.conf {w wr : World} {O : Nat} {m : Lg} {q : Option Addr} {cc : Nat} (h : OutAt w O m q cc wr) (j : Jn) :
    OutAt w O ⟨m.b, m.bt, j, m.es⟩ q cc (((((((((((wr.setCell ⟨O, 2, none⟩ (.int .u16 j.ov)).setCell ⟨O, 3, none⟩ (.int .u16 j.ox)).setCell ⟨O, 4, none⟩ (.int .u16 j.ol)).setCell ⟨O, 5, none⟩ (.int .i64 j.oe)).setCell ⟨O, 6, none⟩ (.int .i64 j.ok)).setCell ⟨O, 7, none⟩ (.int .u16 j.nv)).setCell ⟨O, 8, none⟩ (.int .u16 j.nx)).setCell ⟨O, 9, none⟩ (.int .u16 j.nl)).setCell ⟨O, 10, none⟩ (.int .i64 j.ne)).setCell ⟨O, 11, none⟩ (.int .i64 j.nk)).setCell ⟨O, 12, none⟩ (.bool j.two)) := by
  have k0 : KpG wr wr O _ _ := ⟨h.h, grown_reflL wr _⟩
  have k := (((((((((((k0.step 2 (.int .u16 j.ov)).step 3 (.int .u16 j.ox)).step 4 (.int .u16 j.ol)).step 5 (.int .i64 j.oe)).step 6 (.int .i64 j.ok)).step 7 (.int .u16 j.nv)).step 8 (.int .u16 j.nx)).step 9 (.int .u16 j.nl)).step 10 (.int .i64 j.ne)).step 11 (.int .i64 j.nk)).step 12 (.bool j.two))
  have hk := k.blk
  simp only [List.setIfInBounds_toArray, List.set_cons_zero, List.set_cons_succ] at hk
  exact ⟨hk, own_farL h.o k.gr (Nat.lt_succ_self _), below_grown h.b k.gr (Nat.le_of_lt (block_lt h.h)) (Nat.le_refl _)⟩
theorem OutAt.push {w wr : World} {O : Nat} {m m' : Lg} {q q2 : Option Addr} {cc c2 : Nat} (h : wr.heap[O]? = some (.cells #[.int .i64 m.b, .int .i64 m.bt, .int .u16 m.j.ov, .int .u16 m.j.ox, .int .u16 m.j.ol, .int .i64 m.j.oe, .int .i64 m.j.ok, .int .u16 m.j.nv, .int .u16 m.j.nx, .int .u16 m.j.nl, .int .i64 m.j.ne, .int .i64 m.j.nk, .bool m.j.two, .slice q m.es.length cc] 32 (0, 0))) (hb : Below O w wr) (hm : m'.b = m.b ∧ m'.bt = m.bt ∧ m'.j = m.j) (ho : wr.ownsRow (O + 1) 47 14 (.slice q2 m'.es.length c2) m'.es.length (entRow m'.es)) :
    OutAt w O m' q2 c2 (wr.setCell ⟨O, 13, none⟩ (.slice q2 m'.es.length c2)) := by
  have k0 : KpG wr wr O _ _ := ⟨h, grown_reflL wr _⟩
  have k := k0.step 13 (.slice q2 m'.es.length c2)
  have hk := k.blk
  simp only [List.setIfInBounds_toArray, List.set_cons_zero, List.set_cons_succ] at hk
  obtain ⟨h1, h2, h3⟩ := hm
  refine ⟨by rw [h1, h2, h3]; exact hk, own_farL ho k.gr (Nat.lt_succ_self _), below_grown hb k.gr (Nat.le_of_lt (block_lt h)) (Nat.le_refl _)⟩
theorem outL_zero (l : Lg) (D : Nat) : outL l D 0 = ⟨l.b + D, (termL l (l.b + D)).1, l.j, []⟩ := by
  unfold outL; simp [confF]
theorem outL_keep {l : Lg} {D k : Nat} (hk : k < l.es.length) (h : D ≤ k) : outL l D (k + 1) = ⟨(outL l D k).b, (outL l D k).bt, (outL l D k).j, (outL l D k).es ++ [l.es[k]]⟩ := by
  unfold outL
  simp only [Lg.mk.injEq, true_and]
  refine ⟨by rw [Nat.min_eq_right (by omega), Nat.min_eq_right (by omega)], ?_⟩
  rw [List.take_succ_eq_append_getElem hk, List.drop_append_of_le_length (by rw [List.length_take]; omega)]
theorem outL_pass {l : Lg} {D k : Nat} (hk : k < l.es.length) (h : k < D) : outL l D (k + 1) = ⟨(outL l D k).b, (outL l D k).bt, if l.es[k].k = 2 then l.es[k].j else (outL l D k).j, (outL l D k).es⟩ := by
  unfold outL
  simp only [Lg.mk.injEq, true_and]
  refine ⟨?_, ?_⟩
  · rw [Nat.min_eq_left (by omega), Nat.min_eq_left (by omega), List.take_succ_eq_append_getElem hk, confF_app]
    simp [confF]
  · rw [List.drop_eq_nil_of_le (by rw [List.length_take]; omega), List.drop_eq_nil_of_le (by rw [List.length_take]; omega)]
theorem outL_end {l : Lg} {D : Nat} (_hb : 0 ≤ l.b) (h : (l.b + D : Int) ≤ l.last) : compactL l (l.b + D) = (outL l D l.es.length, 0) := by
  have hh := termL_has (l := l) (i := l.b + D) (by omega) h
  unfold Lg.last at h
  unfold compactL outL
  rw [if_pos hh, show (l.b + (D : Int) - l.b).toNat = D by omega, Nat.min_eq_right (by omega), List.take_of_length_le (Nat.le_refl _)]
end Go.Proofs.Ytabiccpodnjieaa
