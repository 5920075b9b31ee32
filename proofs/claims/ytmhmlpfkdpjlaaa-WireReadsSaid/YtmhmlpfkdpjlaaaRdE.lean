/- Wire: rows of the call's own as lists; what reading a command, a state tells. -/
import Derived.Test.YtmhmlpfkdpjlaaaRdD
namespace Go.Proofs.Ytmhmlpfkdpjlaaa
open Go.ChangeShapes Go.WideShapes Go.ChangeAt Go.RowKit

theorem flat_get {α : Type} {f : α → List Value} {size : Nat} (hf : ∀ a, (f a).length = size) : ∀ (l : List α) (j : Nat) (hj : j < l.length) (i : Nat), i < size → (l.flatMap f)[j * size + i]? = (f l[j])[i]?
  | [], j, hj, _, _ => absurd hj (by simp)
  | a :: l, 0, _, i, hi => by
    rw [List.flatMap_cons, Nat.zero_mul, Nat.zero_add, List.getElem?_append_left (by rw [hf]; exact hi)]; rfl
  | a :: l, j + 1, hj, i, hi => by
    rw [List.flatMap_cons, List.getElem?_append_right (by rw [hf, Nat.add_mul]; omega), hf, show (j + 1) * size + i - size = j * size + i by rw [Nat.add_mul]; omega]
    exact flat_get hf l j (by simpa using hj) i hi
theorem own_at {w : World} {base : Nat} {e : TypeId} {size n c : Nat} {p : Option Addr} {xs : List Value} (h : w.ownsRow base e size (.slice p n c) n xs) {i : Nat} (hi : i < n * size) : ∃ g, p = some ⟨g, 0, none⟩ ∧ g < w.heap.size ∧ ∀ j, j < n * size → w.cell? ⟨g, j, none⟩ = xs[j]? := by
  rcases h.2 with ⟨-, h0⟩ | ⟨g, cap, cur, hv, -, hg, -, -, hc, ht⟩
  · subst h0; simp at hi
  · simp only [Value.slice.injEq] at hv
    refine ⟨g, hv.1, block_lt hg, fun j hj => ?_⟩
    rw [block_cells hg, ← ht, List.getElem?_take, if_pos hj]
    simp
theorem spsAt_own {w : World} {base : Nat} {p : Option Addr} {c : Nat} {L : List SpX} {t : TypeId} (h : w.ownsRow base t 2 (.slice p L.length c) L.length (spR L)) : SpsAt w p L := fun j hj => by
  obtain ⟨g, rfl, hg, hc⟩ := own_at h (i := j * 2) (by have := Nat.mul_lt_mul_of_pos_right hj (show 0 < 2 by decide); omega)
  have key : ∀ i, i < 2 → w.cell? ⟨g, j * 2 + i, none⟩ = ([.string L[j].lo, .string L[j].hi] : List Value)[i]? := fun i hi => by
    rw [hc _ (by have := Nat.mul_le_mul_right 2 (show j + 1 ≤ L.length from hj); rw [Nat.add_mul] at this; omega)]
    unfold spR
    exact flat_get (size := 2) (fun _ => rfl) L j hj i hi
  exact ⟨g, 0, rfl, hg, by rw [Nat.zero_add]; exact key 0 (by decide), by rw [Nat.zero_add]; exact key 1 (by decide)⟩
theorem wrsAt_own {w : World} {base : Nat} {p : Option Addr} {c : Nat} {L : List WrX} {t : TypeId} (h : w.ownsRow base t 3 (.slice p L.length c) L.length (wrR L)) : WrsAt w p L := fun j hj => by
  obtain ⟨g, rfl, hg, hc⟩ := own_at h (i := j * 3) (by have := Nat.mul_lt_mul_of_pos_right hj (show 0 < 3 by decide); omega)
  have key : ∀ i, i < 3 → w.cell? ⟨g, j * 3 + i, none⟩ = ([.string L[j].k, .bool L[j].r, .string L[j].d] : List Value)[i]? := fun i hi => by
    rw [hc _ (by have := Nat.mul_le_mul_right 3 (show j + 1 ≤ L.length from hj); rw [Nat.add_mul] at this; omega)]
    unfold wrR
    exact flat_get (size := 3) (fun _ => rfl) L j hj i hi
  exact ⟨g, 0, rfl, hg, by rw [Nat.zero_add]; exact key 0 (by decide), by rw [Nat.zero_add]; exact key 1 (by decide), by rw [Nat.zero_add]; exact key 2 (by decide)⟩
theorem vesAt_own {w : World} {base : Nat} {p : Option Addr} {c : Nat} {L : List VeX} {t : TypeId} (h : w.ownsRow base t 4 (.slice p L.length c) L.length (veR L)) : VesAt w p L := fun j hj => by
  obtain ⟨g, rfl, hg, hc⟩ := own_at h (i := j * 4) (by have := Nat.mul_lt_mul_of_pos_right hj (show 0 < 4 by decide); omega)
  have key : ∀ i, i < 4 → w.cell? ⟨g, j * 4 + i, none⟩ = ([.int .i64 L[j].w, .int .i64 L[j].t, .bool L[j].r, .string L[j].d] : List Value)[i]? := fun i hi => by
    rw [hc _ (by have := Nat.mul_le_mul_right 4 (show j + 1 ≤ L.length from hj); rw [Nat.add_mul] at this; omega)]
    unfold veR
    exact flat_get (size := 4) (fun _ => rfl) L j hj i hi
  exact ⟨g, 0, rfl, hg, by rw [Nat.zero_add]; exact key 0 (by decide), by rw [Nat.zero_add]; exact key 1 (by decide), by rw [Nat.zero_add]; exact key 2 (by decide), by rw [Nat.zero_add]; exact key 3 (by decide)⟩
theorem ousAt_own {w : World} {base : Nat} {p : Option Addr} {c : Nat} {L : List OuX} {t : TypeId} (h : w.ownsRow base t 7 (.slice p L.length c) L.length (ouR L)) : OusAt w p L := fun j hj => by
  obtain ⟨g, rfl, hg, hc⟩ := own_at h (i := j * 7) (by have := Nat.mul_lt_mul_of_pos_right hj (show 0 < 7 by decide); omega)
  have key : ∀ i, i < 7 → w.cell? ⟨g, j * 7 + i, none⟩ = ([.int .i64 L[j].yn, .int .i64 L[j].yl, .int .i64 L[j].ys, .int .i64 L[j].ya, .int .i64 L[j].sw, .int .i64 L[j].st, .bool L[j].yes] : List Value)[i]? := fun i hi => by
    rw [hc _ (by have := Nat.mul_le_mul_right 7 (show j + 1 ≤ L.length from hj); rw [Nat.add_mul] at this; omega)]
    unfold ouR
    exact flat_get (size := 7) (fun _ => rfl) L j hj i hi
  exact ⟨g, 0, rfl, hg, by rw [Nat.zero_add]; exact key 0 (by decide), by rw [Nat.zero_add]; exact key 1 (by decide), by rw [Nat.zero_add]; exact key 2 (by decide), by rw [Nat.zero_add]; exact key 3 (by decide), by rw [Nat.zero_add]; exact key 4 (by decide), by rw [Nat.zero_add]; exact key 5 (by decide), by rw [Nat.zero_add]; exact key 6 (by decide)⟩
theorem cesAt_own {w : World} {base : Nat} {p : Option Addr} {c : Nat} {L : List CeL} {t : TypeId} (h : w.ownsRow base t 12 (.slice p L.length c) L.length (ceR L)) (hv : ∀ x ∈ L, VesAt w x.2.1 x.1.vs) : CesAt w p L := fun j hj => by
  obtain ⟨g, rfl, hg, hc⟩ := own_at h (i := j * 12) (by have := Nat.mul_lt_mul_of_pos_right hj (show 0 < 12 by decide); omega)
  have key : ∀ i, i < 12 → w.cell? ⟨g, j * 12 + i, none⟩ = ([.string L[j].1.k, .slice L[j].2.1 L[j].1.vs.length L[j].2.2, .bool L[j].1.lk, .int .i64 L[j].1.yn, .int .i64 L[j].1.yl, .int .i64 L[j].1.ys, .int .i64 L[j].1.ya, .int .i64 L[j].1.hm, .int .i64 L[j].1.sw, .int .i64 L[j].1.st, .bool L[j].1.lr, .string L[j].1.ld] : List Value)[i]? := fun i hi => by
    rw [hc _ (by have := Nat.mul_le_mul_right 12 (show j + 1 ≤ L.length from hj); rw [Nat.add_mul] at this; omega)]
    unfold ceR
    exact flat_get (size := 12) (fun _ => rfl) L j hj i hi
  exact ⟨g, 0, rfl, hg, hv _ (List.getElem_mem hj), by rw [Nat.zero_add]; exact key 0 (by decide), by rw [Nat.zero_add]; exact key 1 (by decide), by rw [Nat.zero_add]; exact key 2 (by decide), by rw [Nat.zero_add]; exact key 3 (by decide), by rw [Nat.zero_add]; exact key 4 (by decide), by rw [Nat.zero_add]; exact key 5 (by decide), by rw [Nat.zero_add]; exact key 6 (by decide), by rw [Nat.zero_add]; exact key 7 (by decide), by rw [Nat.zero_add]; exact key 8 (by decide), by rw [Nat.zero_add]; exact key 9 (by decide), by rw [Nat.zero_add]; exact key 10 (by decide), by rw [Nat.zero_add]; exact key 11 (by decide)⟩
theorem own_kp {base R g b : Nat} {w w' : World} {e : TypeId} {size n : Nat} {v : Value} {xs : List Value} (h : w.ownsRow b e size v n xs) (hk : KpB base R g w w') (hb : w.heap.size ≤ base) (h1 : R < b) (h2 : g < b) : w'.ownsRow b e size v n xs := by
  refine ⟨h.1, ?_⟩
  rcases h.2 with hn | ⟨y, cap, cur, rfl, hby, hy, rest⟩
  · exact .inl hn
  · exact .inr ⟨y, cap, cur, rfl, hby, (hk y (by have := block_lt hy; omega) (by omega) (by omega)).trans hy, rest⟩
/-- Bytes are read as a command, if they are one's. -/
def TkCmd (w : World) (xs : List Int) (e : Ending) (w' : World) : Prop :=
  Below w.heap.size w w' ∧ ((∃ (c : CmX) (ps pw : Option Addr) (cs cw : Nat), encCm c = xs ∧ CmV c ∧ SpsAt w' ps c.sp ∧ WrsAt w' pw c.wr ∧ e = .returned (.tuple #[.agg #[.int .i64 c.k, .int .i64 c.e, .int .i64 c.n, .int .i64 c.h, .int .i64 c.yn, .int .i64 c.yl, .int .i64 c.ys, .int .i64 c.ya, .int .i64 c.sw, .int .i64 c.st, .int .i64 c.w, .bool c.yes, .slice ps c.sp.length cs, .slice pw c.wr.length cw], .int .i64 0])) ∨
    ((∀ c, CmV c → encCm c ≠ xs) ∧ e = .returned (.tuple #[.agg #[.int .i64 0, .int .i64 0, .int .i64 0, .int .i64 0, .int .i64 0, .int .i64 0, .int .i64 0, .int .i64 0, .int .i64 0, .int .i64 0, .int .i64 0, .bool false, .slice none 0 0, .slice none 0 0], .int .i64 9])))
/-- Bytes are read as a state, if they are one's. -/
def TkPart (w : World) (xs : List Int) (e : Ending) (w' : World) : Prop :=
  Below w.heap.size w w' ∧ ((∃ (P : PaL) (ap aq as' : Option Addr) (ac ad at' : Nat), encPa P.x = xs ∧ PaV P.x ∧ CesAt w' ap P.cs ∧ OusAt w' aq P.rs ∧ OusAt w' as' P.ds ∧ e = .returned (.tuple #[.agg #[.int .i64 P.e, .int .i64 P.h, .int .i64 P.fw, .int .i64 P.ft, .int .i64 P.cl, .int .i64 P.lo, .slice ap P.cs.length ac, .slice aq P.rs.length ad, .slice as' P.ds.length at'], .int .i64 0])) ∨
    ((∀ p, PaV p → encPa p ≠ xs) ∧ e = .returned (.tuple #[.agg #[.int .i64 0, .int .i64 0, .int .i64 0, .int .i64 0, .int .i64 0, .int .i64 0, .slice none 0 0, .slice none 0 0, .slice none 0 0], .int .i64 9])))
theorem tk_yes {α : Type} {f : List Int → Bool → α × List Int × Bool} {e : α → List Int} {k : α → Prop} (hf : RdOk f e k) {xs : List Int} (ho : Oct xs) {a : α} {n : Int} (h : rd2 rdBw f xs false = ((n, a), [], false)) : n :: e a = xs ∧ k a := by
  obtain ⟨h1, h2⟩ := (rd2_ok rdBw_ok hf).sound xs _ _ ho h
  refine ⟨?_, h1.2⟩
  rw [h2]; simp
theorem tk_no {α : Type} {f : List Int → Bool → α × List Int × Bool} {e : α → List Int} {k : α → Prop} (hf : RdOk f e k) {xs ys : List Int} {a a' : α} {n m : Int} {b : Bool} (hm : 0 ≤ m ∧ m ≤ 255) (h : rd2 rdBw f xs false = ((n, a), ys, b)) (hb : ¬ (b = false ∧ n = m ∧ ys = [])) (ha : k a') : m :: e a' ≠ xs := fun e1 => by
  have hc := (rd2_ok rdBw_ok hf).compl (m, a') [] ⟨hm, ha⟩
  have e2 : ([m] ++ e a') ++ [] = xs := by rw [← e1]; simp
  have hc' : rd2 rdBw f (([m] ++ e a') ++ []) false = ((m, a'), [], false) := hc
  rw [e2, h] at hc'
  simp only [Prod.mk.injEq] at hc'
  exact hb ⟨hc'.2.2, hc'.1.1, hc'.2.1⟩
end Go.Proofs.Ytmhmlpfkdpjlaaa
