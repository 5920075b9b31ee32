/- Arguments that are commands: what they are. -/
import Derived.Test.YtmhmlpfkdpjlaaaFrame
import Derived.Test.YtmhmlpfkdpjlaaaProg
import Derived.Test.YtmhmlpfkdpjlaaaBackA
import Derived.Deep.Slices
import Derived.Deep.Fields
import Derived.ChangeSame
namespace Go.Proofs.Ytmhmlpfkdpjlaaa
open Go.ChangeShapes Go.WideShapes Go.ChangeAt Go.RowKit Go.Deep

section
variable {H : Type} {enc : TypeId × Value → H} {P : Program} {w : World} {fuel : Nat} {t : TypeId} {cs : List Value} {o : Nat}
theorem leaf_atO {x : Value} (h : (cs.drop o).take 1 = [x]) : cs[o]? = some x := by
  have := congrArg (·[0]?) h
  simpa using this
theorem leaf_intO {k : IntKind} {x : DataW H × List MemPlace} (ht : P.underlying t = some (.int k)) (h : DataW.trod enc P w 0 (fun _ => true) true fuel t ((cs.drop o).take 1) = some x) : ∃ n, cs[o]? = some (.int k n) ∧ (Lit.int k n).wf = true := by
  obtain ⟨n, h1, _, h3⟩ := DataW.trod_int ht h
  exact ⟨n, leaf_atO h1, h3⟩
theorem leaf_boolO {x : DataW H × List MemPlace} (ht : P.underlying t = some .bool) (h : DataW.trod enc P w 0 (fun _ => true) true fuel t ((cs.drop o).take 1) = some x) : ∃ b, cs[o]? = some (.bool b) := by
  obtain ⟨n, h1, _⟩ := DataW.trod_bool ht h
  exact ⟨n, leaf_atO h1⟩
theorem leaf_strO {x : DataW H × List MemPlace} (ht : P.underlying t = some .string) (h : DataW.trod enc P w 0 (fun _ => true) true fuel t ((cs.drop o).take 1) = some x) : ∃ s, cs[o]? = some (.string s) ∧ s.size ≤ maxLen := by
  obtain ⟨s, h1, _, h3⟩ := DataW.trod_string ht h
  exact ⟨s, leaf_atO h1, h3⟩
theorem some_of_lengthO {α : Type} {xs : List α} {n i : Nat} (h : xs.length = n) (hi : i < n) : ∃ x, xs[i]? = some x := ⟨xs[i]'(by omega), List.getElem?_eq_getElem (by omega)⟩
end
section
variable {H : Type} {enc : TypeId × Value → H} {w : World}
theorem txn {n : Nat} (h : n ≤ maxLen) : n ≤ 9223372036854775807 := by have h2 : n ≤ 2 ^ 63 - 1 := h; omega
theorem txF_of {s : ByteArray} (h : s.size ≤ maxLen) : TxF s := by have h2 : s.size ≤ 2 ^ 63 - 1 := h; show s.size ≤ 9223372036854775807; omega
set_option maxRecDepth 100000 in
theorem cells_spO {fuel : Nat} {cs : List Value} {x : DataW H × List MemPlace} (h : DataW.trod enc Try.prog w 0 (fun _ => true) true fuel 65 cs = some x) :
    ∃ s : SpX, cs = [.string s.lo, .string s.hi] ∧ SpF s := by
  obtain ⟨xs, n, _, _, hsz, hlen, hf⟩ := DataW.trod_struct Try.underlying65 h
  obtain ⟨y0, e0⟩ := some_of_lengthO hlen (i := 0) (by decide)
  obtain ⟨y1, e1⟩ := some_of_lengthO hlen (i := 1) (by decide)
  obtain ⟨a, c0, s0⟩ := leaf_strO Try.underlying9 ((hf 0 _ rfl).trans e0)
  obtain ⟨b, c1, s1⟩ := leaf_strO Try.underlying9 ((hf 1 _ rfl).trans e1)
  have hsz' : cs.length = 2 := hsz.trans (by kernel_rfl)
  match cs, hsz' with
  | [x0, x1], _ =>
    refine ⟨⟨a, b⟩, ?_, txF_of s0, txF_of s1⟩
    change some x0 = _ at c0; change some x1 = _ at c1
    simp only [Option.some.injEq] at c0 c1
    rw [c0, c1]
theorem field_sps {n : Nat} {v : Value} {y : DataW H × List MemPlace} (h : DataW.trod enc Try.prog w 0 (fun _ => true) true n 26 [v] = some y) :
    ∃ (L : List SpX) (p : Option Addr) (c : Nat), v = .slice p L.length c ∧ SpsAt w p L ∧ L.length ≤ maxLen ∧ ∀ x ∈ L, SpF x := by
  have hC : Try.prog.cellsOf 65 = 2 := by kernel_rfl
  rcases open_slice Try.underlying26 h with ⟨hcs, _⟩ | ⟨a, len, cap, m, n, D, Pl, hcs, _, hl, hm, hmm, _, hi⟩
  · simp at hcs
    subst hcs
    exact ⟨[], none, 0, rfl, fun j hj => absurd hj (by simp), Nat.zero_le _, fun x hx => by cases hx⟩
  · simp at hcs
    subst hcs
    simp only [if_true] at hmm
    subst hmm
    have key : ∀ j : Fin len, ∃ s : SpX, w.cell? ((a.add (j.val * 2)).add 0) = some (.string s.lo) ∧ w.cell? ((a.add (j.val * 2)).add 1) = some (.string s.hi) ∧ SpF s := fun j => by
      obtain ⟨cs', hc, ht⟩ := hi j.val (by omega)
      rw [hC] at hc
      obtain ⟨_, hcl, hat⟩ := World.cells?_some hc
      obtain ⟨s, rfl, hs⟩ := cells_spO ht
      exact ⟨s, hat 0 (by decide), hat 1 (by decide), hs⟩
    obtain ⟨F, hF⟩ := Classical.axiomOfChoice key
    clear key hi
    refine ⟨List.ofFn F, some a, m, by rw [List.length_ofFn], fun j hj => ?_, by rw [List.length_ofFn]; omega, fun x hx => ?_⟩
    · rw [List.length_ofFn] at hj
      obtain ⟨b, off, spot⟩ := a
      have hpos : 0 < len := by omega
      have hspot : spot = none := by
        have h01 : w.cell? ((Addr.add ⟨b, off, spot⟩ (0 * 2)).add 0) = some (.string (F ⟨0, hpos⟩).lo) := (hF ⟨0, hpos⟩).1
        simpa [Addr.add] using World.cell?_spot h01
      subst hspot
      simp only [add_plain] at hF
      have h1 := hF ⟨j, hj⟩
      have hb := World.block_lt_of_cell? w _ h1.1
      refine ⟨b, off, rfl, hb, ?_, ?_⟩
      · rw [List.getElem_ofFn]; exact h1.1
      · rw [List.getElem_ofFn]; exact h1.2.1
    · obtain ⟨j, rfl⟩ := (List.mem_ofFn.1 hx)
      exact (hF j).2.2
set_option maxRecDepth 100000 in
theorem cells_wrO {fuel : Nat} {cs : List Value} {x : DataW H × List MemPlace} (h : DataW.trod enc Try.prog w 0 (fun _ => true) true fuel 67 cs = some x) :
    ∃ s : WrX, cs = [.string s.k, .bool s.r, .string s.d] ∧ WrF s := by
  obtain ⟨xs, n, _, _, hsz, hlen, hf⟩ := DataW.trod_struct Try.underlying67 h
  obtain ⟨y0, e0⟩ := some_of_lengthO hlen (i := 0) (by decide)
  obtain ⟨y1, e1⟩ := some_of_lengthO hlen (i := 1) (by decide)
  obtain ⟨y2, e2⟩ := some_of_lengthO hlen (i := 2) (by decide)
  obtain ⟨a, c0, s0⟩ := leaf_strO Try.underlying9 ((hf 0 _ rfl).trans e0)
  obtain ⟨r, c1⟩ := leaf_boolO Try.underlying4 ((hf 1 _ rfl).trans e1)
  obtain ⟨b, c2, s2⟩ := leaf_strO Try.underlying9 ((hf 2 _ rfl).trans e2)
  have hsz' : cs.length = 3 := hsz.trans (by kernel_rfl)
  match cs, hsz' with
  | [x0, x1, x2], _ =>
    refine ⟨⟨a, r, b⟩, ?_, txF_of s0, txF_of s2⟩
    change some x0 = _ at c0; change some x1 = _ at c1; change some x2 = _ at c2
    simp only [Option.some.injEq] at c0 c1 c2
    rw [c0, c1, c2]
theorem field_wrs {n : Nat} {v : Value} {y : DataW H × List MemPlace} (h : DataW.trod enc Try.prog w 0 (fun _ => true) true n 27 [v] = some y) :
    ∃ (L : List WrX) (p : Option Addr) (c : Nat), v = .slice p L.length c ∧ WrsAt w p L ∧ L.length ≤ maxLen ∧ ∀ x ∈ L, WrF x := by
  have hC : Try.prog.cellsOf 67 = 3 := by kernel_rfl
  rcases open_slice Try.underlying27 h with ⟨hcs, _⟩ | ⟨a, len, cap, m, n, D, Pl, hcs, _, hl, hm, hmm, _, hi⟩
  · simp at hcs
    subst hcs
    exact ⟨[], none, 0, rfl, fun j hj => absurd hj (by simp), Nat.zero_le _, fun x hx => by cases hx⟩
  · simp at hcs
    subst hcs
    simp only [if_true] at hmm
    subst hmm
    have key : ∀ j : Fin len, ∃ s : WrX, w.cell? ((a.add (j.val * 3)).add 0) = some (.string s.k) ∧ w.cell? ((a.add (j.val * 3)).add 1) = some (.bool s.r) ∧ w.cell? ((a.add (j.val * 3)).add 2) = some (.string s.d) ∧ WrF s := fun j => by
      obtain ⟨cs', hc, ht⟩ := hi j.val (by omega)
      rw [hC] at hc
      obtain ⟨_, hcl, hat⟩ := World.cells?_some hc
      obtain ⟨s, rfl, hs⟩ := cells_wrO ht
      exact ⟨s, hat 0 (by decide), hat 1 (by decide), hat 2 (by decide), hs⟩
    obtain ⟨F, hF⟩ := Classical.axiomOfChoice key
    clear key hi
    refine ⟨List.ofFn F, some a, m, by rw [List.length_ofFn], fun j hj => ?_, by rw [List.length_ofFn]; omega, fun x hx => ?_⟩
    · rw [List.length_ofFn] at hj
      obtain ⟨b, off, spot⟩ := a
      have hpos : 0 < len := by omega
      have hspot : spot = none := by
        have h01 : w.cell? ((Addr.add ⟨b, off, spot⟩ (0 * 3)).add 0) = some (.string (F ⟨0, hpos⟩).k) := (hF ⟨0, hpos⟩).1
        simpa [Addr.add] using World.cell?_spot h01
      subst hspot
      simp only [add_plain] at hF
      have h1 := hF ⟨j, hj⟩
      have hb := World.block_lt_of_cell? w _ h1.1
      refine ⟨b, off, rfl, hb, ?_, ?_, ?_⟩
      · rw [List.getElem_ofFn]; exact h1.1
      · rw [List.getElem_ofFn]; exact h1.2.1
      · rw [List.getElem_ofFn]; exact h1.2.2.1
    · obtain ⟨j, rfl⟩ := (List.mem_ofFn.1 hx)
      exact (hF j).2.2.2
theorem wf_64 {n : Int} (h : (Lit.int .i64 n).wf = true) : In64 n := by
  have h1 : IntKind.i64.min = -9223372036854775808 := rfl
  have h2 : IntKind.i64.max = 9223372036854775807 := rfl
  simp only [Lit.wf, Bool.and_eq_true, decide_eq_true_eq] at h
  unfold In64; omega
set_option maxRecDepth 100000 in
theorem cells_tryO {fuel : Nat} {cs : List Value} {x : DataW H × List MemPlace} (h : DataW.trod enc Try.prog w 0 (fun _ => true) true fuel 23 cs = some x) :
    ∃ n0 n1 n2 n3 : Int, cs = [.int .i64 n0, .int .i64 n1, .int .i64 n2, .int .i64 n3] ∧ In64 n0 ∧ In64 n1 ∧ In64 n2 ∧ In64 n3 := by
  obtain ⟨xs, n, _, _, hsz, hlen, hf⟩ := DataW.trod_struct Try.underlying23 h
  obtain ⟨y0, e0⟩ := some_of_lengthO hlen (i := 0) (by decide)
  obtain ⟨y1, e1⟩ := some_of_lengthO hlen (i := 1) (by decide)
  obtain ⟨y2, e2⟩ := some_of_lengthO hlen (i := 2) (by decide)
  obtain ⟨y3, e3⟩ := some_of_lengthO hlen (i := 3) (by decide)
  obtain ⟨n0, c0, w0⟩ := leaf_intO Try.underlying3 ((hf 0 _ rfl).trans e0)
  obtain ⟨n1, c1, w1⟩ := leaf_intO Try.underlying3 ((hf 1 _ rfl).trans e1)
  obtain ⟨n2, c2, w2⟩ := leaf_intO Try.underlying3 ((hf 2 _ rfl).trans e2)
  obtain ⟨n3, c3, w3⟩ := leaf_intO Try.underlying3 ((hf 3 _ rfl).trans e3)
  have hsz' : cs.length = 4 := hsz.trans (by kernel_rfl)
  match cs, hsz' with
  | [x0, x1, x2, x3], _ =>
    refine ⟨n0, n1, n2, n3, ?_, wf_64 w0, wf_64 w1, wf_64 w2, wf_64 w3⟩
    change some x0 = _ at c0; change some x1 = _ at c1; change some x2 = _ at c2; change some x3 = _ at c3
    simp only [Option.some.injEq] at c0 c1 c2 c3
    rw [c0, c1, c2, c3]
set_option maxRecDepth 100000 in
theorem cells_stO {fuel : Nat} {cs : List Value} {x : DataW H × List MemPlace} (h : DataW.trod enc Try.prog w 0 (fun _ => true) true fuel 25 cs = some x) :
    ∃ n0 n1 : Int, cs = [.int .i64 n0, .int .i64 n1] ∧ In64 n0 ∧ In64 n1 := by
  obtain ⟨xs, n, _, _, hsz, hlen, hf⟩ := DataW.trod_struct Try.underlying25 h
  obtain ⟨y0, e0⟩ := some_of_lengthO hlen (i := 0) (by decide)
  obtain ⟨y1, e1⟩ := some_of_lengthO hlen (i := 1) (by decide)
  obtain ⟨n0, c0, w0⟩ := leaf_intO Try.underlying2 ((hf 0 _ rfl).trans e0)
  obtain ⟨n1, c1, w1⟩ := leaf_intO Try.underlying2 ((hf 1 _ rfl).trans e1)
  have hsz' : cs.length = 2 := hsz.trans (by kernel_rfl)
  match cs, hsz' with
  | [x0, x1], _ =>
    refine ⟨n0, n1, ?_, wf_64 w0, wf_64 w1⟩
    change some x0 = _ at c0; change some x1 = _ at c1
    simp only [Option.some.injEq] at c0 c1
    rw [c0, c1]
set_option maxRecDepth 100000 in
theorem open_cmd {b0 : Nat} {v : Value} {d : DataW H} {ps : List MemPlace} (hv : Value.okWide Try.prog w .any b0 29 v) (h : DataW.Trod enc Try.prog w 0 (fun _ => true) true 29 v d ps) :
    ∃ (c : CmX) (p : Option Addr) (cs : Nat) (q : Option Addr) (cw : Nat), v = .agg #[.int .i64 c.k, .int .i64 c.e, .int .i64 c.n, .int .i64 c.h, .int .i64 c.yn, .int .i64 c.yl, .int .i64 c.ys, .int .i64 c.ya, .int .i64 c.sw, .int .i64 c.st, .int .i64 c.w, .bool c.yes, .slice p c.sp.length cs, .slice q c.wr.length cw] ∧ CmF c ∧ SpsAt w p c.sp ∧ WrsAt w q c.wr := by
  obtain ⟨cs, rfl, hsz⟩ := okWide_struct Try.underlying29 hv
  obtain ⟨fuel, hf⟩ := h
  obtain ⟨xs, n, _, _, _, hlen, hf⟩ := DataW.trod_struct Try.underlying29 hf
  obtain ⟨y0, e0⟩ := some_of_lengthO hlen (i := 0) (by decide)
  obtain ⟨y1, e1⟩ := some_of_lengthO hlen (i := 1) (by decide)
  obtain ⟨y2, e2⟩ := some_of_lengthO hlen (i := 2) (by decide)
  obtain ⟨y3, e3⟩ := some_of_lengthO hlen (i := 3) (by decide)
  obtain ⟨y4, e4⟩ := some_of_lengthO hlen (i := 4) (by decide)
  obtain ⟨y5, e5⟩ := some_of_lengthO hlen (i := 5) (by decide)
  obtain ⟨y6, e6⟩ := some_of_lengthO hlen (i := 6) (by decide)
  obtain ⟨y7, e7⟩ := some_of_lengthO hlen (i := 7) (by decide)
  obtain ⟨y8, e8⟩ := some_of_lengthO hlen (i := 8) (by decide)
  obtain ⟨y9, e9⟩ := some_of_lengthO hlen (i := 9) (by decide)
  obtain ⟨n0, c0, w0⟩ := leaf_intO Try.underlying3 ((hf 0 _ rfl).trans e0)
  obtain ⟨n1, c1, w1⟩ := leaf_intO Try.underlying3 ((hf 1 _ rfl).trans e1)
  obtain ⟨n2, c2, w2⟩ := leaf_intO Try.underlying3 ((hf 2 _ rfl).trans e2)
  obtain ⟨n3, c3, w3⟩ := leaf_intO Try.underlying3 ((hf 3 _ rfl).trans e3)
  obtain ⟨a0, a1, a2, a3, hy, v0, v1, v2, v3⟩ := cells_tryO ((hf 4 _ rfl).trans e4)
  obtain ⟨s0, s1, hs, u0, u1⟩ := cells_stO ((hf 5 _ rfl).trans e5)
  obtain ⟨n6, c6, w6⟩ := leaf_intO Try.underlying2 ((hf 6 _ rfl).trans e6)
  obtain ⟨b7, c7⟩ := leaf_boolO Try.underlying4 ((hf 7 _ rfl).trans e7)
  have f8 := (hf 8 _ rfl).trans e8
  have f9 := (hf 9 _ rfl).trans e9
  obtain ⟨cs⟩ := cs
  have hsz' : cs.length = 14 := hsz
  match cs, hsz' with
  | [x0, x1, x2, x3, x4, x5, x6, x7, x8, x9, x10, x11, x12, x13], _ =>
    obtain ⟨L, p, c, hx, hS, hl, hT⟩ := field_sps (show DataW.trod enc Try.prog w 0 (fun _ => true) true n 26 [x12] = some y8 from f8)
    obtain ⟨M, q, d', hx2, hS2, hl2, hT2⟩ := field_wrs (show DataW.trod enc Try.prog w 0 (fun _ => true) true n 27 [x13] = some y9 from f9)
    refine ⟨⟨n0, n1, n2, n3, a0, a1, a2, a3, s0, s1, n6, b7, L, M⟩, p, c, q, d', ?_, ⟨wf_64 w0, wf_64 w1, wf_64 w2, wf_64 w3, v0, v1, v2, v3, u0, u1, wf_64 w6, hT, hT2, txn hl, txn hl2⟩, hS, hS2⟩
    change some x0 = _ at c0; change some x1 = _ at c1; change some x2 = _ at c2; change some x3 = _ at c3
    change [x4, x5, x6, x7] = _ at hy
    change [x8, x9] = _ at hs
    change some x10 = _ at c6; change some x11 = _ at c7
    simp only [Option.some.injEq] at c0 c1 c2 c3 c6 c7
    simp only [List.cons.injEq, and_true] at hy hs
    obtain ⟨h4, h5, h6, h7⟩ := hy
    obtain ⟨h8, h9⟩ := hs
    rw [c0, c1, c2, c3, h4, h5, h6, h7, h8, h9, c6, c7, hx, hx2]
end
end Go.Proofs.Ytmhmlpfkdpjlaaa
