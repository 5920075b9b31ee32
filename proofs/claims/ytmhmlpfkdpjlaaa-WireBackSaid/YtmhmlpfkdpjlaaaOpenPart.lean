/- Arguments that are states: what they are. -/
import Derived.Test.YtmhmlpfkdpjlaaaOpenWire
import Derived.Test.YtmhmlpfkdpjlaaaPlainPart
namespace Go.Proofs.Ytmhmlpfkdpjlaaa
open Go.ChangeShapes Go.WideShapes Go.ChangeAt Go.RowKit Go.Deep

section
variable {H : Type} {enc : TypeId × Value → H} {w : World}
set_option maxRecDepth 100000 in
theorem cells_veO {fuel : Nat} {cs : List Value} {x : DataW H × List MemPlace} (h : DataW.trod enc Try.prog w 0 (fun _ => true) true fuel 78 cs = some x) :
    ∃ s : VeX, cs = [.int .i64 s.w, .int .i64 s.t, .bool s.r, .string s.d] ∧ VeF s := by
  obtain ⟨xs, n, _, _, hsz, hlen, hf⟩ := DataW.trod_struct Try.underlying78 h
  obtain ⟨y0, e0⟩ := some_of_lengthO hlen (i := 0) (by decide)
  obtain ⟨y1, e1⟩ := some_of_lengthO hlen (i := 1) (by decide)
  obtain ⟨y2, e2⟩ := some_of_lengthO hlen (i := 2) (by decide)
  obtain ⟨n0, n1, g0, w0, w1⟩ := cells_stO ((hf 0 _ rfl).trans e0)
  obtain ⟨n2, c2⟩ := leaf_boolO Try.underlying4 ((hf 1 _ rfl).trans e1)
  obtain ⟨n3, c3, w3⟩ := leaf_strO Try.underlying9 ((hf 2 _ rfl).trans e2)
  have hsz' : cs.length = 4 := hsz.trans (by kernel_rfl)
  match cs, hsz' with
  | [x0, x1, x2, x3], _ =>
    refine ⟨⟨n0, n1, n2, n3⟩, ?_, w0, w1, txF_of w3⟩
    change [x0, x1] = _ at g0
    change some x2 = _ at c2
    change some x3 = _ at c3
    simp only [Option.some.injEq] at c2 c3
    simp only [List.cons.injEq, and_true] at g0
    obtain ⟨h0, h1⟩ := g0
    rw [h0, h1, c2, c3]
set_option maxRecDepth 100000 in
theorem cells_ouO {fuel : Nat} {cs : List Value} {x : DataW H × List MemPlace} (h : DataW.trod enc Try.prog w 0 (fun _ => true) true fuel 83 cs = some x) :
    ∃ s : OuX, cs = [.int .i64 s.yn, .int .i64 s.yl, .int .i64 s.ys, .int .i64 s.ya, .int .i64 s.sw, .int .i64 s.st, .bool s.yes] ∧ OuF s := by
  obtain ⟨xs, n, _, _, hsz, hlen, hf⟩ := DataW.trod_struct Try.underlying83 h
  obtain ⟨y0, e0⟩ := some_of_lengthO hlen (i := 0) (by decide)
  obtain ⟨y1, e1⟩ := some_of_lengthO hlen (i := 1) (by decide)
  obtain ⟨y2, e2⟩ := some_of_lengthO hlen (i := 2) (by decide)
  obtain ⟨n0, n1, n2, n3, g0, w0, w1, w2, w3⟩ := cells_tryO ((hf 0 _ rfl).trans e0)
  obtain ⟨n4, n5, g4, w4, w5⟩ := cells_stO ((hf 1 _ rfl).trans e1)
  obtain ⟨n6, c6⟩ := leaf_boolO Try.underlying4 ((hf 2 _ rfl).trans e2)
  have hsz' : cs.length = 7 := hsz.trans (by kernel_rfl)
  match cs, hsz' with
  | [x0, x1, x2, x3, x4, x5, x6], _ =>
    refine ⟨⟨n0, n1, n2, n3, n4, n5, n6⟩, ?_, w0, w1, w2, w3, w4, w5⟩
    change [x0, x1, x2, x3] = _ at g0
    change [x4, x5] = _ at g4
    change some x6 = _ at c6
    simp only [Option.some.injEq] at c6
    simp only [List.cons.injEq, and_true] at g0
    obtain ⟨h0, h1, h2, h3⟩ := g0
    simp only [List.cons.injEq, and_true] at g4
    obtain ⟨h4, h5⟩ := g4
    rw [h0, h1, h2, h3, h4, h5, c6]
set_option maxRecDepth 100000 in
theorem cells_lockO {fuel : Nat} {cs : List Value} {x : DataW H × List MemPlace} (h : DataW.trod enc Try.prog w 0 (fun _ => true) true fuel 73 cs = some x) :
    ∃ (n0 n1 n2 n3 n4 n5 n6 : Int) (n7 : Bool) (n8 : ByteArray), cs = [.int .i64 n0, .int .i64 n1, .int .i64 n2, .int .i64 n3, .int .i64 n4, .int .i64 n5, .int .i64 n6, .bool n7, .string n8] ∧ In64 n0 ∧ In64 n1 ∧ In64 n2 ∧ In64 n3 ∧ In64 n4 ∧ In64 n5 ∧ In64 n6 ∧ TxF n8 := by
  obtain ⟨xs, n, _, _, hsz, hlen, hf⟩ := DataW.trod_struct Try.underlying73 h
  obtain ⟨y0, e0⟩ := some_of_lengthO hlen (i := 0) (by decide)
  obtain ⟨y1, e1⟩ := some_of_lengthO hlen (i := 1) (by decide)
  obtain ⟨y2, e2⟩ := some_of_lengthO hlen (i := 2) (by decide)
  obtain ⟨y3, e3⟩ := some_of_lengthO hlen (i := 3) (by decide)
  obtain ⟨y4, e4⟩ := some_of_lengthO hlen (i := 4) (by decide)
  obtain ⟨n0, n1, n2, n3, g0, w0, w1, w2, w3⟩ := cells_tryO ((hf 0 _ rfl).trans e0)
  obtain ⟨n4, c4, w4⟩ := leaf_intO Try.underlying3 ((hf 1 _ rfl).trans e1)
  obtain ⟨n5, n6, g5, w5, w6⟩ := cells_stO ((hf 2 _ rfl).trans e2)
  obtain ⟨n7, c7⟩ := leaf_boolO Try.underlying4 ((hf 3 _ rfl).trans e3)
  obtain ⟨n8, c8, w8⟩ := leaf_strO Try.underlying9 ((hf 4 _ rfl).trans e4)
  have hsz' : cs.length = 9 := hsz.trans (by kernel_rfl)
  match cs, hsz' with
  | [x0, x1, x2, x3, x4, x5, x6, x7, x8], _ =>
    refine ⟨n0, n1, n2, n3, n4, n5, n6, n7, n8, ?_, w0, w1, w2, w3, wf_64 w4, w5, w6, txF_of w8⟩
    change [x0, x1, x2, x3] = _ at g0
    change some x4 = _ at c4
    change [x5, x6] = _ at g5
    change some x7 = _ at c7
    change some x8 = _ at c8
    simp only [Option.some.injEq] at c4 c7 c8
    simp only [List.cons.injEq, and_true] at g0
    obtain ⟨h0, h1, h2, h3⟩ := g0
    simp only [List.cons.injEq, and_true] at g5
    obtain ⟨h5, h6⟩ := g5
    rw [h0, h1, h2, h3, c4, h5, h6, c7, c8]
set_option maxRecDepth 100000 in
theorem field_ves {n : Nat} {v : Value} {y : DataW H × List MemPlace} (h : DataW.trod enc Try.prog w 0 (fun _ => true) true n 71 [v] = some y) :
    ∃ (L : List VeX) (p : Option Addr) (c : Nat), v = .slice p L.length c ∧ VesAt w p L ∧ L.length ≤ maxLen ∧ ∀ x ∈ L, VeF x := by
  have hC : Try.prog.cellsOf 78 = 4 := by kernel_rfl
  rcases open_slice Try.underlying71 h with ⟨hcs, _⟩ | ⟨a, len, cap, m, n, D, Pl, hcs, _, hl, hm, hmm, _, hi⟩
  · simp at hcs
    subst hcs
    exact ⟨[], none, 0, rfl, fun j hj => absurd hj (by simp), Nat.zero_le _, fun x hx => by cases hx⟩
  · simp at hcs
    subst hcs
    simp only [if_true] at hmm
    subst hmm
    have key : ∀ j : Fin len, ∃ s : VeX, w.cell? ((a.add (j.val * 4)).add 0) = some (.int .i64 s.w) ∧ w.cell? ((a.add (j.val * 4)).add 1) = some (.int .i64 s.t) ∧ w.cell? ((a.add (j.val * 4)).add 2) = some (.bool s.r) ∧ w.cell? ((a.add (j.val * 4)).add 3) = some (.string s.d) ∧ VeF s := fun j => by
      obtain ⟨cs', hc, ht⟩ := hi j.val (by omega)
      rw [hC] at hc
      obtain ⟨_, hcl, hat⟩ := World.cells?_some hc
      obtain ⟨s, rfl, hs⟩ := cells_veO ht
      exact ⟨s, hat 0 (by decide), hat 1 (by decide), hat 2 (by decide), hat 3 (by decide), hs⟩
    obtain ⟨F, hF⟩ := Classical.axiomOfChoice key
    clear key hi
    refine ⟨List.ofFn F, some a, m, by rw [List.length_ofFn], fun j hj => ?_, by rw [List.length_ofFn]; omega, fun x hx => ?_⟩
    · rw [List.length_ofFn] at hj
      obtain ⟨b, off, spot⟩ := a
      have hpos : 0 < len := by omega
      have hspot : spot = none := by
        have h01 : w.cell? ((Addr.add ⟨b, off, spot⟩ (0 * 4)).add 0) = some (.int .i64 (F ⟨0, hpos⟩).w) := (hF ⟨0, hpos⟩).1
        simpa [Addr.add] using World.cell?_spot h01
      subst hspot
      simp only [add_plain] at hF
      have h1 := hF ⟨j, hj⟩
      have hb := World.block_lt_of_cell? w _ h1.1
      refine ⟨b, off, rfl, hb, ?_, ?_, ?_, ?_⟩
      · rw [List.getElem_ofFn]; exact h1.1
      · rw [List.getElem_ofFn]; exact h1.2.1
      · rw [List.getElem_ofFn]; exact h1.2.2.1
      · rw [List.getElem_ofFn]; exact h1.2.2.2.1
    · obtain ⟨j, rfl⟩ := (List.mem_ofFn.1 hx)
      exact (hF j).2.2.2.2
set_option maxRecDepth 100000 in
theorem field_ous {n : Nat} {v : Value} {y : DataW H × List MemPlace} (h : DataW.trod enc Try.prog w 0 (fun _ => true) true n 31 [v] = some y) :
    ∃ (L : List OuX) (p : Option Addr) (c : Nat), v = .slice p L.length c ∧ OusAt w p L ∧ L.length ≤ maxLen ∧ ∀ x ∈ L, OuF x := by
  have hC : Try.prog.cellsOf 83 = 7 := by kernel_rfl
  rcases open_slice Try.underlying31 h with ⟨hcs, _⟩ | ⟨a, len, cap, m, n, D, Pl, hcs, _, hl, hm, hmm, _, hi⟩
  · simp at hcs
    subst hcs
    exact ⟨[], none, 0, rfl, fun j hj => absurd hj (by simp), Nat.zero_le _, fun x hx => by cases hx⟩
  · simp at hcs
    subst hcs
    simp only [if_true] at hmm
    subst hmm
    have key : ∀ j : Fin len, ∃ s : OuX, w.cell? ((a.add (j.val * 7)).add 0) = some (.int .i64 s.yn) ∧ w.cell? ((a.add (j.val * 7)).add 1) = some (.int .i64 s.yl) ∧ w.cell? ((a.add (j.val * 7)).add 2) = some (.int .i64 s.ys) ∧ w.cell? ((a.add (j.val * 7)).add 3) = some (.int .i64 s.ya) ∧ w.cell? ((a.add (j.val * 7)).add 4) = some (.int .i64 s.sw) ∧ w.cell? ((a.add (j.val * 7)).add 5) = some (.int .i64 s.st) ∧ w.cell? ((a.add (j.val * 7)).add 6) = some (.bool s.yes) ∧ OuF s := fun j => by
      obtain ⟨cs', hc, ht⟩ := hi j.val (by omega)
      rw [hC] at hc
      obtain ⟨_, hcl, hat⟩ := World.cells?_some hc
      obtain ⟨s, rfl, hs⟩ := cells_ouO ht
      exact ⟨s, hat 0 (by decide), hat 1 (by decide), hat 2 (by decide), hat 3 (by decide), hat 4 (by decide), hat 5 (by decide), hat 6 (by decide), hs⟩
    obtain ⟨F, hF⟩ := Classical.axiomOfChoice key
    clear key hi
    refine ⟨List.ofFn F, some a, m, by rw [List.length_ofFn], fun j hj => ?_, by rw [List.length_ofFn]; omega, fun x hx => ?_⟩
    · rw [List.length_ofFn] at hj
      obtain ⟨b, off, spot⟩ := a
      have hpos : 0 < len := by omega
      have hspot : spot = none := by
        have h01 : w.cell? ((Addr.add ⟨b, off, spot⟩ (0 * 7)).add 0) = some (.int .i64 (F ⟨0, hpos⟩).yn) := (hF ⟨0, hpos⟩).1
        simpa [Addr.add] using World.cell?_spot h01
      subst hspot
      simp only [add_plain] at hF
      have h1 := hF ⟨j, hj⟩
      have hb := World.block_lt_of_cell? w _ h1.1
      refine ⟨b, off, rfl, hb, ?_, ?_, ?_, ?_, ?_, ?_, ?_⟩
      · rw [List.getElem_ofFn]; exact h1.1
      · rw [List.getElem_ofFn]; exact h1.2.1
      · rw [List.getElem_ofFn]; exact h1.2.2.1
      · rw [List.getElem_ofFn]; exact h1.2.2.2.1
      · rw [List.getElem_ofFn]; exact h1.2.2.2.2.1
      · rw [List.getElem_ofFn]; exact h1.2.2.2.2.2.1
      · rw [List.getElem_ofFn]; exact h1.2.2.2.2.2.2.1
    · obtain ⟨j, rfl⟩ := (List.mem_ofFn.1 hx)
      exact (hF j).2.2.2.2.2.2.2
set_option maxRecDepth 100000 in
theorem cells_ceO {fuel : Nat} {cs : List Value} {x : DataW H × List MemPlace} (h : DataW.trod enc Try.prog w 0 (fun _ => true) true fuel 75 cs = some x) :
    ∃ s : CeL, cs = [.string s.1.k, .slice s.2.1 s.1.vs.length s.2.2, .bool s.1.lk, .int .i64 s.1.yn, .int .i64 s.1.yl, .int .i64 s.1.ys, .int .i64 s.1.ya, .int .i64 s.1.hm, .int .i64 s.1.sw, .int .i64 s.1.st, .bool s.1.lr, .string s.1.ld] ∧ VesAt w s.2.1 s.1.vs ∧ CeF s.1 := by
  obtain ⟨xs, n, _, _, hsz, hlen, hf⟩ := DataW.trod_struct Try.underlying75 h
  obtain ⟨y0, e0⟩ := some_of_lengthO hlen (i := 0) (by decide)
  obtain ⟨y1, e1⟩ := some_of_lengthO hlen (i := 1) (by decide)
  obtain ⟨y2, e2⟩ := some_of_lengthO hlen (i := 2) (by decide)
  obtain ⟨y3, e3⟩ := some_of_lengthO hlen (i := 3) (by decide)
  obtain ⟨n0, c0, w0⟩ := leaf_strO Try.underlying9 ((hf 0 _ rfl).trans e0)
  have f1 := (hf 1 _ rfl).trans e1
  obtain ⟨n2, c2⟩ := leaf_boolO Try.underlying4 ((hf 2 _ rfl).trans e2)
  obtain ⟨n3, n4, n5, n6, n7, n8, n9, n10, n11, g3, w3, w4, w5, w6, w7, w8, w9, w11⟩ := cells_lockO ((hf 3 _ rfl).trans e3)
  have hsz' : cs.length = 12 := hsz.trans (by kernel_rfl)
  match cs, hsz' with
  | [x0, x1, x2, x3, x4, x5, x6, x7, x8, x9, x10, x11], _ =>
    obtain ⟨L1, p1, k1, z1, S1, l1, T1⟩ := field_ves (show DataW.trod enc Try.prog w 0 (fun _ => true) true n 71 [x1] = some y1 from f1)
    refine ⟨⟨⟨n0, L1, n2, n3, n4, n5, n6, n7, n8, n9, n10, n11⟩, p1, k1⟩, ?_, S1, ⟨txF_of w0, txn l1, T1, w3, w4, w5, w6, w7, w8, w9, w11⟩⟩
    change some x0 = _ at c0
    change some x2 = _ at c2
    change [x3, x4, x5, x6, x7, x8, x9, x10, x11] = _ at g3
    simp only [Option.some.injEq] at c0 c2
    simp only [List.cons.injEq, and_true] at g3
    obtain ⟨h3, h4, h5, h6, h7, h8, h9, h10, h11⟩ := g3
    rw [c0, z1, c2, h3, h4, h5, h6, h7, h8, h9, h10, h11]
set_option maxRecDepth 100000 in
theorem field_ces {n : Nat} {v : Value} {y : DataW H × List MemPlace} (h : DataW.trod enc Try.prog w 0 (fun _ => true) true n 30 [v] = some y) :
    ∃ (L : List CeL) (p : Option Addr) (c : Nat), v = .slice p L.length c ∧ CesAt w p L ∧ L.length ≤ maxLen ∧ ∀ x ∈ L, CeF x.1 := by
  have hC : Try.prog.cellsOf 75 = 12 := by kernel_rfl
  rcases open_slice Try.underlying30 h with ⟨hcs, _⟩ | ⟨a, len, cap, m, n, D, Pl, hcs, _, hl, hm, hmm, _, hi⟩
  · simp at hcs
    subst hcs
    exact ⟨[], none, 0, rfl, fun j hj => absurd hj (by simp), Nat.zero_le _, fun x hx => by cases hx⟩
  · simp at hcs
    subst hcs
    simp only [if_true] at hmm
    subst hmm
    have key : ∀ j : Fin len, ∃ s : CeL, w.cell? ((a.add (j.val * 12)).add 0) = some (.string s.1.k) ∧ w.cell? ((a.add (j.val * 12)).add 1) = some (.slice s.2.1 s.1.vs.length s.2.2) ∧ w.cell? ((a.add (j.val * 12)).add 2) = some (.bool s.1.lk) ∧ w.cell? ((a.add (j.val * 12)).add 3) = some (.int .i64 s.1.yn) ∧ w.cell? ((a.add (j.val * 12)).add 4) = some (.int .i64 s.1.yl) ∧ w.cell? ((a.add (j.val * 12)).add 5) = some (.int .i64 s.1.ys) ∧ w.cell? ((a.add (j.val * 12)).add 6) = some (.int .i64 s.1.ya) ∧ w.cell? ((a.add (j.val * 12)).add 7) = some (.int .i64 s.1.hm) ∧ w.cell? ((a.add (j.val * 12)).add 8) = some (.int .i64 s.1.sw) ∧ w.cell? ((a.add (j.val * 12)).add 9) = some (.int .i64 s.1.st) ∧ w.cell? ((a.add (j.val * 12)).add 10) = some (.bool s.1.lr) ∧ w.cell? ((a.add (j.val * 12)).add 11) = some (.string s.1.ld) ∧ VesAt w s.2.1 s.1.vs ∧ CeF s.1 := fun j => by
      obtain ⟨cs', hc, ht⟩ := hi j.val (by omega)
      rw [hC] at hc
      obtain ⟨_, hcl, hat⟩ := World.cells?_some hc
      obtain ⟨s, rfl, hs⟩ := cells_ceO ht
      exact ⟨s, hat 0 (by decide), hat 1 (by decide), hat 2 (by decide), hat 3 (by decide), hat 4 (by decide), hat 5 (by decide), hat 6 (by decide), hat 7 (by decide), hat 8 (by decide), hat 9 (by decide), hat 10 (by decide), hat 11 (by decide), hs⟩
    obtain ⟨F, hF⟩ := Classical.axiomOfChoice key
    clear key hi
    refine ⟨List.ofFn F, some a, m, by rw [List.length_ofFn], fun j hj => ?_, by rw [List.length_ofFn]; omega, fun x hx => ?_⟩
    · rw [List.length_ofFn] at hj
      obtain ⟨b, off, spot⟩ := a
      have hpos : 0 < len := by omega
      have hspot : spot = none := by
        have h01 : w.cell? ((Addr.add ⟨b, off, spot⟩ (0 * 12)).add 0) = some (.string (F ⟨0, hpos⟩).1.k) := (hF ⟨0, hpos⟩).1
        simpa [Addr.add] using World.cell?_spot h01
      subst hspot
      simp only [add_plain] at hF
      have h1 := hF ⟨j, hj⟩
      have hb := World.block_lt_of_cell? w _ h1.1
      refine ⟨b, off, rfl, hb, ?_, ?_, ?_, ?_, ?_, ?_, ?_, ?_, ?_, ?_, ?_, ?_, ?_⟩
      · rw [List.getElem_ofFn]; exact h1.2.2.2.2.2.2.2.2.2.2.2.2.1
      · rw [List.getElem_ofFn]; exact h1.1
      · rw [List.getElem_ofFn]; exact h1.2.1
      · rw [List.getElem_ofFn]; exact h1.2.2.1
      · rw [List.getElem_ofFn]; exact h1.2.2.2.1
      · rw [List.getElem_ofFn]; exact h1.2.2.2.2.1
      · rw [List.getElem_ofFn]; exact h1.2.2.2.2.2.1
      · rw [List.getElem_ofFn]; exact h1.2.2.2.2.2.2.1
      · rw [List.getElem_ofFn]; exact h1.2.2.2.2.2.2.2.1
      · rw [List.getElem_ofFn]; exact h1.2.2.2.2.2.2.2.2.1
      · rw [List.getElem_ofFn]; exact h1.2.2.2.2.2.2.2.2.2.1
      · rw [List.getElem_ofFn]; exact h1.2.2.2.2.2.2.2.2.2.2.1
      · rw [List.getElem_ofFn]; exact h1.2.2.2.2.2.2.2.2.2.2.2.1
    · obtain ⟨j, rfl⟩ := (List.mem_ofFn.1 hx)
      exact (hF j).2.2.2.2.2.2.2.2.2.2.2.2.2
set_option maxRecDepth 100000 in
theorem open_part {b0 : Nat} {v : Value} {d : DataW H} {ps : List MemPlace} (hv : Value.okWide Try.prog w .any b0 33 v) (h : DataW.Trod enc Try.prog w 0 (fun _ => true) true 33 v d ps) :
    ∃ (P : PaL) (ap : Option Addr) (ac : Nat) (aq : Option Addr) (ad : Nat) (as' : Option Addr) (at' : Nat), v = .agg #[.int .i64 P.e, .int .i64 P.h, .int .i64 P.fw, .int .i64 P.ft, .int .i64 P.cl, .int .i64 P.lo, .slice ap P.cs.length ac, .slice aq P.rs.length ad, .slice as' P.ds.length at'] ∧ PaF P ∧ CesAt w ap P.cs ∧ OusAt w aq P.rs ∧ OusAt w as' P.ds := by
  obtain ⟨cs, rfl, hsz⟩ := okWide_struct Try.underlying33 hv
  obtain ⟨fuel, hf⟩ := h
  obtain ⟨xs, n, _, _, _, hlen, hf⟩ := DataW.trod_struct Try.underlying33 hf
  obtain ⟨y0, e0⟩ := some_of_lengthO hlen (i := 0) (by decide)
  obtain ⟨y1, e1⟩ := some_of_lengthO hlen (i := 1) (by decide)
  obtain ⟨y2, e2⟩ := some_of_lengthO hlen (i := 2) (by decide)
  obtain ⟨y3, e3⟩ := some_of_lengthO hlen (i := 3) (by decide)
  obtain ⟨y4, e4⟩ := some_of_lengthO hlen (i := 4) (by decide)
  obtain ⟨y5, e5⟩ := some_of_lengthO hlen (i := 5) (by decide)
  obtain ⟨y6, e6⟩ := some_of_lengthO hlen (i := 6) (by decide)
  obtain ⟨y7, e7⟩ := some_of_lengthO hlen (i := 7) (by decide)
  obtain ⟨n0, c0, w0⟩ := leaf_intO Try.underlying3 ((hf 0 _ rfl).trans e0)
  obtain ⟨n1, c1, w1⟩ := leaf_intO Try.underlying3 ((hf 1 _ rfl).trans e1)
  obtain ⟨n2, n3, g2, w2, w3⟩ := cells_stO ((hf 2 _ rfl).trans e2)
  obtain ⟨n4, c4, w4⟩ := leaf_intO Try.underlying2 ((hf 3 _ rfl).trans e3)
  obtain ⟨n5, c5, w5⟩ := leaf_intO Try.underlying2 ((hf 4 _ rfl).trans e4)
  have f6 := (hf 5 _ rfl).trans e5
  have f7 := (hf 6 _ rfl).trans e6
  have f8 := (hf 7 _ rfl).trans e7
  obtain ⟨cs⟩ := cs
  have hsz' : cs.length = 9 := hsz
  match cs, hsz' with
  | [x0, x1, x2, x3, x4, x5, x6, x7, x8], _ =>
    obtain ⟨L6, p6, k6, z6, S6, l6, T6⟩ := field_ces (show DataW.trod enc Try.prog w 0 (fun _ => true) true n 30 [x6] = some y5 from f6)
    obtain ⟨L7, p7, k7, z7, S7, l7, T7⟩ := field_ous (show DataW.trod enc Try.prog w 0 (fun _ => true) true n 31 [x7] = some y6 from f7)
    obtain ⟨L8, p8, k8, z8, S8, l8, T8⟩ := field_ous (show DataW.trod enc Try.prog w 0 (fun _ => true) true n 31 [x8] = some y7 from f8)
    refine ⟨⟨n0, n1, n2, n3, n4, n5, L6, L7, L8⟩, p6, k6, p7, k7, p8, k8, ?_, ⟨wf_64 w0, wf_64 w1, w2, w3, wf_64 w4, wf_64 w5, T6, T7, T8, txn l6, txn l7, txn l8⟩, S6, S7, S8⟩
    change some x0 = _ at c0
    change some x1 = _ at c1
    change [x2, x3] = _ at g2
    change some x4 = _ at c4
    change some x5 = _ at c5
    simp only [Option.some.injEq] at c0 c1 c4 c5
    simp only [List.cons.injEq, and_true] at g2
    obtain ⟨h2, h3⟩ := g2
    rw [c0, c1, h2, h3, c4, c5, z6, z7, z8]
end
end Go.Proofs.Ytmhmlpfkdpjlaaa
