/- Arguments that are joints: what they are. -/
import Derived.Test.YtmhmlpfkdpjlaaaOpenWire
import Derived.Test.YtmhmlpfkdpjlaaaGwJ
namespace Go.Proofs.Ytmhmlpfkdpjlaaa
open Go.ChangeShapes Go.WideShapes Go.ChangeAt Go.RowKit Go.Deep

section
variable {H : Type} {enc : TypeId × Value → H} {w : World}
theorem wf_16 {n : Int} (h : (Lit.int .u16 n).wf = true) : In16 n := by
  have h1 : IntKind.u16.min = 0 := rfl
  have h2 : IntKind.u16.max = 65535 := rfl
  simp only [Lit.wf, Bool.and_eq_true, decide_eq_true_eq] at h
  unfold In16; omega
set_option maxRecDepth 100000 in
theorem cells_cfO {fuel : Nat} {cs : List Value} {x : DataW H × List MemPlace} (h : DataW.trod enc Try.prog w 0 (fun _ => true) true fuel 43 cs = some x) :
    ∃ s : CfX, cs = [.int .u16 s.v, .int .u16 s.x, .int .u16 s.l, .int .i64 s.e, .int .i64 s.k] ∧ CfF s := by
  obtain ⟨xs, n, _, _, hsz, hlen, hf⟩ := DataW.trod_struct Try.underlying43 h
  obtain ⟨y0, e0⟩ := some_of_lengthO hlen (i := 0) (by decide)
  obtain ⟨y1, e1⟩ := some_of_lengthO hlen (i := 1) (by decide)
  obtain ⟨y2, e2⟩ := some_of_lengthO hlen (i := 2) (by decide)
  obtain ⟨y3, e3⟩ := some_of_lengthO hlen (i := 3) (by decide)
  obtain ⟨y4, e4⟩ := some_of_lengthO hlen (i := 4) (by decide)
  obtain ⟨n0, c0, w0⟩ := leaf_intO Try.underlying41 ((hf 0 _ rfl).trans e0)
  obtain ⟨n1, c1, w1⟩ := leaf_intO Try.underlying41 ((hf 1 _ rfl).trans e1)
  obtain ⟨n2, c2, w2⟩ := leaf_intO Try.underlying41 ((hf 2 _ rfl).trans e2)
  obtain ⟨n3, c3, w3⟩ := leaf_intO Try.underlying3 ((hf 3 _ rfl).trans e3)
  obtain ⟨n4, c4, w4⟩ := leaf_intO Try.underlying3 ((hf 4 _ rfl).trans e4)
  have hsz' : cs.length = 5 := hsz.trans (by kernel_rfl)
  match cs, hsz' with
  | [x0, x1, x2, x3, x4], _ =>
    refine ⟨⟨n0, n1, n2, n3, n4⟩, ?_, wf_16 w0, wf_16 w1, wf_16 w2, wf_64 w3, wf_64 w4⟩
    change some x0 = _ at c0
    change some x1 = _ at c1
    change some x2 = _ at c2
    change some x3 = _ at c3
    change some x4 = _ at c4
    simp only [Option.some.injEq] at c0 c1 c2 c3 c4
    rw [c0, c1, c2, c3, c4]
set_option maxRecDepth 100000 in
theorem open_jo {b0 : Nat} {v : Value} {d : DataW H} {ps : List MemPlace} (hv : Value.okWide Try.prog w .any b0 45 v) (h : DataW.Trod enc Try.prog w 0 (fun _ => true) true 45 v d ps) :
    ∃ j : JoX, v = .agg #[.int .u16 j.o.v, .int .u16 j.o.x, .int .u16 j.o.l, .int .i64 j.o.e, .int .i64 j.o.k, .int .u16 j.n.v, .int .u16 j.n.x, .int .u16 j.n.l, .int .i64 j.n.e, .int .i64 j.n.k, .bool j.two] ∧ JoF j := by
  obtain ⟨cs, rfl, hsz⟩ := okWide_struct Try.underlying45 hv
  obtain ⟨fuel, hf⟩ := h
  obtain ⟨xs, n, _, _, _, hlen, hf⟩ := DataW.trod_struct Try.underlying45 hf
  obtain ⟨y0, e0⟩ := some_of_lengthO hlen (i := 0) (by decide)
  obtain ⟨y1, e1⟩ := some_of_lengthO hlen (i := 1) (by decide)
  obtain ⟨y2, e2⟩ := some_of_lengthO hlen (i := 2) (by decide)
  obtain ⟨n0, g0, w0⟩ := cells_cfO ((hf 0 _ rfl).trans e0)
  obtain ⟨n5, g5, w5⟩ := cells_cfO ((hf 1 _ rfl).trans e1)
  obtain ⟨n10, c10⟩ := leaf_boolO Try.underlying4 ((hf 2 _ rfl).trans e2)
  obtain ⟨cs⟩ := cs
  have hsz' : cs.length = 11 := hsz
  match cs, hsz' with
  | [x0, x1, x2, x3, x4, x5, x6, x7, x8, x9, x10], _ =>
    refine ⟨⟨n0, n5, n10⟩, ?_, w0, w5⟩
    change [x0, x1, x2, x3, x4] = _ at g0
    change [x5, x6, x7, x8, x9] = _ at g5
    change some x10 = _ at c10
    simp only [Option.some.injEq] at c10
    simp only [List.cons.injEq, and_true] at g0
    obtain ⟨h0, h1, h2, h3, h4⟩ := g0
    simp only [List.cons.injEq, and_true] at g5
    obtain ⟨h5, h6, h7, h8, h9⟩ := g5
    rw [h0, h1, h2, h3, h4, h5, h6, h7, h8, h9, c10]
end
end Go.Proofs.Ytmhmlpfkdpjlaaa
