import Derived.Test.YtmhmlpfkdpjlaaaPlainRf
import Derived.Test.YtmhmlpfkdpjlaaaRdE
import Derived.Test.YtmhmlpfkdpjlaaaBackA
import Derived.Test.YtmhmlpfkdpjlaaaStampTk
import Derived.Test.YtmhmlpfkdpjlaaaKept
import Derived.Deep.AppendLies
/- Wire: what the reference's reading of a command, a state tells; what was read can be written. -/
namespace Go.Proofs.Ytmhmlpfkdpjlaaa

theorem tkf_yes {α : Type} {f : List Int → Bool → α × List Int × Bool} {e : α → List Int} {k : α → Prop} (hf : RdOk f e k) {xs : List Int} (ho : Oct xs) {a : α} {n : Int} (h : rd2 rfB f xs false = ((n, a), [], false)) : n :: e a = xs ∧ k a := by
  obtain ⟨h1, h2⟩ := (rd2_ok rfB_ok hf).sound xs _ _ ho h
  refine ⟨?_, h1.2⟩
  rw [h2]; simp
theorem tkf_no {α : Type} {f : List Int → Bool → α × List Int × Bool} {e : α → List Int} {k : α → Prop} (hf : RdOk f e k) {xs ys : List Int} {a a' : α} {n m : Int} {b : Bool} (hm : 0 ≤ m ∧ m ≤ 255) (h : rd2 rfB f xs false = ((n, a), ys, b)) (hb : ¬ (b = false ∧ n = m ∧ ys = [])) (ha : k a') : m :: e a' ≠ xs := fun e1 => by
  have hc := (rd2_ok rfB_ok hf).compl (m, a') [] ⟨hm, ha⟩
  have e2 : ([m] ++ e a') ++ [] = xs := by rw [← e1]; simp
  have hc' : rd2 rfB f (([m] ++ e a') ++ []) false = ((m, a'), [], false) := hc
  rw [e2, h] at hc'
  simp only [Prod.mk.injEq] at hc'
  exact hb ⟨hc'.2.2, hc'.1.1, hc'.2.1⟩
theorem cmv_cmf {c : CmX} (h : CmV c) : CmF c := by
  obtain ⟨h1, h2, h3, h4, ⟨h5, h6, h7, h8⟩, ⟨h9, h10⟩, h11, -, ⟨h12, h13⟩, ⟨h14, h15⟩⟩ := h
  have tx : ∀ {s : ByteArray}, TxV s → TxF s := fun h => by unfold TxV at h; unfold TxF; omega
  exact ⟨h1, h2, h3, h4, h5, h6, h7, h8, h9, h10, h11, fun x hx => ⟨tx (h13 x hx).1, tx (h13 x hx).2⟩, fun x hx => ⟨tx (h15 x hx).1, tx (h15 x hx).2.2⟩, by omega, by omega⟩
theorem pav_paf {P : PaL} (h : PaV P.x) : PaF P := by
  obtain ⟨h1, h2, ⟨h3, h4⟩, h5, h6, ⟨h7, h8⟩, ⟨h9, h10⟩, ⟨h11, h12⟩⟩ := h
  have tx : ∀ {s : ByteArray}, TxV s → TxF s := fun h => by unfold TxV at h; unfold TxF; omega
  have ou : ∀ {x : OuX}, OuV x → OuF x := fun h => ⟨h.1.1, h.1.2.1, h.1.2.2.1, h.1.2.2.2, h.2.1.1, h.2.1.2⟩
  have z64 : In64 0 := by unfold In64; omega
  have tz : TxF ⟨#[]⟩ := by unfold TxF; decide
  have h7' : P.cs.length ≤ 65536 := by have : (P.cs.map (·.1)).length ≤ 65536 := h7; simpa using this
  refine ⟨h1, h2, h3, h4, h5, h6, fun x hx => ?_, fun x hx => ou (h10 x hx), fun x hx => ou (h12 x hx), by omega, by have : P.rs.length ≤ 65536 := h9; omega, by have : P.ds.length ≤ 65536 := h11; omega⟩
  have hc := h8 x.1 (List.mem_map_of_mem hx)
  have vs : ∀ v ∈ x.1.vs, VeF v := fun v hv => ⟨(hc.vs v hv).1.1, (hc.vs v hv).1.2, tx (hc.vs v hv).2.2⟩
  have nv : x.1.vs.length ≤ 9223372036854775807 := by have := hc.n; omega
  cases hb : x.1.lk with
  | true =>
    obtain ⟨⟨a1, a2, a3, a4⟩, a5, ⟨a6, a7⟩, -, a8⟩ := hc.l hb
    exact ⟨tx hc.k, nv, vs, a1, a2, a3, a4, a5, a6, a7, tx a8⟩
  | false =>
    have e := hc.z hb
    have k := tx hc.k
    rw [e] at k vs nv ⊢
    exact ⟨k, nv, vs, z64, z64, z64, z64, z64, z64, z64, tz⟩
end Go.Proofs.Ytmhmlpfkdpjlaaa
/- Wire: the readers' answers, told alike: of the same bytes the same. -/
namespace Go.Proofs.Ytmhmlpfkdpjlaaa
open Go.ChangeShapes Go.WideShapes Go.ChangeAt Go.RowKit

def Tw (g : Nat) (xs : List Int) (w : World) : Prop := w.heap[g]? = some (.cells (byt (xs ++ [229, 229, 229])).toArray 5 (0, 0))
theorem tw_sl {g : Nat} {xs : List Int} {w : World} (h : Tw g xs w) (hn : (xs.length : Int) ≤ 140737488355320) : Sl w.heap.size w (.slice (some ⟨g, 0, none⟩) xs.length (xs.length + 3)) 1 xs.length (byt xs) :=
  sl_row h (by simp [byt]) (by simp [byt]) (by omega) (by unfold maxLen; omega)
theorem tw_keep {g B : Nat} {xs : List Int} {w w' : World} (h : Tw g xs w) (hb : Below B w w') (hg : g < B) : Tw g xs w' := (hb.block g hg).trans h
theorem tw_own {g : Nat} {xs : List Int} {w : World} (h : Tw g xs w) (hn : (xs.length : Int) ≤ 140737488355320) : w.ownsRow g 5 1 (.slice (some ⟨g, 0, none⟩) xs.length (xs.length + 3)) xs.length (byt xs) :=
  ⟨by rw [byt_len, Nat.mul_one], .inr ⟨g, xs.length + 3, _, rfl, Nat.le_refl _, h, by omega, by unfold maxLen; omega, by simp [byt], by simp [byt]⟩⟩
theorem cell_far {w w' : World} {ga g o : Nat} {xs : List Int} {v : Value} (ht : Tw ga xs w) (hg : w.grownBy w' (some ga)) (hlt : g < w.heap.size) (hv : ∀ n, v ≠ .int .u8 n) (h : w.cell? ⟨g, o, none⟩ = some v) : w'.cell? ⟨g, o, none⟩ = some v := by
  by_cases e : g = ga
  · subst e
    rw [row_cell ht o] at h
    unfold byt at h
    rw [List.getElem?_map] at h
    cases hh : (xs ++ [229, 229, 229])[o]? with
    | none => rw [hh] at h; cases h
    | some n => rw [hh] at h; simp only [Option.map_some, Option.some.injEq] at h; exact absurd h.symm (hv n)
  · exact (hg.cell_far ⟨g, o, none⟩ hlt (by simpa using e)).trans h
theorem SpsAt.far {w w' : World} {ga : Nat} {xs : List Int} {p : Option Addr} {L : List SpX} (h : SpsAt w p L) (ht : Tw ga xs w) (hg : w.grownBy w' (some ga)) : SpsAt w' p L := fun j hj => by
  obtain ⟨g, o, e, hl, h1, h2⟩ := h j hj
  exact ⟨g, o, e, Nat.lt_of_lt_of_le hl hg.size, cell_far ht hg hl (by intro n; simp) h1, cell_far ht hg hl (by intro n; simp) h2⟩
theorem WrsAt.far {w w' : World} {ga : Nat} {xs : List Int} {p : Option Addr} {L : List WrX} (h : WrsAt w p L) (ht : Tw ga xs w) (hg : w.grownBy w' (some ga)) : WrsAt w' p L := fun j hj => by
  obtain ⟨g, o, e, hl, h1, h2, h3⟩ := h j hj
  exact ⟨g, o, e, Nat.lt_of_lt_of_le hl hg.size, cell_far ht hg hl (by intro n; simp) h1, cell_far ht hg hl (by intro n; simp) h2, cell_far ht hg hl (by intro n; simp) h3⟩
theorem VesAt.far {w w' : World} {ga : Nat} {xs : List Int} {p : Option Addr} {L : List VeX} (h : VesAt w p L) (ht : Tw ga xs w) (hg : w.grownBy w' (some ga)) : VesAt w' p L := fun j hj => by
  obtain ⟨g, o, e, hl, h1, h2, h3, h4⟩ := h j hj
  exact ⟨g, o, e, Nat.lt_of_lt_of_le hl hg.size, cell_far ht hg hl (by intro n; simp) h1, cell_far ht hg hl (by intro n; simp) h2, cell_far ht hg hl (by intro n; simp) h3, cell_far ht hg hl (by intro n; simp) h4⟩
theorem OusAt.far {w w' : World} {ga : Nat} {xs : List Int} {p : Option Addr} {L : List OuX} (h : OusAt w p L) (ht : Tw ga xs w) (hg : w.grownBy w' (some ga)) : OusAt w' p L := fun j hj => by
  obtain ⟨g, o, e, hl, h1, h2, h3, h4, h5, h6, h7⟩ := h j hj
  exact ⟨g, o, e, Nat.lt_of_lt_of_le hl hg.size, cell_far ht hg hl (by intro n; simp) h1, cell_far ht hg hl (by intro n; simp) h2, cell_far ht hg hl (by intro n; simp) h3, cell_far ht hg hl (by intro n; simp) h4, cell_far ht hg hl (by intro n; simp) h5, cell_far ht hg hl (by intro n; simp) h6, cell_far ht hg hl (by intro n; simp) h7⟩
theorem CesAt.far {w w' : World} {ga : Nat} {xs : List Int} {p : Option Addr} {L : List CeL} (h : CesAt w p L) (ht : Tw ga xs w) (hg : w.grownBy w' (some ga)) : CesAt w' p L := fun j hj => by
  obtain ⟨g, o, e, hl, hv, h0, h1, h2, h3, h4, h5, h6, h7, h8, h9, h10, h11⟩ := h j hj
  exact ⟨g, o, e, Nat.lt_of_lt_of_le hl hg.size, hv.far ht hg, cell_far ht hg hl (by intro n; simp) h0, cell_far ht hg hl (by intro n; simp) h1, cell_far ht hg hl (by intro n; simp) h2, cell_far ht hg hl (by intro n; simp) h3, cell_far ht hg hl (by intro n; simp) h4, cell_far ht hg hl (by intro n; simp) h5, cell_far ht hg hl (by intro n; simp) h6, cell_far ht hg hl (by intro n; simp) h7, cell_far ht hg hl (by intro n; simp) h8, cell_far ht hg hl (by intro n; simp) h9, cell_far ht hg hl (by intro n; simp) h10, cell_far ht hg hl (by intro n; simp) h11⟩
theorem in0 : In64 0 := by unfold In64; omega
def zeroC : CmX := ⟨0, 0, 0, 0, 0, 0, 0, 0, 0, 0, 0, false, [], []⟩
theorem zeroC_v : CmV zeroC := ⟨in0, in0, in0, in0, ⟨in0, in0, in0, in0⟩, ⟨in0, in0⟩, in0, trivial, ⟨by show 0 ≤ 65536; omega, fun s h => absurd h (by simp [zeroC])⟩, ⟨by show 0 ≤ 65536; omega, fun s h => absurd h (by simp [zeroC])⟩⟩
theorem zeroC_l : CmL zeroC := by
  have F := cmv_cmf zeroC_v
  have h1 := encHd_len F
  have h2 := (encN_len in0).2
  refine ⟨F, ?_, by show 0 ≤ 1000000; omega, by show 0 ≤ 1000000; omega⟩
  have e : (encCm zeroC).length = (encHd zeroC).length + (encN 0).length + (encN 0).length := by
    show (encHd zeroC ++ (encN 0 ++ []) ++ (encN 0 ++ [])).length = _
    simp only [List.length_append, List.length_nil]; omega
  omega
/-- A reader's answer, of a command. -/
structure CmA (w : World) (xs : List Int) (c : CmX) (ps pw : Option Addr) (er : Int) : Prop where
  sp : SpsAt w ps c.sp
  wr : WrsAt w pw c.wr
  l : CmL c
  d : (encCm c = xs ∧ CmV c ∧ er = 0) ∨ (c = zeroC ∧ er = 9 ∧ ∀ d, CmV d → encCm d ≠ xs)
theorem tkCm_ans {w w' : World} {xs : List Int} {e : Ending} (h : TkCmd w xs e w') (hl : (xs.length : Int) ≤ 140737488200000) : ∃ (c : CmX) (ps pw : Option Addr) (cs cw : Nat) (er : Int), e = .returned (.tuple #[.agg #[.int .i64 c.k, .int .i64 c.e, .int .i64 c.n, .int .i64 c.h, .int .i64 c.yn, .int .i64 c.yl, .int .i64 c.ys, .int .i64 c.ya, .int .i64 c.sw, .int .i64 c.st, .int .i64 c.w, .bool c.yes, .slice ps c.sp.length cs, .slice pw c.wr.length cw], .int .i64 er]) ∧ CmA w' xs c ps pw er ∧ Below w.heap.size w w' := by
  obtain ⟨hb, ⟨c, ps, pw, cs, cw, e1, hv, s1, s2, he⟩ | ⟨hn, he⟩⟩ := h
  · refine ⟨c, ps, pw, cs, cw, 0, he, ⟨s1, s2, ⟨cmv_cmf hv, by rw [e1]; omega, ?_, ?_⟩, .inl ⟨e1, hv, rfl⟩⟩, hb⟩
    · have := hv.2.2.2.2.2.2.2.2.1.1; omega
    · have := hv.2.2.2.2.2.2.2.2.2.1; omega
  · exact ⟨zeroC, none, none, 0, 0, 9, he, ⟨fun j hj => absurd hj (by simp [zeroC]), fun j hj => absurd hj (by simp [zeroC]), zeroC_l, .inr ⟨rfl, rfl, hn⟩⟩, hb⟩
theorem CmA.eq {w w' : World} {xs : List Int} {c d : CmX} {ps pw qs qw : Option Addr} {er fr : Int} (h : CmA w xs c ps pw er) (k : CmA w' xs d qs qw fr) : c = d ∧ er = fr := by
  rcases h.d with ⟨h1, h2, h3⟩ | ⟨h1, h2, h3⟩
  · rcases k.d with ⟨k1, k2, k3⟩ | ⟨k1, k2, k3⟩
    · exact ⟨(encCm_rd (x := []) (y := []) h2 k2 (by rw [h1, k1])).1, by rw [h3, k3]⟩
    · exact absurd h1 (k3 c h2)
  · rcases k.d with ⟨k1, k2, k3⟩ | ⟨k1, k2, k3⟩
    · exact absurd k1 (h3 d k2)
    · exact ⟨by rw [h1, k1], by rw [h2, k2]⟩
theorem CmA.keep {w w' : World} {xs : List Int} {c : CmX} {ps pw : Option Addr} {er : Int} (h : CmA w xs c ps pw er) {B : Nat} (hb : Below B w w') (hB : w.heap.size ≤ B) : CmA w' xs c ps pw er := ⟨h.sp.keep hb hB, h.wr.keep hb hB, h.l, h.d⟩
theorem CmA.far {w w' : World} {xs ys : List Int} {c : CmX} {ps pw : Option Addr} {er : Int} {ga : Nat} (h : CmA w xs c ps pw er) (ht : Tw ga ys w) (hg : w.grownBy w' (some ga)) : CmA w' xs c ps pw er := ⟨h.sp.far ht hg, h.wr.far ht hg, h.l, h.d⟩
def zeroP : PaL := ⟨0, 0, 0, 0, 0, 0, [], [], []⟩
/-- A reader's answer, of a state. -/
structure PaA (w : World) (xs : List Int) (P : PaL) (ap aq as' : Option Addr) (er : Int) : Prop where
  cs : CesAt w ap P.cs
  rs : OusAt w aq P.rs
  ds : OusAt w as' P.ds
  l : (P.cs.length ≤ 1000000 ∧ ∀ x ∈ P.cs, x.1.vs.length ≤ 1000000) ∧ P.rs.length ≤ 1000000 ∧ P.ds.length ≤ 1000000
  d : (encPa P.x = xs ∧ PaV P.x ∧ er = 0) ∨ (P.x = zeroP.x ∧ er = 9 ∧ ∀ d, PaV d → encPa d ≠ xs)
theorem tkPa_ans {w w' : World} {xs : List Int} {e : Ending} (h : TkPart w xs e w') : ∃ (P : PaL) (ap aq as' : Option Addr) (ac ad at' : Nat) (er : Int), e = .returned (.tuple #[.agg #[.int .i64 P.e, .int .i64 P.h, .int .i64 P.fw, .int .i64 P.ft, .int .i64 P.cl, .int .i64 P.lo, .slice ap P.cs.length ac, .slice aq P.rs.length ad, .slice as' P.ds.length at'], .int .i64 er]) ∧ PaA w' xs P ap aq as' er ∧ Below w.heap.size w w' := by
  obtain ⟨hb, ⟨P, ap, aq, as', ac, ad, at', e1, hv, s1, s2, s3, he⟩ | ⟨hn, he⟩⟩ := h
  · refine ⟨P, ap, aq, as', ac, ad, at', 0, he, ⟨s1, s2, s3, ⟨⟨?_, fun x hx => ?_⟩, ?_, ?_⟩, .inl ⟨e1, hv, rfl⟩⟩, hb⟩
    · have h7 : (P.cs.map (·.1)).length ≤ 65536 := hv.2.2.2.2.2.1.1
      rw [List.length_map] at h7; omega
    · have := (hv.2.2.2.2.2.1.2 x.1 (List.mem_map_of_mem hx)).n; omega
    · have h7 : P.rs.length ≤ 65536 := hv.2.2.2.2.2.2.1.1; omega
    · have h7 : P.ds.length ≤ 65536 := hv.2.2.2.2.2.2.2.1; omega
  · exact ⟨zeroP, none, none, none, 0, 0, 0, 9, he, ⟨fun j hj => absurd hj (by simp [zeroP]), fun j hj => absurd hj (by simp [zeroP]), fun j hj => absurd hj (by simp [zeroP]), ⟨⟨by show 0 ≤ 1000000; omega, fun x hx => absurd hx (by simp [zeroP])⟩, by show 0 ≤ 1000000; omega, by show 0 ≤ 1000000; omega⟩, .inr ⟨rfl, rfl, hn⟩⟩, hb⟩
theorem PaA.eq {w w' : World} {xs : List Int} {P Q : PaL} {a b c a' b' c' : Option Addr} {er fr : Int} (h : PaA w xs P a b c er) (k : PaA w' xs Q a' b' c' fr) : P.x = Q.x ∧ er = fr := by
  rcases h.d with ⟨h1, h2, h3⟩ | ⟨h1, h2, h3⟩
  · rcases k.d with ⟨k1, k2, k3⟩ | ⟨k1, k2, k3⟩
    · exact ⟨(encPa_rd (x := []) (y := []) h2 k2 (by rw [h1, k1])).1, by rw [h3, k3]⟩
    · exact absurd h1 (k3 _ h2)
  · rcases k.d with ⟨k1, k2, k3⟩ | ⟨k1, k2, k3⟩
    · exact absurd k1 (h3 _ k2)
    · exact ⟨by rw [h1, k1], by rw [h2, k2]⟩
theorem PaA.keep {w w' : World} {xs : List Int} {P : PaL} {a b c : Option Addr} {er : Int} (h : PaA w xs P a b c er) {B : Nat} (hb : Below B w w') (hB : w.heap.size ≤ B) : PaA w' xs P a b c er := ⟨h.cs.keep hb hB, h.rs.keep hb hB, h.ds.keep hb hB, h.l, h.d⟩
theorem PaA.far {w w' : World} {xs ys : List Int} {P : PaL} {a b c : Option Addr} {er : Int} {ga : Nat} (h : PaA w xs P a b c er) (ht : Tw ga ys w) (hg : w.grownBy w' (some ga)) : PaA w' xs P a b c er := ⟨h.cs.far ht hg, h.rs.far ht hg, h.ds.far ht hg, h.l, h.d⟩
def zeroJ : JoX := ⟨⟨0, 0, 0, 0, 0⟩, ⟨0, 0, 0, 0, 0⟩, false⟩
/-- A reader's answer, of a joint. -/
def JoA (xs : List Int) (j : JoX) (n er : Int) : Prop := (∃ ys, encJo j ++ ys = xs ∧ JoF j ∧ n = (encJo j).length ∧ er = 0) ∨ (j = zeroJ ∧ n = 0 ∧ er = 9 ∧ ∀ d ys, JoF d → encJo d ++ ys ≠ xs)
theorem tkJo_ans {w w' : World} {xs : List Int} {e : Ending} (h : TkJoint w xs e w') : ∃ (j : JoX) (n er : Int), e = .returned (.tuple #[.agg #[.int .u16 j.o.v, .int .u16 j.o.x, .int .u16 j.o.l, .int .i64 j.o.e, .int .i64 j.o.k, .int .u16 j.n.v, .int .u16 j.n.x, .int .u16 j.n.l, .int .i64 j.n.e, .int .i64 j.n.k, .bool j.two], .int .i64 n, .int .i64 er]) ∧ JoA xs j n er ∧ Below w.heap.size w w' := by
  obtain ⟨hb, ⟨j, ys, e1, hv, he⟩ | ⟨hn, he⟩⟩ := h
  · exact ⟨j, _, 0, he, .inl ⟨ys, e1, hv, rfl, rfl⟩, hb⟩
  · exact ⟨zeroJ, 0, 9, he, .inr ⟨rfl, rfl, rfl, hn⟩, hb⟩
theorem JoA.eq {xs : List Int} {j k : JoX} {n m er fr : Int} (h : JoA xs j n er) (h' : JoA xs k m fr) : j = k ∧ n = m ∧ er = fr := by
  rcases h with ⟨ys, h1, h2, h3, h4⟩ | ⟨h1, h2, h3, h4⟩
  · rcases h' with ⟨zs, k1, k2, k3, k4⟩ | ⟨k1, k2, k3, k4⟩
    · obtain ⟨rfl, -⟩ := rdJo_ok.cut h2 k2 (h1.trans k1.symm)
      exact ⟨rfl, by rw [h3, k3], by rw [h4, k4]⟩
    · exact absurd h1 (k4 j ys h2)
  · rcases h' with ⟨zs, k1, k2, k3, k4⟩ | ⟨k1, k2, k3, k4⟩
    · exact absurd k1 (h4 k zs k2)
    · exact ⟨by rw [h1, k1], by rw [h2, k2], by rw [h3, k3]⟩
end Go.Proofs.Ytmhmlpfkdpjlaaa
