import Derived.Test.YtjaabakobpabjaaWireF
import Derived.Test.YtjaabakobpabjaaHsG
import Derived.Test.YtjaabakobpabjaaPlainRf
/- Arguments that are lists of joints, lists of byte strings. -/
namespace Go.Proofs.Ytjaabakobpabjaa
open Go.ChangeShapes Go.WideShapes Go.ChangeAt Go.RowKit Go.Deep

section
variable {H : Type} {enc : TypeId × Value → H} {w : World}
set_option maxRecDepth 100000 in
theorem open_jns {b0 : Nat} {v : Value} {d : DataW H} {ps : List MemPlace} (hv : Value.okWide Try.prog w .any b0 22 v) (h : DataW.Trod enc Try.prog w 0 (fun _ => true) true 22 v d ps) :
    ∃ (js : List Jn) (p : Option Addr) (cap : Nat), v = .slice p js.length cap ∧ js.length ≤ maxLen ∧ JnAt w p js := by
  obtain ⟨a0, len, cap, rfl⟩ := okWide_slice Try.underlying22 hv
  obtain ⟨fuel, hf⟩ := h
  have hC : Try.prog.cellsOf 42 = 11 := by kernel_rfl
  rcases open_slice Try.underlying22 hf with ⟨hcs, _⟩ | ⟨a, len', cap', m, n, D, Pl, hcs, _, hl, hm, hmm, _, hi⟩
  · simp [Value.cells] at hcs
    obtain ⟨rfl, rfl, rfl⟩ := hcs
    exact ⟨[], none, 0, rfl, Nat.zero_le _, fun j hj => absurd hj (by simp)⟩
  · simp [Value.cells] at hcs
    obtain ⟨rfl, rfl, rfl⟩ := hcs
    simp only [if_true] at hmm
    subst hmm
    have key : ∀ j : Fin len, ∃ x : Jn, ∀ i, i < 11 → w.cell? ((a.add (j.val * 11)).add i) = (jnL x)[i]? := fun j => by
      obtain ⟨cs', hc, ht⟩ := hi j.val (by omega)
      rw [hC] at hc
      obtain ⟨_, hcl, hat⟩ := World.cells?_some hc
      obtain ⟨x, rfl, -⟩ := cells_jnC ht
      exact ⟨x, fun i hi => hat i (by omega)⟩
    obtain ⟨F, hF⟩ := Classical.axiomOfChoice key
    clear key hi
    refine ⟨List.ofFn F, some a, _, by rw [List.length_ofFn], by rw [List.length_ofFn]; omega, fun j hj => ?_⟩
    rw [List.length_ofFn] at hj
    obtain ⟨b, off, spot⟩ := a
    have h0 := hF ⟨0, by omega⟩ 0 (by decide)
    have hspot : spot = none := by
      have : w.cell? ((⟨b, off, spot⟩ : Addr).add (0 * 11 + 0)) = some (.int .u16 (F ⟨0, by omega⟩).ov) := by simpa [Addr.add, jnL] using h0
      simpa [Addr.add] using World.cell?_spot this
    subst hspot
    simp only [add_plain] at hF
    have h00 := hF ⟨j, hj⟩ 0 (by decide)
    have hb := World.block_lt_of_cell? w _ (show w.cell? ⟨b, off + j * 11 + 0, none⟩ = some (.int .u16 (F ⟨j, hj⟩).ov) from h00)
    refine ⟨b, off, rfl, hb, fun i hi => ?_⟩
    rw [hF ⟨j, hj⟩ i hi]
    simp only [List.getElem_ofFn]
theorem wf_u8R {n : Int} (h : (Lit.int .u8 n).wf = true) : 0 ≤ n ∧ n ≤ 255 := by
  have h1 : IntKind.u8.min = 0 := rfl
  have h2 : IntKind.u8.max = 255 := rfl
  simp only [Lit.wf, Bool.and_eq_true, decide_eq_true_eq] at h; omega
set_option maxRecDepth 100000 in
theorem field_rec {n : Nat} {v : Value} {y : DataW H × List MemPlace} (h : DataW.trod enc Try.prog w 0 (fun _ => true) true n 32 [v] = some y) :
    ∃ x : RcX, v = .slice x.p x.xs.length x.c ∧ Sl w.heap.size w (.slice x.p x.xs.length x.c) 1 x.xs.length (byt x.xs) ∧ Oct x.xs ∧ x.xs.length ≤ maxLen := by
  rcases open_ints Try.underlying32 Try.underlying5 (by kernel_rfl) h with ⟨hcs, _⟩ | ⟨a, len', cap', zs, hcs, _, hl, hm, hz, hx, hcell, hwz⟩
  · simp at hcs
    subst hcs
    exact ⟨⟨none, 0, []⟩, rfl, ⟨by simp [byt], .inl ⟨rfl, rfl⟩⟩, fun x hx => absurd hx (by simp), Nat.zero_le _⟩
  · simp at hcs
    subst hcs
    simp only [if_true] at hz
    have hlen : (zs.take len').length = len' := by rw [List.length_take]; omega
    refine ⟨⟨some a, cap', zs.take len'⟩, by rw [hlen], ?_, fun x hx => wf_u8R (hwz x (List.mem_of_mem_take hx)), by show (zs.take len').length ≤ _; omega⟩
    show Sl _ _ (.slice (some a) (zs.take len').length cap') 1 (zs.take len').length (byt (zs.take len'))
    rw [hlen]
    refine ⟨by simp [byt]; omega, .inr ⟨_, cap', rfl, hl, hm, fun hn => ?_⟩⟩
    obtain ⟨b, off, spot⟩ := a
    have hspot : spot = none := by simpa [Addr.add] using World.cell?_spot (hcell 0 (by omega))
    subst hspot
    have hb := World.block_lt_of_cell? w _ (hcell 0 (by omega))
    have hb' : b < w.heap.size := by simpa [Addr.add] using hb
    refine ⟨b, off, rfl, hb', fun j hj => ?_⟩
    rw [← add_plain, hcell j (by omega), byt, List.getElem?_map, List.getElem?_take, if_pos (by omega), List.getElem?_eq_getElem (by omega)]
    simp [List.getD, List.getElem?_eq_getElem (show j < zs.length by omega)]
set_option maxRecDepth 100000 in
theorem open_recs {b0 : Nat} {v : Value} {d : DataW H} {ps : List MemPlace} (hv : Value.okWide Try.prog w .any b0 23 v) (h : DataW.Trod enc Try.prog w 0 (fun _ => true) true 23 v d ps) :
    ∃ (L : List RcX) (p : Option Addr) (cap : Nat), v = .slice p L.length cap ∧ L.length ≤ maxLen ∧ RcAt w.heap.size w p L ∧ ∀ x ∈ L, Oct x.xs ∧ x.xs.length ≤ maxLen := by
  obtain ⟨a0, len, cap, rfl⟩ := okWide_slice Try.underlying23 hv
  obtain ⟨fuel, hf⟩ := h
  rcases open_slice1 Try.underlying23 (by kernel_rfl) hf with ⟨hcs, _⟩ | ⟨a, len', cap', m, n, V, D, Pl, hcs, _, hl, hm, hmm, _, hi⟩
  · simp [Value.cells] at hcs
    obtain ⟨rfl, rfl, rfl⟩ := hcs
    exact ⟨[], none, 0, rfl, Nat.zero_le _, fun j hj => absurd hj (by simp), fun x hx => absurd hx (by simp)⟩
  · simp [Value.cells] at hcs
    obtain ⟨rfl, rfl, rfl⟩ := hcs
    simp only [if_true] at hmm
    subst hmm
    have key : ∀ j : Fin len, ∃ x : RcX, w.cell? (a.add j.val) = some (.slice x.p x.xs.length x.c) ∧ Sl w.heap.size w (.slice x.p x.xs.length x.c) 1 x.xs.length (byt x.xs) ∧ Oct x.xs ∧ x.xs.length ≤ maxLen := fun j => by
      obtain ⟨hc, ht⟩ := hi j.val (by omega)
      obtain ⟨x, hx, h1, h2, h3⟩ := field_rec ht
      exact ⟨x, by rw [hc, hx], h1, h2, h3⟩
    obtain ⟨F, hF⟩ := Classical.axiomOfChoice key
    clear key hi
    refine ⟨List.ofFn F, some a, _, by rw [List.length_ofFn], by rw [List.length_ofFn]; omega, fun j hj => ?_, fun x hx => ?_⟩
    · rw [List.length_ofFn] at hj
      obtain ⟨b, off, spot⟩ := a
      have hspot : spot = none := by simpa [Addr.add] using World.cell?_spot (hF ⟨0, by omega⟩).1
      subst hspot
      have h00 := (hF ⟨j, hj⟩).1
      simp only [add_plain] at h00
      have hb := World.block_lt_of_cell? w _ h00
      refine ⟨b, off, rfl, hb, ?_, ?_⟩
      · simp only [List.getElem_ofFn]; exact h00
      · simp only [List.getElem_ofFn]; exact (hF ⟨j, hj⟩).2.1
    · obtain ⟨j, rfl⟩ := List.mem_ofFn.1 hx
      exact (hF j).2.2
end
end Go.Proofs.Ytjaabakobpabjaa
/- Wire: the reference's reader: its block. -/
namespace Go.Proofs.Ytjaabakobpabjaa
open Go.ChangeShapes Go.WideShapes Go.ChangeAt Go.RowKit

def RfS (B : Nat) (w : World) (R : Nat) (xs : List Int) (bad : Bool) : Prop :=
  B ≤ R ∧ ∃ p cap, w.heap[R]? = some (.cells #[.slice p xs.length cap, .bool bad] 77 (0, 0)) ∧ Sl B w (.slice p xs.length cap) 1 xs.length (byt xs)
theorem RfS.setBad {B R : Nat} {w : World} {xs : List Int} {bad : Bool} (h : RfS B w R xs bad) (b : Bool) : RfS B (w.setCell ⟨R, 1, none⟩ (.bool b)) R xs b := by
  obtain ⟨hB, p, cap, hR, hS⟩ := h
  exact ⟨hB, p, cap, (cells_setW hR 1 _).trans rfl, sl_setW hS hB _⟩
theorem RfS.setB {B R : Nat} {w : World} {xs ys : List Int} {bad : Bool} {p : Option Addr} {c : Nat} (h : RfS B w R xs bad) (hs : Sl B w (.slice p ys.length c) 1 ys.length (byt ys)) : RfS B (w.setCell ⟨R, 0, none⟩ (.slice p ys.length c)) R ys bad := by
  obtain ⟨hB, p', cap, hR, hS⟩ := h
  exact ⟨hB, p, c, (cells_setW hR 0 _).trans rfl, sl_setW hs hB _⟩
theorem RfS.drew {B R : Nat} {w : World} {xs : List Int} {bad : Bool} (h : RfS B w R xs bad) : RfS B w.drew R xs bad := by
  obtain ⟨hBR, p, cap, hR, hS⟩ := h
  exact ⟨hBR, p, cap, hR, hS.keep (Below.refl _ _).drew⟩
theorem RfS.keep {B R : Nat} {w w' : World} {xs : List Int} {bad : Bool} (h : RfS B w R xs bad) {A : Nat} (hb : Below A w w') (hA : w.heap.size ≤ A) : RfS B w' R xs bad := by
  obtain ⟨hBR, p, cap, hR, hS⟩ := h
  have hRA : R < A := Nat.lt_of_lt_of_le (block_lt hR) hA
  exact ⟨hBR, p, cap, below_block hb hRA hR, hS.keep (hb.mono (by omega))⟩
theorem RfS.setFar {B R : Nat} {w : World} {xs : List Int} {bad : Bool} (h : RfS B w R xs bad) {Z j : Nat} (hZ : R < Z) (v : Value) : RfS B (w.setCell ⟨Z, j, none⟩ v) R xs bad := by
  obtain ⟨hBR, p, cap, hR, hS⟩ := h
  exact ⟨hBR, p, cap, (Below.heap_setCell _ _ _ _ (by show R ≠ Z; omega)).trans hR, sl_setW hS (by omega) v⟩
structure RfW (B : Nat) (w : World) (R : Nat) (xs : List Int) (bad : Bool) : Prop where
  r : RfS B w R xs bad
  o : Oct xs
  l : (xs.length : Int) ≤ 140737488300000
theorem RfW.keep {B R : Nat} {w w' : World} {xs : List Int} {bad : Bool} (h : RfW B w R xs bad) {A : Nat} (hb : Below A w w') (hA : w.heap.size ≤ A) : RfW B w' R xs bad := ⟨h.r.keep hb hA, h.o, h.l⟩
theorem RfW.drew {B R : Nat} {w : World} {xs : List Int} {bad : Bool} (h : RfW B w R xs bad) : RfW B w.drew R xs bad := ⟨h.r.drew, h.o, h.l⟩
theorem RfW.setBad {B R : Nat} {w : World} {xs : List Int} {bad : Bool} (h : RfW B w R xs bad) (b : Bool) : RfW B (w.setCell ⟨R, 1, none⟩ (.bool b)) R xs b := ⟨h.r.setBad b, h.o, h.l⟩
theorem RfW.lt {B R : Nat} {w : World} {xs : List Int} {bad : Bool} (h : RfW B w R xs bad) : R < w.heap.size := by
  obtain ⟨_, p, cap, hR, _⟩ := h.r; exact block_lt hR
def RfE {α : Type} (B R : Nat) (w : World) (v : α → Value) (r : α × List Int × Bool) (e : Ending) (w' : World) : Prop := e = .returned (v r.1) ∧ RfW B w' R r.2.1 r.2.2 ∧ w.grownBy w' (some R)
theorem RfW.setB {B R : Nat} {w : World} {xs ys : List Int} {bad : Bool} {p : Option Addr} {c : Nat} (h : RfW B w R xs bad) (hs : Sl B w (.slice p ys.length c) 1 ys.length (byt ys)) (ho : Oct ys) (hl : ys.length ≤ xs.length) : RfW B (w.setCell ⟨R, 0, none⟩ (.slice p ys.length c)) R ys bad := ⟨h.r.setB hs, ho, by have := h.l; omega⟩
theorem RfW.setFar {B R : Nat} {w : World} {xs : List Int} {bad : Bool} (h : RfW B w R xs bad) {Z j : Nat} (hZ : R < Z) (v : Value) : RfW B (w.setCell ⟨Z, j, none⟩ v) R xs bad := ⟨h.r.setFar hZ v, h.o, h.l⟩
/-- What the reader has still to read, k bytes on. -/
theorem RfS.on {B R : Nat} {w : World} {xs : List Int} {bad : Bool} {p : Option Addr} {c k : Nat} (h : RfW B w R xs bad) (hs : Sl B w (.slice p xs.length c) 1 xs.length (byt xs)) (hk : k ≤ xs.length) (_hc : ¬ c = k) : RfW B (w.setCell ⟨R, 0, none⟩ (.slice (Option.map (fun x => x.add k) p) (xs.length - k) (c - k))) R (xs.drop k) bad := by
  have h1 := Sl.part (m := k) (q := xs.length - k) (q' := xs.length - k) hs (by omega) rfl
  have hD : (xs.drop k).take (xs.length - k) = xs.drop k := List.take_of_length_le (by rw [List.length_drop]; omega)
  have hL : (xs.drop k).length = xs.length - k := List.length_drop
  rw [hD] at h1
  have h2 := h.setB (p := Option.map (fun x => x.add k) p) (c := c - k) (ys := xs.drop k) (by rw [hL]; rw [hL] at h1; exact h1) (h.o.drop _) (by omega)
  rw [hL] at h2; exact h2
theorem RfS.on0 {B R : Nat} {w : World} {xs : List Int} {bad : Bool} {p : Option Addr} {c k : Nat} (h : RfW B w R xs bad) (hs : Sl B w (.slice p xs.length c) 1 xs.length (byt xs)) (hk : k ≤ xs.length) (hc : c = k) : RfW B (w.setCell ⟨R, 0, none⟩ (.slice p (xs.length - k) (c - k))) R (xs.drop k) bad := by
  rw [show c - k = 0 by omega]
  have h1 := Sl.part0 (m := k) (q := xs.length - k) (q' := xs.length - k) (c' := 0) hs (by omega) (by omega) rfl rfl
  have hD : (xs.drop k).take (xs.length - k) = xs.drop k := List.take_of_length_le (by rw [List.length_drop]; omega)
  have hL : (xs.drop k).length = xs.length - k := List.length_drop
  rw [hD] at h1
  have h2 := h.setB (p := p) (c := 0) (ys := xs.drop k) (by rw [hL]; rw [hL] at h1; exact h1) (h.o.drop _) (by omega)
  rw [hL] at h2; exact h2
end Go.Proofs.Ytjaabakobpabjaa
