/- Wire: a command that is not too great has not too many bytes. -/
import Derived.Test.YtmhmlpfkdpjlaaaWireL
import Derived.Test.YtmhmlpfkdpjlaaaWireF
namespace Go.Proofs.Ytmhmlpfkdpjlaaa
open Go.ChangeShapes Go.WideShapes Go.ChangeAt Go.RowKit

theorem encT_le {s : ByteArray} (h : TxF s) : (encT s).length ≤ s.size + 10 := by
  unfold encT TxF at *
  have := (varN_len 10 s.size (by have : 128 ^ 10 = 1180591620717411303424 := (by decide); omega) (by omega)).2
  rw [List.length_append, txW_len]; omega
theorem encSps_le : ∀ {l : List SpX}, (∀ x ∈ l, SpF x) → (l.flatMap encSp).length ≤ szSp l + 20 * l.length
  | [], _ => by simp [szSp]
  | a :: l, h => by
    have h1 := h a (by simp)
    have i1 := encT_le h1.1; have i2 := encT_le h1.2
    have h2 := encSps_le (l := l) (fun x hx => h x (by simp [hx]))
    rw [List.flatMap_cons, List.length_append, List.length_cons]
    unfold encSp szSp at *
    rw [List.length_append, List.map_cons, List.sum_cons]; omega
theorem encWrs_le : ∀ {l : List WrX}, (∀ x ∈ l, WrF x) → (l.flatMap encWr).length ≤ szWr l + 21 * l.length
  | [], _ => by simp [szWr]
  | a :: l, h => by
    have h1 := h a (by simp)
    have i1 := encT_le h1.1; have i2 := encT_le h1.2
    have h2 := encWrs_le (l := l) (fun x hx => h x (by simp [hx]))
    rw [List.flatMap_cons, List.length_append, List.length_cons]
    have i3 : (encF a.r).length = 1 := rfl
    unfold encWr szWr at *
    rw [List.length_append, List.length_append, List.map_cons, List.sum_cons]; omega
theorem ltc_cml {c : CmX} (F : CmF c) (h : LtC c) : CmL c := by
  obtain ⟨h1, h2, h3⟩ := h
  have i1 := encHd_len F
  have i2 := encSps_le F.sp
  have i3 := encWrs_le F.wr
  have i4 := (encN_len (x := (c.sp.length : Int)) ⟨by omega, by omega⟩).2
  have i5 := (encN_len (x := (c.wr.length : Int)) ⟨by omega, by omega⟩).2
  refine ⟨F, ?_, by omega, by omega⟩
  unfold encCm encSps encWrs
  simp only [List.length_append]
  omega
end Go.Proofs.Ytmhmlpfkdpjlaaa
