/- Wire: a state's bytes: package wire's. -/
import Derived.Test.YtmhmlpfkdpjlaaaGwB
import Derived.Test.YtmhmlpfkdpjlaaaRdA
namespace Go.Proofs.Ytmhmlpfkdpjlaaa
open Go.ChangeShapes Go.WideShapes Go.ChangeAt Go.RowKit

def encCL (c : CeL) : List Int := encCe c.1
def encPaH (P : PaL) : List Int := [2] ++ encN P.e ++ encN P.h ++ stampB P.fw P.ft ++ encN P.cl ++ encN P.lo ++ encN P.cs.length
theorem encPaL (P : PaL) : encPa P.x = encPaH P ++ P.cs.flatMap encCL ++ encOus P.rs ++ encOus P.ds := by
  unfold encPa encPaHd encPaH PaL.x
  have : (P.cs.map (·.1)).flatMap encCe = P.cs.flatMap encCL := by rw [List.flatMap_map]; rfl
  simp only [List.length_map, this]
theorem encPaH_len {P : PaL} (h : PaF P) : (encPaH P).length ≤ 80 := by
  unfold encPaH
  have := (encN_len h.e).2; have := (encN_len h.h).2; have := (encN_len h.cl).2; have := (encN_len h.lo).2; have := stampB_len P.fw P.ft
  have := (encN_len (x := (P.cs.length : Int)) ⟨by omega, by have := h.ncs; omega⟩).2
  simp only [List.length_append, List.length_cons, List.length_nil]; omega
theorem encT_ge (s : ByteArray) : s.size ≤ (encT s).length := by unfold encT; rw [List.length_append, txW_len]; omega
theorem encVe_len (x : VeX) : (encVe x).length = 17 + (encT x.d).length := by unfold encVe; simp only [List.length_append, stampB_len, encF_len]
theorem Gw.nil_own (base : Nat) (X : World) : X.ownsRow base 5 1 (.slice Option.none 0 0) ([] : List Int).length (byt []) := ⟨rfl, .inl ⟨rfl, rfl⟩⟩
theorem cutW_VVW {R P : Value → Value → World → Prop} {Q : Prop} (h : (∀ a0 a1 a2, R a0 a1 a2 → P a0 a1 a2) → Q) (p : ∀ a0 a1 a2, R a0 a1 a2 → P a0 a1 a2) : Q := h p
end Go.Proofs.Ytmhmlpfkdpjlaaa
