import Derived.Test.YtmhmlpfkdpjlaaaPlainPart
import Derived.Test.YtmhmlpfkdpjlaaaWireC
import Derived.Test.YtmhmlpfkdpjlaaaWireE
import Derived.Test.YtmhmlpfkdpjlaaaRoom
import Derived.Test.YtmhmlpfkdpjlaaaWireF
import Derived.Test.YtmhmlpfkdpjlaaaPlainRd2
import Derived.Test.YtmhmlpfkdpjlaaaRdH
import Derived.Test.YtmhmlpfkdpjlaaaWireX
/- Wire: are a state's cells not too great? -/
namespace Go.Proofs.Ytmhmlpfkdpjlaaa
open Go.ChangeShapes Go.WideShapes Go.ChangeAt Go.RowKit

/-- A cell that is not too great. -/
structure LcX (x : CeX) : Prop where
  n : x.vs.length ≤ 30
  k : x.k.size ≤ 100
  l : x.ld.size ≤ 300
  d : ∀ i, (hi : i < x.vs.length) → x.vs[i].d.size ≤ 300
end Go.Proofs.Ytmhmlpfkdpjlaaa
/- Wire: is a command not too great? -/
namespace Go.Proofs.Ytmhmlpfkdpjlaaa
open Go.ChangeShapes Go.WideShapes Go.ChangeAt Go.RowKit

end Go.Proofs.Ytmhmlpfkdpjlaaa
/- Wire: a command that is not too great has not too many bytes. -/
namespace Go.Proofs.Ytmhmlpfkdpjlaaa
open Go.ChangeShapes Go.WideShapes Go.ChangeAt Go.RowKit

end Go.Proofs.Ytmhmlpfkdpjlaaa
/- Wire: a state that is not too great has not too many bytes. -/
namespace Go.Proofs.Ytmhmlpfkdpjlaaa
open Go.ChangeShapes Go.WideShapes Go.ChangeAt Go.RowKit

end Go.Proofs.Ytmhmlpfkdpjlaaa
/- Wire: what WireBack needs beside: places, locks that are zero, no bytes the beginning of other ones. -/
namespace Go.Proofs.Ytmhmlpfkdpjlaaa
open Go.ChangeShapes Go.WideShapes Go.ChangeAt Go.RowKit

theorem RdOk.cut {α : Type} {f : List Int → Bool → α × List Int × Bool} {e : α → List Int} {k : α → Prop} (hf : RdOk f e k) {a b : α} {x y : List Int} (ha : k a) (hb : k b) (h : e a ++ x = e b ++ y) : a = b ∧ x = y := by
  have h1 := hf.compl a x ha
  rw [h, hf.compl b y hb] at h1
  simp only [Prod.mk.injEq, and_true] at h1
  exact ⟨h1.1.symm, h1.2.symm⟩
theorem encCm_rd {c d : CmX} {x y : List Int} (hc : CmV c) (hd : CmV d) (h : encCm c ++ x = encCm d ++ y) : c = d ∧ x = y := by
  rw [encCm_body, encCm_body, List.cons_append, List.cons_append] at h
  exact rdCm_ok.cut hc hd (List.cons.inj h).2
theorem encPa_rd {c d : PaX} {x y : List Int} (hc : PaV c) (hd : PaV d) (h : encPa c ++ x = encPa d ++ y) : c = d ∧ x = y := by
  rw [encPa_body, encPa_body, List.cons_append, List.cons_append] at h
  exact rdPa_ok.cut hc hd (List.cons.inj h).2
end Go.Proofs.Ytmhmlpfkdpjlaaa
