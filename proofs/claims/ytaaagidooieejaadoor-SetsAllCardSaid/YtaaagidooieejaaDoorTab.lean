/- From the row's condition: the table reads as it was laid; and the heap that the door's own run leaves meets it. -/
import Derived.Test.YtaaagidooieejaaDoorTz
import Derived.Test.YtaaagidooieejaaDoorFrameLaid
import Derived.Test.YtaaagidooieejaaDoorRows
import Derived.LaidMore
import Derived.OpenShut
import Derived.Stop.Joined
namespace Go.Proofs.YtaaagidooieejaaDoor
open Go.ChangeShapes Go.WideShapes Go.ChangeAt Go.RowKit

abbrev laidD : List (String × DataW Unit) := [("math/bits.deBruijn32tab", Rows.laid_math_bits_deBruijn32tab)]
theorem gTab : Tryd.prog.globalNamed "math/bits.deBruijn32tab" = some 0 := by kernel_rfl
theorem tTab : (Tryd.prog.globals[0]?).map (·.type) = some 44 := by kernel_rfl
theorem door_met (os : Os) (args : Array Value) : laidMetH Tryd.prog laidD ((World.doorLaid Tryd.prog 400 os).forCall (fun _ _ => 0) ⟨#[], args, []⟩).memory :=
  laidMetH_of_parts3 (fuel := 8) (laidMet_of_run' 8 (by kernel_rfl) (by kernel_rfl)) (by kernel_rfl) (by kernel_rfl)
theorem tab_datum {H : Type} : (Rows.laid_math_bits_deBruijn32tab : DataW H) = .agg (tabD.map fun n => .lit (.int .u8 n)) := rfl
theorem tab_of_laid {W : World} (h : laidMetH Tryd.prog laidD W) : Tab W := by
  rw [MakeChecks.laidMetH_plain _ _ _ (by kernel_rfl)] at h
  obtain ⟨ps, ⟨g0, t0, cs0, f0, p0, q0, hg0, ht0, hv0, hd0, _, _⟩, _, _⟩ := h
  obtain rfl := Option.some.inj (gTab.symm.trans hg0)
  obtain rfl := Option.some.inj (tTab.symm.trans ht0)
  obtain ⟨xs, m1, rfl, hx1, hlen, hn3, hel⟩ := DataW.trod_array Tryd.underlying44 hd0
  rw [tab_datum] at hx1
  have hxs : xs.map (·.1) = tabD.map fun n => DataW.lit (.int .u8 n) := by
    have := congrArg Prod.fst hx1
    injection this with e; exact e.symm
  have c1 : Tryd.prog.cellsOf 5 = 1 := by kernel_rfl
  have key : ∀ j : Nat, j < 32 → W.cell? ⟨0, j, none⟩ = some (.int .u8 (tabD.getD j 0)) := fun j hj => by
    have h1 := hel j hj
    have ej : xs[j]? = some (xs[j]'(by omega)) := List.getElem?_eq_getElem (by omega)
    rw [ej, c1, Nat.mul_one] at h1
    obtain ⟨n, e1, e2, _⟩ := DataW.trod_int Tryd.underlying5 h1
    have e3 : (xs.map (·.1))[j]? = some (.lit (.int .u8 n)) := by rw [List.getElem?_map, ej, e2]; rfl
    rw [hxs, List.getElem?_map] at e3
    have e4 : tabD[j]? = some n := by
      cases e : tabD[j]? with
      | none => rw [e] at e3; cases e3
      | some x => rw [e] at e3; injection e3 with e3; injection e3 with e3; injection e3 with _ e3; rw [e3]
    rw [World.var?_cell hg0 hv0 j, List.getD_eq_getElem?_getD, e4, ← Array.getElem?_toList]
    have := congrArg (·[0]?) e1
    simpa using this
  exact ⟨World.block_lt_of_cell? W ⟨0, 0, none⟩ (key 0 (by decide)), key⟩
theorem tab_heap (w w' : World) (h : w.heap = w'.heap) (t : laidMetH Tryd.prog laidD w) : laidMetH Tryd.prog laidD w' := t.of_heap h
end Go.Proofs.YtaaagidooieejaaDoor
