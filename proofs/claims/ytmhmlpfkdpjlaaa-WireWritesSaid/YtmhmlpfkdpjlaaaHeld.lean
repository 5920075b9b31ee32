/- Regions walked operation by operation: the class of worlds may be made narrower as the walk goes on. -/
import Derived.Test.YtmhmlpfkdpjlaaaProg
import Derived.Deep.RegionHeld
import Derived.WalkKit
namespace Go.Proofs.Ytmhmlpfkdpjlaaa
open Go.RowKit

theorem wpAnyH_sub {P : Program} {md : Region.Mode} {ops : Array Oper} {Q : Exit → Act → World → Prop} {S S' : World → Prop} (h : ∀ w, S' w → S w) :
    ∀ {fuel : Nat} {listed : Array Bool} {a : Act} {w : World}, wpAnyH P md ops Q S' fuel listed a w → wpAnyH P md ops Q S fuel listed a w
  | 0, _, _, _, hh => hh
  | _ + 1, _, _, _, hh => ⟨hh.1, fun i hi => wpOp_mono (fun _ _ hx => ⟨h _ hx.1, wpAnyH_sub h hx.2⟩) (hh.2 i hi)⟩
end Go.Proofs.Ytmhmlpfkdpjlaaa
