/- entries: Merge. -/
import Derived.Test.YtabiccpodnjieaaLogN1
import Derived.Test.YtabiccpodnjieaaLogN2
import Derived.Test.YtabiccpodnjieaaLogN3
import Derived.Test.YtabiccpodnjieaaLogN4
import Derived.Test.YtabiccpodnjieaaLogN5
import Derived.Test.YtabiccpodnjieaaLogN6
import Derived.Test.YtabiccpodnjieaaLogN7
import Derived.Test.YtabiccpodnjieaaLogN8
import Derived.Test.YtabiccpodnjieaaLogN9
namespace Go.Proofs.Ytabiccpodnjieaa
open Go.ChangeShapes Go.WideShapes Go.ChangeAt Go.RowKit

set_option maxRecDepth 100000 in
set_option maxHeartbeats 16000000 in
theorem merge_any (l : Lg) (p : Option Addr) (c : Nat) (prev term : Int) (es : List Ent) (p2 : Option Addr) (c2 : Nat) (w : World) (hF : LgFit l) (hp : -9223372036854775808 ≤ prev ∧ prev ≤ 9223372036854775807) (hE : EnSl w (.slice p l.es.length c) l.es) (h2 : EnSl w (.slice p2 es.length c2) es) (hl : l.es.length + es.length ≤ 1000000) :
    Calls Try.prog 15 #[.agg #[.int .i64 l.b, .int .i64 l.bt, .int .u16 l.j.ov, .int .u16 l.j.ox, .int .u16 l.j.ol, .int .i64 l.j.oe, .int .i64 l.j.ok, .int .u16 l.j.nv, .int .u16 l.j.nx, .int .u16 l.j.nl, .int .i64 l.j.ne, .int .i64 l.j.nk, .bool l.j.two, .slice p l.es.length c], .int .i64 prev, .int .i64 term, .slice p2 es.length c2] w (LgEnd3 w.heap.size w (mergeL l prev term es)) := by
  by_cases ho : l.last < prev ∨ prev < 0
  · exact merge_out l p c prev term es p2 c2 w hF hp hE h2 hl ho
  · rcases Bool.eq_false_or_eq_true (refusedL l prev term es.length) with hrf | hrf
    · exact merge_ref l p c prev term es p2 c2 w hF hp hE h2 hl ho hrf
    · by_cases hb : l.b ≤ prev
      · by_cases hz : es.length = 0
        · exact merge_high0 l p c prev term es p2 c2 w hF hp hE h2 hl ho hrf hb hz
        · have hz' : 0 < es.length := by omega
          cases hc : cutAt l prev es with
          | none => exact merge_high_none l p c prev term es p2 c2 w hF hp hE h2 hl ho hrf hb hz' (cutAt_isnone hc)
          | some k0 =>
            obtain ⟨h1, h3, h4⟩ := cutAt_is hc
            rcases Bool.eq_false_or_eq_true (termL l (prev + 1 + k0)).2 with hb2 | hb2
            · exact merge_high_true l p c prev term es p2 c2 w hF hp hE h2 hl ho hrf hb hz' k0 h1 h4 h3 hb2
            · exact merge_high_false l p c prev term es p2 c2 w hF hp hE h2 hl ho hrf hb hz' k0 h1 h4 h3 hb2
      · have hlb : prev < l.b := by omega
        by_cases hz : es.length ≤ (l.b - prev).toNat
        · exact merge_low0 l p c prev term es p2 c2 w hF hp hE h2 hl ho hrf hlb hz
        · have hz' : 0 < (es.drop (l.b - prev).toNat).length := by rw [List.length_drop]; omega
          have hd : l.b - prev = ((l.b - prev).toNat : Int) := by omega
          cases hc : cutAt l l.b (es.drop (l.b - prev).toNat) with
          | none => exact merge_low_none l p c prev term es p2 c2 w hF hp hE h2 hl ho hrf hlb _ _ hd rfl hz' (cutAt_isnone hc)
          | some k0 =>
            obtain ⟨h1, h3, h4⟩ := cutAt_is hc
            rcases Bool.eq_false_or_eq_true (termL l (l.b + 1 + k0)).2 with hb2 | hb2
            · exact merge_low_true l p c prev term es p2 c2 w hF hp hE h2 hl ho hrf hlb _ _ hd rfl hz' k0 h1 h4 h3 hb2
            · exact merge_low_false l p c prev term es p2 c2 w hF hp hE h2 hl ho hrf hlb _ _ hd rfl hz' k0 h1 h4 h3 hb2
end Go.Proofs.Ytabiccpodnjieaa
