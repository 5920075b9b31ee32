/- entries: Push. -/
import Derived.Test.YtjaabakobpabjaaLogF
namespace Go.Proofs.Ytjaabakobpabjaa
open Go.ChangeShapes Go.WideShapes Go.ChangeAt Go.RowKit

theorem EnSl.one {w : World} {g : Nat} {e : Ent} {t : TypeId} (h : w.heap[g]? = some (.cells #[.int .i64 e.t, .int .i64 e.k, .string e.d, .int .u16 e.j.ov, .int .u16 e.j.ox, .int .u16 e.j.ol, .int .i64 e.j.oe, .int .i64 e.j.ok, .int .u16 e.j.nv, .int .u16 e.j.nx, .int .u16 e.j.nl, .int .i64 e.j.ne, .int .i64 e.j.nk, .bool e.j.two] t (0, 0))) : EnSl w (.slice (some ⟨g, 0, none⟩) [e].length 1) [e] := by
  have hr : entRow [e] = entC e := by simp [entRow]
  unfold EnSl
  rw [hr]
  refine ⟨rfl, .inr ⟨⟨g, 0, none⟩, 1, rfl, Nat.le_refl _, by unfold maxLen; omega, fun _ => ⟨g, 0, rfl, block_lt h, fun j hj => ?_⟩⟩⟩
  rw [Nat.zero_add, block_cells h j]
  simp [entC]
end Go.Proofs.Ytjaabakobpabjaa
