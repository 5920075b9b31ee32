/- The reference of entries: Merge: what is kept. -/
import Derived.Test.YtabiccpodnjieaaLogZa
import Derived.Test.YtabiccpodnjieaaLogY
import Derived.Test.YtabiccpodnjieaaPlainRefM
namespace Go.Proofs.Ytabiccpodnjieaa
open Go.ChangeShapes Go.WideShapes Go.ChangeAt Go.RowKit

theorem cutV4 {R P : Value → World → Option Addr → Nat → Prop} {Q : Prop} (h : (∀ v w q c, R v w q c → P v w q c) → Q) (p : ∀ v w q c, R v w q c → P v w q c) : Q := h p
theorem blk_grown {wr w' W8 : World} {O : Nat} {o : Obj} {row : Option Nat} (h : wr.heap[O]? = some o ∧ Below O W8 wr) (hg : wr.grownBy w' row) (hr : ∀ k, row = some k → O + 1 ≤ k) : w'.heap[O]? = some o ∧ Below O W8 w' :=
  ⟨(hg.block O (block_lt h.1) (fun e => by have := hr O e.symm; omega)).trans h.1, h.2.grown hg (Nat.le_of_lt (block_lt h.1)) (fun k hk => Nat.le_of_succ_le (hr k hk))⟩
theorem BoxW.keepB {w wr w' : World} {A R N B : Nat} {l : Lg} {p : Option Addr} {c : Nat} (h : BoxW w A R N l p c wr) (hb : Below B wr w') (hB : N ≤ B) : BoxW w A R N l p c w' :=
  ⟨below_block hb (Nat.lt_of_lt_of_le h.an hB) h.a, below_block hb (Nat.lt_of_lt_of_le h.rn hB) h.z, h.b.trans (hb.mono (Nat.le_of_lt (Nat.lt_of_lt_of_le h.an hB))), Nat.le_trans h.s hb.size, h.an, h.rn⟩
end Go.Proofs.Ytabiccpodnjieaa
