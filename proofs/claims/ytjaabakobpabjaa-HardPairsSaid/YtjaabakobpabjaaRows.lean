/-
  No cell of these rows narrows 'for every input' (looked for: loops, veiled, ifaces, maps, wideKeys, modest, calm, conditions, laid).
  DERIVED. THE GIVEN ROWS OF THIS SEAT. 3 by the template 'for every input the law returns true; each argument reads behind the call as it read before'; 0 by the template 'total and deterministic' (their statements: YtjaabakobpabjaaTotals.lean).
  GIVEN WITH THE SEED: the statements are not yours to turn. If you find one false, say at which input.
  Laid BY PROGRAM, IN A SANDBOX (cutbox-rows.mjs): the forced cells as the released guide's own fill.sh prints them over the translation 192244d5f4fb720c… (all of the seat's roots in one cut). By AI agents, Wed Nov 11 2026. No macro, syntax, notation, axiom, sorry.
-/
import Derived.Test.YtjaabakobpabjaaChecked
import GoSem.Claim
import GoSem.ClaimJoined
import GoSem.ClaimMapViews
import Derived.JoinedTies
import Derived.KernelRfl
namespace Go.Proofs.Ytjaabakobpabjaa
/- THE CELL 'sum', in the pinned program and in every row, IS THE sha256 OF THE DUMP (.gsa) THAT YtjaabakobpabjaaProg.lean LOADS. Nothing in Lean hashes anything: it is a label: what it is worth is what the hold of that sum in a sandbox is worth. -/
noncomputable def Try.pinned : Pinned := { name := "ytjaabakobpabjaa", sum := "192244d5f4fb720c4c7f354e35f21aa4f4f7a579f16502916962bd891c5af5e3", checked := Try.checked }
namespace Rows
def none {H : Type} : Left H := { results := [], args := [] }

/-- 'antipodelaw15.HardReads': WHATEVER THE INPUT: true; the input reads as it did. -/
def hardReadsSpec : ChangeSpec := { name := "hardReads", fn := fun _ => fun
  | [d1, d2, d3] => { results := [.lit (.bool true)], args := [d1, d2, d3] }
  | _ => none }
def hardReadsRow : OpenClaim := { program := "ytjaabakobpabjaa", sum := "192244d5f4fb720c4c7f354e35f21aa4f4f7a579f16502916962bd891c5af5e3", func := "antipode/antipodelaw15.HardReads", spec := "hardReads", unfollowed := true, recurses := true, apart := false }
def HardReadsSaid : Prop := hardReadsRow.holds Try.pinned (OpenSpec.ofChange hardReadsSpec)

/-- ITS FALSE NEIGHBOUR: 'it returns false'. Refute it at one input. -/
def hardReadsWrong : ChangeSpec := { name := "hardReads", fn := fun _ => fun
  | [d1, d2, d3] => { results := [.lit (.bool false)], args := [d1, d2, d3] }
  | _ => none }
def HardReadsWrongFalsely : Prop := hardReadsRow.holds Try.pinned (OpenSpec.ofChange hardReadsWrong)

/-- 'antipodelaw15.HardWrites': WHATEVER THE INPUT: true; the input reads as it did. -/
def hardWritesSpec : ChangeSpec := { name := "hardWrites", fn := fun _ => fun
  | [d1, d2, d3, d4] => { results := [.lit (.bool true)], args := [d1, d2, d3, d4] }
  | _ => none }
def hardWritesRow : OpenClaim := { program := "ytjaabakobpabjaa", sum := "192244d5f4fb720c4c7f354e35f21aa4f4f7a579f16502916962bd891c5af5e3", func := "antipode/antipodelaw15.HardWrites", spec := "hardWrites", unfollowed := true, recurses := true, apart := false }
def HardWritesSaid : Prop := hardWritesRow.holds Try.pinned (OpenSpec.ofChange hardWritesSpec)

/-- ITS FALSE NEIGHBOUR: 'it returns false'. Refute it at one input. -/
def hardWritesWrong : ChangeSpec := { name := "hardWrites", fn := fun _ => fun
  | [d1, d2, d3, d4] => { results := [.lit (.bool false)], args := [d1, d2, d3, d4] }
  | _ => none }
def HardWritesWrongFalsely : Prop := hardWritesRow.holds Try.pinned (OpenSpec.ofChange hardWritesWrong)

/-- 'antipodelaw15.HardPairs': WHATEVER THE INPUT: true; the input reads as it did. -/
def hardPairsSpec : ChangeSpec := { name := "hardPairs", fn := fun _ => fun
  | [d1, d2] => { results := [.lit (.bool true)], args := [d1, d2] }
  | _ => none }
def hardPairsRow : OpenClaim := { program := "ytjaabakobpabjaa", sum := "192244d5f4fb720c4c7f354e35f21aa4f4f7a579f16502916962bd891c5af5e3", func := "antipode/antipodelaw15.HardPairs", spec := "hardPairs", unfollowed := true, recurses := true, apart := false }
def HardPairsSaid : Prop := hardPairsRow.holds Try.pinned (OpenSpec.ofChange hardPairsSpec)

/-- ITS FALSE NEIGHBOUR: 'it returns false'. Refute it at one input. -/
def hardPairsWrong : ChangeSpec := { name := "hardPairs", fn := fun _ => fun
  | [d1, d2] => { results := [.lit (.bool false)], args := [d1, d2] }
  | _ => none }
def HardPairsWrongFalsely : Prop := hardPairsRow.holds Try.pinned (OpenSpec.ofChange hardPairsWrong)

/- THE SECOND FORM. 'bulk': how many values and letters a reading holds, each counted each time it is reached (what is shared counts as often as it is met; a slice's spare places count too). A statement '..UptoSaid' is the law's where the arguments, and the package variables that the reading takes, are together of bulk at most 1048576: NARROWER than '..Said'. Prove '..Said' where nothing that the law and all that it calls make is longer than what came in: it says more and counts as full. Else prove '..UptoSaid'. A law counts once. -/
mutual
def uptoBulk {H : Type} : DataW H → Nat
  | .lit (.string bytes) => bytes.length + 1
  | .lit _ => 1
  | .nil => 1
  | .ptr d => uptoBulk d + 1
  | .slice elems spare => uptoBulkAll elems + uptoBulkAll spare + 1
  | .agg parts => uptoBulkAll parts + 1
  | .iface _ d => uptoBulk d + 1
  | .map entries => uptoBulkEntries entries + 1
  | .held _ => 1
def uptoBulkAll {H : Type} : List (DataW H) → Nat
  | [] => 0
  | d :: r => uptoBulk d + uptoBulkAll r
def uptoBulkEntries {H : Type} : List (Lit × DataW H) → Nat
  | [] => 0
  | x :: r => uptoBulkEntry x + uptoBulkEntries r
def uptoBulkEntry {H : Type} : Lit × DataW H → Nat
  | (.string bytes, d) => bytes.length + uptoBulk d + 1
  | (_, d) => uptoBulk d + 1
 end
def uptoSmall : (H : Type) → List (DataW H) → Bool := fun _ ds => decide (uptoBulkAll ds ≤ 1048576)
def OpenSpec.upto (s : _root_.Go.ChangeSpec) : _root_.Go.OpenSpec := { _root_.Go.OpenSpec.ofChange s with cond := some uptoSmall }

/-- 'antipodelaw15.HardReads', WHERE WHAT IT READS IS OF BULK AT MOST 1048576: true; the input reads as it did. -/
def hardReadsUptoRow : OpenClaim := { program := "ytjaabakobpabjaa", sum := "192244d5f4fb720c4c7f354e35f21aa4f4f7a579f16502916962bd891c5af5e3", func := "antipode/antipodelaw15.HardReads", spec := "hardReads", unfollowed := true, recurses := true, apart := false, narrowed := true }
def HardReadsUptoSaid : Prop := hardReadsUptoRow.holds Try.pinned (OpenSpec.upto hardReadsSpec)

/-- 'antipodelaw15.HardWrites', WHERE WHAT IT READS IS OF BULK AT MOST 1048576: true; the input reads as it did. -/
def hardWritesUptoRow : OpenClaim := { program := "ytjaabakobpabjaa", sum := "192244d5f4fb720c4c7f354e35f21aa4f4f7a579f16502916962bd891c5af5e3", func := "antipode/antipodelaw15.HardWrites", spec := "hardWrites", unfollowed := true, recurses := true, apart := false, narrowed := true }
def HardWritesUptoSaid : Prop := hardWritesUptoRow.holds Try.pinned (OpenSpec.upto hardWritesSpec)

/-- 'antipodelaw15.HardPairs', WHERE WHAT IT READS IS OF BULK AT MOST 1048576: true; the input reads as it did. -/
def hardPairsUptoRow : OpenClaim := { program := "ytjaabakobpabjaa", sum := "192244d5f4fb720c4c7f354e35f21aa4f4f7a579f16502916962bd891c5af5e3", func := "antipode/antipodelaw15.HardPairs", spec := "hardPairs", unfollowed := true, recurses := true, apart := false, narrowed := true }
def HardPairsUptoSaid : Prop := hardPairsUptoRow.holds Try.pinned (OpenSpec.upto hardPairsSpec)

end Rows
end Go.Proofs.Ytjaabakobpabjaa
