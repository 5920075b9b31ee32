/-
  No cell of these rows narrows 'for every input' (looked for: loops, veiled, ifaces, maps, wideKeys, modest, calm, conditions, laid).
  DERIVED. THE GIVEN ROWS OF THIS SEAT. 8 by the template 'for every input the law returns true; each argument reads behind the call as it read before'; 0 by the template 'total and deterministic' (their statements: YtihkkoldjllifaaTotals.lean).
  GIVEN WITH THE SEED: the statements are not yours to turn. If you find one false, say at which input.
  Laid BY PROGRAM, IN A SANDBOX (cutbox-rows.mjs): the forced cells as the released guide's own fill.sh prints them over the translation a9d193236a263664… (all of the seat's roots in one cut). By AI agents, Wed Nov 11 2026. No macro, syntax, notation, axiom, sorry.
-/
import Derived.Test.YtihkkoldjllifaaChecked
import GoSem.Claim
import GoSem.ClaimJoined
import GoSem.ClaimMapViews
import Derived.JoinedTies
import Derived.KernelRfl
namespace Go.Proofs.Ytihkkoldjllifaa
/- THE CELL 'sum', in the pinned program and in every row, IS THE sha256 OF THE DUMP (.gsa) THAT YtihkkoldjllifaaProg.lean LOADS. Nothing in Lean hashes anything: it is a label: what it is worth is what the hold of that sum in a sandbox is worth. -/
noncomputable def Try.pinned : Pinned := { name := "ytihkkoldjllifaa", sum := "a9d193236a2636644281df10212a032cfc81778b38288be12cde9071bdb634b7", checked := Try.checked }
namespace Rows
def none {H : Type} : Left H := { results := [], args := [] }

/-- 'antipodelaw29.ScriptReads': WHATEVER THE INPUT: true; the input reads as it did. -/
def scriptReadsSpec : ChangeSpec := { name := "scriptReads", fn := fun _ => fun
  | [d1, d2] => { results := [.lit (.bool true)], args := [d1, d2] }
  | _ => none }
def scriptReadsRow : OpenClaim := { program := "ytihkkoldjllifaa", sum := "a9d193236a2636644281df10212a032cfc81778b38288be12cde9071bdb634b7", func := "antipode/antipodelaw29.ScriptReads", spec := "scriptReads", apart := false }
def ScriptReadsSaid : Prop := scriptReadsRow.holds Try.pinned (OpenSpec.ofChange scriptReadsSpec)

/-- ITS FALSE NEIGHBOUR: 'it returns false'. Refute it at one input. -/
def scriptReadsWrong : ChangeSpec := { name := "scriptReads", fn := fun _ => fun
  | [d1, d2] => { results := [.lit (.bool false)], args := [d1, d2] }
  | _ => none }
def ScriptReadsWrongFalsely : Prop := scriptReadsRow.holds Try.pinned (OpenSpec.ofChange scriptReadsWrong)

/-- 'antipodelaw29.ScriptWrites': WHATEVER THE INPUT: true; the input reads as it did. -/
def scriptWritesSpec : ChangeSpec := { name := "scriptWrites", fn := fun _ => fun
  | [d] => { results := [.lit (.bool true)], args := [d] }
  | _ => none }
def scriptWritesRow : OpenClaim := { program := "ytihkkoldjllifaa", sum := "a9d193236a2636644281df10212a032cfc81778b38288be12cde9071bdb634b7", func := "antipode/antipodelaw29.ScriptWrites", spec := "scriptWrites", apart := false }
def ScriptWritesSaid : Prop := scriptWritesRow.holds Try.pinned (OpenSpec.ofChange scriptWritesSpec)

/-- ITS FALSE NEIGHBOUR: 'it returns false'. Refute it at one input. -/
def scriptWritesWrong : ChangeSpec := { name := "scriptWrites", fn := fun _ => fun
  | [d] => { results := [.lit (.bool false)], args := [d] }
  | _ => none }
def ScriptWritesWrongFalsely : Prop := scriptWritesRow.holds Try.pinned (OpenSpec.ofChange scriptWritesWrong)

/-- 'antipodelaw29.ScriptBack': WHATEVER THE INPUT: true; the input reads as it did. -/
def scriptBackSpec : ChangeSpec := { name := "scriptBack", fn := fun _ => fun
  | [d] => { results := [.lit (.bool true)], args := [d] }
  | _ => none }
def scriptBackRow : OpenClaim := { program := "ytihkkoldjllifaa", sum := "a9d193236a2636644281df10212a032cfc81778b38288be12cde9071bdb634b7", func := "antipode/antipodelaw29.ScriptBack", spec := "scriptBack", apart := false }
def ScriptBackSaid : Prop := scriptBackRow.holds Try.pinned (OpenSpec.ofChange scriptBackSpec)

/-- ITS FALSE NEIGHBOUR: 'it returns false'. Refute it at one input. -/
def scriptBackWrong : ChangeSpec := { name := "scriptBack", fn := fun _ => fun
  | [d] => { results := [.lit (.bool false)], args := [d] }
  | _ => none }
def ScriptBackWrongFalsely : Prop := scriptBackRow.holds Try.pinned (OpenSpec.ofChange scriptBackWrong)

/-- 'antipodelaw29.ScriptNodes': WHATEVER THE INPUT: true; the input reads as it did. -/
def scriptNodesSpec : ChangeSpec := { name := "scriptNodes", fn := fun _ => fun
  | [d1, d2] => { results := [.lit (.bool true)], args := [d1, d2] }
  | _ => none }
def scriptNodesRow : OpenClaim := { program := "ytihkkoldjllifaa", sum := "a9d193236a2636644281df10212a032cfc81778b38288be12cde9071bdb634b7", func := "antipode/antipodelaw29.ScriptNodes", spec := "scriptNodes", apart := false }
def ScriptNodesSaid : Prop := scriptNodesRow.holds Try.pinned (OpenSpec.ofChange scriptNodesSpec)

/-- ITS FALSE NEIGHBOUR: 'it returns false'. Refute it at one input. -/
def scriptNodesWrong : ChangeSpec := { name := "scriptNodes", fn := fun _ => fun
  | [d1, d2] => { results := [.lit (.bool false)], args := [d1, d2] }
  | _ => none }
def ScriptNodesWrongFalsely : Prop := scriptNodesRow.holds Try.pinned (OpenSpec.ofChange scriptNodesWrong)

/-- 'antipodelaw11.ZoneAll': WHATEVER THE INPUT: true; the input reads as it did. -/
def zoneAllSpec : ChangeSpec := { name := "zoneAll", fn := fun _ => fun
  | [d1, d2, d3] => { results := [.lit (.bool true)], args := [d1, d2, d3] }
  | _ => none }
def zoneAllRow : OpenClaim := { program := "ytihkkoldjllifaa", sum := "a9d193236a2636644281df10212a032cfc81778b38288be12cde9071bdb634b7", func := "antipode/antipodelaw11.ZoneAll", spec := "zoneAll", apart := false }
def ZoneAllSaid : Prop := zoneAllRow.holds Try.pinned (OpenSpec.ofChange zoneAllSpec)

/-- ITS FALSE NEIGHBOUR: 'it returns false'. Refute it at one input. -/
def zoneAllWrong : ChangeSpec := { name := "zoneAll", fn := fun _ => fun
  | [d1, d2, d3] => { results := [.lit (.bool false)], args := [d1, d2, d3] }
  | _ => none }
def ZoneAllWrongFalsely : Prop := zoneAllRow.holds Try.pinned (OpenSpec.ofChange zoneAllWrong)

/-- 'antipodelaw11.ZoneSurvives': WHATEVER THE INPUT: true; the input reads as it did. -/
def zoneSurvivesSpec : ChangeSpec := { name := "zoneSurvives", fn := fun _ => fun
  | [d1, d2, d3] => { results := [.lit (.bool true)], args := [d1, d2, d3] }
  | _ => none }
def zoneSurvivesRow : OpenClaim := { program := "ytihkkoldjllifaa", sum := "a9d193236a2636644281df10212a032cfc81778b38288be12cde9071bdb634b7", func := "antipode/antipodelaw11.ZoneSurvives", spec := "zoneSurvives", apart := false }
def ZoneSurvivesSaid : Prop := zoneSurvivesRow.holds Try.pinned (OpenSpec.ofChange zoneSurvivesSpec)

/-- ITS FALSE NEIGHBOUR: 'it returns false'. Refute it at one input. -/
def zoneSurvivesWrong : ChangeSpec := { name := "zoneSurvives", fn := fun _ => fun
  | [d1, d2, d3] => { results := [.lit (.bool false)], args := [d1, d2, d3] }
  | _ => none }
def ZoneSurvivesWrongFalsely : Prop := zoneSurvivesRow.holds Try.pinned (OpenSpec.ofChange zoneSurvivesWrong)

/-- 'antipodelaw11.ZoneRight': WHATEVER THE INPUT: true; the input reads as it did. -/
def zoneRightSpec : ChangeSpec := { name := "zoneRight", fn := fun _ => fun
  | [d1, d2, d3] => { results := [.lit (.bool true)], args := [d1, d2, d3] }
  | _ => none }
def zoneRightRow : OpenClaim := { program := "ytihkkoldjllifaa", sum := "a9d193236a2636644281df10212a032cfc81778b38288be12cde9071bdb634b7", func := "antipode/antipodelaw11.ZoneRight", spec := "zoneRight", apart := false }
def ZoneRightSaid : Prop := zoneRightRow.holds Try.pinned (OpenSpec.ofChange zoneRightSpec)

/-- ITS FALSE NEIGHBOUR: 'it returns false'. Refute it at one input. -/
def zoneRightWrong : ChangeSpec := { name := "zoneRight", fn := fun _ => fun
  | [d1, d2, d3] => { results := [.lit (.bool false)], args := [d1, d2, d3] }
  | _ => none }
def ZoneRightWrongFalsely : Prop := zoneRightRow.holds Try.pinned (OpenSpec.ofChange zoneRightWrong)

/-- 'antipodelaw11.ZoneBalance': WHATEVER THE INPUT: true; the input reads as it did. -/
def zoneBalanceSpec : ChangeSpec := { name := "zoneBalance", fn := fun _ => fun
  | [d1, d2, d3] => { results := [.lit (.bool true)], args := [d1, d2, d3] }
  | _ => none }
def zoneBalanceRow : OpenClaim := { program := "ytihkkoldjllifaa", sum := "a9d193236a2636644281df10212a032cfc81778b38288be12cde9071bdb634b7", func := "antipode/antipodelaw11.ZoneBalance", spec := "zoneBalance", apart := false }
def ZoneBalanceSaid : Prop := zoneBalanceRow.holds Try.pinned (OpenSpec.ofChange zoneBalanceSpec)

/-- ITS FALSE NEIGHBOUR: 'it returns false'. Refute it at one input. -/
def zoneBalanceWrong : ChangeSpec := { name := "zoneBalance", fn := fun _ => fun
  | [d1, d2, d3] => { results := [.lit (.bool false)], args := [d1, d2, d3] }
  | _ => none }
def ZoneBalanceWrongFalsely : Prop := zoneBalanceRow.holds Try.pinned (OpenSpec.ofChange zoneBalanceWrong)

/- THE SECOND FORM. 'bulk': how many values and letters a reading holds, each counted each time it is reached (what is shared counts as often as it is met; a slice's spare places count too). A statement '..UptoSaid' is the law's where the arguments, and the package variables that the reading takes, are together of bulk at most 1048576: NARROWER than '..Said'. Prove '..Said' where nothing that the law and all that it calls make is longer than what came in: it says more and counts as full. Else prove '..UptoSaid'. A law counts once. -/
mutual
def uptoBulk {H : Type} : DataW H → Nat
  | .lit (.string bytes) => bytes.length + 1
  | .lit _ => 1
  | .nil => 1
  | .ptr d => uptoBulk d + 1
  | .slice elems spare => uptoBulkAll elems + uptoBulkAll spare + 1
  | .agg parts => uptoBulkAll parts + 1
  | .iface _ d => uptoBulk d + 1
  | .map entries => uptoBulkEntries entries + 1
  | .held _ => 1
def uptoBulkAll {H : Type} : List (DataW H) → Nat
  | [] => 0
  | d :: r => uptoBulk d + uptoBulkAll r
def uptoBulkEntries {H : Type} : List (Lit × DataW H) → Nat
  | [] => 0
  | x :: r => uptoBulkEntry x + uptoBulkEntries r
def uptoBulkEntry {H : Type} : Lit × DataW H → Nat
  | (.string bytes, d) => bytes.length + uptoBulk d + 1
  | (_, d) => uptoBulk d + 1
 end
def uptoSmall : (H : Type) → List (DataW H) → Bool := fun _ ds => decide (uptoBulkAll ds ≤ 1048576)
def OpenSpec.upto (s : _root_.Go.ChangeSpec) : _root_.Go.OpenSpec := { _root_.Go.OpenSpec.ofChange s with cond := some uptoSmall }

/-- 'antipodelaw29.ScriptReads', WHERE WHAT IT READS IS OF BULK AT MOST 1048576: true; the input reads as it did. -/
def scriptReadsUptoRow : OpenClaim := { program := "ytihkkoldjllifaa", sum := "a9d193236a2636644281df10212a032cfc81778b38288be12cde9071bdb634b7", func := "antipode/antipodelaw29.ScriptReads", spec := "scriptReads", apart := false, narrowed := true }
def ScriptReadsUptoSaid : Prop := scriptReadsUptoRow.holds Try.pinned (OpenSpec.upto scriptReadsSpec)

/-- 'antipodelaw29.ScriptWrites', WHERE WHAT IT READS IS OF BULK AT MOST 1048576: true; the input reads as it did. -/
def scriptWritesUptoRow : OpenClaim := { program := "ytihkkoldjllifaa", sum := "a9d193236a2636644281df10212a032cfc81778b38288be12cde9071bdb634b7", func := "antipode/antipodelaw29.ScriptWrites", spec := "scriptWrites", apart := false, narrowed := true }
def ScriptWritesUptoSaid : Prop := scriptWritesUptoRow.holds Try.pinned (OpenSpec.upto scriptWritesSpec)

/-- 'antipodelaw29.ScriptBack', WHERE WHAT IT READS IS OF BULK AT MOST 1048576: true; the input reads as it did. -/
def scriptBackUptoRow : OpenClaim := { program := "ytihkkoldjllifaa", sum := "a9d193236a2636644281df10212a032cfc81778b38288be12cde9071bdb634b7", func := "antipode/antipodelaw29.ScriptBack", spec := "scriptBack", apart := false, narrowed := true }
def ScriptBackUptoSaid : Prop := scriptBackUptoRow.holds Try.pinned (OpenSpec.upto scriptBackSpec)

/-- 'antipodelaw29.ScriptNodes', WHERE WHAT IT READS IS OF BULK AT MOST 1048576: true; the input reads as it did. -/
def scriptNodesUptoRow : OpenClaim := { program := "ytihkkoldjllifaa", sum := "a9d193236a2636644281df10212a032cfc81778b38288be12cde9071bdb634b7", func := "antipode/antipodelaw29.ScriptNodes", spec := "scriptNodes", apart := false, narrowed := true }
def ScriptNodesUptoSaid : Prop := scriptNodesUptoRow.holds Try.pinned (OpenSpec.upto scriptNodesSpec)

/-- 'antipodelaw11.ZoneAll', WHERE WHAT IT READS IS OF BULK AT MOST 1048576: true; the input reads as it did. -/
def zoneAllUptoRow : OpenClaim := { program := "ytihkkoldjllifaa", sum := "a9d193236a2636644281df10212a032cfc81778b38288be12cde9071bdb634b7", func := "antipode/antipodelaw11.ZoneAll", spec := "zoneAll", apart := false, narrowed := true }
def ZoneAllUptoSaid : Prop := zoneAllUptoRow.holds Try.pinned (OpenSpec.upto zoneAllSpec)

/-- 'antipodelaw11.ZoneSurvives', WHERE WHAT IT READS IS OF BULK AT MOST 1048576: true; the input reads as it did. -/
def zoneSurvivesUptoRow : OpenClaim := { program := "ytihkkoldjllifaa", sum := "a9d193236a2636644281df10212a032cfc81778b38288be12cde9071bdb634b7", func := "antipode/antipodelaw11.ZoneSurvives", spec := "zoneSurvives", apart := false, narrowed := true }
def ZoneSurvivesUptoSaid : Prop := zoneSurvivesUptoRow.holds Try.pinned (OpenSpec.upto zoneSurvivesSpec)

/-- 'antipodelaw11.ZoneRight', WHERE WHAT IT READS IS OF BULK AT MOST 1048576: true; the input reads as it did. -/
def zoneRightUptoRow : OpenClaim := { program := "ytihkkoldjllifaa", sum := "a9d193236a2636644281df10212a032cfc81778b38288be12cde9071bdb634b7", func := "antipode/antipodelaw11.ZoneRight", spec := "zoneRight", apart := false, narrowed := true }
def ZoneRightUptoSaid : Prop := zoneRightUptoRow.holds Try.pinned (OpenSpec.upto zoneRightSpec)

/-- 'antipodelaw11.ZoneBalance', WHERE WHAT IT READS IS OF BULK AT MOST 1048576: true; the input reads as it did. -/
def zoneBalanceUptoRow : OpenClaim := { program := "ytihkkoldjllifaa", sum := "a9d193236a2636644281df10212a032cfc81778b38288be12cde9071bdb634b7", func := "antipode/antipodelaw11.ZoneBalance", spec := "zoneBalance", apart := false, narrowed := true }
def ZoneBalanceUptoSaid : Prop := zoneBalanceUptoRow.holds Try.pinned (OpenSpec.upto zoneBalanceSpec)

end Rows
end Go.Proofs.Ytihkkoldjllifaa
