/-
  NARROWER THAN 'FOR EVERY INPUT', by the rows' own cells (each row's printed sentence says how): MethodChecks: laid · MethodChooses: laid · MethodStrong: laid · MethodProtects: laid · MethodSuffices: laid · MethodTurns: laid.
  DERIVED. THE GIVEN ROWS OF THIS SEAT. 6 by the template 'for every input the law returns true; each argument reads behind the call as it read before'; 0 by the template 'total and deterministic' (their statements: YtjnjafkfemaaeaaDoorTotals.lean).
  GIVEN WITH THE SEED: the statements are not yours to turn. If you find one false, say at which input.
  Laid BY PROGRAM, IN A SANDBOX (cutbox-rows.mjs): the forced cells as the released guide's own fill.sh prints them over the translation 8a54a7ffd633bbe3… (all of the seat's roots in one cut). By AI agents, Wed Nov 11 2026. No macro, syntax, notation, axiom, sorry.
-/
import Derived.Test.YtjnjafkfemaaeaaDoorChecked
import GoSem.Claim
import GoSem.ClaimJoined
import GoSem.ClaimMapViews
import Derived.JoinedTies
import Derived.KernelRfl
namespace Go.Proofs.YtjnjafkfemaaeaaDoor
/- THE CELL 'sum', in the pinned program and in every row, IS THE sha256 OF THE DUMP (.gsa) THAT YtjnjafkfemaaeaaDoorProg.lean LOADS. Nothing in Lean hashes anything: it is a label: what it is worth is what the hold of that sum in a sandbox is worth. -/
noncomputable def Tryd.pinned : Pinned := { name := "ytjnjafkfemaaeaadoor", sum := "8a54a7ffd633bbe3ac0ac41314384e72887671b0c7b9f085ba6f079770c1b938", checked := Tryd.checked }
namespace Rows
def none {H : Type} : Left H := { results := [], args := [] }

/- WHAT THE LISTED PACKAGE-LEVEL VARIABLES READ AS WHEN THE CALL BEGINS. Each datum BY PROGRAM (the guide's laid-datum.mjs) off the statement by which the dump's own 'gosem.cut.vars' lays the variable. In a bare row this is a premise. The card (YtjnjafkfemaaeaaDoorCards.lean) ties it to the program's text. -/
def laid_wireless_method_table {H : Type} : DataW H := .agg [.agg [.lit (.int .i64 1), .lit (.int .i64 1), .lit (.int .i64 3), .lit (.int .i64 1), .lit (.int .i64 3)], .agg [.lit (.int .i64 1), .lit (.int .i64 2), .lit (.int .i64 3), .lit (.int .i64 1), .lit (.int .i64 2)], .agg [.lit (.int .i64 4), .lit (.int .i64 4), .lit (.int .i64 5), .lit (.int .i64 1), .lit (.int .i64 4)], .agg [.lit (.int .i64 1), .lit (.int .i64 1), .lit (.int .i64 1), .lit (.int .i64 1), .lit (.int .i64 1)], .agg [.lit (.int .i64 4), .lit (.int .i64 2), .lit (.int .i64 3), .lit (.int .i64 1), .lit (.int .i64 2)]]

/-- 'wirelesslaw36.MethodChecks': WHATEVER THE INPUT: true; the input reads as it did. -/
def methodChecksSpec : ChangeSpec := { name := "methodChecks", fn := fun _ => fun
  | [d] => { results := [.lit (.bool true)], args := [d] }
  | _ => none }
def methodChecksRow : OpenClaim := { program := "ytjnjafkfemaaeaadoor", sum := "8a54a7ffd633bbe3ac0ac41314384e72887671b0c7b9f085ba6f079770c1b938", func := "wireless/wirelesslaw36.MethodChecks", spec := "methodChecks", named := ["wireless/method.table"], apart := false, laid := [("wireless/method.table", laid_wireless_method_table)] }
def MethodChecksSaid : Prop := methodChecksRow.holds Tryd.pinned (OpenSpec.ofChange methodChecksSpec)

/-- ITS FALSE NEIGHBOUR: 'it returns false'. Refute it at one input. -/
def methodChecksWrong : ChangeSpec := { name := "methodChecks", fn := fun _ => fun
  | [d] => { results := [.lit (.bool false)], args := [d] }
  | _ => none }
def MethodChecksWrongFalsely : Prop := methodChecksRow.holds Tryd.pinned (OpenSpec.ofChange methodChecksWrong)

/-- 'wirelesslaw36.MethodChooses': WHATEVER THE INPUT: true; the input reads as it did. -/
def methodChoosesSpec : ChangeSpec := { name := "methodChooses", fn := fun _ => fun
  | [d1, d2] => { results := [.lit (.bool true)], args := [d1, d2] }
  | _ => none }
def methodChoosesRow : OpenClaim := { program := "ytjnjafkfemaaeaadoor", sum := "8a54a7ffd633bbe3ac0ac41314384e72887671b0c7b9f085ba6f079770c1b938", func := "wireless/wirelesslaw36.MethodChooses", spec := "methodChooses", named := ["wireless/method.table"], apart := false, laid := [("wireless/method.table", laid_wireless_method_table)] }
def MethodChoosesSaid : Prop := methodChoosesRow.holds Tryd.pinned (OpenSpec.ofChange methodChoosesSpec)

/-- ITS FALSE NEIGHBOUR: 'it returns false'. Refute it at one input. -/
def methodChoosesWrong : ChangeSpec := { name := "methodChooses", fn := fun _ => fun
  | [d1, d2] => { results := [.lit (.bool false)], args := [d1, d2] }
  | _ => none }
def MethodChoosesWrongFalsely : Prop := methodChoosesRow.holds Tryd.pinned (OpenSpec.ofChange methodChoosesWrong)

/-- 'wirelesslaw36.MethodStrong': WHATEVER THE INPUT: true; the input reads as it did. -/
def methodStrongSpec : ChangeSpec := { name := "methodStrong", fn := fun _ => fun
  | [d1, d2] => { results := [.lit (.bool true)], args := [d1, d2] }
  | _ => none }
def methodStrongRow : OpenClaim := { program := "ytjnjafkfemaaeaadoor", sum := "8a54a7ffd633bbe3ac0ac41314384e72887671b0c7b9f085ba6f079770c1b938", func := "wireless/wirelesslaw36.MethodStrong", spec := "methodStrong", named := ["wireless/method.table"], apart := false, laid := [("wireless/method.table", laid_wireless_method_table)] }
def MethodStrongSaid : Prop := methodStrongRow.holds Tryd.pinned (OpenSpec.ofChange methodStrongSpec)

/-- ITS FALSE NEIGHBOUR: 'it returns false'. Refute it at one input. -/
def methodStrongWrong : ChangeSpec := { name := "methodStrong", fn := fun _ => fun
  | [d1, d2] => { results := [.lit (.bool false)], args := [d1, d2] }
  | _ => none }
def MethodStrongWrongFalsely : Prop := methodStrongRow.holds Tryd.pinned (OpenSpec.ofChange methodStrongWrong)

/-- 'wirelesslaw36.MethodProtects': WHATEVER THE INPUT: true; the input reads as it did. -/
def methodProtectsSpec : ChangeSpec := { name := "methodProtects", fn := fun _ => fun
  | [d1, d2] => { results := [.lit (.bool true)], args := [d1, d2] }
  | _ => none }
def methodProtectsRow : OpenClaim := { program := "ytjnjafkfemaaeaadoor", sum := "8a54a7ffd633bbe3ac0ac41314384e72887671b0c7b9f085ba6f079770c1b938", func := "wireless/wirelesslaw36.MethodProtects", spec := "methodProtects", named := ["wireless/method.table"], apart := false, laid := [("wireless/method.table", laid_wireless_method_table)] }
def MethodProtectsSaid : Prop := methodProtectsRow.holds Tryd.pinned (OpenSpec.ofChange methodProtectsSpec)

/-- ITS FALSE NEIGHBOUR: 'it returns false'. Refute it at one input. -/
def methodProtectsWrong : ChangeSpec := { name := "methodProtects", fn := fun _ => fun
  | [d1, d2] => { results := [.lit (.bool false)], args := [d1, d2] }
  | _ => none }
def MethodProtectsWrongFalsely : Prop := methodProtectsRow.holds Tryd.pinned (OpenSpec.ofChange methodProtectsWrong)

/-- 'wirelesslaw36.MethodSuffices': WHATEVER THE INPUT: true; the input reads as it did. -/
def methodSufficesSpec : ChangeSpec := { name := "methodSuffices", fn := fun _ => fun
  | [d1, d2] => { results := [.lit (.bool true)], args := [d1, d2] }
  | _ => none }
def methodSufficesRow : OpenClaim := { program := "ytjnjafkfemaaeaadoor", sum := "8a54a7ffd633bbe3ac0ac41314384e72887671b0c7b9f085ba6f079770c1b938", func := "wireless/wirelesslaw36.MethodSuffices", spec := "methodSuffices", named := ["wireless/method.table"], apart := false, laid := [("wireless/method.table", laid_wireless_method_table)] }
def MethodSufficesSaid : Prop := methodSufficesRow.holds Tryd.pinned (OpenSpec.ofChange methodSufficesSpec)

/-- ITS FALSE NEIGHBOUR: 'it returns false'. Refute it at one input. -/
def methodSufficesWrong : ChangeSpec := { name := "methodSuffices", fn := fun _ => fun
  | [d1, d2] => { results := [.lit (.bool false)], args := [d1, d2] }
  | _ => none }
def MethodSufficesWrongFalsely : Prop := methodSufficesRow.holds Tryd.pinned (OpenSpec.ofChange methodSufficesWrong)

/-- 'wirelesslaw36.MethodTurns': WHATEVER THE INPUT: true; the input reads as it did. -/
def methodTurnsSpec : ChangeSpec := { name := "methodTurns", fn := fun _ => fun
  | [d1, d2] => { results := [.lit (.bool true)], args := [d1, d2] }
  | _ => none }
def methodTurnsRow : OpenClaim := { program := "ytjnjafkfemaaeaadoor", sum := "8a54a7ffd633bbe3ac0ac41314384e72887671b0c7b9f085ba6f079770c1b938", func := "wireless/wirelesslaw36.MethodTurns", spec := "methodTurns", named := ["wireless/method.table"], apart := false, laid := [("wireless/method.table", laid_wireless_method_table)] }
def MethodTurnsSaid : Prop := methodTurnsRow.holds Tryd.pinned (OpenSpec.ofChange methodTurnsSpec)

/-- ITS FALSE NEIGHBOUR: 'it returns false'. Refute it at one input. -/
def methodTurnsWrong : ChangeSpec := { name := "methodTurns", fn := fun _ => fun
  | [d1, d2] => { results := [.lit (.bool false)], args := [d1, d2] }
  | _ => none }
def MethodTurnsWrongFalsely : Prop := methodTurnsRow.holds Tryd.pinned (OpenSpec.ofChange methodTurnsWrong)

/- THE SECOND FORM. 'bulk': how many values and letters a reading holds, each counted each time it is reached (what is shared counts as often as it is met; a slice's spare places count too). A statement '..UptoSaid' is the law's where the arguments, and the package variables that the reading takes, are together of bulk at most 1048576: NARROWER than '..Said'. Prove '..Said' where nothing that the law and all that it calls make is longer than what came in: it says more and counts as full. Else prove '..UptoSaid'. A law counts once. -/
mutual
def uptoBulk {H : Type} : DataW H → Nat
  | .lit (.string bytes) => bytes.length + 1
  | .lit _ => 1
  | .nil => 1
  | .ptr d => uptoBulk d + 1
  | .slice elems spare => uptoBulkAll elems + uptoBulkAll spare + 1
  | .agg parts => uptoBulkAll parts + 1
  | .iface _ d => uptoBulk d + 1
  | .map entries => uptoBulkEntries entries + 1
  | .held _ => 1
def uptoBulkAll {H : Type} : List (DataW H) → Nat
  | [] => 0
  | d :: r => uptoBulk d + uptoBulkAll r
def uptoBulkEntries {H : Type} : List (Lit × DataW H) → Nat
  | [] => 0
  | x :: r => uptoBulkEntry x + uptoBulkEntries r
def uptoBulkEntry {H : Type} : Lit × DataW H → Nat
  | (.string bytes, d) => bytes.length + uptoBulk d + 1
  | (_, d) => uptoBulk d + 1
 end
def uptoSmall : (H : Type) → List (DataW H) → Bool := fun _ ds => decide (uptoBulkAll ds ≤ 1048576)
def OpenSpec.upto (s : _root_.Go.ChangeSpec) : _root_.Go.OpenSpec := { _root_.Go.OpenSpec.ofChange s with cond := some uptoSmall }

/-- 'wirelesslaw36.MethodChecks', WHERE WHAT IT READS IS OF BULK AT MOST 1048576: true; the input reads as it did. -/
def methodChecksUptoRow : OpenClaim := { program := "ytjnjafkfemaaeaadoor", sum := "8a54a7ffd633bbe3ac0ac41314384e72887671b0c7b9f085ba6f079770c1b938", func := "wireless/wirelesslaw36.MethodChecks", spec := "methodChecks", named := ["wireless/method.table"], apart := false, laid := [("wireless/method.table", laid_wireless_method_table)], narrowed := true }
def MethodChecksUptoSaid : Prop := methodChecksUptoRow.holds Tryd.pinned (OpenSpec.upto methodChecksSpec)

/-- 'wirelesslaw36.MethodChooses', WHERE WHAT IT READS IS OF BULK AT MOST 1048576: true; the input reads as it did. -/
def methodChoosesUptoRow : OpenClaim := { program := "ytjnjafkfemaaeaadoor", sum := "8a54a7ffd633bbe3ac0ac41314384e72887671b0c7b9f085ba6f079770c1b938", func := "wireless/wirelesslaw36.MethodChooses", spec := "methodChooses", named := ["wireless/method.table"], apart := false, laid := [("wireless/method.table", laid_wireless_method_table)], narrowed := true }
def MethodChoosesUptoSaid : Prop := methodChoosesUptoRow.holds Tryd.pinned (OpenSpec.upto methodChoosesSpec)

/-- 'wirelesslaw36.MethodStrong', WHERE WHAT IT READS IS OF BULK AT MOST 1048576: true; the input reads as it did. -/
def methodStrongUptoRow : OpenClaim := { program := "ytjnjafkfemaaeaadoor", sum := "8a54a7ffd633bbe3ac0ac41314384e72887671b0c7b9f085ba6f079770c1b938", func := "wireless/wirelesslaw36.MethodStrong", spec := "methodStrong", named := ["wireless/method.table"], apart := false, laid := [("wireless/method.table", laid_wireless_method_table)], narrowed := true }
def MethodStrongUptoSaid : Prop := methodStrongUptoRow.holds Tryd.pinned (OpenSpec.upto methodStrongSpec)

/-- 'wirelesslaw36.MethodProtects', WHERE WHAT IT READS IS OF BULK AT MOST 1048576: true; the input reads as it did. -/
def methodProtectsUptoRow : OpenClaim := { program := "ytjnjafkfemaaeaadoor", sum := "8a54a7ffd633bbe3ac0ac41314384e72887671b0c7b9f085ba6f079770c1b938", func := "wireless/wirelesslaw36.MethodProtects", spec := "methodProtects", named := ["wireless/method.table"], apart := false, laid := [("wireless/method.table", laid_wireless_method_table)], narrowed := true }
def MethodProtectsUptoSaid : Prop := methodProtectsUptoRow.holds Tryd.pinned (OpenSpec.upto methodProtectsSpec)

/-- 'wirelesslaw36.MethodSuffices', WHERE WHAT IT READS IS OF BULK AT MOST 1048576: true; the input reads as it did. -/
def methodSufficesUptoRow : OpenClaim := { program := "ytjnjafkfemaaeaadoor", sum := "8a54a7ffd633bbe3ac0ac41314384e72887671b0c7b9f085ba6f079770c1b938", func := "wireless/wirelesslaw36.MethodSuffices", spec := "methodSuffices", named := ["wireless/method.table"], apart := false, laid := [("wireless/method.table", laid_wireless_method_table)], narrowed := true }
def MethodSufficesUptoSaid : Prop := methodSufficesUptoRow.holds Tryd.pinned (OpenSpec.upto methodSufficesSpec)

/-- 'wirelesslaw36.MethodTurns', WHERE WHAT IT READS IS OF BULK AT MOST 1048576: true; the input reads as it did. -/
def methodTurnsUptoRow : OpenClaim := { program := "ytjnjafkfemaaeaadoor", sum := "8a54a7ffd633bbe3ac0ac41314384e72887671b0c7b9f085ba6f079770c1b938", func := "wireless/wirelesslaw36.MethodTurns", spec := "methodTurns", named := ["wireless/method.table"], apart := false, laid := [("wireless/method.table", laid_wireless_method_table)], narrowed := true }
def MethodTurnsUptoSaid : Prop := methodTurnsUptoRow.holds Tryd.pinned (OpenSpec.upto methodTurnsSpec)

end Rows
end Go.Proofs.YtjnjafkfemaaeaaDoor
