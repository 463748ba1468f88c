/-
  No cell of these rows narrows 'for every input' (looked for: loops, veiled, ifaces, maps, wideKeys, modest, calm, conditions, laid).
  DERIVED. THE GIVEN ROWS OF THIS SEAT. 7 by the template 'for every input the law returns true; each argument reads behind the call as it read before'; 0 by the template 'total and deterministic' (their statements: YtkpjinkkjbljkaaTotals.lean).
  GIVEN WITH THE SEED: the statements are not yours to turn. If you find one false, say at which input.
  Laid BY PROGRAM, IN A SANDBOX (cutbox-rows.mjs): the forced cells as the released guide's own fill.sh prints them over the translation 854d85d50efd7192… (all of the seat's roots in one cut). By AI agents, Wed Nov 11 2026. No macro, syntax, notation, axiom, sorry.
-/
import Derived.Test.YtkpjinkkjbljkaaChecked
import GoSem.Claim
import GoSem.ClaimJoined
import GoSem.ClaimMapViews
import Derived.JoinedTies
import Derived.KernelRfl
namespace Go.Proofs.Ytkpjinkkjbljkaa
/- THE CELL 'sum', in the pinned program and in every row, IS THE sha256 OF THE DUMP (.gsa) THAT YtkpjinkkjbljkaaProg.lean LOADS. Nothing in Lean hashes anything: it is a label: what it is worth is what the hold of that sum in a sandbox is worth. -/
noncomputable def Try.pinned : Pinned := { name := "ytkpjinkkjbljkaa", sum := "854d85d50efd7192aba22c3a71f67b10643b244233a4184ff640b72dd9b18a81", checked := Try.checked }
namespace Rows
def none {H : Type} : Left H := { results := [], args := [] }

/-- 'wirelesslaw50.TransportChecks': WHATEVER THE INPUT: true; the input reads as it did. -/
def transportChecksSpec : ChangeSpec := { name := "transportChecks", fn := fun _ => fun
  | [d1, d2] => { results := [.lit (.bool true)], args := [d1, d2] }
  | _ => none }
def transportChecksRow : OpenClaim := { program := "ytkpjinkkjbljkaa", sum := "854d85d50efd7192aba22c3a71f67b10643b244233a4184ff640b72dd9b18a81", func := "wireless/wirelesslaw50.TransportChecks", spec := "transportChecks", unfollowed := true, recurses := true, apart := false }
def TransportChecksSaid : Prop := transportChecksRow.holds Try.pinned (OpenSpec.ofChange transportChecksSpec)

/-- ITS FALSE NEIGHBOUR: 'it returns false'. Refute it at one input. -/
def transportChecksWrong : ChangeSpec := { name := "transportChecks", fn := fun _ => fun
  | [d1, d2] => { results := [.lit (.bool false)], args := [d1, d2] }
  | _ => none }
def TransportChecksWrongFalsely : Prop := transportChecksRow.holds Try.pinned (OpenSpec.ofChange transportChecksWrong)

/-- 'wirelesslaw50.TransportEncodes': WHATEVER THE INPUT: true; the input reads as it did. -/
def transportEncodesSpec : ChangeSpec := { name := "transportEncodes", fn := fun _ => fun
  | [d] => { results := [.lit (.bool true)], args := [d] }
  | _ => none }
def transportEncodesRow : OpenClaim := { program := "ytkpjinkkjbljkaa", sum := "854d85d50efd7192aba22c3a71f67b10643b244233a4184ff640b72dd9b18a81", func := "wireless/wirelesslaw50.TransportEncodes", spec := "transportEncodes", unfollowed := true, recurses := true, apart := false }
def TransportEncodesSaid : Prop := transportEncodesRow.holds Try.pinned (OpenSpec.ofChange transportEncodesSpec)

/-- ITS FALSE NEIGHBOUR: 'it returns false'. Refute it at one input. -/
def transportEncodesWrong : ChangeSpec := { name := "transportEncodes", fn := fun _ => fun
  | [d] => { results := [.lit (.bool false)], args := [d] }
  | _ => none }
def TransportEncodesWrongFalsely : Prop := transportEncodesRow.holds Try.pinned (OpenSpec.ofChange transportEncodesWrong)

/-- 'wirelesslaw50.TransportDecodes': WHATEVER THE INPUT: true; the input reads as it did. -/
def transportDecodesSpec : ChangeSpec := { name := "transportDecodes", fn := fun _ => fun
  | [d1, d2] => { results := [.lit (.bool true)], args := [d1, d2] }
  | _ => none }
def transportDecodesRow : OpenClaim := { program := "ytkpjinkkjbljkaa", sum := "854d85d50efd7192aba22c3a71f67b10643b244233a4184ff640b72dd9b18a81", func := "wireless/wirelesslaw50.TransportDecodes", spec := "transportDecodes", unfollowed := true, recurses := true, apart := false }
def TransportDecodesSaid : Prop := transportDecodesRow.holds Try.pinned (OpenSpec.ofChange transportDecodesSpec)

/-- ITS FALSE NEIGHBOUR: 'it returns false'. Refute it at one input. -/
def transportDecodesWrong : ChangeSpec := { name := "transportDecodes", fn := fun _ => fun
  | [d1, d2] => { results := [.lit (.bool false)], args := [d1, d2] }
  | _ => none }
def TransportDecodesWrongFalsely : Prop := transportDecodesRow.holds Try.pinned (OpenSpec.ofChange transportDecodesWrong)

/-- 'wirelesslaw50.TransportBack': WHATEVER THE INPUT: true; the input reads as it did. -/
def transportBackSpec : ChangeSpec := { name := "transportBack", fn := fun _ => fun
  | [d] => { results := [.lit (.bool true)], args := [d] }
  | _ => none }
def transportBackRow : OpenClaim := { program := "ytkpjinkkjbljkaa", sum := "854d85d50efd7192aba22c3a71f67b10643b244233a4184ff640b72dd9b18a81", func := "wireless/wirelesslaw50.TransportBack", spec := "transportBack", unfollowed := true, recurses := true, apart := false }
def TransportBackSaid : Prop := transportBackRow.holds Try.pinned (OpenSpec.ofChange transportBackSpec)

/-- ITS FALSE NEIGHBOUR: 'it returns false'. Refute it at one input. -/
def transportBackWrong : ChangeSpec := { name := "transportBack", fn := fun _ => fun
  | [d] => { results := [.lit (.bool false)], args := [d] }
  | _ => none }
def TransportBackWrongFalsely : Prop := transportBackRow.holds Try.pinned (OpenSpec.ofChange transportBackWrong)

/-- 'wirelesslaw50.TransportWhole': WHATEVER THE INPUT: true; the input reads as it did. -/
def transportWholeSpec : ChangeSpec := { name := "transportWhole", fn := fun _ => fun
  | [d1, d2] => { results := [.lit (.bool true)], args := [d1, d2] }
  | _ => none }
def transportWholeRow : OpenClaim := { program := "ytkpjinkkjbljkaa", sum := "854d85d50efd7192aba22c3a71f67b10643b244233a4184ff640b72dd9b18a81", func := "wireless/wirelesslaw50.TransportWhole", spec := "transportWhole", unfollowed := true, recurses := true, apart := false }
def TransportWholeSaid : Prop := transportWholeRow.holds Try.pinned (OpenSpec.ofChange transportWholeSpec)

/-- ITS FALSE NEIGHBOUR: 'it returns false'. Refute it at one input. -/
def transportWholeWrong : ChangeSpec := { name := "transportWhole", fn := fun _ => fun
  | [d1, d2] => { results := [.lit (.bool false)], args := [d1, d2] }
  | _ => none }
def TransportWholeWrongFalsely : Prop := transportWholeRow.holds Try.pinned (OpenSpec.ofChange transportWholeWrong)

/-- 'wirelesslaw50.TransportSteps': WHATEVER THE INPUT: true; the input reads as it did. -/
def transportStepsSpec : ChangeSpec := { name := "transportSteps", fn := fun _ => fun
  | [d] => { results := [.lit (.bool true)], args := [d] }
  | _ => none }
def transportStepsRow : OpenClaim := { program := "ytkpjinkkjbljkaa", sum := "854d85d50efd7192aba22c3a71f67b10643b244233a4184ff640b72dd9b18a81", func := "wireless/wirelesslaw50.TransportSteps", spec := "transportSteps", unfollowed := true, recurses := true, apart := false }
def TransportStepsSaid : Prop := transportStepsRow.holds Try.pinned (OpenSpec.ofChange transportStepsSpec)

/-- ITS FALSE NEIGHBOUR: 'it returns false'. Refute it at one input. -/
def transportStepsWrong : ChangeSpec := { name := "transportSteps", fn := fun _ => fun
  | [d] => { results := [.lit (.bool false)], args := [d] }
  | _ => none }
def TransportStepsWrongFalsely : Prop := transportStepsRow.holds Try.pinned (OpenSpec.ofChange transportStepsWrong)

/-- 'wirelesslaw50.TransportAcknowledges': WHATEVER THE INPUT: true; the input reads as it did. -/
def transportAcknowledgesSpec : ChangeSpec := { name := "transportAcknowledges", fn := fun _ => fun
  | [d1, d2] => { results := [.lit (.bool true)], args := [d1, d2] }
  | _ => none }
def transportAcknowledgesRow : OpenClaim := { program := "ytkpjinkkjbljkaa", sum := "854d85d50efd7192aba22c3a71f67b10643b244233a4184ff640b72dd9b18a81", func := "wireless/wirelesslaw50.TransportAcknowledges", spec := "transportAcknowledges", unfollowed := true, recurses := true, apart := false }
def TransportAcknowledgesSaid : Prop := transportAcknowledgesRow.holds Try.pinned (OpenSpec.ofChange transportAcknowledgesSpec)

/-- ITS FALSE NEIGHBOUR: 'it returns false'. Refute it at one input. -/
def transportAcknowledgesWrong : ChangeSpec := { name := "transportAcknowledges", fn := fun _ => fun
  | [d1, d2] => { results := [.lit (.bool false)], args := [d1, d2] }
  | _ => none }
def TransportAcknowledgesWrongFalsely : Prop := transportAcknowledgesRow.holds Try.pinned (OpenSpec.ofChange transportAcknowledgesWrong)

/- THE SECOND FORM. 'bulk': how many values and letters a reading holds, each counted each time it is reached (what is shared counts as often as it is met; a slice's spare places count too). A statement '..UptoSaid' is the law's where the arguments, and the package variables that the reading takes, are together of bulk at most 1048576: NARROWER than '..Said'. Prove '..Said' where nothing that the law and all that it calls make is longer than what came in: it says more and counts as full. Else prove '..UptoSaid'. A law counts once. -/
mutual
def uptoBulk {H : Type} : DataW H → Nat
  | .lit (.string bytes) => bytes.length + 1
  | .lit _ => 1
  | .nil => 1
  | .ptr d => uptoBulk d + 1
  | .slice elems spare => uptoBulkAll elems + uptoBulkAll spare + 1
  | .agg parts => uptoBulkAll parts + 1
  | .iface _ d => uptoBulk d + 1
  | .map entries => uptoBulkEntries entries + 1
  | .held _ => 1
def uptoBulkAll {H : Type} : List (DataW H) → Nat
  | [] => 0
  | d :: r => uptoBulk d + uptoBulkAll r
def uptoBulkEntries {H : Type} : List (Lit × DataW H) → Nat
  | [] => 0
  | x :: r => uptoBulkEntry x + uptoBulkEntries r
def uptoBulkEntry {H : Type} : Lit × DataW H → Nat
  | (.string bytes, d) => bytes.length + uptoBulk d + 1
  | (_, d) => uptoBulk d + 1
 end
def uptoSmall : (H : Type) → List (DataW H) → Bool := fun _ ds => decide (uptoBulkAll ds ≤ 1048576)
def OpenSpec.upto (s : _root_.Go.ChangeSpec) : _root_.Go.OpenSpec := { _root_.Go.OpenSpec.ofChange s with cond := some uptoSmall }

/-- 'wirelesslaw50.TransportChecks', WHERE WHAT IT READS IS OF BULK AT MOST 1048576: true; the input reads as it did. -/
def transportChecksUptoRow : OpenClaim := { program := "ytkpjinkkjbljkaa", sum := "854d85d50efd7192aba22c3a71f67b10643b244233a4184ff640b72dd9b18a81", func := "wireless/wirelesslaw50.TransportChecks", spec := "transportChecks", unfollowed := true, recurses := true, apart := false, narrowed := true }
def TransportChecksUptoSaid : Prop := transportChecksUptoRow.holds Try.pinned (OpenSpec.upto transportChecksSpec)

/-- 'wirelesslaw50.TransportEncodes', WHERE WHAT IT READS IS OF BULK AT MOST 1048576: true; the input reads as it did. -/
def transportEncodesUptoRow : OpenClaim := { program := "ytkpjinkkjbljkaa", sum := "854d85d50efd7192aba22c3a71f67b10643b244233a4184ff640b72dd9b18a81", func := "wireless/wirelesslaw50.TransportEncodes", spec := "transportEncodes", unfollowed := true, recurses := true, apart := false, narrowed := true }
def TransportEncodesUptoSaid : Prop := transportEncodesUptoRow.holds Try.pinned (OpenSpec.upto transportEncodesSpec)

/-- 'wirelesslaw50.TransportDecodes', WHERE WHAT IT READS IS OF BULK AT MOST 1048576: true; the input reads as it did. -/
def transportDecodesUptoRow : OpenClaim := { program := "ytkpjinkkjbljkaa", sum := "854d85d50efd7192aba22c3a71f67b10643b244233a4184ff640b72dd9b18a81", func := "wireless/wirelesslaw50.TransportDecodes", spec := "transportDecodes", unfollowed := true, recurses := true, apart := false, narrowed := true }
def TransportDecodesUptoSaid : Prop := transportDecodesUptoRow.holds Try.pinned (OpenSpec.upto transportDecodesSpec)

/-- 'wirelesslaw50.TransportBack', WHERE WHAT IT READS IS OF BULK AT MOST 1048576: true; the input reads as it did. -/
def transportBackUptoRow : OpenClaim := { program := "ytkpjinkkjbljkaa", sum := "854d85d50efd7192aba22c3a71f67b10643b244233a4184ff640b72dd9b18a81", func := "wireless/wirelesslaw50.TransportBack", spec := "transportBack", unfollowed := true, recurses := true, apart := false, narrowed := true }
def TransportBackUptoSaid : Prop := transportBackUptoRow.holds Try.pinned (OpenSpec.upto transportBackSpec)

/-- 'wirelesslaw50.TransportWhole', WHERE WHAT IT READS IS OF BULK AT MOST 1048576: true; the input reads as it did. -/
def transportWholeUptoRow : OpenClaim := { program := "ytkpjinkkjbljkaa", sum := "854d85d50efd7192aba22c3a71f67b10643b244233a4184ff640b72dd9b18a81", func := "wireless/wirelesslaw50.TransportWhole", spec := "transportWhole", unfollowed := true, recurses := true, apart := false, narrowed := true }
def TransportWholeUptoSaid : Prop := transportWholeUptoRow.holds Try.pinned (OpenSpec.upto transportWholeSpec)

/-- 'wirelesslaw50.TransportSteps', WHERE WHAT IT READS IS OF BULK AT MOST 1048576: true; the input reads as it did. -/
def transportStepsUptoRow : OpenClaim := { program := "ytkpjinkkjbljkaa", sum := "854d85d50efd7192aba22c3a71f67b10643b244233a4184ff640b72dd9b18a81", func := "wireless/wirelesslaw50.TransportSteps", spec := "transportSteps", unfollowed := true, recurses := true, apart := false, narrowed := true }
def TransportStepsUptoSaid : Prop := transportStepsUptoRow.holds Try.pinned (OpenSpec.upto transportStepsSpec)

/-- 'wirelesslaw50.TransportAcknowledges', WHERE WHAT IT READS IS OF BULK AT MOST 1048576: true; the input reads as it did. -/
def transportAcknowledgesUptoRow : OpenClaim := { program := "ytkpjinkkjbljkaa", sum := "854d85d50efd7192aba22c3a71f67b10643b244233a4184ff640b72dd9b18a81", func := "wireless/wirelesslaw50.TransportAcknowledges", spec := "transportAcknowledges", unfollowed := true, recurses := true, apart := false, narrowed := true }
def TransportAcknowledgesUptoSaid : Prop := transportAcknowledgesUptoRow.holds Try.pinned (OpenSpec.upto transportAcknowledgesSpec)

end Rows
end Go.Proofs.Ytkpjinkkjbljkaa
