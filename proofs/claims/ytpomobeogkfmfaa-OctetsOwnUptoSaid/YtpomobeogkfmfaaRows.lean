/-
  No cell of these rows narrows 'for every input' (looked for: loops, veiled, ifaces, maps, wideKeys, modest, calm, conditions, laid).
  DERIVED. THE GIVEN ROWS OF THIS SEAT. 19 by the template 'for every input the law returns true; each argument reads behind the call as it read before'; 0 by the template 'total and deterministic' (their statements: YtpomobeogkfmfaaTotals.lean).
  GIVEN WITH THE SEED: the statements are not yours to turn. If you find one false, say at which input.
  Laid BY PROGRAM, IN A SANDBOX (cutbox-rows.mjs): the forced cells as the released guide's own fill.sh prints them over the translation 387231fd722c748a… (all of the seat's roots in one cut). By AI agents, Wed Nov 11 2026. No macro, syntax, notation, axiom, sorry.
-/
import Derived.Test.YtpomobeogkfmfaaChecked
import GoSem.Claim
import GoSem.ClaimJoined
import GoSem.ClaimMapViews
import Derived.JoinedTies
import Derived.KernelRfl
namespace Go.Proofs.Ytpomobeogkfmfaa
/- THE CELL 'sum', in the pinned program and in every row, IS THE sha256 OF THE DUMP (.gsa) THAT YtpomobeogkfmfaaProg.lean LOADS. Nothing in Lean hashes anything: it is a label: what it is worth is what the hold of that sum in a sandbox is worth. -/
noncomputable def Try.pinned : Pinned := { name := "ytpomobeogkfmfaa", sum := "387231fd722c748afffa2b2494e1e30332970a5be5eed89a3c4eaecc3d3b49e4", checked := Try.checked }
namespace Rows
def none {H : Type} : Left H := { results := [], args := [] }

/-- 'wirelesslaw02.OctetsPut': WHATEVER THE INPUT: true; the input reads as it did. -/
def octetsPutSpec : ChangeSpec := { name := "octetsPut", fn := fun _ => fun
  | [d] => { results := [.lit (.bool true)], args := [d] }
  | _ => none }
def octetsPutRow : OpenClaim := { program := "ytpomobeogkfmfaa", sum := "387231fd722c748afffa2b2494e1e30332970a5be5eed89a3c4eaecc3d3b49e4", func := "wireless/wirelesslaw02.OctetsPut", spec := "octetsPut", apart := false }
def OctetsPutSaid : Prop := octetsPutRow.holds Try.pinned (OpenSpec.ofChange octetsPutSpec)

/-- ITS FALSE NEIGHBOUR: 'it returns false'. Refute it at one input. -/
def octetsPutWrong : ChangeSpec := { name := "octetsPut", fn := fun _ => fun
  | [d] => { results := [.lit (.bool false)], args := [d] }
  | _ => none }
def OctetsPutWrongFalsely : Prop := octetsPutRow.holds Try.pinned (OpenSpec.ofChange octetsPutWrong)

/-- 'wirelesslaw02.OctetsTake': WHATEVER THE INPUT: true; the input reads as it did. -/
def octetsTakeSpec : ChangeSpec := { name := "octetsTake", fn := fun _ => fun
  | [d1, d2] => { results := [.lit (.bool true)], args := [d1, d2] }
  | _ => none }
def octetsTakeRow : OpenClaim := { program := "ytpomobeogkfmfaa", sum := "387231fd722c748afffa2b2494e1e30332970a5be5eed89a3c4eaecc3d3b49e4", func := "wireless/wirelesslaw02.OctetsTake", spec := "octetsTake", apart := false }
def OctetsTakeSaid : Prop := octetsTakeRow.holds Try.pinned (OpenSpec.ofChange octetsTakeSpec)

/-- ITS FALSE NEIGHBOUR: 'it returns false'. Refute it at one input. -/
def octetsTakeWrong : ChangeSpec := { name := "octetsTake", fn := fun _ => fun
  | [d1, d2] => { results := [.lit (.bool false)], args := [d1, d2] }
  | _ => none }
def OctetsTakeWrongFalsely : Prop := octetsTakeRow.holds Try.pinned (OpenSpec.ofChange octetsTakeWrong)

/-- 'wirelesslaw02.OctetsJoins': WHATEVER THE INPUT: true; the input reads as it did. -/
def octetsJoinsSpec : ChangeSpec := { name := "octetsJoins", fn := fun _ => fun
  | [d1, d2, d3] => { results := [.lit (.bool true)], args := [d1, d2, d3] }
  | _ => none }
def octetsJoinsRow : OpenClaim := { program := "ytpomobeogkfmfaa", sum := "387231fd722c748afffa2b2494e1e30332970a5be5eed89a3c4eaecc3d3b49e4", func := "wireless/wirelesslaw02.OctetsJoins", spec := "octetsJoins", apart := false }
def OctetsJoinsSaid : Prop := octetsJoinsRow.holds Try.pinned (OpenSpec.ofChange octetsJoinsSpec)

/-- ITS FALSE NEIGHBOUR: 'it returns false'. Refute it at one input. -/
def octetsJoinsWrong : ChangeSpec := { name := "octetsJoins", fn := fun _ => fun
  | [d1, d2, d3] => { results := [.lit (.bool false)], args := [d1, d2, d3] }
  | _ => none }
def OctetsJoinsWrongFalsely : Prop := octetsJoinsRow.holds Try.pinned (OpenSpec.ofChange octetsJoinsWrong)

/-- 'wirelesslaw02.OctetsHex': WHATEVER THE INPUT: true; the input reads as it did. -/
def octetsHexSpec : ChangeSpec := { name := "octetsHex", fn := fun _ => fun
  | [d1, d2] => { results := [.lit (.bool true)], args := [d1, d2] }
  | _ => none }
def octetsHexRow : OpenClaim := { program := "ytpomobeogkfmfaa", sum := "387231fd722c748afffa2b2494e1e30332970a5be5eed89a3c4eaecc3d3b49e4", func := "wireless/wirelesslaw02.OctetsHex", spec := "octetsHex", apart := false }
def OctetsHexSaid : Prop := octetsHexRow.holds Try.pinned (OpenSpec.ofChange octetsHexSpec)

/-- ITS FALSE NEIGHBOUR: 'it returns false'. Refute it at one input. -/
def octetsHexWrong : ChangeSpec := { name := "octetsHex", fn := fun _ => fun
  | [d1, d2] => { results := [.lit (.bool false)], args := [d1, d2] }
  | _ => none }
def OctetsHexWrongFalsely : Prop := octetsHexRow.holds Try.pinned (OpenSpec.ofChange octetsHexWrong)

/-- 'wirelesslaw02.OctetsBack': WHATEVER THE INPUT: true; the input reads as it did. -/
def octetsBackSpec : ChangeSpec := { name := "octetsBack", fn := fun _ => fun
  | [d1, d2] => { results := [.lit (.bool true)], args := [d1, d2] }
  | _ => none }
def octetsBackRow : OpenClaim := { program := "ytpomobeogkfmfaa", sum := "387231fd722c748afffa2b2494e1e30332970a5be5eed89a3c4eaecc3d3b49e4", func := "wireless/wirelesslaw02.OctetsBack", spec := "octetsBack", apart := false }
def OctetsBackSaid : Prop := octetsBackRow.holds Try.pinned (OpenSpec.ofChange octetsBackSpec)

/-- ITS FALSE NEIGHBOUR: 'it returns false'. Refute it at one input. -/
def octetsBackWrong : ChangeSpec := { name := "octetsBack", fn := fun _ => fun
  | [d1, d2] => { results := [.lit (.bool false)], args := [d1, d2] }
  | _ => none }
def OctetsBackWrongFalsely : Prop := octetsBackRow.holds Try.pinned (OpenSpec.ofChange octetsBackWrong)

/-- 'wirelesslaw02.OctetsOwn': WHATEVER THE INPUT: true; the input reads as it did. -/
def octetsOwnSpec : ChangeSpec := { name := "octetsOwn", fn := fun _ => fun
  | [d1, d2] => { results := [.lit (.bool true)], args := [d1, d2] }
  | _ => none }
def octetsOwnRow : OpenClaim := { program := "ytpomobeogkfmfaa", sum := "387231fd722c748afffa2b2494e1e30332970a5be5eed89a3c4eaecc3d3b49e4", func := "wireless/wirelesslaw02.OctetsOwn", spec := "octetsOwn", apart := false }
def OctetsOwnSaid : Prop := octetsOwnRow.holds Try.pinned (OpenSpec.ofChange octetsOwnSpec)

/-- ITS FALSE NEIGHBOUR: 'it returns false'. Refute it at one input. -/
def octetsOwnWrong : ChangeSpec := { name := "octetsOwn", fn := fun _ => fun
  | [d1, d2] => { results := [.lit (.bool false)], args := [d1, d2] }
  | _ => none }
def OctetsOwnWrongFalsely : Prop := octetsOwnRow.holds Try.pinned (OpenSpec.ofChange octetsOwnWrong)

/-- 'wirelesslaw18.AdataEncodes': WHATEVER THE INPUT: true; the input reads as it did. -/
def adataEncodesSpec : ChangeSpec := { name := "adataEncodes", fn := fun _ => fun
  | [d] => { results := [.lit (.bool true)], args := [d] }
  | _ => none }
def adataEncodesRow : OpenClaim := { program := "ytpomobeogkfmfaa", sum := "387231fd722c748afffa2b2494e1e30332970a5be5eed89a3c4eaecc3d3b49e4", func := "wireless/wirelesslaw18.AdataEncodes", spec := "adataEncodes", unfollowed := true, recurses := true, apart := false }
def AdataEncodesSaid : Prop := adataEncodesRow.holds Try.pinned (OpenSpec.ofChange adataEncodesSpec)

/-- ITS FALSE NEIGHBOUR: 'it returns false'. Refute it at one input. -/
def adataEncodesWrong : ChangeSpec := { name := "adataEncodes", fn := fun _ => fun
  | [d] => { results := [.lit (.bool false)], args := [d] }
  | _ => none }
def AdataEncodesWrongFalsely : Prop := adataEncodesRow.holds Try.pinned (OpenSpec.ofChange adataEncodesWrong)

/-- 'wirelesslaw18.AdataDecodes': WHATEVER THE INPUT: true; the input reads as it did. -/
def adataDecodesSpec : ChangeSpec := { name := "adataDecodes", fn := fun _ => fun
  | [d] => { results := [.lit (.bool true)], args := [d] }
  | _ => none }
def adataDecodesRow : OpenClaim := { program := "ytpomobeogkfmfaa", sum := "387231fd722c748afffa2b2494e1e30332970a5be5eed89a3c4eaecc3d3b49e4", func := "wireless/wirelesslaw18.AdataDecodes", spec := "adataDecodes", unfollowed := true, recurses := true, apart := false }
def AdataDecodesSaid : Prop := adataDecodesRow.holds Try.pinned (OpenSpec.ofChange adataDecodesSpec)

/-- ITS FALSE NEIGHBOUR: 'it returns false'. Refute it at one input. -/
def adataDecodesWrong : ChangeSpec := { name := "adataDecodes", fn := fun _ => fun
  | [d] => { results := [.lit (.bool false)], args := [d] }
  | _ => none }
def AdataDecodesWrongFalsely : Prop := adataDecodesRow.holds Try.pinned (OpenSpec.ofChange adataDecodesWrong)

/-- 'wirelesslaw18.AdataFinds': WHATEVER THE INPUT: true; the input reads as it did. -/
def adataFindsSpec : ChangeSpec := { name := "adataFinds", fn := fun _ => fun
  | [d1, d2] => { results := [.lit (.bool true)], args := [d1, d2] }
  | _ => none }
def adataFindsRow : OpenClaim := { program := "ytpomobeogkfmfaa", sum := "387231fd722c748afffa2b2494e1e30332970a5be5eed89a3c4eaecc3d3b49e4", func := "wireless/wirelesslaw18.AdataFinds", spec := "adataFinds", unfollowed := true, recurses := true, apart := false }
def AdataFindsSaid : Prop := adataFindsRow.holds Try.pinned (OpenSpec.ofChange adataFindsSpec)

/-- ITS FALSE NEIGHBOUR: 'it returns false'. Refute it at one input. -/
def adataFindsWrong : ChangeSpec := { name := "adataFinds", fn := fun _ => fun
  | [d1, d2] => { results := [.lit (.bool false)], args := [d1, d2] }
  | _ => none }
def AdataFindsWrongFalsely : Prop := adataFindsRow.holds Try.pinned (OpenSpec.ofChange adataFindsWrong)

/-- 'wirelesslaw18.AdataBuilds': WHATEVER THE INPUT: true; the input reads as it did. -/
def adataBuildsSpec : ChangeSpec := { name := "adataBuilds", fn := fun _ => fun
  | [d1, d2, d3] => { results := [.lit (.bool true)], args := [d1, d2, d3] }
  | _ => none }
def adataBuildsRow : OpenClaim := { program := "ytpomobeogkfmfaa", sum := "387231fd722c748afffa2b2494e1e30332970a5be5eed89a3c4eaecc3d3b49e4", func := "wireless/wirelesslaw18.AdataBuilds", spec := "adataBuilds", unfollowed := true, recurses := true, apart := false }
def AdataBuildsSaid : Prop := adataBuildsRow.holds Try.pinned (OpenSpec.ofChange adataBuildsSpec)

/-- ITS FALSE NEIGHBOUR: 'it returns false'. Refute it at one input. -/
def adataBuildsWrong : ChangeSpec := { name := "adataBuilds", fn := fun _ => fun
  | [d1, d2, d3] => { results := [.lit (.bool false)], args := [d1, d2, d3] }
  | _ => none }
def AdataBuildsWrongFalsely : Prop := adataBuildsRow.holds Try.pinned (OpenSpec.ofChange adataBuildsWrong)

/-- 'wirelesslaw18.AdataBack': WHATEVER THE INPUT: true; the input reads as it did. -/
def adataBackSpec : ChangeSpec := { name := "adataBack", fn := fun _ => fun
  | [d1, d2] => { results := [.lit (.bool true)], args := [d1, d2] }
  | _ => none }
def adataBackRow : OpenClaim := { program := "ytpomobeogkfmfaa", sum := "387231fd722c748afffa2b2494e1e30332970a5be5eed89a3c4eaecc3d3b49e4", func := "wireless/wirelesslaw18.AdataBack", spec := "adataBack", unfollowed := true, recurses := true, apart := false }
def AdataBackSaid : Prop := adataBackRow.holds Try.pinned (OpenSpec.ofChange adataBackSpec)

/-- ITS FALSE NEIGHBOUR: 'it returns false'. Refute it at one input. -/
def adataBackWrong : ChangeSpec := { name := "adataBack", fn := fun _ => fun
  | [d1, d2] => { results := [.lit (.bool false)], args := [d1, d2] }
  | _ => none }
def AdataBackWrongFalsely : Prop := adataBackRow.holds Try.pinned (OpenSpec.ofChange adataBackWrong)

/-- 'wirelesslaw18.AdataContents': WHATEVER THE INPUT: true; the input reads as it did. -/
def adataContentsSpec : ChangeSpec := { name := "adataContents", fn := fun _ => fun
  | [d1, d2, d3] => { results := [.lit (.bool true)], args := [d1, d2, d3] }
  | _ => none }
def adataContentsRow : OpenClaim := { program := "ytpomobeogkfmfaa", sum := "387231fd722c748afffa2b2494e1e30332970a5be5eed89a3c4eaecc3d3b49e4", func := "wireless/wirelesslaw18.AdataContents", spec := "adataContents", unfollowed := true, recurses := true, apart := false }
def AdataContentsSaid : Prop := adataContentsRow.holds Try.pinned (OpenSpec.ofChange adataContentsSpec)

/-- ITS FALSE NEIGHBOUR: 'it returns false'. Refute it at one input. -/
def adataContentsWrong : ChangeSpec := { name := "adataContents", fn := fun _ => fun
  | [d1, d2, d3] => { results := [.lit (.bool false)], args := [d1, d2, d3] }
  | _ => none }
def AdataContentsWrongFalsely : Prop := adataContentsRow.holds Try.pinned (OpenSpec.ofChange adataContentsWrong)

/-- 'wirelesslaw50.TransportChecks': WHATEVER THE INPUT: true; the input reads as it did. -/
def transportChecksSpec : ChangeSpec := { name := "transportChecks", fn := fun _ => fun
  | [d1, d2] => { results := [.lit (.bool true)], args := [d1, d2] }
  | _ => none }
def transportChecksRow : OpenClaim := { program := "ytpomobeogkfmfaa", sum := "387231fd722c748afffa2b2494e1e30332970a5be5eed89a3c4eaecc3d3b49e4", func := "wireless/wirelesslaw50.TransportChecks", spec := "transportChecks", unfollowed := true, recurses := true, apart := false }
def TransportChecksSaid : Prop := transportChecksRow.holds Try.pinned (OpenSpec.ofChange transportChecksSpec)

/-- ITS FALSE NEIGHBOUR: 'it returns false'. Refute it at one input. -/
def transportChecksWrong : ChangeSpec := { name := "transportChecks", fn := fun _ => fun
  | [d1, d2] => { results := [.lit (.bool false)], args := [d1, d2] }
  | _ => none }
def TransportChecksWrongFalsely : Prop := transportChecksRow.holds Try.pinned (OpenSpec.ofChange transportChecksWrong)

/-- 'wirelesslaw50.TransportEncodes': WHATEVER THE INPUT: true; the input reads as it did. -/
def transportEncodesSpec : ChangeSpec := { name := "transportEncodes", fn := fun _ => fun
  | [d] => { results := [.lit (.bool true)], args := [d] }
  | _ => none }
def transportEncodesRow : OpenClaim := { program := "ytpomobeogkfmfaa", sum := "387231fd722c748afffa2b2494e1e30332970a5be5eed89a3c4eaecc3d3b49e4", func := "wireless/wirelesslaw50.TransportEncodes", spec := "transportEncodes", unfollowed := true, recurses := true, apart := false }
def TransportEncodesSaid : Prop := transportEncodesRow.holds Try.pinned (OpenSpec.ofChange transportEncodesSpec)

/-- ITS FALSE NEIGHBOUR: 'it returns false'. Refute it at one input. -/
def transportEncodesWrong : ChangeSpec := { name := "transportEncodes", fn := fun _ => fun
  | [d] => { results := [.lit (.bool false)], args := [d] }
  | _ => none }
def TransportEncodesWrongFalsely : Prop := transportEncodesRow.holds Try.pinned (OpenSpec.ofChange transportEncodesWrong)

/-- 'wirelesslaw50.TransportDecodes': WHATEVER THE INPUT: true; the input reads as it did. -/
def transportDecodesSpec : ChangeSpec := { name := "transportDecodes", fn := fun _ => fun
  | [d1, d2] => { results := [.lit (.bool true)], args := [d1, d2] }
  | _ => none }
def transportDecodesRow : OpenClaim := { program := "ytpomobeogkfmfaa", sum := "387231fd722c748afffa2b2494e1e30332970a5be5eed89a3c4eaecc3d3b49e4", func := "wireless/wirelesslaw50.TransportDecodes", spec := "transportDecodes", unfollowed := true, recurses := true, apart := false }
def TransportDecodesSaid : Prop := transportDecodesRow.holds Try.pinned (OpenSpec.ofChange transportDecodesSpec)

/-- ITS FALSE NEIGHBOUR: 'it returns false'. Refute it at one input. -/
def transportDecodesWrong : ChangeSpec := { name := "transportDecodes", fn := fun _ => fun
  | [d1, d2] => { results := [.lit (.bool false)], args := [d1, d2] }
  | _ => none }
def TransportDecodesWrongFalsely : Prop := transportDecodesRow.holds Try.pinned (OpenSpec.ofChange transportDecodesWrong)

/-- 'wirelesslaw50.TransportBack': WHATEVER THE INPUT: true; the input reads as it did. -/
def transportBackSpec : ChangeSpec := { name := "transportBack", fn := fun _ => fun
  | [d] => { results := [.lit (.bool true)], args := [d] }
  | _ => none }
def transportBackRow : OpenClaim := { program := "ytpomobeogkfmfaa", sum := "387231fd722c748afffa2b2494e1e30332970a5be5eed89a3c4eaecc3d3b49e4", func := "wireless/wirelesslaw50.TransportBack", spec := "transportBack", unfollowed := true, recurses := true, apart := false }
def TransportBackSaid : Prop := transportBackRow.holds Try.pinned (OpenSpec.ofChange transportBackSpec)

/-- ITS FALSE NEIGHBOUR: 'it returns false'. Refute it at one input. -/
def transportBackWrong : ChangeSpec := { name := "transportBack", fn := fun _ => fun
  | [d] => { results := [.lit (.bool false)], args := [d] }
  | _ => none }
def TransportBackWrongFalsely : Prop := transportBackRow.holds Try.pinned (OpenSpec.ofChange transportBackWrong)

/-- 'wirelesslaw50.TransportWhole': WHATEVER THE INPUT: true; the input reads as it did. -/
def transportWholeSpec : ChangeSpec := { name := "transportWhole", fn := fun _ => fun
  | [d1, d2] => { results := [.lit (.bool true)], args := [d1, d2] }
  | _ => none }
def transportWholeRow : OpenClaim := { program := "ytpomobeogkfmfaa", sum := "387231fd722c748afffa2b2494e1e30332970a5be5eed89a3c4eaecc3d3b49e4", func := "wireless/wirelesslaw50.TransportWhole", spec := "transportWhole", unfollowed := true, recurses := true, apart := false }
def TransportWholeSaid : Prop := transportWholeRow.holds Try.pinned (OpenSpec.ofChange transportWholeSpec)

/-- ITS FALSE NEIGHBOUR: 'it returns false'. Refute it at one input. -/
def transportWholeWrong : ChangeSpec := { name := "transportWhole", fn := fun _ => fun
  | [d1, d2] => { results := [.lit (.bool false)], args := [d1, d2] }
  | _ => none }
def TransportWholeWrongFalsely : Prop := transportWholeRow.holds Try.pinned (OpenSpec.ofChange transportWholeWrong)

/-- 'wirelesslaw50.TransportSteps': WHATEVER THE INPUT: true; the input reads as it did. -/
def transportStepsSpec : ChangeSpec := { name := "transportSteps", fn := fun _ => fun
  | [d] => { results := [.lit (.bool true)], args := [d] }
  | _ => none }
def transportStepsRow : OpenClaim := { program := "ytpomobeogkfmfaa", sum := "387231fd722c748afffa2b2494e1e30332970a5be5eed89a3c4eaecc3d3b49e4", func := "wireless/wirelesslaw50.TransportSteps", spec := "transportSteps", unfollowed := true, recurses := true, apart := false }
def TransportStepsSaid : Prop := transportStepsRow.holds Try.pinned (OpenSpec.ofChange transportStepsSpec)

/-- ITS FALSE NEIGHBOUR: 'it returns false'. Refute it at one input. -/
def transportStepsWrong : ChangeSpec := { name := "transportSteps", fn := fun _ => fun
  | [d] => { results := [.lit (.bool false)], args := [d] }
  | _ => none }
def TransportStepsWrongFalsely : Prop := transportStepsRow.holds Try.pinned (OpenSpec.ofChange transportStepsWrong)

/-- 'wirelesslaw50.TransportAcknowledges': WHATEVER THE INPUT: true; the input reads as it did. -/
def transportAcknowledgesSpec : ChangeSpec := { name := "transportAcknowledges", fn := fun _ => fun
  | [d1, d2] => { results := [.lit (.bool true)], args := [d1, d2] }
  | _ => none }
def transportAcknowledgesRow : OpenClaim := { program := "ytpomobeogkfmfaa", sum := "387231fd722c748afffa2b2494e1e30332970a5be5eed89a3c4eaecc3d3b49e4", func := "wireless/wirelesslaw50.TransportAcknowledges", spec := "transportAcknowledges", unfollowed := true, recurses := true, apart := false }
def TransportAcknowledgesSaid : Prop := transportAcknowledgesRow.holds Try.pinned (OpenSpec.ofChange transportAcknowledgesSpec)

/-- ITS FALSE NEIGHBOUR: 'it returns false'. Refute it at one input. -/
def transportAcknowledgesWrong : ChangeSpec := { name := "transportAcknowledges", fn := fun _ => fun
  | [d1, d2] => { results := [.lit (.bool false)], args := [d1, d2] }
  | _ => none }
def TransportAcknowledgesWrongFalsely : Prop := transportAcknowledgesRow.holds Try.pinned (OpenSpec.ofChange transportAcknowledgesWrong)

/- THE SECOND FORM. 'bulk': how many values and letters a reading holds, each counted each time it is reached (what is shared counts as often as it is met; a slice's spare places count too). A statement '..UptoSaid' is the law's where the arguments, and the package variables that the reading takes, are together of bulk at most 1048576: NARROWER than '..Said'. Prove '..Said' where nothing that the law and all that it calls make is longer than what came in: it says more and counts as full. Else prove '..UptoSaid'. A law counts once. -/
mutual
def uptoBulk {H : Type} : DataW H → Nat
  | .lit (.string bytes) => bytes.length + 1
  | .lit _ => 1
  | .nil => 1
  | .ptr d => uptoBulk d + 1
  | .slice elems spare => uptoBulkAll elems + uptoBulkAll spare + 1
  | .agg parts => uptoBulkAll parts + 1
  | .iface _ d => uptoBulk d + 1
  | .map entries => uptoBulkEntries entries + 1
  | .held _ => 1
def uptoBulkAll {H : Type} : List (DataW H) → Nat
  | [] => 0
  | d :: r => uptoBulk d + uptoBulkAll r
def uptoBulkEntries {H : Type} : List (Lit × DataW H) → Nat
  | [] => 0
  | x :: r => uptoBulkEntry x + uptoBulkEntries r
def uptoBulkEntry {H : Type} : Lit × DataW H → Nat
  | (.string bytes, d) => bytes.length + uptoBulk d + 1
  | (_, d) => uptoBulk d + 1
 end
def uptoSmall : (H : Type) → List (DataW H) → Bool := fun _ ds => decide (uptoBulkAll ds ≤ 1048576)
def OpenSpec.upto (s : _root_.Go.ChangeSpec) : _root_.Go.OpenSpec := { _root_.Go.OpenSpec.ofChange s with cond := some uptoSmall }

/-- 'wirelesslaw02.OctetsPut', WHERE WHAT IT READS IS OF BULK AT MOST 1048576: true; the input reads as it did. -/
def octetsPutUptoRow : OpenClaim := { program := "ytpomobeogkfmfaa", sum := "387231fd722c748afffa2b2494e1e30332970a5be5eed89a3c4eaecc3d3b49e4", func := "wireless/wirelesslaw02.OctetsPut", spec := "octetsPut", apart := false, narrowed := true }
def OctetsPutUptoSaid : Prop := octetsPutUptoRow.holds Try.pinned (OpenSpec.upto octetsPutSpec)

/-- 'wirelesslaw02.OctetsTake', WHERE WHAT IT READS IS OF BULK AT MOST 1048576: true; the input reads as it did. -/
def octetsTakeUptoRow : OpenClaim := { program := "ytpomobeogkfmfaa", sum := "387231fd722c748afffa2b2494e1e30332970a5be5eed89a3c4eaecc3d3b49e4", func := "wireless/wirelesslaw02.OctetsTake", spec := "octetsTake", apart := false, narrowed := true }
def OctetsTakeUptoSaid : Prop := octetsTakeUptoRow.holds Try.pinned (OpenSpec.upto octetsTakeSpec)

/-- 'wirelesslaw02.OctetsJoins', WHERE WHAT IT READS IS OF BULK AT MOST 1048576: true; the input reads as it did. -/
def octetsJoinsUptoRow : OpenClaim := { program := "ytpomobeogkfmfaa", sum := "387231fd722c748afffa2b2494e1e30332970a5be5eed89a3c4eaecc3d3b49e4", func := "wireless/wirelesslaw02.OctetsJoins", spec := "octetsJoins", apart := false, narrowed := true }
def OctetsJoinsUptoSaid : Prop := octetsJoinsUptoRow.holds Try.pinned (OpenSpec.upto octetsJoinsSpec)

/-- 'wirelesslaw02.OctetsHex', WHERE WHAT IT READS IS OF BULK AT MOST 1048576: true; the input reads as it did. -/
def octetsHexUptoRow : OpenClaim := { program := "ytpomobeogkfmfaa", sum := "387231fd722c748afffa2b2494e1e30332970a5be5eed89a3c4eaecc3d3b49e4", func := "wireless/wirelesslaw02.OctetsHex", spec := "octetsHex", apart := false, narrowed := true }
def OctetsHexUptoSaid : Prop := octetsHexUptoRow.holds Try.pinned (OpenSpec.upto octetsHexSpec)

/-- 'wirelesslaw02.OctetsBack', WHERE WHAT IT READS IS OF BULK AT MOST 1048576: true; the input reads as it did. -/
def octetsBackUptoRow : OpenClaim := { program := "ytpomobeogkfmfaa", sum := "387231fd722c748afffa2b2494e1e30332970a5be5eed89a3c4eaecc3d3b49e4", func := "wireless/wirelesslaw02.OctetsBack", spec := "octetsBack", apart := false, narrowed := true }
def OctetsBackUptoSaid : Prop := octetsBackUptoRow.holds Try.pinned (OpenSpec.upto octetsBackSpec)

/-- 'wirelesslaw02.OctetsOwn', WHERE WHAT IT READS IS OF BULK AT MOST 1048576: true; the input reads as it did. -/
def octetsOwnUptoRow : OpenClaim := { program := "ytpomobeogkfmfaa", sum := "387231fd722c748afffa2b2494e1e30332970a5be5eed89a3c4eaecc3d3b49e4", func := "wireless/wirelesslaw02.OctetsOwn", spec := "octetsOwn", apart := false, narrowed := true }
def OctetsOwnUptoSaid : Prop := octetsOwnUptoRow.holds Try.pinned (OpenSpec.upto octetsOwnSpec)

/-- 'wirelesslaw18.AdataEncodes', WHERE WHAT IT READS IS OF BULK AT MOST 1048576: true; the input reads as it did. -/
def adataEncodesUptoRow : OpenClaim := { program := "ytpomobeogkfmfaa", sum := "387231fd722c748afffa2b2494e1e30332970a5be5eed89a3c4eaecc3d3b49e4", func := "wireless/wirelesslaw18.AdataEncodes", spec := "adataEncodes", unfollowed := true, recurses := true, apart := false, narrowed := true }
def AdataEncodesUptoSaid : Prop := adataEncodesUptoRow.holds Try.pinned (OpenSpec.upto adataEncodesSpec)

/-- 'wirelesslaw18.AdataDecodes', WHERE WHAT IT READS IS OF BULK AT MOST 1048576: true; the input reads as it did. -/
def adataDecodesUptoRow : OpenClaim := { program := "ytpomobeogkfmfaa", sum := "387231fd722c748afffa2b2494e1e30332970a5be5eed89a3c4eaecc3d3b49e4", func := "wireless/wirelesslaw18.AdataDecodes", spec := "adataDecodes", unfollowed := true, recurses := true, apart := false, narrowed := true }
def AdataDecodesUptoSaid : Prop := adataDecodesUptoRow.holds Try.pinned (OpenSpec.upto adataDecodesSpec)

/-- 'wirelesslaw18.AdataFinds', WHERE WHAT IT READS IS OF BULK AT MOST 1048576: true; the input reads as it did. -/
def adataFindsUptoRow : OpenClaim := { program := "ytpomobeogkfmfaa", sum := "387231fd722c748afffa2b2494e1e30332970a5be5eed89a3c4eaecc3d3b49e4", func := "wireless/wirelesslaw18.AdataFinds", spec := "adataFinds", unfollowed := true, recurses := true, apart := false, narrowed := true }
def AdataFindsUptoSaid : Prop := adataFindsUptoRow.holds Try.pinned (OpenSpec.upto adataFindsSpec)

/-- 'wirelesslaw18.AdataBuilds', WHERE WHAT IT READS IS OF BULK AT MOST 1048576: true; the input reads as it did. -/
def adataBuildsUptoRow : OpenClaim := { program := "ytpomobeogkfmfaa", sum := "387231fd722c748afffa2b2494e1e30332970a5be5eed89a3c4eaecc3d3b49e4", func := "wireless/wirelesslaw18.AdataBuilds", spec := "adataBuilds", unfollowed := true, recurses := true, apart := false, narrowed := true }
def AdataBuildsUptoSaid : Prop := adataBuildsUptoRow.holds Try.pinned (OpenSpec.upto adataBuildsSpec)

/-- 'wirelesslaw18.AdataBack', WHERE WHAT IT READS IS OF BULK AT MOST 1048576: true; the input reads as it did. -/
def adataBackUptoRow : OpenClaim := { program := "ytpomobeogkfmfaa", sum := "387231fd722c748afffa2b2494e1e30332970a5be5eed89a3c4eaecc3d3b49e4", func := "wireless/wirelesslaw18.AdataBack", spec := "adataBack", unfollowed := true, recurses := true, apart := false, narrowed := true }
def AdataBackUptoSaid : Prop := adataBackUptoRow.holds Try.pinned (OpenSpec.upto adataBackSpec)

/-- 'wirelesslaw18.AdataContents', WHERE WHAT IT READS IS OF BULK AT MOST 1048576: true; the input reads as it did. -/
def adataContentsUptoRow : OpenClaim := { program := "ytpomobeogkfmfaa", sum := "387231fd722c748afffa2b2494e1e30332970a5be5eed89a3c4eaecc3d3b49e4", func := "wireless/wirelesslaw18.AdataContents", spec := "adataContents", unfollowed := true, recurses := true, apart := false, narrowed := true }
def AdataContentsUptoSaid : Prop := adataContentsUptoRow.holds Try.pinned (OpenSpec.upto adataContentsSpec)

/-- 'wirelesslaw50.TransportChecks', WHERE WHAT IT READS IS OF BULK AT MOST 1048576: true; the input reads as it did. -/
def transportChecksUptoRow : OpenClaim := { program := "ytpomobeogkfmfaa", sum := "387231fd722c748afffa2b2494e1e30332970a5be5eed89a3c4eaecc3d3b49e4", func := "wireless/wirelesslaw50.TransportChecks", spec := "transportChecks", unfollowed := true, recurses := true, apart := false, narrowed := true }
def TransportChecksUptoSaid : Prop := transportChecksUptoRow.holds Try.pinned (OpenSpec.upto transportChecksSpec)

/-- 'wirelesslaw50.TransportEncodes', WHERE WHAT IT READS IS OF BULK AT MOST 1048576: true; the input reads as it did. -/
def transportEncodesUptoRow : OpenClaim := { program := "ytpomobeogkfmfaa", sum := "387231fd722c748afffa2b2494e1e30332970a5be5eed89a3c4eaecc3d3b49e4", func := "wireless/wirelesslaw50.TransportEncodes", spec := "transportEncodes", unfollowed := true, recurses := true, apart := false, narrowed := true }
def TransportEncodesUptoSaid : Prop := transportEncodesUptoRow.holds Try.pinned (OpenSpec.upto transportEncodesSpec)

/-- 'wirelesslaw50.TransportDecodes', WHERE WHAT IT READS IS OF BULK AT MOST 1048576: true; the input reads as it did. -/
def transportDecodesUptoRow : OpenClaim := { program := "ytpomobeogkfmfaa", sum := "387231fd722c748afffa2b2494e1e30332970a5be5eed89a3c4eaecc3d3b49e4", func := "wireless/wirelesslaw50.TransportDecodes", spec := "transportDecodes", unfollowed := true, recurses := true, apart := false, narrowed := true }
def TransportDecodesUptoSaid : Prop := transportDecodesUptoRow.holds Try.pinned (OpenSpec.upto transportDecodesSpec)

/-- 'wirelesslaw50.TransportBack', WHERE WHAT IT READS IS OF BULK AT MOST 1048576: true; the input reads as it did. -/
def transportBackUptoRow : OpenClaim := { program := "ytpomobeogkfmfaa", sum := "387231fd722c748afffa2b2494e1e30332970a5be5eed89a3c4eaecc3d3b49e4", func := "wireless/wirelesslaw50.TransportBack", spec := "transportBack", unfollowed := true, recurses := true, apart := false, narrowed := true }
def TransportBackUptoSaid : Prop := transportBackUptoRow.holds Try.pinned (OpenSpec.upto transportBackSpec)

/-- 'wirelesslaw50.TransportWhole', WHERE WHAT IT READS IS OF BULK AT MOST 1048576: true; the input reads as it did. -/
def transportWholeUptoRow : OpenClaim := { program := "ytpomobeogkfmfaa", sum := "387231fd722c748afffa2b2494e1e30332970a5be5eed89a3c4eaecc3d3b49e4", func := "wireless/wirelesslaw50.TransportWhole", spec := "transportWhole", unfollowed := true, recurses := true, apart := false, narrowed := true }
def TransportWholeUptoSaid : Prop := transportWholeUptoRow.holds Try.pinned (OpenSpec.upto transportWholeSpec)

/-- 'wirelesslaw50.TransportSteps', WHERE WHAT IT READS IS OF BULK AT MOST 1048576: true; the input reads as it did. -/
def transportStepsUptoRow : OpenClaim := { program := "ytpomobeogkfmfaa", sum := "387231fd722c748afffa2b2494e1e30332970a5be5eed89a3c4eaecc3d3b49e4", func := "wireless/wirelesslaw50.TransportSteps", spec := "transportSteps", unfollowed := true, recurses := true, apart := false, narrowed := true }
def TransportStepsUptoSaid : Prop := transportStepsUptoRow.holds Try.pinned (OpenSpec.upto transportStepsSpec)

/-- 'wirelesslaw50.TransportAcknowledges', WHERE WHAT IT READS IS OF BULK AT MOST 1048576: true; the input reads as it did. -/
def transportAcknowledgesUptoRow : OpenClaim := { program := "ytpomobeogkfmfaa", sum := "387231fd722c748afffa2b2494e1e30332970a5be5eed89a3c4eaecc3d3b49e4", func := "wireless/wirelesslaw50.TransportAcknowledges", spec := "transportAcknowledges", unfollowed := true, recurses := true, apart := false, narrowed := true }
def TransportAcknowledgesUptoSaid : Prop := transportAcknowledgesUptoRow.holds Try.pinned (OpenSpec.upto transportAcknowledgesSpec)

end Rows
end Go.Proofs.Ytpomobeogkfmfaa
