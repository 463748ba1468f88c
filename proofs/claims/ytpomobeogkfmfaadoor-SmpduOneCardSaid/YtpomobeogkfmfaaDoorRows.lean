/-
  NARROWER THAN 'FOR EVERY INPUT', by the rows' own cells (each row's printed sentence says how): AddressChecks: laid · AddressMakes: laid · AddressTexts: laid · AddressParses: laid · AddressOrder: laid · AddressEncodes: laid · AddressDecodes: laid · AddressBack: laid · SmpduChecks: laid · SmpduEncodes: laid · SmpduDecodes: laid · SmpduBack: laid · SmpduOne: laid.
  DERIVED. THE GIVEN ROWS OF THIS SEAT. 13 by the template 'for every input the law returns true; each argument reads behind the call as it read before'; 0 by the template 'total and deterministic' (their statements: YtpomobeogkfmfaaDoorTotals.lean).
  GIVEN WITH THE SEED: the statements are not yours to turn. If you find one false, say at which input.
  Laid BY PROGRAM, IN A SANDBOX (cutbox-rows.mjs): the forced cells as the released guide's own fill.sh prints them over the translation 7e914d15b02605bb… (all of the seat's roots in one cut). By AI agents, Wed Nov 11 2026. No macro, syntax, notation, axiom, sorry.
-/
import Derived.Test.YtpomobeogkfmfaaDoorChecked
import GoSem.Claim
import GoSem.ClaimJoined
import GoSem.ClaimMapViews
import Derived.JoinedTies
import Derived.KernelRfl
namespace Go.Proofs.YtpomobeogkfmfaaDoor
/- THE CELL 'sum', in the pinned program and in every row, IS THE sha256 OF THE DUMP (.gsa) THAT YtpomobeogkfmfaaDoorProg.lean LOADS. Nothing in Lean hashes anything: it is a label: what it is worth is what the hold of that sum in a sandbox is worth. -/
noncomputable def Tryd.pinned : Pinned := { name := "ytpomobeogkfmfaadoor", sum := "7e914d15b02605bbd6337d5f6ae51c3228522580486f3f6717c442771ca3f814", checked := Tryd.checked }
namespace Rows
def none {H : Type} : Left H := { results := [], args := [] }

/- WHAT THE LISTED PACKAGE-LEVEL VARIABLES READ AS WHEN THE CALL BEGINS. Each datum BY PROGRAM (the guide's laid-datum.mjs) off the statement by which the dump's own 'gosem.cut.vars' lays the variable. In a bare row this is a premise. The card (YtpomobeogkfmfaaDoorCards.lean) ties it to the program's text. -/
def laid_wireless_address_letters {H : Type} : DataW H := .agg [.lit (.int .u8 0), .lit (.int .u8 112), .lit (.int .u8 115), .lit (.int .u8 114), .lit (.int .u8 97)]
def laid_wireless_address_prefixes {H : Type} : DataW H := .agg [.lit (.int .u64 0), .lit (.int .u64 0), .lit (.int .u64 3), .lit (.int .u64 1), .lit (.int .u64 0)]

/-- 'wirelesslaw08.AddressChecks': WHATEVER THE INPUT: true; the input reads as it did. -/
def addressChecksSpec : ChangeSpec := { name := "addressChecks", fn := fun _ => fun
  | [d] => { results := [.lit (.bool true)], args := [d] }
  | _ => none }
def addressChecksRow : OpenClaim := { program := "ytpomobeogkfmfaadoor", sum := "7e914d15b02605bbd6337d5f6ae51c3228522580486f3f6717c442771ca3f814", func := "wireless/wirelesslaw08.AddressChecks", spec := "addressChecks", named := ["wireless/address.letters", "wireless/address.prefixes"], apart := false, laid := [("wireless/address.letters", laid_wireless_address_letters), ("wireless/address.prefixes", laid_wireless_address_prefixes)] }
def AddressChecksSaid : Prop := addressChecksRow.holds Tryd.pinned (OpenSpec.ofChange addressChecksSpec)

/-- ITS FALSE NEIGHBOUR: 'it returns false'. Refute it at one input. -/
def addressChecksWrong : ChangeSpec := { name := "addressChecks", fn := fun _ => fun
  | [d] => { results := [.lit (.bool false)], args := [d] }
  | _ => none }
def AddressChecksWrongFalsely : Prop := addressChecksRow.holds Tryd.pinned (OpenSpec.ofChange addressChecksWrong)

/-- 'wirelesslaw08.AddressMakes': WHATEVER THE INPUT: true; the input reads as it did. -/
def addressMakesSpec : ChangeSpec := { name := "addressMakes", fn := fun _ => fun
  | [d1, d2] => { results := [.lit (.bool true)], args := [d1, d2] }
  | _ => none }
def addressMakesRow : OpenClaim := { program := "ytpomobeogkfmfaadoor", sum := "7e914d15b02605bbd6337d5f6ae51c3228522580486f3f6717c442771ca3f814", func := "wireless/wirelesslaw08.AddressMakes", spec := "addressMakes", named := ["wireless/address.prefixes", "wireless/address.letters"], apart := false, laid := [("wireless/address.letters", laid_wireless_address_letters), ("wireless/address.prefixes", laid_wireless_address_prefixes)] }
def AddressMakesSaid : Prop := addressMakesRow.holds Tryd.pinned (OpenSpec.ofChange addressMakesSpec)

/-- ITS FALSE NEIGHBOUR: 'it returns false'. Refute it at one input. -/
def addressMakesWrong : ChangeSpec := { name := "addressMakes", fn := fun _ => fun
  | [d1, d2] => { results := [.lit (.bool false)], args := [d1, d2] }
  | _ => none }
def AddressMakesWrongFalsely : Prop := addressMakesRow.holds Tryd.pinned (OpenSpec.ofChange addressMakesWrong)

/-- 'wirelesslaw08.AddressTexts': WHATEVER THE INPUT: true; the input reads as it did. -/
def addressTextsSpec : ChangeSpec := { name := "addressTexts", fn := fun _ => fun
  | [d1, d2] => { results := [.lit (.bool true)], args := [d1, d2] }
  | _ => none }
def addressTextsRow : OpenClaim := { program := "ytpomobeogkfmfaadoor", sum := "7e914d15b02605bbd6337d5f6ae51c3228522580486f3f6717c442771ca3f814", func := "wireless/wirelesslaw08.AddressTexts", spec := "addressTexts", named := ["wireless/address.letters", "wireless/address.prefixes"], apart := false, laid := [("wireless/address.letters", laid_wireless_address_letters), ("wireless/address.prefixes", laid_wireless_address_prefixes)] }
def AddressTextsSaid : Prop := addressTextsRow.holds Tryd.pinned (OpenSpec.ofChange addressTextsSpec)

/-- ITS FALSE NEIGHBOUR: 'it returns false'. Refute it at one input. -/
def addressTextsWrong : ChangeSpec := { name := "addressTexts", fn := fun _ => fun
  | [d1, d2] => { results := [.lit (.bool false)], args := [d1, d2] }
  | _ => none }
def AddressTextsWrongFalsely : Prop := addressTextsRow.holds Tryd.pinned (OpenSpec.ofChange addressTextsWrong)

/-- 'wirelesslaw08.AddressParses': WHATEVER THE INPUT: true; the input reads as it did. -/
def addressParsesSpec : ChangeSpec := { name := "addressParses", fn := fun _ => fun
  | [d] => { results := [.lit (.bool true)], args := [d] }
  | _ => none }
def addressParsesRow : OpenClaim := { program := "ytpomobeogkfmfaadoor", sum := "7e914d15b02605bbd6337d5f6ae51c3228522580486f3f6717c442771ca3f814", func := "wireless/wirelesslaw08.AddressParses", spec := "addressParses", named := ["wireless/address.letters", "wireless/address.prefixes"], apart := false, laid := [("wireless/address.letters", laid_wireless_address_letters), ("wireless/address.prefixes", laid_wireless_address_prefixes)] }
def AddressParsesSaid : Prop := addressParsesRow.holds Tryd.pinned (OpenSpec.ofChange addressParsesSpec)

/-- ITS FALSE NEIGHBOUR: 'it returns false'. Refute it at one input. -/
def addressParsesWrong : ChangeSpec := { name := "addressParses", fn := fun _ => fun
  | [d] => { results := [.lit (.bool false)], args := [d] }
  | _ => none }
def AddressParsesWrongFalsely : Prop := addressParsesRow.holds Tryd.pinned (OpenSpec.ofChange addressParsesWrong)

/-- 'wirelesslaw08.AddressOrder': WHATEVER THE INPUT: true; the input reads as it did. -/
def addressOrderSpec : ChangeSpec := { name := "addressOrder", fn := fun _ => fun
  | [d1, d2, d3] => { results := [.lit (.bool true)], args := [d1, d2, d3] }
  | _ => none }
def addressOrderRow : OpenClaim := { program := "ytpomobeogkfmfaadoor", sum := "7e914d15b02605bbd6337d5f6ae51c3228522580486f3f6717c442771ca3f814", func := "wireless/wirelesslaw08.AddressOrder", spec := "addressOrder", named := ["wireless/address.letters", "wireless/address.prefixes"], apart := false, laid := [("wireless/address.letters", laid_wireless_address_letters), ("wireless/address.prefixes", laid_wireless_address_prefixes)] }
def AddressOrderSaid : Prop := addressOrderRow.holds Tryd.pinned (OpenSpec.ofChange addressOrderSpec)

/-- ITS FALSE NEIGHBOUR: 'it returns false'. Refute it at one input. -/
def addressOrderWrong : ChangeSpec := { name := "addressOrder", fn := fun _ => fun
  | [d1, d2, d3] => { results := [.lit (.bool false)], args := [d1, d2, d3] }
  | _ => none }
def AddressOrderWrongFalsely : Prop := addressOrderRow.holds Tryd.pinned (OpenSpec.ofChange addressOrderWrong)

/-- 'wirelesslaw08.AddressEncodes': WHATEVER THE INPUT: true; the input reads as it did. -/
def addressEncodesSpec : ChangeSpec := { name := "addressEncodes", fn := fun _ => fun
  | [d] => { results := [.lit (.bool true)], args := [d] }
  | _ => none }
def addressEncodesRow : OpenClaim := { program := "ytpomobeogkfmfaadoor", sum := "7e914d15b02605bbd6337d5f6ae51c3228522580486f3f6717c442771ca3f814", func := "wireless/wirelesslaw08.AddressEncodes", spec := "addressEncodes", named := ["wireless/address.prefixes", "wireless/address.letters"], apart := false, laid := [("wireless/address.letters", laid_wireless_address_letters), ("wireless/address.prefixes", laid_wireless_address_prefixes)] }
def AddressEncodesSaid : Prop := addressEncodesRow.holds Tryd.pinned (OpenSpec.ofChange addressEncodesSpec)

/-- ITS FALSE NEIGHBOUR: 'it returns false'. Refute it at one input. -/
def addressEncodesWrong : ChangeSpec := { name := "addressEncodes", fn := fun _ => fun
  | [d] => { results := [.lit (.bool false)], args := [d] }
  | _ => none }
def AddressEncodesWrongFalsely : Prop := addressEncodesRow.holds Tryd.pinned (OpenSpec.ofChange addressEncodesWrong)

/-- 'wirelesslaw08.AddressDecodes': WHATEVER THE INPUT: true; the input reads as it did. -/
def addressDecodesSpec : ChangeSpec := { name := "addressDecodes", fn := fun _ => fun
  | [d] => { results := [.lit (.bool true)], args := [d] }
  | _ => none }
def addressDecodesRow : OpenClaim := { program := "ytpomobeogkfmfaadoor", sum := "7e914d15b02605bbd6337d5f6ae51c3228522580486f3f6717c442771ca3f814", func := "wireless/wirelesslaw08.AddressDecodes", spec := "addressDecodes", named := ["wireless/address.letters", "wireless/address.prefixes"], apart := false, laid := [("wireless/address.letters", laid_wireless_address_letters), ("wireless/address.prefixes", laid_wireless_address_prefixes)] }
def AddressDecodesSaid : Prop := addressDecodesRow.holds Tryd.pinned (OpenSpec.ofChange addressDecodesSpec)

/-- ITS FALSE NEIGHBOUR: 'it returns false'. Refute it at one input. -/
def addressDecodesWrong : ChangeSpec := { name := "addressDecodes", fn := fun _ => fun
  | [d] => { results := [.lit (.bool false)], args := [d] }
  | _ => none }
def AddressDecodesWrongFalsely : Prop := addressDecodesRow.holds Tryd.pinned (OpenSpec.ofChange addressDecodesWrong)

/-- 'wirelesslaw08.AddressBack': WHATEVER THE INPUT: true; the input reads as it did. -/
def addressBackSpec : ChangeSpec := { name := "addressBack", fn := fun _ => fun
  | [d1, d2, d3] => { results := [.lit (.bool true)], args := [d1, d2, d3] }
  | _ => none }
def addressBackRow : OpenClaim := { program := "ytpomobeogkfmfaadoor", sum := "7e914d15b02605bbd6337d5f6ae51c3228522580486f3f6717c442771ca3f814", func := "wireless/wirelesslaw08.AddressBack", spec := "addressBack", named := ["wireless/address.prefixes", "wireless/address.letters"], apart := false, laid := [("wireless/address.letters", laid_wireless_address_letters), ("wireless/address.prefixes", laid_wireless_address_prefixes)] }
def AddressBackSaid : Prop := addressBackRow.holds Tryd.pinned (OpenSpec.ofChange addressBackSpec)

/-- ITS FALSE NEIGHBOUR: 'it returns false'. Refute it at one input. -/
def addressBackWrong : ChangeSpec := { name := "addressBack", fn := fun _ => fun
  | [d1, d2, d3] => { results := [.lit (.bool false)], args := [d1, d2, d3] }
  | _ => none }
def AddressBackWrongFalsely : Prop := addressBackRow.holds Tryd.pinned (OpenSpec.ofChange addressBackWrong)

/-- 'wirelesslaw37.SmpduChecks': WHATEVER THE INPUT: true; the input reads as it did. -/
def smpduChecksSpec : ChangeSpec := { name := "smpduChecks", fn := fun _ => fun
  | [d] => { results := [.lit (.bool true)], args := [d] }
  | _ => none }
def smpduChecksRow : OpenClaim := { program := "ytpomobeogkfmfaadoor", sum := "7e914d15b02605bbd6337d5f6ae51c3228522580486f3f6717c442771ca3f814", func := "wireless/wirelesslaw37.SmpduChecks", spec := "smpduChecks", unfollowed := true, recurses := true, named := ["wireless/address.prefixes"], apart := false, laid := [("wireless/address.prefixes", laid_wireless_address_prefixes)] }
def SmpduChecksSaid : Prop := smpduChecksRow.holds Tryd.pinned (OpenSpec.ofChange smpduChecksSpec)

/-- ITS FALSE NEIGHBOUR: 'it returns false'. Refute it at one input. -/
def smpduChecksWrong : ChangeSpec := { name := "smpduChecks", fn := fun _ => fun
  | [d] => { results := [.lit (.bool false)], args := [d] }
  | _ => none }
def SmpduChecksWrongFalsely : Prop := smpduChecksRow.holds Tryd.pinned (OpenSpec.ofChange smpduChecksWrong)

/-- 'wirelesslaw37.SmpduEncodes': WHATEVER THE INPUT: true; the input reads as it did. -/
def smpduEncodesSpec : ChangeSpec := { name := "smpduEncodes", fn := fun _ => fun
  | [d] => { results := [.lit (.bool true)], args := [d] }
  | _ => none }
def smpduEncodesRow : OpenClaim := { program := "ytpomobeogkfmfaadoor", sum := "7e914d15b02605bbd6337d5f6ae51c3228522580486f3f6717c442771ca3f814", func := "wireless/wirelesslaw37.SmpduEncodes", spec := "smpduEncodes", unfollowed := true, recurses := true, named := ["wireless/address.prefixes"], apart := false, laid := [("wireless/address.prefixes", laid_wireless_address_prefixes)] }
def SmpduEncodesSaid : Prop := smpduEncodesRow.holds Tryd.pinned (OpenSpec.ofChange smpduEncodesSpec)

/-- ITS FALSE NEIGHBOUR: 'it returns false'. Refute it at one input. -/
def smpduEncodesWrong : ChangeSpec := { name := "smpduEncodes", fn := fun _ => fun
  | [d] => { results := [.lit (.bool false)], args := [d] }
  | _ => none }
def SmpduEncodesWrongFalsely : Prop := smpduEncodesRow.holds Tryd.pinned (OpenSpec.ofChange smpduEncodesWrong)

/-- 'wirelesslaw37.SmpduDecodes': WHATEVER THE INPUT: true; the input reads as it did. -/
def smpduDecodesSpec : ChangeSpec := { name := "smpduDecodes", fn := fun _ => fun
  | [d] => { results := [.lit (.bool true)], args := [d] }
  | _ => none }
def smpduDecodesRow : OpenClaim := { program := "ytpomobeogkfmfaadoor", sum := "7e914d15b02605bbd6337d5f6ae51c3228522580486f3f6717c442771ca3f814", func := "wireless/wirelesslaw37.SmpduDecodes", spec := "smpduDecodes", unfollowed := true, recurses := true, named := ["wireless/address.prefixes"], apart := false, laid := [("wireless/address.prefixes", laid_wireless_address_prefixes)] }
def SmpduDecodesSaid : Prop := smpduDecodesRow.holds Tryd.pinned (OpenSpec.ofChange smpduDecodesSpec)

/-- ITS FALSE NEIGHBOUR: 'it returns false'. Refute it at one input. -/
def smpduDecodesWrong : ChangeSpec := { name := "smpduDecodes", fn := fun _ => fun
  | [d] => { results := [.lit (.bool false)], args := [d] }
  | _ => none }
def SmpduDecodesWrongFalsely : Prop := smpduDecodesRow.holds Tryd.pinned (OpenSpec.ofChange smpduDecodesWrong)

/-- 'wirelesslaw37.SmpduBack': WHATEVER THE INPUT: true; the input reads as it did. -/
def smpduBackSpec : ChangeSpec := { name := "smpduBack", fn := fun _ => fun
  | [d] => { results := [.lit (.bool true)], args := [d] }
  | _ => none }
def smpduBackRow : OpenClaim := { program := "ytpomobeogkfmfaadoor", sum := "7e914d15b02605bbd6337d5f6ae51c3228522580486f3f6717c442771ca3f814", func := "wireless/wirelesslaw37.SmpduBack", spec := "smpduBack", unfollowed := true, recurses := true, named := ["wireless/address.prefixes"], apart := false, laid := [("wireless/address.prefixes", laid_wireless_address_prefixes)] }
def SmpduBackSaid : Prop := smpduBackRow.holds Tryd.pinned (OpenSpec.ofChange smpduBackSpec)

/-- ITS FALSE NEIGHBOUR: 'it returns false'. Refute it at one input. -/
def smpduBackWrong : ChangeSpec := { name := "smpduBack", fn := fun _ => fun
  | [d] => { results := [.lit (.bool false)], args := [d] }
  | _ => none }
def SmpduBackWrongFalsely : Prop := smpduBackRow.holds Tryd.pinned (OpenSpec.ofChange smpduBackWrong)

/-- 'wirelesslaw37.SmpduOne': WHATEVER THE INPUT: true; the input reads as it did. -/
def smpduOneSpec : ChangeSpec := { name := "smpduOne", fn := fun _ => fun
  | [d1, d2] => { results := [.lit (.bool true)], args := [d1, d2] }
  | _ => none }
def smpduOneRow : OpenClaim := { program := "ytpomobeogkfmfaadoor", sum := "7e914d15b02605bbd6337d5f6ae51c3228522580486f3f6717c442771ca3f814", func := "wireless/wirelesslaw37.SmpduOne", spec := "smpduOne", unfollowed := true, recurses := true, named := ["wireless/address.prefixes"], apart := false, laid := [("wireless/address.prefixes", laid_wireless_address_prefixes)] }
def SmpduOneSaid : Prop := smpduOneRow.holds Tryd.pinned (OpenSpec.ofChange smpduOneSpec)

/-- ITS FALSE NEIGHBOUR: 'it returns false'. Refute it at one input. -/
def smpduOneWrong : ChangeSpec := { name := "smpduOne", fn := fun _ => fun
  | [d1, d2] => { results := [.lit (.bool false)], args := [d1, d2] }
  | _ => none }
def SmpduOneWrongFalsely : Prop := smpduOneRow.holds Tryd.pinned (OpenSpec.ofChange smpduOneWrong)

/- THE SECOND FORM. 'bulk': how many values and letters a reading holds, each counted each time it is reached (what is shared counts as often as it is met; a slice's spare places count too). A statement '..UptoSaid' is the law's where the arguments, and the package variables that the reading takes, are together of bulk at most 1048576: NARROWER than '..Said'. Prove '..Said' where nothing that the law and all that it calls make is longer than what came in: it says more and counts as full. Else prove '..UptoSaid'. A law counts once. -/
mutual
def uptoBulk {H : Type} : DataW H → Nat
  | .lit (.string bytes) => bytes.length + 1
  | .lit _ => 1
  | .nil => 1
  | .ptr d => uptoBulk d + 1
  | .slice elems spare => uptoBulkAll elems + uptoBulkAll spare + 1
  | .agg parts => uptoBulkAll parts + 1
  | .iface _ d => uptoBulk d + 1
  | .map entries => uptoBulkEntries entries + 1
  | .held _ => 1
def uptoBulkAll {H : Type} : List (DataW H) → Nat
  | [] => 0
  | d :: r => uptoBulk d + uptoBulkAll r
def uptoBulkEntries {H : Type} : List (Lit × DataW H) → Nat
  | [] => 0
  | x :: r => uptoBulkEntry x + uptoBulkEntries r
def uptoBulkEntry {H : Type} : Lit × DataW H → Nat
  | (.string bytes, d) => bytes.length + uptoBulk d + 1
  | (_, d) => uptoBulk d + 1
 end
def uptoSmall : (H : Type) → List (DataW H) → Bool := fun _ ds => decide (uptoBulkAll ds ≤ 1048576)
def OpenSpec.upto (s : _root_.Go.ChangeSpec) : _root_.Go.OpenSpec := { _root_.Go.OpenSpec.ofChange s with cond := some uptoSmall }

/-- 'wirelesslaw08.AddressChecks', WHERE WHAT IT READS IS OF BULK AT MOST 1048576: true; the input reads as it did. -/
def addressChecksUptoRow : OpenClaim := { program := "ytpomobeogkfmfaadoor", sum := "7e914d15b02605bbd6337d5f6ae51c3228522580486f3f6717c442771ca3f814", func := "wireless/wirelesslaw08.AddressChecks", spec := "addressChecks", named := ["wireless/address.letters", "wireless/address.prefixes"], apart := false, laid := [("wireless/address.letters", laid_wireless_address_letters), ("wireless/address.prefixes", laid_wireless_address_prefixes)], narrowed := true }
def AddressChecksUptoSaid : Prop := addressChecksUptoRow.holds Tryd.pinned (OpenSpec.upto addressChecksSpec)

/-- 'wirelesslaw08.AddressMakes', WHERE WHAT IT READS IS OF BULK AT MOST 1048576: true; the input reads as it did. -/
def addressMakesUptoRow : OpenClaim := { program := "ytpomobeogkfmfaadoor", sum := "7e914d15b02605bbd6337d5f6ae51c3228522580486f3f6717c442771ca3f814", func := "wireless/wirelesslaw08.AddressMakes", spec := "addressMakes", named := ["wireless/address.prefixes", "wireless/address.letters"], apart := false, laid := [("wireless/address.letters", laid_wireless_address_letters), ("wireless/address.prefixes", laid_wireless_address_prefixes)], narrowed := true }
def AddressMakesUptoSaid : Prop := addressMakesUptoRow.holds Tryd.pinned (OpenSpec.upto addressMakesSpec)

/-- 'wirelesslaw08.AddressTexts', WHERE WHAT IT READS IS OF BULK AT MOST 1048576: true; the input reads as it did. -/
def addressTextsUptoRow : OpenClaim := { program := "ytpomobeogkfmfaadoor", sum := "7e914d15b02605bbd6337d5f6ae51c3228522580486f3f6717c442771ca3f814", func := "wireless/wirelesslaw08.AddressTexts", spec := "addressTexts", named := ["wireless/address.letters", "wireless/address.prefixes"], apart := false, laid := [("wireless/address.letters", laid_wireless_address_letters), ("wireless/address.prefixes", laid_wireless_address_prefixes)], narrowed := true }
def AddressTextsUptoSaid : Prop := addressTextsUptoRow.holds Tryd.pinned (OpenSpec.upto addressTextsSpec)

/-- 'wirelesslaw08.AddressParses', WHERE WHAT IT READS IS OF BULK AT MOST 1048576: true; the input reads as it did. -/
def addressParsesUptoRow : OpenClaim := { program := "ytpomobeogkfmfaadoor", sum := "7e914d15b02605bbd6337d5f6ae51c3228522580486f3f6717c442771ca3f814", func := "wireless/wirelesslaw08.AddressParses", spec := "addressParses", named := ["wireless/address.letters", "wireless/address.prefixes"], apart := false, laid := [("wireless/address.letters", laid_wireless_address_letters), ("wireless/address.prefixes", laid_wireless_address_prefixes)], narrowed := true }
def AddressParsesUptoSaid : Prop := addressParsesUptoRow.holds Tryd.pinned (OpenSpec.upto addressParsesSpec)

/-- 'wirelesslaw08.AddressOrder', WHERE WHAT IT READS IS OF BULK AT MOST 1048576: true; the input reads as it did. -/
def addressOrderUptoRow : OpenClaim := { program := "ytpomobeogkfmfaadoor", sum := "7e914d15b02605bbd6337d5f6ae51c3228522580486f3f6717c442771ca3f814", func := "wireless/wirelesslaw08.AddressOrder", spec := "addressOrder", named := ["wireless/address.letters", "wireless/address.prefixes"], apart := false, laid := [("wireless/address.letters", laid_wireless_address_letters), ("wireless/address.prefixes", laid_wireless_address_prefixes)], narrowed := true }
def AddressOrderUptoSaid : Prop := addressOrderUptoRow.holds Tryd.pinned (OpenSpec.upto addressOrderSpec)

/-- 'wirelesslaw08.AddressEncodes', WHERE WHAT IT READS IS OF BULK AT MOST 1048576: true; the input reads as it did. -/
def addressEncodesUptoRow : OpenClaim := { program := "ytpomobeogkfmfaadoor", sum := "7e914d15b02605bbd6337d5f6ae51c3228522580486f3f6717c442771ca3f814", func := "wireless/wirelesslaw08.AddressEncodes", spec := "addressEncodes", named := ["wireless/address.prefixes", "wireless/address.letters"], apart := false, laid := [("wireless/address.letters", laid_wireless_address_letters), ("wireless/address.prefixes", laid_wireless_address_prefixes)], narrowed := true }
def AddressEncodesUptoSaid : Prop := addressEncodesUptoRow.holds Tryd.pinned (OpenSpec.upto addressEncodesSpec)

/-- 'wirelesslaw08.AddressDecodes', WHERE WHAT IT READS IS OF BULK AT MOST 1048576: true; the input reads as it did. -/
def addressDecodesUptoRow : OpenClaim := { program := "ytpomobeogkfmfaadoor", sum := "7e914d15b02605bbd6337d5f6ae51c3228522580486f3f6717c442771ca3f814", func := "wireless/wirelesslaw08.AddressDecodes", spec := "addressDecodes", named := ["wireless/address.letters", "wireless/address.prefixes"], apart := false, laid := [("wireless/address.letters", laid_wireless_address_letters), ("wireless/address.prefixes", laid_wireless_address_prefixes)], narrowed := true }
def AddressDecodesUptoSaid : Prop := addressDecodesUptoRow.holds Tryd.pinned (OpenSpec.upto addressDecodesSpec)

/-- 'wirelesslaw08.AddressBack', WHERE WHAT IT READS IS OF BULK AT MOST 1048576: true; the input reads as it did. -/
def addressBackUptoRow : OpenClaim := { program := "ytpomobeogkfmfaadoor", sum := "7e914d15b02605bbd6337d5f6ae51c3228522580486f3f6717c442771ca3f814", func := "wireless/wirelesslaw08.AddressBack", spec := "addressBack", named := ["wireless/address.prefixes", "wireless/address.letters"], apart := false, laid := [("wireless/address.letters", laid_wireless_address_letters), ("wireless/address.prefixes", laid_wireless_address_prefixes)], narrowed := true }
def AddressBackUptoSaid : Prop := addressBackUptoRow.holds Tryd.pinned (OpenSpec.upto addressBackSpec)

/-- 'wirelesslaw37.SmpduChecks', WHERE WHAT IT READS IS OF BULK AT MOST 1048576: true; the input reads as it did. -/
def smpduChecksUptoRow : OpenClaim := { program := "ytpomobeogkfmfaadoor", sum := "7e914d15b02605bbd6337d5f6ae51c3228522580486f3f6717c442771ca3f814", func := "wireless/wirelesslaw37.SmpduChecks", spec := "smpduChecks", unfollowed := true, recurses := true, named := ["wireless/address.prefixes"], apart := false, laid := [("wireless/address.prefixes", laid_wireless_address_prefixes)], narrowed := true }
def SmpduChecksUptoSaid : Prop := smpduChecksUptoRow.holds Tryd.pinned (OpenSpec.upto smpduChecksSpec)

/-- 'wirelesslaw37.SmpduEncodes', WHERE WHAT IT READS IS OF BULK AT MOST 1048576: true; the input reads as it did. -/
def smpduEncodesUptoRow : OpenClaim := { program := "ytpomobeogkfmfaadoor", sum := "7e914d15b02605bbd6337d5f6ae51c3228522580486f3f6717c442771ca3f814", func := "wireless/wirelesslaw37.SmpduEncodes", spec := "smpduEncodes", unfollowed := true, recurses := true, named := ["wireless/address.prefixes"], apart := false, laid := [("wireless/address.prefixes", laid_wireless_address_prefixes)], narrowed := true }
def SmpduEncodesUptoSaid : Prop := smpduEncodesUptoRow.holds Tryd.pinned (OpenSpec.upto smpduEncodesSpec)

/-- 'wirelesslaw37.SmpduDecodes', WHERE WHAT IT READS IS OF BULK AT MOST 1048576: true; the input reads as it did. -/
def smpduDecodesUptoRow : OpenClaim := { program := "ytpomobeogkfmfaadoor", sum := "7e914d15b02605bbd6337d5f6ae51c3228522580486f3f6717c442771ca3f814", func := "wireless/wirelesslaw37.SmpduDecodes", spec := "smpduDecodes", unfollowed := true, recurses := true, named := ["wireless/address.prefixes"], apart := false, laid := [("wireless/address.prefixes", laid_wireless_address_prefixes)], narrowed := true }
def SmpduDecodesUptoSaid : Prop := smpduDecodesUptoRow.holds Tryd.pinned (OpenSpec.upto smpduDecodesSpec)

/-- 'wirelesslaw37.SmpduBack', WHERE WHAT IT READS IS OF BULK AT MOST 1048576: true; the input reads as it did. -/
def smpduBackUptoRow : OpenClaim := { program := "ytpomobeogkfmfaadoor", sum := "7e914d15b02605bbd6337d5f6ae51c3228522580486f3f6717c442771ca3f814", func := "wireless/wirelesslaw37.SmpduBack", spec := "smpduBack", unfollowed := true, recurses := true, named := ["wireless/address.prefixes"], apart := false, laid := [("wireless/address.prefixes", laid_wireless_address_prefixes)], narrowed := true }
def SmpduBackUptoSaid : Prop := smpduBackUptoRow.holds Tryd.pinned (OpenSpec.upto smpduBackSpec)

/-- 'wirelesslaw37.SmpduOne', WHERE WHAT IT READS IS OF BULK AT MOST 1048576: true; the input reads as it did. -/
def smpduOneUptoRow : OpenClaim := { program := "ytpomobeogkfmfaadoor", sum := "7e914d15b02605bbd6337d5f6ae51c3228522580486f3f6717c442771ca3f814", func := "wireless/wirelesslaw37.SmpduOne", spec := "smpduOne", unfollowed := true, recurses := true, named := ["wireless/address.prefixes"], apart := false, laid := [("wireless/address.prefixes", laid_wireless_address_prefixes)], narrowed := true }
def SmpduOneUptoSaid : Prop := smpduOneUptoRow.holds Tryd.pinned (OpenSpec.upto smpduOneSpec)

end Rows
end Go.Proofs.YtpomobeogkfmfaaDoor
