/-
  No cell of these rows narrows 'for every input' (looked for: loops, veiled, ifaces, maps, wideKeys, modest, calm, conditions, laid).
  DERIVED. THE GIVEN ROWS OF THIS SEAT. 6 by the template 'for every input the law returns true; each argument reads behind the call as it read before'; 0 by the template 'total and deterministic' (their statements: YthgpmedldnnhpaaTotals.lean).
  GIVEN WITH THE SEED: the statements are not yours to turn. If you find one false, say at which input.
  Laid BY PROGRAM, IN A SANDBOX (cutbox-rows.mjs): the forced cells as the released guide's own fill.sh prints them over the translation e44eefda8c4d052e… (all of the seat's roots in one cut). By AI agents, Wed Nov 11 2026. No macro, syntax, notation, axiom, sorry.
-/
import Derived.Test.YthgpmedldnnhpaaChecked
import GoSem.Claim
import GoSem.ClaimJoined
import GoSem.ClaimMapViews
import Derived.JoinedTies
import Derived.KernelRfl
namespace Go.Proofs.Ythgpmedldnnhpaa
/- THE CELL 'sum', in the pinned program and in every row, IS THE sha256 OF THE DUMP (.gsa) THAT YthgpmedldnnhpaaProg.lean LOADS. Nothing in Lean hashes anything: it is a label: what it is worth is what the hold of that sum in a sandbox is worth. -/
noncomputable def Try.pinned : Pinned := { name := "ythgpmedldnnhpaa", sum := "e44eefda8c4d052e4ddd3f40ab095618e00296d0b3c74a3448f30c19a6c85fd2", checked := Try.checked }
namespace Rows
def none {H : Type} : Left H := { results := [], args := [] }

/-- 'wirelesslaw02.OctetsPut': WHATEVER THE INPUT: true; the input reads as it did. -/
def octetsPutSpec : ChangeSpec := { name := "octetsPut", fn := fun _ => fun
  | [d] => { results := [.lit (.bool true)], args := [d] }
  | _ => none }
def octetsPutRow : OpenClaim := { program := "ythgpmedldnnhpaa", sum := "e44eefda8c4d052e4ddd3f40ab095618e00296d0b3c74a3448f30c19a6c85fd2", func := "wireless/wirelesslaw02.OctetsPut", spec := "octetsPut", apart := false }
def OctetsPutSaid : Prop := octetsPutRow.holds Try.pinned (OpenSpec.ofChange octetsPutSpec)

/-- ITS FALSE NEIGHBOUR: 'it returns false'. Refute it at one input. -/
def octetsPutWrong : ChangeSpec := { name := "octetsPut", fn := fun _ => fun
  | [d] => { results := [.lit (.bool false)], args := [d] }
  | _ => none }
def OctetsPutWrongFalsely : Prop := octetsPutRow.holds Try.pinned (OpenSpec.ofChange octetsPutWrong)

/-- 'wirelesslaw02.OctetsTake': WHATEVER THE INPUT: true; the input reads as it did. -/
def octetsTakeSpec : ChangeSpec := { name := "octetsTake", fn := fun _ => fun
  | [d1, d2] => { results := [.lit (.bool true)], args := [d1, d2] }
  | _ => none }
def octetsTakeRow : OpenClaim := { program := "ythgpmedldnnhpaa", sum := "e44eefda8c4d052e4ddd3f40ab095618e00296d0b3c74a3448f30c19a6c85fd2", func := "wireless/wirelesslaw02.OctetsTake", spec := "octetsTake", apart := false }
def OctetsTakeSaid : Prop := octetsTakeRow.holds Try.pinned (OpenSpec.ofChange octetsTakeSpec)

/-- ITS FALSE NEIGHBOUR: 'it returns false'. Refute it at one input. -/
def octetsTakeWrong : ChangeSpec := { name := "octetsTake", fn := fun _ => fun
  | [d1, d2] => { results := [.lit (.bool false)], args := [d1, d2] }
  | _ => none }
def OctetsTakeWrongFalsely : Prop := octetsTakeRow.holds Try.pinned (OpenSpec.ofChange octetsTakeWrong)

/-- 'wirelesslaw02.OctetsJoins': WHATEVER THE INPUT: true; the input reads as it did. -/
def octetsJoinsSpec : ChangeSpec := { name := "octetsJoins", fn := fun _ => fun
  | [d1, d2, d3] => { results := [.lit (.bool true)], args := [d1, d2, d3] }
  | _ => none }
def octetsJoinsRow : OpenClaim := { program := "ythgpmedldnnhpaa", sum := "e44eefda8c4d052e4ddd3f40ab095618e00296d0b3c74a3448f30c19a6c85fd2", func := "wireless/wirelesslaw02.OctetsJoins", spec := "octetsJoins", apart := false }
def OctetsJoinsSaid : Prop := octetsJoinsRow.holds Try.pinned (OpenSpec.ofChange octetsJoinsSpec)

/-- ITS FALSE NEIGHBOUR: 'it returns false'. Refute it at one input. -/
def octetsJoinsWrong : ChangeSpec := { name := "octetsJoins", fn := fun _ => fun
  | [d1, d2, d3] => { results := [.lit (.bool false)], args := [d1, d2, d3] }
  | _ => none }
def OctetsJoinsWrongFalsely : Prop := octetsJoinsRow.holds Try.pinned (OpenSpec.ofChange octetsJoinsWrong)

/-- 'wirelesslaw02.OctetsHex': WHATEVER THE INPUT: true; the input reads as it did. -/
def octetsHexSpec : ChangeSpec := { name := "octetsHex", fn := fun _ => fun
  | [d1, d2] => { results := [.lit (.bool true)], args := [d1, d2] }
  | _ => none }
def octetsHexRow : OpenClaim := { program := "ythgpmedldnnhpaa", sum := "e44eefda8c4d052e4ddd3f40ab095618e00296d0b3c74a3448f30c19a6c85fd2", func := "wireless/wirelesslaw02.OctetsHex", spec := "octetsHex", apart := false }
def OctetsHexSaid : Prop := octetsHexRow.holds Try.pinned (OpenSpec.ofChange octetsHexSpec)

/-- ITS FALSE NEIGHBOUR: 'it returns false'. Refute it at one input. -/
def octetsHexWrong : ChangeSpec := { name := "octetsHex", fn := fun _ => fun
  | [d1, d2] => { results := [.lit (.bool false)], args := [d1, d2] }
  | _ => none }
def OctetsHexWrongFalsely : Prop := octetsHexRow.holds Try.pinned (OpenSpec.ofChange octetsHexWrong)

/-- 'wirelesslaw02.OctetsBack': WHATEVER THE INPUT: true; the input reads as it did. -/
def octetsBackSpec : ChangeSpec := { name := "octetsBack", fn := fun _ => fun
  | [d1, d2] => { results := [.lit (.bool true)], args := [d1, d2] }
  | _ => none }
def octetsBackRow : OpenClaim := { program := "ythgpmedldnnhpaa", sum := "e44eefda8c4d052e4ddd3f40ab095618e00296d0b3c74a3448f30c19a6c85fd2", func := "wireless/wirelesslaw02.OctetsBack", spec := "octetsBack", apart := false }
def OctetsBackSaid : Prop := octetsBackRow.holds Try.pinned (OpenSpec.ofChange octetsBackSpec)

/-- ITS FALSE NEIGHBOUR: 'it returns false'. Refute it at one input. -/
def octetsBackWrong : ChangeSpec := { name := "octetsBack", fn := fun _ => fun
  | [d1, d2] => { results := [.lit (.bool false)], args := [d1, d2] }
  | _ => none }
def OctetsBackWrongFalsely : Prop := octetsBackRow.holds Try.pinned (OpenSpec.ofChange octetsBackWrong)

/-- 'wirelesslaw02.OctetsOwn': WHATEVER THE INPUT: true; the input reads as it did. -/
def octetsOwnSpec : ChangeSpec := { name := "octetsOwn", fn := fun _ => fun
  | [d1, d2] => { results := [.lit (.bool true)], args := [d1, d2] }
  | _ => none }
def octetsOwnRow : OpenClaim := { program := "ythgpmedldnnhpaa", sum := "e44eefda8c4d052e4ddd3f40ab095618e00296d0b3c74a3448f30c19a6c85fd2", func := "wireless/wirelesslaw02.OctetsOwn", spec := "octetsOwn", apart := false }
def OctetsOwnSaid : Prop := octetsOwnRow.holds Try.pinned (OpenSpec.ofChange octetsOwnSpec)

/-- ITS FALSE NEIGHBOUR: 'it returns false'. Refute it at one input. -/
def octetsOwnWrong : ChangeSpec := { name := "octetsOwn", fn := fun _ => fun
  | [d1, d2] => { results := [.lit (.bool false)], args := [d1, d2] }
  | _ => none }
def OctetsOwnWrongFalsely : Prop := octetsOwnRow.holds Try.pinned (OpenSpec.ofChange octetsOwnWrong)

/- THE SECOND FORM. 'bulk': how many values and letters a reading holds, each counted each time it is reached (what is shared counts as often as it is met; a slice's spare places count too). A statement '..UptoSaid' is the law's where the arguments, and the package variables that the reading takes, are together of bulk at most 1048576: NARROWER than '..Said'. Prove '..Said' where nothing that the law and all that it calls make is longer than what came in: it says more and counts as full. Else prove '..UptoSaid'. A law counts once. -/
mutual
def uptoBulk {H : Type} : DataW H → Nat
  | .lit (.string bytes) => bytes.length + 1
  | .lit _ => 1
  | .nil => 1
  | .ptr d => uptoBulk d + 1
  | .slice elems spare => uptoBulkAll elems + uptoBulkAll spare + 1
  | .agg parts => uptoBulkAll parts + 1
  | .iface _ d => uptoBulk d + 1
  | .map entries => uptoBulkEntries entries + 1
  | .held _ => 1
def uptoBulkAll {H : Type} : List (DataW H) → Nat
  | [] => 0
  | d :: r => uptoBulk d + uptoBulkAll r
def uptoBulkEntries {H : Type} : List (Lit × DataW H) → Nat
  | [] => 0
  | x :: r => uptoBulkEntry x + uptoBulkEntries r
def uptoBulkEntry {H : Type} : Lit × DataW H → Nat
  | (.string bytes, d) => bytes.length + uptoBulk d + 1
  | (_, d) => uptoBulk d + 1
 end
def uptoSmall : (H : Type) → List (DataW H) → Bool := fun _ ds => decide (uptoBulkAll ds ≤ 1048576)
def OpenSpec.upto (s : _root_.Go.ChangeSpec) : _root_.Go.OpenSpec := { _root_.Go.OpenSpec.ofChange s with cond := some uptoSmall }

/-- 'wirelesslaw02.OctetsPut', WHERE WHAT IT READS IS OF BULK AT MOST 1048576: true; the input reads as it did. -/
def octetsPutUptoRow : OpenClaim := { program := "ythgpmedldnnhpaa", sum := "e44eefda8c4d052e4ddd3f40ab095618e00296d0b3c74a3448f30c19a6c85fd2", func := "wireless/wirelesslaw02.OctetsPut", spec := "octetsPut", apart := false, narrowed := true }
def OctetsPutUptoSaid : Prop := octetsPutUptoRow.holds Try.pinned (OpenSpec.upto octetsPutSpec)

/-- 'wirelesslaw02.OctetsTake', WHERE WHAT IT READS IS OF BULK AT MOST 1048576: true; the input reads as it did. -/
def octetsTakeUptoRow : OpenClaim := { program := "ythgpmedldnnhpaa", sum := "e44eefda8c4d052e4ddd3f40ab095618e00296d0b3c74a3448f30c19a6c85fd2", func := "wireless/wirelesslaw02.OctetsTake", spec := "octetsTake", apart := false, narrowed := true }
def OctetsTakeUptoSaid : Prop := octetsTakeUptoRow.holds Try.pinned (OpenSpec.upto octetsTakeSpec)

/-- 'wirelesslaw02.OctetsJoins', WHERE WHAT IT READS IS OF BULK AT MOST 1048576: true; the input reads as it did. -/
def octetsJoinsUptoRow : OpenClaim := { program := "ythgpmedldnnhpaa", sum := "e44eefda8c4d052e4ddd3f40ab095618e00296d0b3c74a3448f30c19a6c85fd2", func := "wireless/wirelesslaw02.OctetsJoins", spec := "octetsJoins", apart := false, narrowed := true }
def OctetsJoinsUptoSaid : Prop := octetsJoinsUptoRow.holds Try.pinned (OpenSpec.upto octetsJoinsSpec)

/-- 'wirelesslaw02.OctetsHex', WHERE WHAT IT READS IS OF BULK AT MOST 1048576: true; the input reads as it did. -/
def octetsHexUptoRow : OpenClaim := { program := "ythgpmedldnnhpaa", sum := "e44eefda8c4d052e4ddd3f40ab095618e00296d0b3c74a3448f30c19a6c85fd2", func := "wireless/wirelesslaw02.OctetsHex", spec := "octetsHex", apart := false, narrowed := true }
def OctetsHexUptoSaid : Prop := octetsHexUptoRow.holds Try.pinned (OpenSpec.upto octetsHexSpec)

/-- 'wirelesslaw02.OctetsBack', WHERE WHAT IT READS IS OF BULK AT MOST 1048576: true; the input reads as it did. -/
def octetsBackUptoRow : OpenClaim := { program := "ythgpmedldnnhpaa", sum := "e44eefda8c4d052e4ddd3f40ab095618e00296d0b3c74a3448f30c19a6c85fd2", func := "wireless/wirelesslaw02.OctetsBack", spec := "octetsBack", apart := false, narrowed := true }
def OctetsBackUptoSaid : Prop := octetsBackUptoRow.holds Try.pinned (OpenSpec.upto octetsBackSpec)

/-- 'wirelesslaw02.OctetsOwn', WHERE WHAT IT READS IS OF BULK AT MOST 1048576: true; the input reads as it did. -/
def octetsOwnUptoRow : OpenClaim := { program := "ythgpmedldnnhpaa", sum := "e44eefda8c4d052e4ddd3f40ab095618e00296d0b3c74a3448f30c19a6c85fd2", func := "wireless/wirelesslaw02.OctetsOwn", spec := "octetsOwn", apart := false, narrowed := true }
def OctetsOwnUptoSaid : Prop := octetsOwnUptoRow.holds Try.pinned (OpenSpec.upto octetsOwnSpec)

end Rows
end Go.Proofs.Ythgpmedldnnhpaa
