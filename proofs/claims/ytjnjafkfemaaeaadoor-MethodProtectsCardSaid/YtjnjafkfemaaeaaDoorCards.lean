/-
  DERIVED. GIVEN WITH THE SEED: THE CARDS: each row of YtjnjafkfemaaeaaDoorRows.lean that lists a variable, with what it lists TIED to the program's text (the seventh form; the later family's looks); each row that meets fmt, with fmt's text TOLD by the authors' own Lean function (tested against real Go, not proved from fmt's source: count such statements apart). THE CARD IS WHAT COUNTS. Prove the row's statement (the work); the ties are given (YtjnjafkfemaaeaaDoorTie.lean); close each card by the builder's one call (the guide's Derived/Test/ToyasCard.lean, 'card_holds'). Laid BY PROGRAM, IN A SANDBOX (cutbox-door.mjs). By AI agents, Wed Nov 11 2026. No macro, syntax, notation, axiom, sorry.
-/
import Derived.Test.YtjnjafkfemaaeaaDoorRows
import GoSem.ClaimSeven
namespace Go.Proofs.YtjnjafkfemaaeaaDoor
namespace Rows

/-- THE TIED CARD OF 'wirelesslaw36.MethodChecks'. -/
def methodChecksCard : Claim7 := { stood := { row := methodChecksRow, standIns := [], harness := (true, "70695a14eb2cefb60edcc6738a7dd932d039d5e02a147590849ba2cafe830db3"), looks := false }, kinds := [], alts := [], laidByText := true, laidKinds := [.data], laidTests := true, laidLooks := .later }
def MethodChecksCardSaid : Prop := Claim7.holds Tryd.pinned (.plain (OpenSpec.ofChange methodChecksSpec)) methodChecksCard

/-- THE TIED CARD OF 'wirelesslaw36.MethodChooses'. -/
def methodChoosesCard : Claim7 := { stood := { row := methodChoosesRow, standIns := [], harness := (true, "70695a14eb2cefb60edcc6738a7dd932d039d5e02a147590849ba2cafe830db3"), looks := false }, kinds := [], alts := [], laidByText := true, laidKinds := [.data], laidTests := true, laidLooks := .later }
def MethodChoosesCardSaid : Prop := Claim7.holds Tryd.pinned (.plain (OpenSpec.ofChange methodChoosesSpec)) methodChoosesCard

/-- THE TIED CARD OF 'wirelesslaw36.MethodStrong'. -/
def methodStrongCard : Claim7 := { stood := { row := methodStrongRow, standIns := [], harness := (true, "70695a14eb2cefb60edcc6738a7dd932d039d5e02a147590849ba2cafe830db3"), looks := false }, kinds := [], alts := [], laidByText := true, laidKinds := [.data], laidTests := true, laidLooks := .later }
def MethodStrongCardSaid : Prop := Claim7.holds Tryd.pinned (.plain (OpenSpec.ofChange methodStrongSpec)) methodStrongCard

/-- THE TIED CARD OF 'wirelesslaw36.MethodProtects'. -/
def methodProtectsCard : Claim7 := { stood := { row := methodProtectsRow, standIns := [], harness := (true, "70695a14eb2cefb60edcc6738a7dd932d039d5e02a147590849ba2cafe830db3"), looks := false }, kinds := [], alts := [], laidByText := true, laidKinds := [.data], laidTests := true, laidLooks := .later }
def MethodProtectsCardSaid : Prop := Claim7.holds Tryd.pinned (.plain (OpenSpec.ofChange methodProtectsSpec)) methodProtectsCard

/-- THE TIED CARD OF 'wirelesslaw36.MethodSuffices'. -/
def methodSufficesCard : Claim7 := { stood := { row := methodSufficesRow, standIns := [], harness := (true, "70695a14eb2cefb60edcc6738a7dd932d039d5e02a147590849ba2cafe830db3"), looks := false }, kinds := [], alts := [], laidByText := true, laidKinds := [.data], laidTests := true, laidLooks := .later }
def MethodSufficesCardSaid : Prop := Claim7.holds Tryd.pinned (.plain (OpenSpec.ofChange methodSufficesSpec)) methodSufficesCard

/-- THE TIED CARD OF 'wirelesslaw36.MethodTurns'. -/
def methodTurnsCard : Claim7 := { stood := { row := methodTurnsRow, standIns := [], harness := (true, "70695a14eb2cefb60edcc6738a7dd932d039d5e02a147590849ba2cafe830db3"), looks := false }, kinds := [], alts := [], laidByText := true, laidKinds := [.data], laidTests := true, laidLooks := .later }
def MethodTurnsCardSaid : Prop := Claim7.holds Tryd.pinned (.plain (OpenSpec.ofChange methodTurnsSpec)) methodTurnsCard

/-- THE SECOND FORM's CARD OF 'wirelesslaw36.MethodChecks'. -/
def methodChecksUptoCard : Claim7 := { stood := { row := methodChecksUptoRow, standIns := [], harness := (true, "70695a14eb2cefb60edcc6738a7dd932d039d5e02a147590849ba2cafe830db3"), looks := false }, kinds := [], alts := [], laidByText := true, laidKinds := [.data], laidTests := true, laidLooks := .later }
def MethodChecksUptoCardSaid : Prop := Claim7.holds Tryd.pinned (.plain (OpenSpec.upto methodChecksSpec)) methodChecksUptoCard

/-- THE SECOND FORM's CARD OF 'wirelesslaw36.MethodChooses'. -/
def methodChoosesUptoCard : Claim7 := { stood := { row := methodChoosesUptoRow, standIns := [], harness := (true, "70695a14eb2cefb60edcc6738a7dd932d039d5e02a147590849ba2cafe830db3"), looks := false }, kinds := [], alts := [], laidByText := true, laidKinds := [.data], laidTests := true, laidLooks := .later }
def MethodChoosesUptoCardSaid : Prop := Claim7.holds Tryd.pinned (.plain (OpenSpec.upto methodChoosesSpec)) methodChoosesUptoCard

/-- THE SECOND FORM's CARD OF 'wirelesslaw36.MethodStrong'. -/
def methodStrongUptoCard : Claim7 := { stood := { row := methodStrongUptoRow, standIns := [], harness := (true, "70695a14eb2cefb60edcc6738a7dd932d039d5e02a147590849ba2cafe830db3"), looks := false }, kinds := [], alts := [], laidByText := true, laidKinds := [.data], laidTests := true, laidLooks := .later }
def MethodStrongUptoCardSaid : Prop := Claim7.holds Tryd.pinned (.plain (OpenSpec.upto methodStrongSpec)) methodStrongUptoCard

/-- THE SECOND FORM's CARD OF 'wirelesslaw36.MethodProtects'. -/
def methodProtectsUptoCard : Claim7 := { stood := { row := methodProtectsUptoRow, standIns := [], harness := (true, "70695a14eb2cefb60edcc6738a7dd932d039d5e02a147590849ba2cafe830db3"), looks := false }, kinds := [], alts := [], laidByText := true, laidKinds := [.data], laidTests := true, laidLooks := .later }
def MethodProtectsUptoCardSaid : Prop := Claim7.holds Tryd.pinned (.plain (OpenSpec.upto methodProtectsSpec)) methodProtectsUptoCard

/-- THE SECOND FORM's CARD OF 'wirelesslaw36.MethodSuffices'. -/
def methodSufficesUptoCard : Claim7 := { stood := { row := methodSufficesUptoRow, standIns := [], harness := (true, "70695a14eb2cefb60edcc6738a7dd932d039d5e02a147590849ba2cafe830db3"), looks := false }, kinds := [], alts := [], laidByText := true, laidKinds := [.data], laidTests := true, laidLooks := .later }
def MethodSufficesUptoCardSaid : Prop := Claim7.holds Tryd.pinned (.plain (OpenSpec.upto methodSufficesSpec)) methodSufficesUptoCard

/-- THE SECOND FORM's CARD OF 'wirelesslaw36.MethodTurns'. -/
def methodTurnsUptoCard : Claim7 := { stood := { row := methodTurnsUptoRow, standIns := [], harness := (true, "70695a14eb2cefb60edcc6738a7dd932d039d5e02a147590849ba2cafe830db3"), looks := false }, kinds := [], alts := [], laidByText := true, laidKinds := [.data], laidTests := true, laidLooks := .later }
def MethodTurnsUptoCardSaid : Prop := Claim7.holds Tryd.pinned (.plain (OpenSpec.upto methodTurnsSpec)) methodTurnsUptoCard
end Rows
end Go.Proofs.YtjnjafkfemaaeaaDoor
