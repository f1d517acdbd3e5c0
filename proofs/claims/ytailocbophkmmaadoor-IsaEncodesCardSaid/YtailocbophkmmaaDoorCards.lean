/-
  DERIVED. GIVEN WITH THE SEED: THE CARDS: each row of YtailocbophkmmaaDoorRows.lean that lists a variable, with what it lists TIED to the program's text (the seventh form; the later family's looks); each row that meets fmt, with fmt's text TOLD by the authors' own Lean function (tested against real Go, not proved from fmt's source: count such statements apart). THE CARD IS WHAT COUNTS. Prove the row's statement (the work); the ties are given (YtailocbophkmmaaDoorTie.lean); close each card by the builder's one call (the guide's Derived/Test/ToyasCard.lean, 'card_holds'). Laid BY PROGRAM, IN A SANDBOX (cutbox-door.mjs). By AI agents, Wed Nov 11 2026. No macro, syntax, notation, axiom, sorry.
-/
import Derived.Test.YtailocbophkmmaaDoorRows
import GoSem.ClaimSeven
namespace Go.Proofs.YtailocbophkmmaaDoor
namespace Rows

/-- THE TIED CARD OF 'tenementlaw04.SyndromeBack'. -/
def syndromeBackCard : Claim7 := { stood := { row := syndromeBackRow, standIns := [], harness := (true, "4d88a2742b569a2b5fc3a5072557fac08c894c44be17a5731cbd63ea11c0e7e0"), looks := false }, kinds := [], alts := [], laidByText := true, laidKinds := [.data, .data, .data, .data], laidTests := true, laidLooks := .later }
def SyndromeBackCardSaid : Prop := Claim7.holds Tryd.pinned (.plain (OpenSpec.ofChange syndromeBackSpec)) syndromeBackCard

/-- THE TIED CARD OF 'tenementlaw07.IsaDecodes'. -/
def isaDecodesCard : Claim7 := { stood := { row := isaDecodesRow, standIns := [], harness := (true, "4d88a2742b569a2b5fc3a5072557fac08c894c44be17a5731cbd63ea11c0e7e0"), looks := false }, kinds := [], alts := [], laidByText := true, laidKinds := [.data, .data, .data, .data, .data, .data, .data], laidTests := true, laidLooks := .later }
def IsaDecodesCardSaid : Prop := Claim7.holds Tryd.pinned (.plain (OpenSpec.ofChange isaDecodesSpec)) isaDecodesCard

/-- THE TIED CARD OF 'tenementlaw07.IsaEncodes'. -/
def isaEncodesCard : Claim7 := { stood := { row := isaEncodesRow, standIns := [], harness := (true, "4d88a2742b569a2b5fc3a5072557fac08c894c44be17a5731cbd63ea11c0e7e0"), looks := false }, kinds := [], alts := [], laidByText := true, laidKinds := [.data, .data, .data, .data, .data, .data, .data], laidTests := true, laidLooks := .later }
def IsaEncodesCardSaid : Prop := Claim7.holds Tryd.pinned (.plain (OpenSpec.ofChange isaEncodesSpec)) isaEncodesCard

/-- THE TIED CARD OF 'tenementlaw07.IsaBack'. -/
def isaBackCard : Claim7 := { stood := { row := isaBackRow, standIns := [], harness := (true, "4d88a2742b569a2b5fc3a5072557fac08c894c44be17a5731cbd63ea11c0e7e0"), looks := false }, kinds := [], alts := [], laidByText := true, laidKinds := [.data, .data, .data, .data, .data, .data, .data], laidTests := true, laidLooks := .later }
def IsaBackCardSaid : Prop := Claim7.holds Tryd.pinned (.plain (OpenSpec.ofChange isaBackSpec)) isaBackCard

/-- THE TIED CARD OF 'tenementlaw07.IsaImages'. -/
def isaImagesCard : Claim7 := { stood := { row := isaImagesRow, standIns := [], harness := (true, "4d88a2742b569a2b5fc3a5072557fac08c894c44be17a5731cbd63ea11c0e7e0"), looks := false }, kinds := [], alts := [], laidByText := true, laidKinds := [.data, .data, .data, .data, .data, .data, .data], laidTests := true, laidLooks := .later }
def IsaImagesCardSaid : Prop := Claim7.holds Tryd.pinned (.plain (OpenSpec.ofChange isaImagesSpec)) isaImagesCard

/-- THE SECOND FORM's CARD OF 'tenementlaw04.SyndromeBack'. -/
def syndromeBackUptoCard : Claim7 := { stood := { row := syndromeBackUptoRow, standIns := [], harness := (true, "4d88a2742b569a2b5fc3a5072557fac08c894c44be17a5731cbd63ea11c0e7e0"), looks := false }, kinds := [], alts := [], laidByText := true, laidKinds := [.data, .data, .data, .data], laidTests := true, laidLooks := .later }
def SyndromeBackUptoCardSaid : Prop := Claim7.holds Tryd.pinned (.plain (OpenSpec.upto syndromeBackSpec)) syndromeBackUptoCard

/-- THE SECOND FORM's CARD OF 'tenementlaw07.IsaDecodes'. -/
def isaDecodesUptoCard : Claim7 := { stood := { row := isaDecodesUptoRow, standIns := [], harness := (true, "4d88a2742b569a2b5fc3a5072557fac08c894c44be17a5731cbd63ea11c0e7e0"), looks := false }, kinds := [], alts := [], laidByText := true, laidKinds := [.data, .data, .data, .data, .data, .data, .data], laidTests := true, laidLooks := .later }
def IsaDecodesUptoCardSaid : Prop := Claim7.holds Tryd.pinned (.plain (OpenSpec.upto isaDecodesSpec)) isaDecodesUptoCard

/-- THE SECOND FORM's CARD OF 'tenementlaw07.IsaEncodes'. -/
def isaEncodesUptoCard : Claim7 := { stood := { row := isaEncodesUptoRow, standIns := [], harness := (true, "4d88a2742b569a2b5fc3a5072557fac08c894c44be17a5731cbd63ea11c0e7e0"), looks := false }, kinds := [], alts := [], laidByText := true, laidKinds := [.data, .data, .data, .data, .data, .data, .data], laidTests := true, laidLooks := .later }
def IsaEncodesUptoCardSaid : Prop := Claim7.holds Tryd.pinned (.plain (OpenSpec.upto isaEncodesSpec)) isaEncodesUptoCard

/-- THE SECOND FORM's CARD OF 'tenementlaw07.IsaBack'. -/
def isaBackUptoCard : Claim7 := { stood := { row := isaBackUptoRow, standIns := [], harness := (true, "4d88a2742b569a2b5fc3a5072557fac08c894c44be17a5731cbd63ea11c0e7e0"), looks := false }, kinds := [], alts := [], laidByText := true, laidKinds := [.data, .data, .data, .data, .data, .data, .data], laidTests := true, laidLooks := .later }
def IsaBackUptoCardSaid : Prop := Claim7.holds Tryd.pinned (.plain (OpenSpec.upto isaBackSpec)) isaBackUptoCard

/-- THE SECOND FORM's CARD OF 'tenementlaw07.IsaImages'. -/
def isaImagesUptoCard : Claim7 := { stood := { row := isaImagesUptoRow, standIns := [], harness := (true, "4d88a2742b569a2b5fc3a5072557fac08c894c44be17a5731cbd63ea11c0e7e0"), looks := false }, kinds := [], alts := [], laidByText := true, laidKinds := [.data, .data, .data, .data, .data, .data, .data], laidTests := true, laidLooks := .later }
def IsaImagesUptoCardSaid : Prop := Claim7.holds Tryd.pinned (.plain (OpenSpec.upto isaImagesSpec)) isaImagesUptoCard
end Rows
end Go.Proofs.YtailocbophkmmaaDoor
