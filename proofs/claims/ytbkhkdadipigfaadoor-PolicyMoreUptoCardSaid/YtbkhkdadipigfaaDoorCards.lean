/-
  DERIVED. GIVEN WITH THE SEED: THE CARDS: each row of YtbkhkdadipigfaaDoorRows.lean that lists a variable, with what it lists TIED to the program's text (the seventh form; the later family's looks); each row that meets fmt, with fmt's text TOLD by the authors' own Lean function (tested against real Go, not proved from fmt's source: count such statements apart). THE CARD IS WHAT COUNTS. Prove the row's statement (the work); the ties are given (YtbkhkdadipigfaaDoorTie.lean); close each card by the builder's one call (the guide's Derived/Test/ToyasCard.lean, 'card_holds'). Laid BY PROGRAM, IN A SANDBOX (cutbox-door.mjs). By AI agents, Wed Nov 11 2026. No macro, syntax, notation, axiom, sorry.
-/
import Derived.Test.YtbkhkdadipigfaaDoorRows
import GoSem.ClaimSeven
namespace Go.Proofs.YtbkhkdadipigfaaDoor
namespace Rows

/-- THE TIED CARD OF 'messuagelaw04.PathBelow'. -/
def pathBelowCard : Claim7 := { stood := { row := pathBelowRow, standIns := [], harness := (true, "6cd7b336b890baf1e3898e83635833926a690a1b12c69ebdeb4d831900a1a643"), looks := false }, kinds := [], alts := [], laidByText := true, laidKinds := [.data, .pinned], laidTests := true, laidLooks := .later }
def PathBelowCardSaid : Prop := Claim7.holds Tryd.pinned (.plain (OpenSpec.ofChange pathBelowSpec)) pathBelowCard

/-- THE TIED CARD OF 'messuagelaw04.PathCleans'. -/
def pathCleansCard : Claim7 := { stood := { row := pathCleansRow, standIns := [], harness := (true, "6cd7b336b890baf1e3898e83635833926a690a1b12c69ebdeb4d831900a1a643"), looks := false }, kinds := [], alts := [], laidByText := true, laidKinds := [.data, .pinned], laidTests := true, laidLooks := .later }
def PathCleansCardSaid : Prop := Claim7.holds Tryd.pinned (.plain (OpenSpec.ofChange pathCleansSpec)) pathCleansCard

/-- THE TIED CARD OF 'messuagelaw04.PathStays'. -/
def pathStaysCard : Claim7 := { stood := { row := pathStaysRow, standIns := [], harness := (true, "6cd7b336b890baf1e3898e83635833926a690a1b12c69ebdeb4d831900a1a643"), looks := false }, kinds := [], alts := [], laidByText := true, laidKinds := [.data, .pinned], laidTests := true, laidLooks := .later }
def PathStaysCardSaid : Prop := Claim7.holds Tryd.pinned (.plain (OpenSpec.ofChange pathStaysSpec)) pathStaysCard

/-- THE TIED CARD OF 'messuagelaw04.PathJoins'. -/
def pathJoinsCard : Claim7 := { stood := { row := pathJoinsRow, standIns := [], harness := (true, "6cd7b336b890baf1e3898e83635833926a690a1b12c69ebdeb4d831900a1a643"), looks := false }, kinds := [], alts := [], laidByText := true, laidKinds := [.data, .pinned], laidTests := true, laidLooks := .later }
def PathJoinsCardSaid : Prop := Claim7.holds Tryd.pinned (.plain (OpenSpec.ofChange pathJoinsSpec)) pathJoinsCard

/-- THE TIED CARD OF 'messuagelaw04.PathSlow'. -/
def pathSlowCard : Claim7 := { stood := { row := pathSlowRow, standIns := [], harness := (true, "6cd7b336b890baf1e3898e83635833926a690a1b12c69ebdeb4d831900a1a643"), looks := false }, kinds := [], alts := [], laidByText := true, laidKinds := [.data, .pinned], laidTests := true, laidLooks := .later }
def PathSlowCardSaid : Prop := Claim7.holds Tryd.pinned (.plain (OpenSpec.ofChange pathSlowSpec)) pathSlowCard

/-- THE TIED CARD OF 'messuagelaw04.PathTells'. -/
def pathTellsCard : Claim7 := { stood := { row := pathTellsRow, standIns := [], harness := (true, "6cd7b336b890baf1e3898e83635833926a690a1b12c69ebdeb4d831900a1a643"), looks := false }, kinds := [], alts := [], laidByText := true, laidKinds := [.data, .pinned], laidTests := true, laidLooks := .later }
def PathTellsCardSaid : Prop := Claim7.holds Tryd.pinned (.plain (OpenSpec.ofChange pathTellsSpec)) pathTellsCard

/-- THE TIED CARD OF 'messuagelaw20.PolicyPlaces'. -/
def policyPlacesCard : Claim7 := { stood := { row := policyPlacesRow, standIns := [], harness := (true, "6cd7b336b890baf1e3898e83635833926a690a1b12c69ebdeb4d831900a1a643"), looks := false }, kinds := [], alts := [], laidByText := true, laidKinds := [.data, .pinned], laidTests := true, laidLooks := .later }
def PolicyPlacesCardSaid : Prop := Claim7.holds Tryd.pinned (.plain (OpenSpec.ofChange policyPlacesSpec)) policyPlacesCard

/-- THE TIED CARD OF 'messuagelaw20.PolicyLinks'. -/
def policyLinksCard : Claim7 := { stood := { row := policyLinksRow, standIns := [], harness := (true, "6cd7b336b890baf1e3898e83635833926a690a1b12c69ebdeb4d831900a1a643"), looks := false }, kinds := [], alts := [], laidByText := true, laidKinds := [.data, .pinned], laidTests := true, laidLooks := .later }
def PolicyLinksCardSaid : Prop := Claim7.holds Tryd.pinned (.plain (OpenSpec.ofChange policyLinksSpec)) policyLinksCard

/-- THE TIED CARD OF 'messuagelaw20.PolicyMore'. -/
def policyMoreCard : Claim7 := { stood := { row := policyMoreRow, standIns := [], harness := (true, "6cd7b336b890baf1e3898e83635833926a690a1b12c69ebdeb4d831900a1a643"), looks := false }, kinds := [], alts := [], laidByText := true, laidKinds := [.data, .pinned], laidTests := true, laidLooks := .later }
def PolicyMoreCardSaid : Prop := Claim7.holds Tryd.pinned (.plain (OpenSpec.ofChange policyMoreSpec)) policyMoreCard

/-- THE TIED CARD OF 'messuagelaw20.PolicyAsks'. -/
def policyAsksCard : Claim7 := { stood := { row := policyAsksRow, standIns := [], harness := (true, "6cd7b336b890baf1e3898e83635833926a690a1b12c69ebdeb4d831900a1a643"), looks := false }, kinds := [], alts := [], laidByText := true, laidKinds := [.data, .pinned], laidTests := true, laidLooks := .later }
def PolicyAsksCardSaid : Prop := Claim7.holds Tryd.pinned (.plain (OpenSpec.ofChange policyAsksSpec)) policyAsksCard

/-- THE SECOND FORM's CARD OF 'messuagelaw04.PathBelow'. -/
def pathBelowUptoCard : Claim7 := { stood := { row := pathBelowUptoRow, standIns := [], harness := (true, "6cd7b336b890baf1e3898e83635833926a690a1b12c69ebdeb4d831900a1a643"), looks := false }, kinds := [], alts := [], laidByText := true, laidKinds := [.data, .pinned], laidTests := true, laidLooks := .later }
def PathBelowUptoCardSaid : Prop := Claim7.holds Tryd.pinned (.plain (OpenSpec.upto pathBelowSpec)) pathBelowUptoCard

/-- THE SECOND FORM's CARD OF 'messuagelaw04.PathCleans'. -/
def pathCleansUptoCard : Claim7 := { stood := { row := pathCleansUptoRow, standIns := [], harness := (true, "6cd7b336b890baf1e3898e83635833926a690a1b12c69ebdeb4d831900a1a643"), looks := false }, kinds := [], alts := [], laidByText := true, laidKinds := [.data, .pinned], laidTests := true, laidLooks := .later }
def PathCleansUptoCardSaid : Prop := Claim7.holds Tryd.pinned (.plain (OpenSpec.upto pathCleansSpec)) pathCleansUptoCard

/-- THE SECOND FORM's CARD OF 'messuagelaw04.PathStays'. -/
def pathStaysUptoCard : Claim7 := { stood := { row := pathStaysUptoRow, standIns := [], harness := (true, "6cd7b336b890baf1e3898e83635833926a690a1b12c69ebdeb4d831900a1a643"), looks := false }, kinds := [], alts := [], laidByText := true, laidKinds := [.data, .pinned], laidTests := true, laidLooks := .later }
def PathStaysUptoCardSaid : Prop := Claim7.holds Tryd.pinned (.plain (OpenSpec.upto pathStaysSpec)) pathStaysUptoCard

/-- THE SECOND FORM's CARD OF 'messuagelaw04.PathJoins'. -/
def pathJoinsUptoCard : Claim7 := { stood := { row := pathJoinsUptoRow, standIns := [], harness := (true, "6cd7b336b890baf1e3898e83635833926a690a1b12c69ebdeb4d831900a1a643"), looks := false }, kinds := [], alts := [], laidByText := true, laidKinds := [.data, .pinned], laidTests := true, laidLooks := .later }
def PathJoinsUptoCardSaid : Prop := Claim7.holds Tryd.pinned (.plain (OpenSpec.upto pathJoinsSpec)) pathJoinsUptoCard

/-- THE SECOND FORM's CARD OF 'messuagelaw04.PathSlow'. -/
def pathSlowUptoCard : Claim7 := { stood := { row := pathSlowUptoRow, standIns := [], harness := (true, "6cd7b336b890baf1e3898e83635833926a690a1b12c69ebdeb4d831900a1a643"), looks := false }, kinds := [], alts := [], laidByText := true, laidKinds := [.data, .pinned], laidTests := true, laidLooks := .later }
def PathSlowUptoCardSaid : Prop := Claim7.holds Tryd.pinned (.plain (OpenSpec.upto pathSlowSpec)) pathSlowUptoCard

/-- THE SECOND FORM's CARD OF 'messuagelaw04.PathTells'. -/
def pathTellsUptoCard : Claim7 := { stood := { row := pathTellsUptoRow, standIns := [], harness := (true, "6cd7b336b890baf1e3898e83635833926a690a1b12c69ebdeb4d831900a1a643"), looks := false }, kinds := [], alts := [], laidByText := true, laidKinds := [.data, .pinned], laidTests := true, laidLooks := .later }
def PathTellsUptoCardSaid : Prop := Claim7.holds Tryd.pinned (.plain (OpenSpec.upto pathTellsSpec)) pathTellsUptoCard

/-- THE SECOND FORM's CARD OF 'messuagelaw20.PolicyPlaces'. -/
def policyPlacesUptoCard : Claim7 := { stood := { row := policyPlacesUptoRow, standIns := [], harness := (true, "6cd7b336b890baf1e3898e83635833926a690a1b12c69ebdeb4d831900a1a643"), looks := false }, kinds := [], alts := [], laidByText := true, laidKinds := [.data, .pinned], laidTests := true, laidLooks := .later }
def PolicyPlacesUptoCardSaid : Prop := Claim7.holds Tryd.pinned (.plain (OpenSpec.upto policyPlacesSpec)) policyPlacesUptoCard

/-- THE SECOND FORM's CARD OF 'messuagelaw20.PolicyLinks'. -/
def policyLinksUptoCard : Claim7 := { stood := { row := policyLinksUptoRow, standIns := [], harness := (true, "6cd7b336b890baf1e3898e83635833926a690a1b12c69ebdeb4d831900a1a643"), looks := false }, kinds := [], alts := [], laidByText := true, laidKinds := [.data, .pinned], laidTests := true, laidLooks := .later }
def PolicyLinksUptoCardSaid : Prop := Claim7.holds Tryd.pinned (.plain (OpenSpec.upto policyLinksSpec)) policyLinksUptoCard

/-- THE SECOND FORM's CARD OF 'messuagelaw20.PolicyMore'. -/
def policyMoreUptoCard : Claim7 := { stood := { row := policyMoreUptoRow, standIns := [], harness := (true, "6cd7b336b890baf1e3898e83635833926a690a1b12c69ebdeb4d831900a1a643"), looks := false }, kinds := [], alts := [], laidByText := true, laidKinds := [.data, .pinned], laidTests := true, laidLooks := .later }
def PolicyMoreUptoCardSaid : Prop := Claim7.holds Tryd.pinned (.plain (OpenSpec.upto policyMoreSpec)) policyMoreUptoCard

/-- THE SECOND FORM's CARD OF 'messuagelaw20.PolicyAsks'. -/
def policyAsksUptoCard : Claim7 := { stood := { row := policyAsksUptoRow, standIns := [], harness := (true, "6cd7b336b890baf1e3898e83635833926a690a1b12c69ebdeb4d831900a1a643"), looks := false }, kinds := [], alts := [], laidByText := true, laidKinds := [.data, .pinned], laidTests := true, laidLooks := .later }
def PolicyAsksUptoCardSaid : Prop := Claim7.holds Tryd.pinned (.plain (OpenSpec.upto policyAsksSpec)) policyAsksUptoCard
end Rows
end Go.Proofs.YtbkhkdadipigfaaDoor
