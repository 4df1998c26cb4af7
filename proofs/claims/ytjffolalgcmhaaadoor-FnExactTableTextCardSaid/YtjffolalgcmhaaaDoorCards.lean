/-
  DERIVED. GIVEN WITH THE SEED: THE CARDS: each row of YtjffolalgcmhaaaDoorRows.lean that lists a variable, with what it lists TIED to the program's text (the seventh form; the later family's looks); each row that meets fmt, with fmt's text TOLD by the authors' own Lean function (tested against real Go, not proved from fmt's source: count such statements apart). THE CARD IS WHAT COUNTS. Prove the row's statement (the work); the ties are given (YtjffolalgcmhaaaDoorTie.lean); close each card by the builder's one call (the guide's Derived/Test/ToyasCard.lean, 'card_holds'). Laid BY PROGRAM, IN A SANDBOX (cutbox-door.mjs). By AI agents, Wed Nov 11 2026. No macro, syntax, notation, axiom, sorry.
-/
import Derived.Test.YtjffolalgcmhaaaDoorRows
import GoSem.ClaimSeven
namespace Go.Proofs.YtjffolalgcmhaaaDoor
namespace Rows

/-- THE TIED CARD OF 'laws.FnExactSaidText'. -/
def fnExactSaidTextCard : Claim7 := { stood := { row := fnExactSaidTextRow, standIns := [], harness := (true, "93784f3afc58222cfd0f946ca3655f204fb08905a1f238f58d9e28e1b28f48e1"), looks := true }, kinds := [], alts := [], laidByText := true, laidKinds := [.data, .data, .data], laidTests := true, laidLooks := .later }
def FnExactSaidTextCardSaid : Prop := Claim7.holds Tryd.pinned (.plain (OpenSpec.ofChange fnExactSaidTextSpec)) fnExactSaidTextCard

/-- THE TIED CARD OF 'laws.FnExactVoteText'. -/
def fnExactVoteTextCard : Claim7 := { stood := { row := fnExactVoteTextRow, standIns := [], harness := (true, "93784f3afc58222cfd0f946ca3655f204fb08905a1f238f58d9e28e1b28f48e1"), looks := true }, kinds := [], alts := [], laidByText := true, laidKinds := [.data, .data, .data], laidTests := true, laidLooks := .later }
def FnExactVoteTextCardSaid : Prop := Claim7.holds Tryd.pinned (.plain (OpenSpec.ofChange fnExactVoteTextSpec)) fnExactVoteTextCard

/-- THE TIED CARD OF 'laws.FnExactInclText'. -/
def fnExactInclTextCard : Claim7 := { stood := { row := fnExactInclTextRow, standIns := [], harness := (true, "93784f3afc58222cfd0f946ca3655f204fb08905a1f238f58d9e28e1b28f48e1"), looks := true }, kinds := [], alts := [], laidByText := true, laidKinds := [.data, .data, .data], laidTests := true, laidLooks := .later }
def FnExactInclTextCardSaid : Prop := Claim7.holds Tryd.pinned (.plain (OpenSpec.ofChange fnExactInclTextSpec)) fnExactInclTextCard

/-- THE TIED CARD OF 'laws.FnExactHeadText'. -/
def fnExactHeadTextCard : Claim7 := { stood := { row := fnExactHeadTextRow, standIns := [], harness := (true, "93784f3afc58222cfd0f946ca3655f204fb08905a1f238f58d9e28e1b28f48e1"), looks := true }, kinds := [], alts := [], laidByText := true, laidKinds := [.data, .data, .data], laidTests := true, laidLooks := .later }
def FnExactHeadTextCardSaid : Prop := Claim7.holds Tryd.pinned (.plain (OpenSpec.ofChange fnExactHeadTextSpec)) fnExactHeadTextCard

/-- THE TIED CARD OF 'laws.FnExactTcText'. -/
def fnExactTcTextCard : Claim7 := { stood := { row := fnExactTcTextRow, standIns := [], harness := (true, "93784f3afc58222cfd0f946ca3655f204fb08905a1f238f58d9e28e1b28f48e1"), looks := true }, kinds := [], alts := [], laidByText := true, laidKinds := [.data, .data, .data], laidTests := true, laidLooks := .later }
def FnExactTcTextCardSaid : Prop := Claim7.holds Tryd.pinned (.plain (OpenSpec.ofChange fnExactTcTextSpec)) fnExactTcTextCard

/-- THE TIED CARD OF 'laws.FnExactBlockText'. -/
def fnExactBlockTextCard : Claim7 := { stood := { row := fnExactBlockTextRow, standIns := [], harness := (true, "93784f3afc58222cfd0f946ca3655f204fb08905a1f238f58d9e28e1b28f48e1"), looks := true }, kinds := [], alts := [], laidByText := true, laidKinds := [.data, .data, .data], laidTests := true, laidLooks := .later }
def FnExactBlockTextCardSaid : Prop := Claim7.holds Tryd.pinned (.plain (OpenSpec.ofChange fnExactBlockTextSpec)) fnExactBlockTextCard

/-- THE TIED CARD OF 'laws.FnExactProofText'. -/
def fnExactProofTextCard : Claim7 := { stood := { row := fnExactProofTextRow, standIns := [], harness := (true, "93784f3afc58222cfd0f946ca3655f204fb08905a1f238f58d9e28e1b28f48e1"), looks := true }, kinds := [], alts := [], laidByText := true, laidKinds := [.data, .data, .data], laidTests := true, laidLooks := .later }
def FnExactProofTextCardSaid : Prop := Claim7.holds Tryd.pinned (.plain (OpenSpec.ofChange fnExactProofTextSpec)) fnExactProofTextCard

/-- THE TIED CARD OF 'laws.FnExactTableText'. -/
def fnExactTableTextCard : Claim7 := { stood := { row := fnExactTableTextRow, standIns := [], harness := (true, "93784f3afc58222cfd0f946ca3655f204fb08905a1f238f58d9e28e1b28f48e1"), looks := true }, kinds := [], alts := [], laidByText := true, laidKinds := [.data, .data, .data], laidTests := true, laidLooks := .later }
def FnExactTableTextCardSaid : Prop := Claim7.holds Tryd.pinned (.plain (OpenSpec.ofChange fnExactTableTextSpec)) fnExactTableTextCard

/-- THE TIED CARD OF 'laws.FnExactQcText'. -/
def fnExactQcTextCard : Claim7 := { stood := { row := fnExactQcTextRow, standIns := [], harness := (true, "93784f3afc58222cfd0f946ca3655f204fb08905a1f238f58d9e28e1b28f48e1"), looks := true }, kinds := [], alts := [], laidByText := true, laidKinds := [.data, .data, .data], laidTests := true, laidLooks := .later }
def FnExactQcTextCardSaid : Prop := Claim7.holds Tryd.pinned (.plain (OpenSpec.ofChange fnExactQcTextSpec)) fnExactQcTextCard

/-- THE TIED CARD OF 'laws.FnTexts'. -/
def fnTextsCard : Claim7 := { stood := { row := fnTextsRow, standIns := [], harness := (true, "93784f3afc58222cfd0f946ca3655f204fb08905a1f238f58d9e28e1b28f48e1"), looks := true }, kinds := [], alts := [], laidByText := true, laidKinds := [.data, .data, .data, .data, .sentinel, .sentinel, .pinned], laidTests := true, laidLooks := .later }
def FnTextsCardSaid : Prop := Claim7.holds Tryd.pinned (.plain (OpenSpec.ofChange fnTextsSpec)) fnTextsCard

/-- THE SECOND FORM's CARD OF 'laws.FnExactSaidText'. -/
def fnExactSaidTextUptoCard : Claim7 := { stood := { row := fnExactSaidTextUptoRow, standIns := [], harness := (true, "93784f3afc58222cfd0f946ca3655f204fb08905a1f238f58d9e28e1b28f48e1"), looks := true }, kinds := [], alts := [], laidByText := true, laidKinds := [.data, .data, .data], laidTests := true, laidLooks := .later }
def FnExactSaidTextUptoCardSaid : Prop := Claim7.holds Tryd.pinned (.plain (OpenSpec.upto fnExactSaidTextSpec)) fnExactSaidTextUptoCard

/-- THE SECOND FORM's CARD OF 'laws.FnExactVoteText'. -/
def fnExactVoteTextUptoCard : Claim7 := { stood := { row := fnExactVoteTextUptoRow, standIns := [], harness := (true, "93784f3afc58222cfd0f946ca3655f204fb08905a1f238f58d9e28e1b28f48e1"), looks := true }, kinds := [], alts := [], laidByText := true, laidKinds := [.data, .data, .data], laidTests := true, laidLooks := .later }
def FnExactVoteTextUptoCardSaid : Prop := Claim7.holds Tryd.pinned (.plain (OpenSpec.upto fnExactVoteTextSpec)) fnExactVoteTextUptoCard

/-- THE SECOND FORM's CARD OF 'laws.FnExactInclText'. -/
def fnExactInclTextUptoCard : Claim7 := { stood := { row := fnExactInclTextUptoRow, standIns := [], harness := (true, "93784f3afc58222cfd0f946ca3655f204fb08905a1f238f58d9e28e1b28f48e1"), looks := true }, kinds := [], alts := [], laidByText := true, laidKinds := [.data, .data, .data], laidTests := true, laidLooks := .later }
def FnExactInclTextUptoCardSaid : Prop := Claim7.holds Tryd.pinned (.plain (OpenSpec.upto fnExactInclTextSpec)) fnExactInclTextUptoCard

/-- THE SECOND FORM's CARD OF 'laws.FnExactHeadText'. -/
def fnExactHeadTextUptoCard : Claim7 := { stood := { row := fnExactHeadTextUptoRow, standIns := [], harness := (true, "93784f3afc58222cfd0f946ca3655f204fb08905a1f238f58d9e28e1b28f48e1"), looks := true }, kinds := [], alts := [], laidByText := true, laidKinds := [.data, .data, .data], laidTests := true, laidLooks := .later }
def FnExactHeadTextUptoCardSaid : Prop := Claim7.holds Tryd.pinned (.plain (OpenSpec.upto fnExactHeadTextSpec)) fnExactHeadTextUptoCard

/-- THE SECOND FORM's CARD OF 'laws.FnExactTcText'. -/
def fnExactTcTextUptoCard : Claim7 := { stood := { row := fnExactTcTextUptoRow, standIns := [], harness := (true, "93784f3afc58222cfd0f946ca3655f204fb08905a1f238f58d9e28e1b28f48e1"), looks := true }, kinds := [], alts := [], laidByText := true, laidKinds := [.data, .data, .data], laidTests := true, laidLooks := .later }
def FnExactTcTextUptoCardSaid : Prop := Claim7.holds Tryd.pinned (.plain (OpenSpec.upto fnExactTcTextSpec)) fnExactTcTextUptoCard

/-- THE SECOND FORM's CARD OF 'laws.FnExactBlockText'. -/
def fnExactBlockTextUptoCard : Claim7 := { stood := { row := fnExactBlockTextUptoRow, standIns := [], harness := (true, "93784f3afc58222cfd0f946ca3655f204fb08905a1f238f58d9e28e1b28f48e1"), looks := true }, kinds := [], alts := [], laidByText := true, laidKinds := [.data, .data, .data], laidTests := true, laidLooks := .later }
def FnExactBlockTextUptoCardSaid : Prop := Claim7.holds Tryd.pinned (.plain (OpenSpec.upto fnExactBlockTextSpec)) fnExactBlockTextUptoCard

/-- THE SECOND FORM's CARD OF 'laws.FnExactProofText'. -/
def fnExactProofTextUptoCard : Claim7 := { stood := { row := fnExactProofTextUptoRow, standIns := [], harness := (true, "93784f3afc58222cfd0f946ca3655f204fb08905a1f238f58d9e28e1b28f48e1"), looks := true }, kinds := [], alts := [], laidByText := true, laidKinds := [.data, .data, .data], laidTests := true, laidLooks := .later }
def FnExactProofTextUptoCardSaid : Prop := Claim7.holds Tryd.pinned (.plain (OpenSpec.upto fnExactProofTextSpec)) fnExactProofTextUptoCard

/-- THE SECOND FORM's CARD OF 'laws.FnExactTableText'. -/
def fnExactTableTextUptoCard : Claim7 := { stood := { row := fnExactTableTextUptoRow, standIns := [], harness := (true, "93784f3afc58222cfd0f946ca3655f204fb08905a1f238f58d9e28e1b28f48e1"), looks := true }, kinds := [], alts := [], laidByText := true, laidKinds := [.data, .data, .data], laidTests := true, laidLooks := .later }
def FnExactTableTextUptoCardSaid : Prop := Claim7.holds Tryd.pinned (.plain (OpenSpec.upto fnExactTableTextSpec)) fnExactTableTextUptoCard

/-- THE SECOND FORM's CARD OF 'laws.FnExactQcText'. -/
def fnExactQcTextUptoCard : Claim7 := { stood := { row := fnExactQcTextUptoRow, standIns := [], harness := (true, "93784f3afc58222cfd0f946ca3655f204fb08905a1f238f58d9e28e1b28f48e1"), looks := true }, kinds := [], alts := [], laidByText := true, laidKinds := [.data, .data, .data], laidTests := true, laidLooks := .later }
def FnExactQcTextUptoCardSaid : Prop := Claim7.holds Tryd.pinned (.plain (OpenSpec.upto fnExactQcTextSpec)) fnExactQcTextUptoCard

/-- THE SECOND FORM's CARD OF 'laws.FnTexts'. -/
def fnTextsUptoCard : Claim7 := { stood := { row := fnTextsUptoRow, standIns := [], harness := (true, "93784f3afc58222cfd0f946ca3655f204fb08905a1f238f58d9e28e1b28f48e1"), looks := true }, kinds := [], alts := [], laidByText := true, laidKinds := [.data, .data, .data, .data, .sentinel, .sentinel, .pinned], laidTests := true, laidLooks := .later }
def FnTextsUptoCardSaid : Prop := Claim7.holds Tryd.pinned (.plain (OpenSpec.upto fnTextsSpec)) fnTextsUptoCard
end Rows
end Go.Proofs.YtjffolalgcmhaaaDoor
