/-
  DERIVED. GIVEN WITH THE SEED: THE CARDS: each row of YtjffolalgcmhaaaGreatDoorRows.lean that lists a variable, with what it lists TIED to the program's text (the seventh form; the later family's looks); each row that meets fmt, with fmt's text TOLD by the authors' own Lean function (tested against real Go, not proved from fmt's source: count such statements apart). THE CARD IS WHAT COUNTS. Prove the row's statement (the work); the ties are given (YtjffolalgcmhaaaGreatDoorTie.lean); close each card by the builder's one call (the guide's Derived/Test/ToyasCard.lean, 'card_holds'). Laid BY PROGRAM, IN A SANDBOX (cutbox-door.mjs). By AI agents, Wed Nov 11 2026. No macro, syntax, notation, axiom, sorry.
-/
import Derived.Test.YtjffolalgcmhaaaGreatDoorRows
import GoSem.ClaimSeven
namespace Go.Proofs.YtjffolalgcmhaaaGreatDoor
namespace Rows

/-- THE TIED CARD OF 'laws.FnExactMsgText'. -/
def fnExactMsgTextCard : Claim7 := { stood := { row := fnExactMsgTextRow, standIns := [], harness := (true, "08f44a4c4387bfbc41cfee85123740fd172615ac8827d42bbb91ecd111df48f9"), looks := false }, kinds := [], alts := [], laidByText := true, laidKinds := [.data, .data, .data], laidTests := true, laidLooks := .later }
def FnExactMsgTextCardSaid : Prop := Claim7.holds Tryz.pinned (.plain (OpenSpec.ofChange fnExactMsgTextSpec)) fnExactMsgTextCard

/-- THE SECOND FORM's CARD OF 'laws.FnExactMsgText'. -/
def fnExactMsgTextUptoCard : Claim7 := { stood := { row := fnExactMsgTextUptoRow, standIns := [], harness := (true, "08f44a4c4387bfbc41cfee85123740fd172615ac8827d42bbb91ecd111df48f9"), looks := false }, kinds := [], alts := [], laidByText := true, laidKinds := [.data, .data, .data], laidTests := true, laidLooks := .later }
def FnExactMsgTextUptoCardSaid : Prop := Claim7.holds Tryz.pinned (.plain (OpenSpec.upto fnExactMsgTextSpec)) fnExactMsgTextUptoCard
end Rows
end Go.Proofs.YtjffolalgcmhaaaGreatDoor
