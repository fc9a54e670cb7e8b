/-
  DERIVED. GIVEN WITH THE SEED: THE CARDS: each row of YtebpacmhdkgfeaaDoorRows.lean that lists a variable, with what it lists TIED to the program's text (the seventh form; the later family's looks); each row that meets fmt, with fmt's text TOLD by the authors' own Lean function (tested against real Go, not proved from fmt's source: count such statements apart). THE CARD IS WHAT COUNTS. Prove the row's statement (the work); the ties are given (YtebpacmhdkgfeaaDoorTie.lean); close each card by the builder's one call (the guide's Derived/Test/ToyasCard.lean, 'card_holds'). Laid BY PROGRAM, IN A SANDBOX (cutbox-door.mjs). By AI agents, Wed Nov 11 2026. No macro, syntax, notation, axiom, sorry.
-/
import Derived.Test.YtebpacmhdkgfeaaDoorRows
import GoSem.ClaimSeven
namespace Go.Proofs.YtebpacmhdkgfeaaDoor
namespace Rows

/-- THE TIED CARD OF 'crannoglaw29.StoryText'. -/
def storyTextCard : Claim7 := { stood := { row := storyTextRow, standIns := [], harness := (true, "454f3c82c0a7618d99b34e9f37bd3f6d36a6b2e0813d548b5e980723dce620c7"), looks := false }, kinds := [], alts := [], laidByText := true, laidKinds := [.data, .data, .data], laidTests := true, laidLooks := .later }
def StoryTextCardSaid : Prop := Claim7.holds Tryd.pinned (.plain (OpenSpec.ofChange storyTextSpec)) storyTextCard

/-- THE TIED CARD OF 'crannoglaw29.StoryOrder'. -/
def storyOrderCard : Claim7 := { stood := { row := storyOrderRow, standIns := [], harness := (true, "454f3c82c0a7618d99b34e9f37bd3f6d36a6b2e0813d548b5e980723dce620c7"), looks := false }, kinds := [], alts := [], laidByText := true, laidKinds := [.data, .data, .data], laidTests := true, laidLooks := .later }
def StoryOrderCardSaid : Prop := Claim7.holds Tryd.pinned (.plain (OpenSpec.ofChange storyOrderSpec)) storyOrderCard

/-- THE TIED CARD OF 'crannoglaw29.StoryLists'. -/
def storyListsCard : Claim7 := { stood := { row := storyListsRow, standIns := [], harness := (true, "454f3c82c0a7618d99b34e9f37bd3f6d36a6b2e0813d548b5e980723dce620c7"), looks := false }, kinds := [], alts := [], laidByText := true, laidKinds := [.data, .data, .data], laidTests := true, laidLooks := .later }
def StoryListsCardSaid : Prop := Claim7.holds Tryd.pinned (.plain (OpenSpec.ofChange storyListsSpec)) storyListsCard

/-- THE SECOND FORM's CARD OF 'crannoglaw29.StoryText'. -/
def storyTextUptoCard : Claim7 := { stood := { row := storyTextUptoRow, standIns := [], harness := (true, "454f3c82c0a7618d99b34e9f37bd3f6d36a6b2e0813d548b5e980723dce620c7"), looks := false }, kinds := [], alts := [], laidByText := true, laidKinds := [.data, .data, .data], laidTests := true, laidLooks := .later }
def StoryTextUptoCardSaid : Prop := Claim7.holds Tryd.pinned (.plain (OpenSpec.upto storyTextSpec)) storyTextUptoCard

/-- THE SECOND FORM's CARD OF 'crannoglaw29.StoryOrder'. -/
def storyOrderUptoCard : Claim7 := { stood := { row := storyOrderUptoRow, standIns := [], harness := (true, "454f3c82c0a7618d99b34e9f37bd3f6d36a6b2e0813d548b5e980723dce620c7"), looks := false }, kinds := [], alts := [], laidByText := true, laidKinds := [.data, .data, .data], laidTests := true, laidLooks := .later }
def StoryOrderUptoCardSaid : Prop := Claim7.holds Tryd.pinned (.plain (OpenSpec.upto storyOrderSpec)) storyOrderUptoCard

/-- THE SECOND FORM's CARD OF 'crannoglaw29.StoryLists'. -/
def storyListsUptoCard : Claim7 := { stood := { row := storyListsUptoRow, standIns := [], harness := (true, "454f3c82c0a7618d99b34e9f37bd3f6d36a6b2e0813d548b5e980723dce620c7"), looks := false }, kinds := [], alts := [], laidByText := true, laidKinds := [.data, .data, .data], laidTests := true, laidLooks := .later }
def StoryListsUptoCardSaid : Prop := Claim7.holds Tryd.pinned (.plain (OpenSpec.upto storyListsSpec)) storyListsUptoCard
end Rows
end Go.Proofs.YtebpacmhdkgfeaaDoor
