/-
  DERIVED. GIVEN WITH THE SEED: THE CARDS: each row of YtbkffeabikjnhaaDoorRows.lean that lists a variable, with what it lists TIED to the program's text (the seventh form; the later family's looks); each row that meets fmt, with fmt's text TOLD by the authors' own Lean function (tested against real Go, not proved from fmt's source: count such statements apart). THE CARD IS WHAT COUNTS. Prove the row's statement (the work); the ties are given (YtbkffeabikjnhaaDoorTie.lean); close each card by the builder's one call (the guide's Derived/Test/ToyasCard.lean, 'card_holds'). Laid BY PROGRAM, IN A SANDBOX (cutbox-door.mjs). By AI agents, Wed Nov 11 2026. No macro, syntax, notation, axiom, sorry.
-/
import Derived.Test.YtbkffeabikjnhaaDoorRows
import GoSem.ClaimSeven
namespace Go.Proofs.YtbkffeabikjnhaaDoor
namespace Rows

/-- THE TIED CARD OF 'crannoglaw29.StoryText'. -/
def storyTextCard : Claim7 := { stood := { row := storyTextRow, standIns := [], harness := (true, "a93b504af0edc5d3129032c1e006f677a24c686fd7bba79fa3842a5f452f82fe"), looks := true }, kinds := [], alts := [], laidByText := true, laidKinds := [.data, .data, .data], laidTests := true, laidLooks := .later }
def StoryTextCardSaid : Prop := Claim7.holds Tryd.pinned (.plain (OpenSpec.ofChange storyTextSpec)) storyTextCard

/-- THE TIED CARD OF 'crannoglaw18.MsgChecks'. -/
def msgChecksCard : Claim7 := { stood := { row := msgChecksRow, standIns := [], harness := (true, "a93b504af0edc5d3129032c1e006f677a24c686fd7bba79fa3842a5f452f82fe"), looks := true }, kinds := [], alts := [], laidByText := true, laidKinds := [.data, .data, .data], laidTests := true, laidLooks := .later }
def MsgChecksCardSaid : Prop := Claim7.holds Tryd.pinned (.plain (OpenSpec.ofChange msgChecksSpec)) msgChecksCard

/-- THE TIED CARD OF 'crannoglaw18.MsgPuts'. -/
def msgPutsCard : Claim7 := { stood := { row := msgPutsRow, standIns := [], harness := (true, "a93b504af0edc5d3129032c1e006f677a24c686fd7bba79fa3842a5f452f82fe"), looks := true }, kinds := [], alts := [], laidByText := true, laidKinds := [.data, .data, .data], laidTests := true, laidLooks := .later }
def MsgPutsCardSaid : Prop := Claim7.holds Tryd.pinned (.plain (OpenSpec.ofChange msgPutsSpec)) msgPutsCard

/-- THE TIED CARD OF 'crannoglaw18.MsgGets'. -/
def msgGetsCard : Claim7 := { stood := { row := msgGetsRow, standIns := [], harness := (true, "a93b504af0edc5d3129032c1e006f677a24c686fd7bba79fa3842a5f452f82fe"), looks := true }, kinds := [], alts := [], laidByText := true, laidKinds := [.data, .data, .data], laidTests := true, laidLooks := .later }
def MsgGetsCardSaid : Prop := Claim7.holds Tryd.pinned (.plain (OpenSpec.ofChange msgGetsSpec)) msgGetsCard

/-- THE TIED CARD OF 'crannoglaw18.MsgBack'. -/
def msgBackCard : Claim7 := { stood := { row := msgBackRow, standIns := [], harness := (true, "a93b504af0edc5d3129032c1e006f677a24c686fd7bba79fa3842a5f452f82fe"), looks := true }, kinds := [], alts := [], laidByText := true, laidKinds := [.data, .data, .data], laidTests := true, laidLooks := .later }
def MsgBackCardSaid : Prop := Claim7.holds Tryd.pinned (.plain (OpenSpec.ofChange msgBackSpec)) msgBackCard

/-- THE TIED CARD OF 'crannoglaw18.MsgTold'. -/
def msgToldCard : Claim7 := { stood := { row := msgToldRow, standIns := [], harness := (true, "a93b504af0edc5d3129032c1e006f677a24c686fd7bba79fa3842a5f452f82fe"), looks := true }, kinds := [], alts := [], laidByText := true, laidKinds := [.data, .data, .data], laidTests := true, laidLooks := .later }
def MsgToldCardSaid : Prop := Claim7.holds Tryd.pinned (.plain (OpenSpec.ofChange msgToldSpec)) msgToldCard

/-- THE TIED CARD OF 'crannoglaw29.StoryOrder'. -/
def storyOrderCard : Claim7 := { stood := { row := storyOrderRow, standIns := [], harness := (true, "a93b504af0edc5d3129032c1e006f677a24c686fd7bba79fa3842a5f452f82fe"), looks := true }, kinds := [], alts := [], laidByText := true, laidKinds := [.data, .data, .data], laidTests := true, laidLooks := .later }
def StoryOrderCardSaid : Prop := Claim7.holds Tryd.pinned (.plain (OpenSpec.ofChange storyOrderSpec)) storyOrderCard

/-- THE TIED CARD OF 'crannoglaw29.StoryLists'. -/
def storyListsCard : Claim7 := { stood := { row := storyListsRow, standIns := [], harness := (true, "a93b504af0edc5d3129032c1e006f677a24c686fd7bba79fa3842a5f452f82fe"), looks := true }, kinds := [], alts := [], laidByText := true, laidKinds := [.data, .data, .data], laidTests := true, laidLooks := .later }
def StoryListsCardSaid : Prop := Claim7.holds Tryd.pinned (.plain (OpenSpec.ofChange storyListsSpec)) storyListsCard

/-- THE SECOND FORM's CARD OF 'crannoglaw29.StoryText'. -/
def storyTextUptoCard : Claim7 := { stood := { row := storyTextUptoRow, standIns := [], harness := (true, "a93b504af0edc5d3129032c1e006f677a24c686fd7bba79fa3842a5f452f82fe"), looks := true }, kinds := [], alts := [], laidByText := true, laidKinds := [.data, .data, .data], laidTests := true, laidLooks := .later }
def StoryTextUptoCardSaid : Prop := Claim7.holds Tryd.pinned (.plain (OpenSpec.upto storyTextSpec)) storyTextUptoCard

/-- THE SECOND FORM's CARD OF 'crannoglaw18.MsgChecks'. -/
def msgChecksUptoCard : Claim7 := { stood := { row := msgChecksUptoRow, standIns := [], harness := (true, "a93b504af0edc5d3129032c1e006f677a24c686fd7bba79fa3842a5f452f82fe"), looks := true }, kinds := [], alts := [], laidByText := true, laidKinds := [.data, .data, .data], laidTests := true, laidLooks := .later }
def MsgChecksUptoCardSaid : Prop := Claim7.holds Tryd.pinned (.plain (OpenSpec.upto msgChecksSpec)) msgChecksUptoCard

/-- THE SECOND FORM's CARD OF 'crannoglaw18.MsgPuts'. -/
def msgPutsUptoCard : Claim7 := { stood := { row := msgPutsUptoRow, standIns := [], harness := (true, "a93b504af0edc5d3129032c1e006f677a24c686fd7bba79fa3842a5f452f82fe"), looks := true }, kinds := [], alts := [], laidByText := true, laidKinds := [.data, .data, .data], laidTests := true, laidLooks := .later }
def MsgPutsUptoCardSaid : Prop := Claim7.holds Tryd.pinned (.plain (OpenSpec.upto msgPutsSpec)) msgPutsUptoCard

/-- THE SECOND FORM's CARD OF 'crannoglaw18.MsgGets'. -/
def msgGetsUptoCard : Claim7 := { stood := { row := msgGetsUptoRow, standIns := [], harness := (true, "a93b504af0edc5d3129032c1e006f677a24c686fd7bba79fa3842a5f452f82fe"), looks := true }, kinds := [], alts := [], laidByText := true, laidKinds := [.data, .data, .data], laidTests := true, laidLooks := .later }
def MsgGetsUptoCardSaid : Prop := Claim7.holds Tryd.pinned (.plain (OpenSpec.upto msgGetsSpec)) msgGetsUptoCard

/-- THE SECOND FORM's CARD OF 'crannoglaw18.MsgBack'. -/
def msgBackUptoCard : Claim7 := { stood := { row := msgBackUptoRow, standIns := [], harness := (true, "a93b504af0edc5d3129032c1e006f677a24c686fd7bba79fa3842a5f452f82fe"), looks := true }, kinds := [], alts := [], laidByText := true, laidKinds := [.data, .data, .data], laidTests := true, laidLooks := .later }
def MsgBackUptoCardSaid : Prop := Claim7.holds Tryd.pinned (.plain (OpenSpec.upto msgBackSpec)) msgBackUptoCard

/-- THE SECOND FORM's CARD OF 'crannoglaw18.MsgTold'. -/
def msgToldUptoCard : Claim7 := { stood := { row := msgToldUptoRow, standIns := [], harness := (true, "a93b504af0edc5d3129032c1e006f677a24c686fd7bba79fa3842a5f452f82fe"), looks := true }, kinds := [], alts := [], laidByText := true, laidKinds := [.data, .data, .data], laidTests := true, laidLooks := .later }
def MsgToldUptoCardSaid : Prop := Claim7.holds Tryd.pinned (.plain (OpenSpec.upto msgToldSpec)) msgToldUptoCard

/-- THE SECOND FORM's CARD OF 'crannoglaw29.StoryOrder'. -/
def storyOrderUptoCard : Claim7 := { stood := { row := storyOrderUptoRow, standIns := [], harness := (true, "a93b504af0edc5d3129032c1e006f677a24c686fd7bba79fa3842a5f452f82fe"), looks := true }, kinds := [], alts := [], laidByText := true, laidKinds := [.data, .data, .data], laidTests := true, laidLooks := .later }
def StoryOrderUptoCardSaid : Prop := Claim7.holds Tryd.pinned (.plain (OpenSpec.upto storyOrderSpec)) storyOrderUptoCard

/-- THE SECOND FORM's CARD OF 'crannoglaw29.StoryLists'. -/
def storyListsUptoCard : Claim7 := { stood := { row := storyListsUptoRow, standIns := [], harness := (true, "a93b504af0edc5d3129032c1e006f677a24c686fd7bba79fa3842a5f452f82fe"), looks := true }, kinds := [], alts := [], laidByText := true, laidKinds := [.data, .data, .data], laidTests := true, laidLooks := .later }
def StoryListsUptoCardSaid : Prop := Claim7.holds Tryd.pinned (.plain (OpenSpec.upto storyListsSpec)) storyListsUptoCard
end Rows
end Go.Proofs.YtbkffeabikjnhaaDoor
