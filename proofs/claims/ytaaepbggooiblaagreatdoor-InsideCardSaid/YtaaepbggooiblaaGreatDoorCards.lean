/-
  DERIVED. GIVEN WITH THE SEED: THE CARDS: each row of YtaaepbggooiblaaGreatDoorRows.lean that lists a variable, with what it lists TIED to the program's text (the seventh form; the later family's looks); each row that meets fmt, with fmt's text TOLD by the authors' own Lean function (tested against real Go, not proved from fmt's source: count such statements apart). THE CARD IS WHAT COUNTS. Prove the row's statement (the work); the ties are given (YtaaepbggooiblaaGreatDoorTie.lean); close each card by the builder's one call (the guide's Derived/Test/ToyasCard.lean, 'card_holds'). Laid BY PROGRAM, IN A SANDBOX (cutbox-door.mjs). By AI agents, Wed Nov 11 2026. No macro, syntax, notation, axiom, sorry.
-/
import Derived.Test.YtaaepbggooiblaaGreatDoorRows
import GoSem.ClaimSeven
namespace Go.Proofs.YtaaepbggooiblaaGreatDoor
namespace Rows

/-- THE TIED CARD OF 'marshalkeep.Again'. -/
def againCard : Claim7 := { stood := { row := againRow, standIns := [], harness := (true, "9d0667d18510fd88294b0b4d835499a0f2d206267e32e35a037392c240d68871"), looks := true }, kinds := [], alts := [], laidByText := true, laidKinds := [.pinned, .data, .data, .pinned, .pinned, .sentinel, .sentinel, .data, .data, .data], laidTests := true, laidLooks := .later }
def AgainCardSaid : Prop := Claim7.holds Tryz.pinned (.plain (OpenSpec.ofChange againSpec)) againCard

/-- THE TIED CARD OF 'marshalkeep.Apart'. -/
def apartCard : Claim7 := { stood := { row := apartRow, standIns := [], harness := (true, "9d0667d18510fd88294b0b4d835499a0f2d206267e32e35a037392c240d68871"), looks := true }, kinds := [], alts := [], laidByText := true, laidKinds := [.pinned, .data, .data, .pinned, .pinned, .sentinel, .sentinel, .data, .data, .data], laidTests := true, laidLooks := .later }
def ApartCardSaid : Prop := Claim7.holds Tryz.pinned (.plain (OpenSpec.ofChange apartSpec)) apartCard

/-- THE TIED CARD OF 'marshalkeep.Back'. -/
def backCard : Claim7 := { stood := { row := backRow, standIns := [], harness := (true, "9d0667d18510fd88294b0b4d835499a0f2d206267e32e35a037392c240d68871"), looks := true }, kinds := [], alts := [], laidByText := true, laidKinds := [.pinned, .data, .data, .pinned, .pinned, .sentinel, .sentinel, .data, .data, .data], laidTests := true, laidLooks := .later }
def BackCardSaid : Prop := Claim7.holds Tryz.pinned (.plain (OpenSpec.ofChange backSpec)) backCard

/-- THE TIED CARD OF 'marshallaw.Serves'. -/
def servesCard : Claim7 := { stood := { row := servesRow, standIns := [], harness := (true, "9d0667d18510fd88294b0b4d835499a0f2d206267e32e35a037392c240d68871"), looks := true }, kinds := [], alts := [], laidByText := true, laidKinds := [.pinned, .data, .data, .pinned, .pinned, .sentinel, .sentinel, .data, .data, .data, .handle], laidTests := true, laidLooks := .later }
def ServesCardSaid : Prop := Claim7.holds Tryz.pinned (.plain (OpenSpec.ofChange servesSpec)) servesCard

/-- THE TIED CARD OF 'marshalkeep.Forth'. -/
def forthCard : Claim7 := { stood := { row := forthRow, standIns := [], harness := (true, "9d0667d18510fd88294b0b4d835499a0f2d206267e32e35a037392c240d68871"), looks := true }, kinds := [], alts := [], laidByText := true, laidKinds := [.pinned, .data, .data, .pinned, .pinned, .sentinel, .sentinel, .data, .data, .data], laidTests := true, laidLooks := .later }
def ForthCardSaid : Prop := Claim7.holds Tryz.pinned (.plain (OpenSpec.ofChange forthSpec)) forthCard

/-- THE TIED CARD OF 'marshallaw.All'. -/
def allCard : Claim7 := { stood := { row := allRow, standIns := [], harness := (true, "9d0667d18510fd88294b0b4d835499a0f2d206267e32e35a037392c240d68871"), looks := true }, kinds := [], alts := [], laidByText := true, laidKinds := [.pinned, .data, .data, .pinned, .pinned, .sentinel, .sentinel, .data, .data, .data, .handle], laidTests := true, laidLooks := .later }
def AllCardSaid : Prop := Claim7.holds Tryz.pinned (.plain (OpenSpec.ofChange allSpec)) allCard

/-- THE TIED CARD OF 'marshalkeep.Deeper'. -/
def deeperCard : Claim7 := { stood := { row := deeperRow, standIns := [], harness := (true, "9d0667d18510fd88294b0b4d835499a0f2d206267e32e35a037392c240d68871"), looks := true }, kinds := [], alts := [], laidByText := true, laidKinds := [.pinned, .data, .data, .pinned, .pinned, .sentinel, .sentinel, .data, .data, .data], laidTests := true, laidLooks := .later }
def DeeperCardSaid : Prop := Claim7.holds Tryz.pinned (.plain (OpenSpec.ofChange deeperSpec)) deeperCard

/-- THE TIED CARD OF 'marshalkeep.Inside'. -/
def insideCard : Claim7 := { stood := { row := insideRow, standIns := [], harness := (true, "9d0667d18510fd88294b0b4d835499a0f2d206267e32e35a037392c240d68871"), looks := true }, kinds := [], alts := [], laidByText := true, laidKinds := [.pinned, .data, .data, .pinned, .pinned, .sentinel, .sentinel, .data, .data, .data], laidTests := true, laidLooks := .later }
def InsideCardSaid : Prop := Claim7.holds Tryz.pinned (.plain (OpenSpec.ofChange insideSpec)) insideCard

/-- THE TIED CARD OF 'marshalkeep.Tail'. -/
def tailCard : Claim7 := { stood := { row := tailRow, standIns := [], harness := (true, "9d0667d18510fd88294b0b4d835499a0f2d206267e32e35a037392c240d68871"), looks := true }, kinds := [], alts := [], laidByText := true, laidKinds := [.pinned, .data, .data, .pinned, .pinned, .sentinel, .sentinel, .data, .data, .data, .handle], laidTests := true, laidLooks := .later }
def TailCardSaid : Prop := Claim7.holds Tryz.pinned (.plain (OpenSpec.ofChange tailSpec)) tailCard

/-- THE TIED CARD OF 'marshalkeep.Cut'. -/
def cutCard : Claim7 := { stood := { row := cutRow, standIns := [], harness := (true, "9d0667d18510fd88294b0b4d835499a0f2d206267e32e35a037392c240d68871"), looks := true }, kinds := [], alts := [], laidByText := true, laidKinds := [.pinned, .data, .data, .pinned, .pinned, .sentinel, .sentinel, .data, .data, .data], laidTests := true, laidLooks := .later }
def CutCardSaid : Prop := Claim7.holds Tryz.pinned (.plain (OpenSpec.ofChange cutSpec)) cutCard

/-- THE TIED CARD OF 'marshallaw.Reads'. -/
def readsCard : Claim7 := { stood := { row := readsRow, standIns := [], harness := (true, "9d0667d18510fd88294b0b4d835499a0f2d206267e32e35a037392c240d68871"), looks := true }, kinds := [], alts := [], laidByText := true, laidKinds := [.pinned, .data, .data, .pinned, .pinned, .sentinel, .sentinel, .data, .data, .data, .handle], laidTests := true, laidLooks := .later }
def ReadsCardSaid : Prop := Claim7.holds Tryz.pinned (.plain (OpenSpec.ofChange readsSpec)) readsCard

/-- THE SECOND FORM's CARD OF 'marshalkeep.Again'. -/
def againUptoCard : Claim7 := { stood := { row := againUptoRow, standIns := [], harness := (true, "9d0667d18510fd88294b0b4d835499a0f2d206267e32e35a037392c240d68871"), looks := true }, kinds := [], alts := [], laidByText := true, laidKinds := [.pinned, .data, .data, .pinned, .pinned, .sentinel, .sentinel, .data, .data, .data], laidTests := true, laidLooks := .later }
def AgainUptoCardSaid : Prop := Claim7.holds Tryz.pinned (.plain (OpenSpec.upto againSpec)) againUptoCard

/-- THE SECOND FORM's CARD OF 'marshalkeep.Apart'. -/
def apartUptoCard : Claim7 := { stood := { row := apartUptoRow, standIns := [], harness := (true, "9d0667d18510fd88294b0b4d835499a0f2d206267e32e35a037392c240d68871"), looks := true }, kinds := [], alts := [], laidByText := true, laidKinds := [.pinned, .data, .data, .pinned, .pinned, .sentinel, .sentinel, .data, .data, .data], laidTests := true, laidLooks := .later }
def ApartUptoCardSaid : Prop := Claim7.holds Tryz.pinned (.plain (OpenSpec.upto apartSpec)) apartUptoCard

/-- THE SECOND FORM's CARD OF 'marshalkeep.Back'. -/
def backUptoCard : Claim7 := { stood := { row := backUptoRow, standIns := [], harness := (true, "9d0667d18510fd88294b0b4d835499a0f2d206267e32e35a037392c240d68871"), looks := true }, kinds := [], alts := [], laidByText := true, laidKinds := [.pinned, .data, .data, .pinned, .pinned, .sentinel, .sentinel, .data, .data, .data], laidTests := true, laidLooks := .later }
def BackUptoCardSaid : Prop := Claim7.holds Tryz.pinned (.plain (OpenSpec.upto backSpec)) backUptoCard

/-- THE SECOND FORM's CARD OF 'marshallaw.Serves'. -/
def servesUptoCard : Claim7 := { stood := { row := servesUptoRow, standIns := [], harness := (true, "9d0667d18510fd88294b0b4d835499a0f2d206267e32e35a037392c240d68871"), looks := true }, kinds := [], alts := [], laidByText := true, laidKinds := [.pinned, .data, .data, .pinned, .pinned, .sentinel, .sentinel, .data, .data, .data, .handle], laidTests := true, laidLooks := .later }
def ServesUptoCardSaid : Prop := Claim7.holds Tryz.pinned (.plain (OpenSpec.upto servesSpec)) servesUptoCard

/-- THE SECOND FORM's CARD OF 'marshalkeep.Forth'. -/
def forthUptoCard : Claim7 := { stood := { row := forthUptoRow, standIns := [], harness := (true, "9d0667d18510fd88294b0b4d835499a0f2d206267e32e35a037392c240d68871"), looks := true }, kinds := [], alts := [], laidByText := true, laidKinds := [.pinned, .data, .data, .pinned, .pinned, .sentinel, .sentinel, .data, .data, .data], laidTests := true, laidLooks := .later }
def ForthUptoCardSaid : Prop := Claim7.holds Tryz.pinned (.plain (OpenSpec.upto forthSpec)) forthUptoCard

/-- THE SECOND FORM's CARD OF 'marshallaw.All'. -/
def allUptoCard : Claim7 := { stood := { row := allUptoRow, standIns := [], harness := (true, "9d0667d18510fd88294b0b4d835499a0f2d206267e32e35a037392c240d68871"), looks := true }, kinds := [], alts := [], laidByText := true, laidKinds := [.pinned, .data, .data, .pinned, .pinned, .sentinel, .sentinel, .data, .data, .data, .handle], laidTests := true, laidLooks := .later }
def AllUptoCardSaid : Prop := Claim7.holds Tryz.pinned (.plain (OpenSpec.upto allSpec)) allUptoCard

/-- THE SECOND FORM's CARD OF 'marshalkeep.Deeper'. -/
def deeperUptoCard : Claim7 := { stood := { row := deeperUptoRow, standIns := [], harness := (true, "9d0667d18510fd88294b0b4d835499a0f2d206267e32e35a037392c240d68871"), looks := true }, kinds := [], alts := [], laidByText := true, laidKinds := [.pinned, .data, .data, .pinned, .pinned, .sentinel, .sentinel, .data, .data, .data], laidTests := true, laidLooks := .later }
def DeeperUptoCardSaid : Prop := Claim7.holds Tryz.pinned (.plain (OpenSpec.upto deeperSpec)) deeperUptoCard

/-- THE SECOND FORM's CARD OF 'marshalkeep.Inside'. -/
def insideUptoCard : Claim7 := { stood := { row := insideUptoRow, standIns := [], harness := (true, "9d0667d18510fd88294b0b4d835499a0f2d206267e32e35a037392c240d68871"), looks := true }, kinds := [], alts := [], laidByText := true, laidKinds := [.pinned, .data, .data, .pinned, .pinned, .sentinel, .sentinel, .data, .data, .data], laidTests := true, laidLooks := .later }
def InsideUptoCardSaid : Prop := Claim7.holds Tryz.pinned (.plain (OpenSpec.upto insideSpec)) insideUptoCard

/-- THE SECOND FORM's CARD OF 'marshalkeep.Tail'. -/
def tailUptoCard : Claim7 := { stood := { row := tailUptoRow, standIns := [], harness := (true, "9d0667d18510fd88294b0b4d835499a0f2d206267e32e35a037392c240d68871"), looks := true }, kinds := [], alts := [], laidByText := true, laidKinds := [.pinned, .data, .data, .pinned, .pinned, .sentinel, .sentinel, .data, .data, .data, .handle], laidTests := true, laidLooks := .later }
def TailUptoCardSaid : Prop := Claim7.holds Tryz.pinned (.plain (OpenSpec.upto tailSpec)) tailUptoCard

/-- THE SECOND FORM's CARD OF 'marshalkeep.Cut'. -/
def cutUptoCard : Claim7 := { stood := { row := cutUptoRow, standIns := [], harness := (true, "9d0667d18510fd88294b0b4d835499a0f2d206267e32e35a037392c240d68871"), looks := true }, kinds := [], alts := [], laidByText := true, laidKinds := [.pinned, .data, .data, .pinned, .pinned, .sentinel, .sentinel, .data, .data, .data], laidTests := true, laidLooks := .later }
def CutUptoCardSaid : Prop := Claim7.holds Tryz.pinned (.plain (OpenSpec.upto cutSpec)) cutUptoCard

/-- THE SECOND FORM's CARD OF 'marshallaw.Reads'. -/
def readsUptoCard : Claim7 := { stood := { row := readsUptoRow, standIns := [], harness := (true, "9d0667d18510fd88294b0b4d835499a0f2d206267e32e35a037392c240d68871"), looks := true }, kinds := [], alts := [], laidByText := true, laidKinds := [.pinned, .data, .data, .pinned, .pinned, .sentinel, .sentinel, .data, .data, .data, .handle], laidTests := true, laidLooks := .later }
def ReadsUptoCardSaid : Prop := Claim7.holds Tryz.pinned (.plain (OpenSpec.upto readsSpec)) readsUptoCard
end Rows
end Go.Proofs.YtaaepbggooiblaaGreatDoor
