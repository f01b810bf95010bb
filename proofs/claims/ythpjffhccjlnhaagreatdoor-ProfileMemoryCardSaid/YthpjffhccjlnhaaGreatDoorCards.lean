/-
  DERIVED. GIVEN WITH THE SEED: THE CARDS: each row of YthpjffhccjlnhaaGreatDoorRows.lean that lists a variable, with what it lists TIED to the program's text (the seventh form; the later family's looks); each row that meets fmt, with fmt's text TOLD by the authors' own Lean function (tested against real Go, not proved from fmt's source: count such statements apart). THE CARD IS WHAT COUNTS. Prove the row's statement (the work); the ties are given (YthpjffhccjlnhaaGreatDoorTie.lean); close each card by the builder's one call (the guide's Derived/Test/ToyasCard.lean, 'card_holds'). Laid BY PROGRAM, IN A SANDBOX (cutbox-door.mjs). By AI agents, Wed Nov 11 2026. No macro, syntax, notation, axiom, sorry.
-/
import Derived.Test.YthpjffhccjlnhaaGreatDoorRows
import GoSem.ClaimSeven
namespace Go.Proofs.YthpjffhccjlnhaaGreatDoor
namespace Rows

/-- THE TIED CARD OF 'conjoinlaw04.ProfileSources'. -/
def profileSourcesCard : Claim7 := { stood := { row := profileSourcesRow, standIns := [], harness := (true, "9312dfae8ea4895ac962c60189d974dab8a68fcbb85b686ba0c8820b24894da3"), looks := true }, kinds := [], alts := [], laidByText := true, laidKinds := [.data, .data, .data, .data, .sentinel, .sentinel, .pinned], laidTests := true, laidLooks := .later }
def ProfileSourcesCardSaid : Prop := Claim7.holds Tryz.pinned (.plain (OpenSpec.ofChange profileSourcesSpec)) profileSourcesCard

/-- THE TIED CARD OF 'conjoinlaw04.ProfileOverlaps'. -/
def profileOverlapsCard : Claim7 := { stood := { row := profileOverlapsRow, standIns := [], harness := (true, "9312dfae8ea4895ac962c60189d974dab8a68fcbb85b686ba0c8820b24894da3"), looks := true }, kinds := [], alts := [], laidByText := true, laidKinds := [.data, .data, .data, .data, .sentinel, .sentinel, .pinned], laidTests := true, laidLooks := .later }
def ProfileOverlapsCardSaid : Prop := Claim7.holds Tryz.pinned (.plain (OpenSpec.ofChange profileOverlapsSpec)) profileOverlapsCard

/-- THE TIED CARD OF 'conjoinlaw04.ProfileRuled'. -/
def profileRuledCard : Claim7 := { stood := { row := profileRuledRow, standIns := [], harness := (true, "9312dfae8ea4895ac962c60189d974dab8a68fcbb85b686ba0c8820b24894da3"), looks := true }, kinds := [], alts := [], laidByText := true, laidKinds := [.data, .data, .data, .data, .sentinel, .sentinel, .pinned], laidTests := true, laidLooks := .later }
def ProfileRuledCardSaid : Prop := Claim7.holds Tryz.pinned (.plain (OpenSpec.ofChange profileRuledSpec)) profileRuledCard

/-- THE TIED CARD OF 'conjoinlaw04.ProfileLeast'. -/
def profileLeastCard : Claim7 := { stood := { row := profileLeastRow, standIns := [], harness := (true, "9312dfae8ea4895ac962c60189d974dab8a68fcbb85b686ba0c8820b24894da3"), looks := true }, kinds := [], alts := [], laidByText := true, laidKinds := [.data, .data, .data, .data, .sentinel, .sentinel, .pinned], laidTests := true, laidLooks := .later }
def ProfileLeastCardSaid : Prop := Claim7.holds Tryz.pinned (.plain (OpenSpec.ofChange profileLeastSpec)) profileLeastCard

/-- THE TIED CARD OF 'conjoinlaw04.ProfileShifts'. -/
def profileShiftsCard : Claim7 := { stood := { row := profileShiftsRow, standIns := [], harness := (true, "9312dfae8ea4895ac962c60189d974dab8a68fcbb85b686ba0c8820b24894da3"), looks := true }, kinds := [], alts := [], laidByText := true, laidKinds := [.data, .data, .data, .data, .sentinel, .sentinel, .pinned], laidTests := true, laidLooks := .later }
def ProfileShiftsCardSaid : Prop := Claim7.holds Tryz.pinned (.plain (OpenSpec.ofChange profileShiftsSpec)) profileShiftsCard

/-- THE TIED CARD OF 'conjoinlaw04.ProfileNarrows'. -/
def profileNarrowsCard : Claim7 := { stood := { row := profileNarrowsRow, standIns := [], harness := (true, "9312dfae8ea4895ac962c60189d974dab8a68fcbb85b686ba0c8820b24894da3"), looks := true }, kinds := [], alts := [], laidByText := true, laidKinds := [.data, .data, .data, .data, .sentinel, .sentinel, .pinned], laidTests := true, laidLooks := .later }
def ProfileNarrowsCardSaid : Prop := Claim7.holds Tryz.pinned (.plain (OpenSpec.ofChange profileNarrowsSpec)) profileNarrowsCard

/-- THE TIED CARD OF 'conjoinlaw04.ProfileWords'. -/
def profileWordsCard : Claim7 := { stood := { row := profileWordsRow, standIns := [], harness := (true, "9312dfae8ea4895ac962c60189d974dab8a68fcbb85b686ba0c8820b24894da3"), looks := true }, kinds := [], alts := [], laidByText := true, laidKinds := [.data, .data, .data, .data, .sentinel, .sentinel, .pinned], laidTests := true, laidLooks := .later }
def ProfileWordsCardSaid : Prop := Claim7.holds Tryz.pinned (.plain (OpenSpec.ofChange profileWordsSpec)) profileWordsCard

/-- THE TIED CARD OF 'conjoinlaw04.ProfileDead'. -/
def profileDeadCard : Claim7 := { stood := { row := profileDeadRow, standIns := [], harness := (true, "9312dfae8ea4895ac962c60189d974dab8a68fcbb85b686ba0c8820b24894da3"), looks := true }, kinds := [], alts := [], laidByText := true, laidKinds := [.data, .data, .data, .data, .sentinel, .sentinel, .pinned], laidTests := true, laidLooks := .later }
def ProfileDeadCardSaid : Prop := Claim7.holds Tryz.pinned (.plain (OpenSpec.ofChange profileDeadSpec)) profileDeadCard

/-- THE TIED CARD OF 'conjoinlaw04.ProfileBlanks'. -/
def profileBlanksCard : Claim7 := { stood := { row := profileBlanksRow, standIns := [], harness := (true, "9312dfae8ea4895ac962c60189d974dab8a68fcbb85b686ba0c8820b24894da3"), looks := true }, kinds := [], alts := [], laidByText := true, laidKinds := [.data, .data, .data, .data, .sentinel, .sentinel, .pinned], laidTests := true, laidLooks := .later }
def ProfileBlanksCardSaid : Prop := Claim7.holds Tryz.pinned (.plain (OpenSpec.ofChange profileBlanksSpec)) profileBlanksCard

/-- THE TIED CARD OF 'conjoinlaw04.ProfileFits'. -/
def profileFitsCard : Claim7 := { stood := { row := profileFitsRow, standIns := [], harness := (true, "9312dfae8ea4895ac962c60189d974dab8a68fcbb85b686ba0c8820b24894da3"), looks := true }, kinds := [], alts := [], laidByText := true, laidKinds := [.data, .data, .data, .data, .sentinel, .sentinel, .pinned], laidTests := true, laidLooks := .later }
def ProfileFitsCardSaid : Prop := Claim7.holds Tryz.pinned (.plain (OpenSpec.ofChange profileFitsSpec)) profileFitsCard

/-- THE TIED CARD OF 'conjoinlaw04.ProfileOne'. -/
def profileOneCard : Claim7 := { stood := { row := profileOneRow, standIns := [], harness := (true, "9312dfae8ea4895ac962c60189d974dab8a68fcbb85b686ba0c8820b24894da3"), looks := true }, kinds := [], alts := [], laidByText := true, laidKinds := [.data, .data, .data, .data, .sentinel, .sentinel, .pinned], laidTests := true, laidLooks := .later }
def ProfileOneCardSaid : Prop := Claim7.holds Tryz.pinned (.plain (OpenSpec.ofChange profileOneSpec)) profileOneCard

/-- THE TIED CARD OF 'conjoinlaw04.ProfileEither'. -/
def profileEitherCard : Claim7 := { stood := { row := profileEitherRow, standIns := [], harness := (true, "9312dfae8ea4895ac962c60189d974dab8a68fcbb85b686ba0c8820b24894da3"), looks := true }, kinds := [], alts := [], laidByText := true, laidKinds := [.data, .data, .data, .data, .sentinel, .sentinel, .pinned], laidTests := true, laidLooks := .later }
def ProfileEitherCardSaid : Prop := Claim7.holds Tryz.pinned (.plain (OpenSpec.ofChange profileEitherSpec)) profileEitherCard

/-- THE TIED CARD OF 'conjoinlaw04.ProfileChecks'. -/
def profileChecksCard : Claim7 := { stood := { row := profileChecksRow, standIns := [], harness := (true, "9312dfae8ea4895ac962c60189d974dab8a68fcbb85b686ba0c8820b24894da3"), looks := true }, kinds := [], alts := [], laidByText := true, laidKinds := [.data, .data, .data, .data, .sentinel, .sentinel, .pinned], laidTests := true, laidLooks := .later }
def ProfileChecksCardSaid : Prop := Claim7.holds Tryz.pinned (.plain (OpenSpec.ofChange profileChecksSpec)) profileChecksCard

/-- THE TIED CARD OF 'conjoinlaw04.ProfileMemory'. -/
def profileMemoryCard : Claim7 := { stood := { row := profileMemoryRow, standIns := [], harness := (true, "9312dfae8ea4895ac962c60189d974dab8a68fcbb85b686ba0c8820b24894da3"), looks := true }, kinds := [], alts := [], laidByText := true, laidKinds := [.data, .data, .data, .data, .sentinel, .sentinel, .pinned], laidTests := true, laidLooks := .later }
def ProfileMemoryCardSaid : Prop := Claim7.holds Tryz.pinned (.plain (OpenSpec.ofChange profileMemorySpec)) profileMemoryCard

/-- THE SECOND FORM's CARD OF 'conjoinlaw04.ProfileSources'. -/
def profileSourcesUptoCard : Claim7 := { stood := { row := profileSourcesUptoRow, standIns := [], harness := (true, "9312dfae8ea4895ac962c60189d974dab8a68fcbb85b686ba0c8820b24894da3"), looks := true }, kinds := [], alts := [], laidByText := true, laidKinds := [.data, .data, .data, .data, .sentinel, .sentinel, .pinned], laidTests := true, laidLooks := .later }
def ProfileSourcesUptoCardSaid : Prop := Claim7.holds Tryz.pinned (.plain (OpenSpec.upto profileSourcesSpec)) profileSourcesUptoCard

/-- THE SECOND FORM's CARD OF 'conjoinlaw04.ProfileOverlaps'. -/
def profileOverlapsUptoCard : Claim7 := { stood := { row := profileOverlapsUptoRow, standIns := [], harness := (true, "9312dfae8ea4895ac962c60189d974dab8a68fcbb85b686ba0c8820b24894da3"), looks := true }, kinds := [], alts := [], laidByText := true, laidKinds := [.data, .data, .data, .data, .sentinel, .sentinel, .pinned], laidTests := true, laidLooks := .later }
def ProfileOverlapsUptoCardSaid : Prop := Claim7.holds Tryz.pinned (.plain (OpenSpec.upto profileOverlapsSpec)) profileOverlapsUptoCard

/-- THE SECOND FORM's CARD OF 'conjoinlaw04.ProfileRuled'. -/
def profileRuledUptoCard : Claim7 := { stood := { row := profileRuledUptoRow, standIns := [], harness := (true, "9312dfae8ea4895ac962c60189d974dab8a68fcbb85b686ba0c8820b24894da3"), looks := true }, kinds := [], alts := [], laidByText := true, laidKinds := [.data, .data, .data, .data, .sentinel, .sentinel, .pinned], laidTests := true, laidLooks := .later }
def ProfileRuledUptoCardSaid : Prop := Claim7.holds Tryz.pinned (.plain (OpenSpec.upto profileRuledSpec)) profileRuledUptoCard

/-- THE SECOND FORM's CARD OF 'conjoinlaw04.ProfileLeast'. -/
def profileLeastUptoCard : Claim7 := { stood := { row := profileLeastUptoRow, standIns := [], harness := (true, "9312dfae8ea4895ac962c60189d974dab8a68fcbb85b686ba0c8820b24894da3"), looks := true }, kinds := [], alts := [], laidByText := true, laidKinds := [.data, .data, .data, .data, .sentinel, .sentinel, .pinned], laidTests := true, laidLooks := .later }
def ProfileLeastUptoCardSaid : Prop := Claim7.holds Tryz.pinned (.plain (OpenSpec.upto profileLeastSpec)) profileLeastUptoCard

/-- THE SECOND FORM's CARD OF 'conjoinlaw04.ProfileShifts'. -/
def profileShiftsUptoCard : Claim7 := { stood := { row := profileShiftsUptoRow, standIns := [], harness := (true, "9312dfae8ea4895ac962c60189d974dab8a68fcbb85b686ba0c8820b24894da3"), looks := true }, kinds := [], alts := [], laidByText := true, laidKinds := [.data, .data, .data, .data, .sentinel, .sentinel, .pinned], laidTests := true, laidLooks := .later }
def ProfileShiftsUptoCardSaid : Prop := Claim7.holds Tryz.pinned (.plain (OpenSpec.upto profileShiftsSpec)) profileShiftsUptoCard

/-- THE SECOND FORM's CARD OF 'conjoinlaw04.ProfileNarrows'. -/
def profileNarrowsUptoCard : Claim7 := { stood := { row := profileNarrowsUptoRow, standIns := [], harness := (true, "9312dfae8ea4895ac962c60189d974dab8a68fcbb85b686ba0c8820b24894da3"), looks := true }, kinds := [], alts := [], laidByText := true, laidKinds := [.data, .data, .data, .data, .sentinel, .sentinel, .pinned], laidTests := true, laidLooks := .later }
def ProfileNarrowsUptoCardSaid : Prop := Claim7.holds Tryz.pinned (.plain (OpenSpec.upto profileNarrowsSpec)) profileNarrowsUptoCard

/-- THE SECOND FORM's CARD OF 'conjoinlaw04.ProfileWords'. -/
def profileWordsUptoCard : Claim7 := { stood := { row := profileWordsUptoRow, standIns := [], harness := (true, "9312dfae8ea4895ac962c60189d974dab8a68fcbb85b686ba0c8820b24894da3"), looks := true }, kinds := [], alts := [], laidByText := true, laidKinds := [.data, .data, .data, .data, .sentinel, .sentinel, .pinned], laidTests := true, laidLooks := .later }
def ProfileWordsUptoCardSaid : Prop := Claim7.holds Tryz.pinned (.plain (OpenSpec.upto profileWordsSpec)) profileWordsUptoCard

/-- THE SECOND FORM's CARD OF 'conjoinlaw04.ProfileDead'. -/
def profileDeadUptoCard : Claim7 := { stood := { row := profileDeadUptoRow, standIns := [], harness := (true, "9312dfae8ea4895ac962c60189d974dab8a68fcbb85b686ba0c8820b24894da3"), looks := true }, kinds := [], alts := [], laidByText := true, laidKinds := [.data, .data, .data, .data, .sentinel, .sentinel, .pinned], laidTests := true, laidLooks := .later }
def ProfileDeadUptoCardSaid : Prop := Claim7.holds Tryz.pinned (.plain (OpenSpec.upto profileDeadSpec)) profileDeadUptoCard

/-- THE SECOND FORM's CARD OF 'conjoinlaw04.ProfileBlanks'. -/
def profileBlanksUptoCard : Claim7 := { stood := { row := profileBlanksUptoRow, standIns := [], harness := (true, "9312dfae8ea4895ac962c60189d974dab8a68fcbb85b686ba0c8820b24894da3"), looks := true }, kinds := [], alts := [], laidByText := true, laidKinds := [.data, .data, .data, .data, .sentinel, .sentinel, .pinned], laidTests := true, laidLooks := .later }
def ProfileBlanksUptoCardSaid : Prop := Claim7.holds Tryz.pinned (.plain (OpenSpec.upto profileBlanksSpec)) profileBlanksUptoCard

/-- THE SECOND FORM's CARD OF 'conjoinlaw04.ProfileFits'. -/
def profileFitsUptoCard : Claim7 := { stood := { row := profileFitsUptoRow, standIns := [], harness := (true, "9312dfae8ea4895ac962c60189d974dab8a68fcbb85b686ba0c8820b24894da3"), looks := true }, kinds := [], alts := [], laidByText := true, laidKinds := [.data, .data, .data, .data, .sentinel, .sentinel, .pinned], laidTests := true, laidLooks := .later }
def ProfileFitsUptoCardSaid : Prop := Claim7.holds Tryz.pinned (.plain (OpenSpec.upto profileFitsSpec)) profileFitsUptoCard

/-- THE SECOND FORM's CARD OF 'conjoinlaw04.ProfileOne'. -/
def profileOneUptoCard : Claim7 := { stood := { row := profileOneUptoRow, standIns := [], harness := (true, "9312dfae8ea4895ac962c60189d974dab8a68fcbb85b686ba0c8820b24894da3"), looks := true }, kinds := [], alts := [], laidByText := true, laidKinds := [.data, .data, .data, .data, .sentinel, .sentinel, .pinned], laidTests := true, laidLooks := .later }
def ProfileOneUptoCardSaid : Prop := Claim7.holds Tryz.pinned (.plain (OpenSpec.upto profileOneSpec)) profileOneUptoCard

/-- THE SECOND FORM's CARD OF 'conjoinlaw04.ProfileEither'. -/
def profileEitherUptoCard : Claim7 := { stood := { row := profileEitherUptoRow, standIns := [], harness := (true, "9312dfae8ea4895ac962c60189d974dab8a68fcbb85b686ba0c8820b24894da3"), looks := true }, kinds := [], alts := [], laidByText := true, laidKinds := [.data, .data, .data, .data, .sentinel, .sentinel, .pinned], laidTests := true, laidLooks := .later }
def ProfileEitherUptoCardSaid : Prop := Claim7.holds Tryz.pinned (.plain (OpenSpec.upto profileEitherSpec)) profileEitherUptoCard

/-- THE SECOND FORM's CARD OF 'conjoinlaw04.ProfileChecks'. -/
def profileChecksUptoCard : Claim7 := { stood := { row := profileChecksUptoRow, standIns := [], harness := (true, "9312dfae8ea4895ac962c60189d974dab8a68fcbb85b686ba0c8820b24894da3"), looks := true }, kinds := [], alts := [], laidByText := true, laidKinds := [.data, .data, .data, .data, .sentinel, .sentinel, .pinned], laidTests := true, laidLooks := .later }
def ProfileChecksUptoCardSaid : Prop := Claim7.holds Tryz.pinned (.plain (OpenSpec.upto profileChecksSpec)) profileChecksUptoCard

/-- THE SECOND FORM's CARD OF 'conjoinlaw04.ProfileMemory'. -/
def profileMemoryUptoCard : Claim7 := { stood := { row := profileMemoryUptoRow, standIns := [], harness := (true, "9312dfae8ea4895ac962c60189d974dab8a68fcbb85b686ba0c8820b24894da3"), looks := true }, kinds := [], alts := [], laidByText := true, laidKinds := [.data, .data, .data, .data, .sentinel, .sentinel, .pinned], laidTests := true, laidLooks := .later }
def ProfileMemoryUptoCardSaid : Prop := Claim7.holds Tryz.pinned (.plain (OpenSpec.upto profileMemorySpec)) profileMemoryUptoCard
end Rows
end Go.Proofs.YthpjffhccjlnhaaGreatDoor
