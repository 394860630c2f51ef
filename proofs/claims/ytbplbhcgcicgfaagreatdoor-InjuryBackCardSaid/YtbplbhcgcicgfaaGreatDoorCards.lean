/-
  DERIVED. GIVEN WITH THE SEED: THE CARDS: each row of YtbplbhcgcicgfaaGreatDoorRows.lean that lists a variable, with what it lists TIED to the program's text (the seventh form; the later family's looks); each row that meets fmt, with fmt's text TOLD by the authors' own Lean function (tested against real Go, not proved from fmt's source: count such statements apart). THE CARD IS WHAT COUNTS. Prove the row's statement (the work); the ties are given (YtbplbhcgcicgfaaGreatDoorTie.lean); close each card by the builder's one call (the guide's Derived/Test/ToyasCard.lean, 'card_holds'). Laid BY PROGRAM, IN A SANDBOX (cutbox-door.mjs). By AI agents, Wed Nov 11 2026. No macro, syntax, notation, axiom, sorry.
-/
import Derived.Test.YtbplbhcgcicgfaaGreatDoorRows
import GoSem.ClaimSeven
namespace Go.Proofs.YtbplbhcgcicgfaaGreatDoor
namespace Rows

/-- THE TIED CARD OF 'crumplelaw06.InjuryWindows'. -/
def injuryWindowsCard : Claim7 := { stood := { row := injuryWindowsRow, standIns := [], harness := (true, "e81c058edaa740ef2b02eb760d427d96159a92905c01effdc6b72d2cbf6a29cb"), looks := false }, kinds := [], alts := [], laidByText := true, laidKinds := [.data, .data, .data, .funcs], laidTests := true, laidLooks := .later }
def InjuryWindowsCardSaid : Prop := Claim7.holds Tryz.pinned (.plain (OpenSpec.ofChange injuryWindowsSpec)) injuryWindowsCard

/-- THE TIED CARD OF 'crumplelaw06.InjuryLevels'. -/
def injuryLevelsCard : Claim7 := { stood := { row := injuryLevelsRow, standIns := [], harness := (true, "e81c058edaa740ef2b02eb760d427d96159a92905c01effdc6b72d2cbf6a29cb"), looks := false }, kinds := [], alts := [], laidByText := true, laidKinds := [.data, .data, .data, .funcs], laidTests := true, laidLooks := .later }
def InjuryLevelsCardSaid : Prop := Claim7.holds Tryz.pinned (.plain (OpenSpec.ofChange injuryLevelsSpec)) injuryLevelsCard

/-- THE TIED CARD OF 'crumplelaw06.InjurySums'. -/
def injurySumsCard : Claim7 := { stood := { row := injurySumsRow, standIns := [], harness := (true, "e81c058edaa740ef2b02eb760d427d96159a92905c01effdc6b72d2cbf6a29cb"), looks := false }, kinds := [], alts := [], laidByText := true, laidKinds := [.data, .data, .data, .funcs], laidTests := true, laidLooks := .later }
def InjurySumsCardSaid : Prop := Claim7.holds Tryz.pinned (.plain (OpenSpec.ofChange injurySumsSpec)) injurySumsCard

/-- THE TIED CARD OF 'crumplelaw06.InjuryRates'. -/
def injuryRatesCard : Claim7 := { stood := { row := injuryRatesRow, standIns := [], harness := (true, "e81c058edaa740ef2b02eb760d427d96159a92905c01effdc6b72d2cbf6a29cb"), looks := false }, kinds := [], alts := [], laidByText := true, laidKinds := [.data, .data, .data, .funcs], laidTests := true, laidLooks := .later }
def InjuryRatesCardSaid : Prop := Claim7.holds Tryz.pinned (.plain (OpenSpec.ofChange injuryRatesSpec)) injuryRatesCard

/-- THE TIED CARD OF 'crumplelaw06.InjuryBounds'. -/
def injuryBoundsCard : Claim7 := { stood := { row := injuryBoundsRow, standIns := [], harness := (true, "e81c058edaa740ef2b02eb760d427d96159a92905c01effdc6b72d2cbf6a29cb"), looks := false }, kinds := [], alts := [], laidByText := true, laidKinds := [.data, .data, .data, .funcs], laidTests := true, laidLooks := .later }
def InjuryBoundsCardSaid : Prop := Claim7.holds Tryz.pinned (.plain (OpenSpec.ofChange injuryBoundsSpec)) injuryBoundsCard

/-- THE TIED CARD OF 'crumplelaw06.InjuryJoint'. -/
def injuryJointCard : Claim7 := { stood := { row := injuryJointRow, standIns := [], harness := (true, "e81c058edaa740ef2b02eb760d427d96159a92905c01effdc6b72d2cbf6a29cb"), looks := false }, kinds := [], alts := [], laidByText := true, laidKinds := [.data, .data, .data, .funcs], laidTests := true, laidLooks := .later }
def InjuryJointCardSaid : Prop := Claim7.holds Tryz.pinned (.plain (OpenSpec.ofChange injuryJointSpec)) injuryJointCard

/-- THE TIED CARD OF 'crumplelaw06.InjuryMargins'. -/
def injuryMarginsCard : Claim7 := { stood := { row := injuryMarginsRow, standIns := [], harness := (true, "e81c058edaa740ef2b02eb760d427d96159a92905c01effdc6b72d2cbf6a29cb"), looks := false }, kinds := [], alts := [], laidByText := true, laidKinds := [.data, .data, .data, .funcs], laidTests := true, laidLooks := .later }
def InjuryMarginsCardSaid : Prop := Claim7.holds Tryz.pinned (.plain (OpenSpec.ofChange injuryMarginsSpec)) injuryMarginsCard

/-- THE TIED CARD OF 'crumplelaw06.InjuryRanks'. -/
def injuryRanksCard : Claim7 := { stood := { row := injuryRanksRow, standIns := [], harness := (true, "e81c058edaa740ef2b02eb760d427d96159a92905c01effdc6b72d2cbf6a29cb"), looks := false }, kinds := [], alts := [], laidByText := true, laidKinds := [.data, .data, .data, .funcs], laidTests := true, laidLooks := .later }
def InjuryRanksCardSaid : Prop := Claim7.holds Tryz.pinned (.plain (OpenSpec.ofChange injuryRanksSpec)) injuryRanksCard

/-- THE TIED CARD OF 'crumplelaw06.InjuryBest'. -/
def injuryBestCard : Claim7 := { stood := { row := injuryBestRow, standIns := [], harness := (true, "e81c058edaa740ef2b02eb760d427d96159a92905c01effdc6b72d2cbf6a29cb"), looks := false }, kinds := [], alts := [], laidByText := true, laidKinds := [.data, .data, .data, .funcs], laidTests := true, laidLooks := .later }
def InjuryBestCardSaid : Prop := Claim7.holds Tryz.pinned (.plain (OpenSpec.ofChange injuryBestSpec)) injuryBestCard

/-- THE TIED CARD OF 'crumplelaw06.InjuryWithin'. -/
def injuryWithinCard : Claim7 := { stood := { row := injuryWithinRow, standIns := [], harness := (true, "e81c058edaa740ef2b02eb760d427d96159a92905c01effdc6b72d2cbf6a29cb"), looks := false }, kinds := [], alts := [], laidByText := true, laidKinds := [.data, .data, .data, .funcs], laidTests := true, laidLooks := .later }
def InjuryWithinCardSaid : Prop := Claim7.holds Tryz.pinned (.plain (OpenSpec.ofChange injuryWithinSpec)) injuryWithinCard

/-- THE TIED CARD OF 'crumplelaw06.InjuryHolds'. -/
def injuryHoldsCard : Claim7 := { stood := { row := injuryHoldsRow, standIns := [], harness := (true, "e81c058edaa740ef2b02eb760d427d96159a92905c01effdc6b72d2cbf6a29cb"), looks := false }, kinds := [], alts := [], laidByText := true, laidKinds := [.data, .data, .data, .funcs], laidTests := true, laidLooks := .later }
def InjuryHoldsCardSaid : Prop := Claim7.holds Tryz.pinned (.plain (OpenSpec.ofChange injuryHoldsSpec)) injuryHoldsCard

/-- THE TIED CARD OF 'crumplelaw06.InjuryStrings'. -/
def injuryStringsCard : Claim7 := { stood := { row := injuryStringsRow, standIns := [], harness := (true, "e81c058edaa740ef2b02eb760d427d96159a92905c01effdc6b72d2cbf6a29cb"), looks := false }, kinds := [], alts := [], laidByText := true, laidKinds := [.data, .data, .data, .data, .funcs, .pinned], laidTests := true, laidLooks := .later }
def InjuryStringsCardSaid : Prop := Claim7.holds Tryz.pinned (.plain (OpenSpec.ofChange injuryStringsSpec)) injuryStringsCard

/-- THE TIED CARD OF 'crumplelaw06.InjuryBack'. -/
def injuryBackCard : Claim7 := { stood := { row := injuryBackRow, standIns := [], harness := (true, "e81c058edaa740ef2b02eb760d427d96159a92905c01effdc6b72d2cbf6a29cb"), looks := false }, kinds := [], alts := [], laidByText := true, laidKinds := [.data, .data, .data, .data, .funcs, .pinned], laidTests := true, laidLooks := .later }
def InjuryBackCardSaid : Prop := Claim7.holds Tryz.pinned (.plain (OpenSpec.ofChange injuryBackSpec)) injuryBackCard

/-- THE SECOND FORM's CARD OF 'crumplelaw06.InjuryWindows'. -/
def injuryWindowsUptoCard : Claim7 := { stood := { row := injuryWindowsUptoRow, standIns := [], harness := (true, "e81c058edaa740ef2b02eb760d427d96159a92905c01effdc6b72d2cbf6a29cb"), looks := false }, kinds := [], alts := [], laidByText := true, laidKinds := [.data, .data, .data, .funcs], laidTests := true, laidLooks := .later }
def InjuryWindowsUptoCardSaid : Prop := Claim7.holds Tryz.pinned (.plain (OpenSpec.upto injuryWindowsSpec)) injuryWindowsUptoCard

/-- THE SECOND FORM's CARD OF 'crumplelaw06.InjuryLevels'. -/
def injuryLevelsUptoCard : Claim7 := { stood := { row := injuryLevelsUptoRow, standIns := [], harness := (true, "e81c058edaa740ef2b02eb760d427d96159a92905c01effdc6b72d2cbf6a29cb"), looks := false }, kinds := [], alts := [], laidByText := true, laidKinds := [.data, .data, .data, .funcs], laidTests := true, laidLooks := .later }
def InjuryLevelsUptoCardSaid : Prop := Claim7.holds Tryz.pinned (.plain (OpenSpec.upto injuryLevelsSpec)) injuryLevelsUptoCard

/-- THE SECOND FORM's CARD OF 'crumplelaw06.InjurySums'. -/
def injurySumsUptoCard : Claim7 := { stood := { row := injurySumsUptoRow, standIns := [], harness := (true, "e81c058edaa740ef2b02eb760d427d96159a92905c01effdc6b72d2cbf6a29cb"), looks := false }, kinds := [], alts := [], laidByText := true, laidKinds := [.data, .data, .data, .funcs], laidTests := true, laidLooks := .later }
def InjurySumsUptoCardSaid : Prop := Claim7.holds Tryz.pinned (.plain (OpenSpec.upto injurySumsSpec)) injurySumsUptoCard

/-- THE SECOND FORM's CARD OF 'crumplelaw06.InjuryRates'. -/
def injuryRatesUptoCard : Claim7 := { stood := { row := injuryRatesUptoRow, standIns := [], harness := (true, "e81c058edaa740ef2b02eb760d427d96159a92905c01effdc6b72d2cbf6a29cb"), looks := false }, kinds := [], alts := [], laidByText := true, laidKinds := [.data, .data, .data, .funcs], laidTests := true, laidLooks := .later }
def InjuryRatesUptoCardSaid : Prop := Claim7.holds Tryz.pinned (.plain (OpenSpec.upto injuryRatesSpec)) injuryRatesUptoCard

/-- THE SECOND FORM's CARD OF 'crumplelaw06.InjuryBounds'. -/
def injuryBoundsUptoCard : Claim7 := { stood := { row := injuryBoundsUptoRow, standIns := [], harness := (true, "e81c058edaa740ef2b02eb760d427d96159a92905c01effdc6b72d2cbf6a29cb"), looks := false }, kinds := [], alts := [], laidByText := true, laidKinds := [.data, .data, .data, .funcs], laidTests := true, laidLooks := .later }
def InjuryBoundsUptoCardSaid : Prop := Claim7.holds Tryz.pinned (.plain (OpenSpec.upto injuryBoundsSpec)) injuryBoundsUptoCard

/-- THE SECOND FORM's CARD OF 'crumplelaw06.InjuryJoint'. -/
def injuryJointUptoCard : Claim7 := { stood := { row := injuryJointUptoRow, standIns := [], harness := (true, "e81c058edaa740ef2b02eb760d427d96159a92905c01effdc6b72d2cbf6a29cb"), looks := false }, kinds := [], alts := [], laidByText := true, laidKinds := [.data, .data, .data, .funcs], laidTests := true, laidLooks := .later }
def InjuryJointUptoCardSaid : Prop := Claim7.holds Tryz.pinned (.plain (OpenSpec.upto injuryJointSpec)) injuryJointUptoCard

/-- THE SECOND FORM's CARD OF 'crumplelaw06.InjuryMargins'. -/
def injuryMarginsUptoCard : Claim7 := { stood := { row := injuryMarginsUptoRow, standIns := [], harness := (true, "e81c058edaa740ef2b02eb760d427d96159a92905c01effdc6b72d2cbf6a29cb"), looks := false }, kinds := [], alts := [], laidByText := true, laidKinds := [.data, .data, .data, .funcs], laidTests := true, laidLooks := .later }
def InjuryMarginsUptoCardSaid : Prop := Claim7.holds Tryz.pinned (.plain (OpenSpec.upto injuryMarginsSpec)) injuryMarginsUptoCard

/-- THE SECOND FORM's CARD OF 'crumplelaw06.InjuryRanks'. -/
def injuryRanksUptoCard : Claim7 := { stood := { row := injuryRanksUptoRow, standIns := [], harness := (true, "e81c058edaa740ef2b02eb760d427d96159a92905c01effdc6b72d2cbf6a29cb"), looks := false }, kinds := [], alts := [], laidByText := true, laidKinds := [.data, .data, .data, .funcs], laidTests := true, laidLooks := .later }
def InjuryRanksUptoCardSaid : Prop := Claim7.holds Tryz.pinned (.plain (OpenSpec.upto injuryRanksSpec)) injuryRanksUptoCard

/-- THE SECOND FORM's CARD OF 'crumplelaw06.InjuryBest'. -/
def injuryBestUptoCard : Claim7 := { stood := { row := injuryBestUptoRow, standIns := [], harness := (true, "e81c058edaa740ef2b02eb760d427d96159a92905c01effdc6b72d2cbf6a29cb"), looks := false }, kinds := [], alts := [], laidByText := true, laidKinds := [.data, .data, .data, .funcs], laidTests := true, laidLooks := .later }
def InjuryBestUptoCardSaid : Prop := Claim7.holds Tryz.pinned (.plain (OpenSpec.upto injuryBestSpec)) injuryBestUptoCard

/-- THE SECOND FORM's CARD OF 'crumplelaw06.InjuryWithin'. -/
def injuryWithinUptoCard : Claim7 := { stood := { row := injuryWithinUptoRow, standIns := [], harness := (true, "e81c058edaa740ef2b02eb760d427d96159a92905c01effdc6b72d2cbf6a29cb"), looks := false }, kinds := [], alts := [], laidByText := true, laidKinds := [.data, .data, .data, .funcs], laidTests := true, laidLooks := .later }
def InjuryWithinUptoCardSaid : Prop := Claim7.holds Tryz.pinned (.plain (OpenSpec.upto injuryWithinSpec)) injuryWithinUptoCard

/-- THE SECOND FORM's CARD OF 'crumplelaw06.InjuryHolds'. -/
def injuryHoldsUptoCard : Claim7 := { stood := { row := injuryHoldsUptoRow, standIns := [], harness := (true, "e81c058edaa740ef2b02eb760d427d96159a92905c01effdc6b72d2cbf6a29cb"), looks := false }, kinds := [], alts := [], laidByText := true, laidKinds := [.data, .data, .data, .funcs], laidTests := true, laidLooks := .later }
def InjuryHoldsUptoCardSaid : Prop := Claim7.holds Tryz.pinned (.plain (OpenSpec.upto injuryHoldsSpec)) injuryHoldsUptoCard

/-- THE SECOND FORM's CARD OF 'crumplelaw06.InjuryStrings'. -/
def injuryStringsUptoCard : Claim7 := { stood := { row := injuryStringsUptoRow, standIns := [], harness := (true, "e81c058edaa740ef2b02eb760d427d96159a92905c01effdc6b72d2cbf6a29cb"), looks := false }, kinds := [], alts := [], laidByText := true, laidKinds := [.data, .data, .data, .data, .funcs, .pinned], laidTests := true, laidLooks := .later }
def InjuryStringsUptoCardSaid : Prop := Claim7.holds Tryz.pinned (.plain (OpenSpec.upto injuryStringsSpec)) injuryStringsUptoCard

/-- THE SECOND FORM's CARD OF 'crumplelaw06.InjuryBack'. -/
def injuryBackUptoCard : Claim7 := { stood := { row := injuryBackUptoRow, standIns := [], harness := (true, "e81c058edaa740ef2b02eb760d427d96159a92905c01effdc6b72d2cbf6a29cb"), looks := false }, kinds := [], alts := [], laidByText := true, laidKinds := [.data, .data, .data, .data, .funcs, .pinned], laidTests := true, laidLooks := .later }
def InjuryBackUptoCardSaid : Prop := Claim7.holds Tryz.pinned (.plain (OpenSpec.upto injuryBackSpec)) injuryBackUptoCard
end Rows
end Go.Proofs.YtbplbhcgcicgfaaGreatDoor
