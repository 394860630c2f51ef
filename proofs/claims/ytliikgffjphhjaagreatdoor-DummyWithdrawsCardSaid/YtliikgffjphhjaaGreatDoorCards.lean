/-
  DERIVED. GIVEN WITH THE SEED: THE CARDS: each row of YtliikgffjphhjaaGreatDoorRows.lean that lists a variable, with what it lists TIED to the program's text (the seventh form; the later family's looks); each row that meets fmt, with fmt's text TOLD by the authors' own Lean function (tested against real Go, not proved from fmt's source: count such statements apart). THE CARD IS WHAT COUNTS. Prove the row's statement (the work); the ties are given (YtliikgffjphhjaaGreatDoorTie.lean); close each card by the builder's one call (the guide's Derived/Test/ToyasCard.lean, 'card_holds'). Laid BY PROGRAM, IN A SANDBOX (cutbox-door.mjs). By AI agents, Wed Nov 11 2026. No macro, syntax, notation, axiom, sorry.
-/
import Derived.Test.YtliikgffjphhjaaGreatDoorRows
import GoSem.ClaimSeven
namespace Go.Proofs.YtliikgffjphhjaaGreatDoor
namespace Rows

/-- THE TIED CARD OF 'crumplelaw03.DummyTrees'. -/
def dummyTreesCard : Claim7 := { stood := { row := dummyTreesRow, standIns := [], harness := (true, "6aebcfa9cb692146de38d9ee247c6e6f730d737524af06714ee096a0e1893026"), looks := false }, kinds := [], alts := [], laidByText := true, laidKinds := [.data, .data, .data, .funcs], laidTests := true, laidLooks := .later }
def DummyTreesCardSaid : Prop := Claim7.holds Tryz.pinned (.plain (OpenSpec.ofChange dummyTreesSpec)) dummyTreesCard

/-- THE TIED CARD OF 'crumplelaw03.DummyMoments'. -/
def dummyMomentsCard : Claim7 := { stood := { row := dummyMomentsRow, standIns := [], harness := (true, "6aebcfa9cb692146de38d9ee247c6e6f730d737524af06714ee096a0e1893026"), looks := false }, kinds := [], alts := [], laidByText := true, laidKinds := [.data, .data, .data, .funcs], laidTests := true, laidLooks := .later }
def DummyMomentsCardSaid : Prop := Claim7.holds Tryz.pinned (.plain (OpenSpec.ofChange dummyMomentsSpec)) dummyMomentsCard

/-- THE TIED CARD OF 'crumplelaw03.DummyLabs'. -/
def dummyLabsCard : Claim7 := { stood := { row := dummyLabsRow, standIns := [], harness := (true, "6aebcfa9cb692146de38d9ee247c6e6f730d737524af06714ee096a0e1893026"), looks := false }, kinds := [], alts := [], laidByText := true, laidKinds := [.data, .data, .data, .funcs], laidTests := true, laidLooks := .later }
def DummyLabsCardSaid : Prop := Claim7.holds Tryz.pinned (.plain (OpenSpec.ofChange dummyLabsSpec)) dummyLabsCard

/-- THE TIED CARD OF 'crumplelaw03.DummyTests'. -/
def dummyTestsCard : Claim7 := { stood := { row := dummyTestsRow, standIns := [], harness := (true, "6aebcfa9cb692146de38d9ee247c6e6f730d737524af06714ee096a0e1893026"), looks := false }, kinds := [], alts := [], laidByText := true, laidKinds := [.data, .data, .data, .funcs], laidTests := true, laidLooks := .later }
def DummyTestsCardSaid : Prop := Claim7.holds Tryz.pinned (.plain (OpenSpec.ofChange dummyTestsSpec)) dummyTestsCard

/-- THE TIED CARD OF 'crumplelaw03.DummyDays'. -/
def dummyDaysCard : Claim7 := { stood := { row := dummyDaysRow, standIns := [], harness := (true, "6aebcfa9cb692146de38d9ee247c6e6f730d737524af06714ee096a0e1893026"), looks := false }, kinds := [], alts := [], laidByText := true, laidKinds := [.data, .data, .data, .funcs], laidTests := true, laidLooks := .later }
def DummyDaysCardSaid : Prop := Claim7.holds Tryz.pinned (.plain (OpenSpec.ofChange dummyDaysSpec)) dummyDaysCard

/-- THE TIED CARD OF 'crumplelaw03.DummySeats'. -/
def dummySeatsCard : Claim7 := { stood := { row := dummySeatsRow, standIns := [], harness := (true, "6aebcfa9cb692146de38d9ee247c6e6f730d737524af06714ee096a0e1893026"), looks := false }, kinds := [], alts := [], laidByText := true, laidKinds := [.data, .data, .data, .funcs], laidTests := true, laidLooks := .later }
def DummySeatsCardSaid : Prop := Claim7.holds Tryz.pinned (.plain (OpenSpec.ofChange dummySeatsSpec)) dummySeatsCard

/-- THE TIED CARD OF 'crumplelaw03.DummyWithdraws'. -/
def dummyWithdrawsCard : Claim7 := { stood := { row := dummyWithdrawsRow, standIns := [], harness := (true, "6aebcfa9cb692146de38d9ee247c6e6f730d737524af06714ee096a0e1893026"), looks := false }, kinds := [], alts := [], laidByText := true, laidKinds := [.data, .data, .data, .funcs], laidTests := true, laidLooks := .later }
def DummyWithdrawsCardSaid : Prop := Claim7.holds Tryz.pinned (.plain (OpenSpec.ofChange dummyWithdrawsSpec)) dummyWithdrawsCard

/-- THE TIED CARD OF 'crumplelaw03.DummyVouches'. -/
def dummyVouchesCard : Claim7 := { stood := { row := dummyVouchesRow, standIns := [], harness := (true, "6aebcfa9cb692146de38d9ee247c6e6f730d737524af06714ee096a0e1893026"), looks := false }, kinds := [], alts := [], laidByText := true, laidKinds := [.data, .data, .data, .funcs], laidTests := true, laidLooks := .later }
def DummyVouchesCardSaid : Prop := Claim7.holds Tryz.pinned (.plain (OpenSpec.ofChange dummyVouchesSpec)) dummyVouchesCard

/-- THE TIED CARD OF 'crumplelaw03.DummyStrings'. -/
def dummyStringsCard : Claim7 := { stood := { row := dummyStringsRow, standIns := [], harness := (true, "6aebcfa9cb692146de38d9ee247c6e6f730d737524af06714ee096a0e1893026"), looks := false }, kinds := [], alts := [], laidByText := true, laidKinds := [.data, .data, .data, .data, .funcs, .pinned], laidTests := true, laidLooks := .later }
def DummyStringsCardSaid : Prop := Claim7.holds Tryz.pinned (.plain (OpenSpec.ofChange dummyStringsSpec)) dummyStringsCard

/-- THE TIED CARD OF 'crumplelaw03.DummyBranches'. -/
def dummyBranchesCard : Claim7 := { stood := { row := dummyBranchesRow, standIns := [], harness := (true, "6aebcfa9cb692146de38d9ee247c6e6f730d737524af06714ee096a0e1893026"), looks := false }, kinds := [], alts := [], laidByText := true, laidKinds := [.data, .data, .data, .data, .funcs, .pinned], laidTests := true, laidLooks := .later }
def DummyBranchesCardSaid : Prop := Claim7.holds Tryz.pinned (.plain (OpenSpec.ofChange dummyBranchesSpec)) dummyBranchesCard

/-- THE SECOND FORM's CARD OF 'crumplelaw03.DummyTrees'. -/
def dummyTreesUptoCard : Claim7 := { stood := { row := dummyTreesUptoRow, standIns := [], harness := (true, "6aebcfa9cb692146de38d9ee247c6e6f730d737524af06714ee096a0e1893026"), looks := false }, kinds := [], alts := [], laidByText := true, laidKinds := [.data, .data, .data, .funcs], laidTests := true, laidLooks := .later }
def DummyTreesUptoCardSaid : Prop := Claim7.holds Tryz.pinned (.plain (OpenSpec.upto dummyTreesSpec)) dummyTreesUptoCard

/-- THE SECOND FORM's CARD OF 'crumplelaw03.DummyMoments'. -/
def dummyMomentsUptoCard : Claim7 := { stood := { row := dummyMomentsUptoRow, standIns := [], harness := (true, "6aebcfa9cb692146de38d9ee247c6e6f730d737524af06714ee096a0e1893026"), looks := false }, kinds := [], alts := [], laidByText := true, laidKinds := [.data, .data, .data, .funcs], laidTests := true, laidLooks := .later }
def DummyMomentsUptoCardSaid : Prop := Claim7.holds Tryz.pinned (.plain (OpenSpec.upto dummyMomentsSpec)) dummyMomentsUptoCard

/-- THE SECOND FORM's CARD OF 'crumplelaw03.DummyLabs'. -/
def dummyLabsUptoCard : Claim7 := { stood := { row := dummyLabsUptoRow, standIns := [], harness := (true, "6aebcfa9cb692146de38d9ee247c6e6f730d737524af06714ee096a0e1893026"), looks := false }, kinds := [], alts := [], laidByText := true, laidKinds := [.data, .data, .data, .funcs], laidTests := true, laidLooks := .later }
def DummyLabsUptoCardSaid : Prop := Claim7.holds Tryz.pinned (.plain (OpenSpec.upto dummyLabsSpec)) dummyLabsUptoCard

/-- THE SECOND FORM's CARD OF 'crumplelaw03.DummyTests'. -/
def dummyTestsUptoCard : Claim7 := { stood := { row := dummyTestsUptoRow, standIns := [], harness := (true, "6aebcfa9cb692146de38d9ee247c6e6f730d737524af06714ee096a0e1893026"), looks := false }, kinds := [], alts := [], laidByText := true, laidKinds := [.data, .data, .data, .funcs], laidTests := true, laidLooks := .later }
def DummyTestsUptoCardSaid : Prop := Claim7.holds Tryz.pinned (.plain (OpenSpec.upto dummyTestsSpec)) dummyTestsUptoCard

/-- THE SECOND FORM's CARD OF 'crumplelaw03.DummyDays'. -/
def dummyDaysUptoCard : Claim7 := { stood := { row := dummyDaysUptoRow, standIns := [], harness := (true, "6aebcfa9cb692146de38d9ee247c6e6f730d737524af06714ee096a0e1893026"), looks := false }, kinds := [], alts := [], laidByText := true, laidKinds := [.data, .data, .data, .funcs], laidTests := true, laidLooks := .later }
def DummyDaysUptoCardSaid : Prop := Claim7.holds Tryz.pinned (.plain (OpenSpec.upto dummyDaysSpec)) dummyDaysUptoCard

/-- THE SECOND FORM's CARD OF 'crumplelaw03.DummySeats'. -/
def dummySeatsUptoCard : Claim7 := { stood := { row := dummySeatsUptoRow, standIns := [], harness := (true, "6aebcfa9cb692146de38d9ee247c6e6f730d737524af06714ee096a0e1893026"), looks := false }, kinds := [], alts := [], laidByText := true, laidKinds := [.data, .data, .data, .funcs], laidTests := true, laidLooks := .later }
def DummySeatsUptoCardSaid : Prop := Claim7.holds Tryz.pinned (.plain (OpenSpec.upto dummySeatsSpec)) dummySeatsUptoCard

/-- THE SECOND FORM's CARD OF 'crumplelaw03.DummyWithdraws'. -/
def dummyWithdrawsUptoCard : Claim7 := { stood := { row := dummyWithdrawsUptoRow, standIns := [], harness := (true, "6aebcfa9cb692146de38d9ee247c6e6f730d737524af06714ee096a0e1893026"), looks := false }, kinds := [], alts := [], laidByText := true, laidKinds := [.data, .data, .data, .funcs], laidTests := true, laidLooks := .later }
def DummyWithdrawsUptoCardSaid : Prop := Claim7.holds Tryz.pinned (.plain (OpenSpec.upto dummyWithdrawsSpec)) dummyWithdrawsUptoCard

/-- THE SECOND FORM's CARD OF 'crumplelaw03.DummyVouches'. -/
def dummyVouchesUptoCard : Claim7 := { stood := { row := dummyVouchesUptoRow, standIns := [], harness := (true, "6aebcfa9cb692146de38d9ee247c6e6f730d737524af06714ee096a0e1893026"), looks := false }, kinds := [], alts := [], laidByText := true, laidKinds := [.data, .data, .data, .funcs], laidTests := true, laidLooks := .later }
def DummyVouchesUptoCardSaid : Prop := Claim7.holds Tryz.pinned (.plain (OpenSpec.upto dummyVouchesSpec)) dummyVouchesUptoCard

/-- THE SECOND FORM's CARD OF 'crumplelaw03.DummyStrings'. -/
def dummyStringsUptoCard : Claim7 := { stood := { row := dummyStringsUptoRow, standIns := [], harness := (true, "6aebcfa9cb692146de38d9ee247c6e6f730d737524af06714ee096a0e1893026"), looks := false }, kinds := [], alts := [], laidByText := true, laidKinds := [.data, .data, .data, .data, .funcs, .pinned], laidTests := true, laidLooks := .later }
def DummyStringsUptoCardSaid : Prop := Claim7.holds Tryz.pinned (.plain (OpenSpec.upto dummyStringsSpec)) dummyStringsUptoCard

/-- THE SECOND FORM's CARD OF 'crumplelaw03.DummyBranches'. -/
def dummyBranchesUptoCard : Claim7 := { stood := { row := dummyBranchesUptoRow, standIns := [], harness := (true, "6aebcfa9cb692146de38d9ee247c6e6f730d737524af06714ee096a0e1893026"), looks := false }, kinds := [], alts := [], laidByText := true, laidKinds := [.data, .data, .data, .data, .funcs, .pinned], laidTests := true, laidLooks := .later }
def DummyBranchesUptoCardSaid : Prop := Claim7.holds Tryz.pinned (.plain (OpenSpec.upto dummyBranchesSpec)) dummyBranchesUptoCard
end Rows
end Go.Proofs.YtliikgffjphhjaaGreatDoor
