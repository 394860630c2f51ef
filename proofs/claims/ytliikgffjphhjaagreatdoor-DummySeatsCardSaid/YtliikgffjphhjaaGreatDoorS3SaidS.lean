/- DummySeats: the statement. -/
import Derived.Test.YtliikgffjphhjaaGreatDoorS3LiftS
import Derived.Test.YtliikgffjphhjaaGreatDoorS3Facts
namespace Go.Vm.S3
open Go.Proofs Go.RowKit Go.ChangeShapes Go.WideShapes
open Go.Proofs.YtliikgffjphhjaaGreatDoor
set_option maxRecDepth 100000

theorem m_placeS : Rows.dummySeatsRow.inPlace = Tryz.prog.inPlace 8 := by kernel_rfl
theorem m_unfolS : Rows.dummySeatsRow.unfollowed = Tryz.prog.unfollowed 8 := by kernel_rfl
theorem m_recurS : Rows.dummySeatsRow.recurses = Tryz.prog.recurses 8 := by kernel_rfl
theorem m_namedS : Rows.dummySeatsRow.named = Tryz.prog.varsNamed 8 := by kernel_rfl
theorem m_restS : restFacts Tryz.prog Tryz.f8 (OpenSpec.ofChange Rows.dummySeatsSpec).bare Rows.dummySeatsRow = true := by kernel_rfl
theorem m_funcS : Tryz.pinned.checked.prog.funcNamed Rows.dummySeatsRow.func = some 8 := by kernel_rfl
theorem m_wrapS : Tryz.f8.isWrapper Tryz.prog Rows.dummySeatsRow.wrapper Rows.dummySeatsRow.mainSum := by
  unfold Func.isWrapper; first | (rw [if_pos (by decide +kernel)]; kernel_rfl) | (rw [if_neg (by decide +kernel)]; exact ⟨rfl, rfl⟩)
theorem saidS : Rows.DummySeatsSaid :=
  OpenClaim.holds_of_cond 8 Tryz.f8 rfl rfl rfl rfl rfl rfl rfl ⟨rfl, rfl, rfl, rfl, rfl⟩ rfl rfl rfl rfl rfl m_funcS Tryz.func8
    (joined_of m_restS laidOut pMaps pStops pStopKnobs m_placeS m_unfolS m_recurS m_namedS pKeys pHeard pEnter pLifted pMake)
    (of_decide_eq_true (by kernel_rfl)) m_wrapS
    (fun os started H enc _ F => by rw [OpenClaim.pre_eq_preRow]; exact liftedS os started H enc F)
end Go.Vm.S3
