/- DummyDays: the statement. -/
import Derived.Test.YtliikgffjphhjaaGreatDoorS3LiftD
import Derived.Test.YtliikgffjphhjaaGreatDoorS3Facts
namespace Go.Vm.S3
open Go.Proofs Go.RowKit Go.ChangeShapes Go.WideShapes
open Go.Proofs.YtliikgffjphhjaaGreatDoor
set_option maxRecDepth 100000
theorem m_placeD : Rows.dummyDaysRow.inPlace = Tryz.prog.inPlace 7 := by kernel_rfl
theorem m_unfolD : Rows.dummyDaysRow.unfollowed = Tryz.prog.unfollowed 7 := by kernel_rfl
theorem m_recurD : Rows.dummyDaysRow.recurses = Tryz.prog.recurses 7 := by kernel_rfl
theorem m_namedD : Rows.dummyDaysRow.named = Tryz.prog.varsNamed 7 := by kernel_rfl
theorem m_restD : restFacts Tryz.prog Tryz.f7 (OpenSpec.ofChange Rows.dummyDaysSpec).bare Rows.dummyDaysRow = true := by kernel_rfl
theorem m_funcD : Tryz.pinned.checked.prog.funcNamed Rows.dummyDaysRow.func = some 7 := by kernel_rfl
theorem m_wrapD : Tryz.f7.isWrapper Tryz.prog Rows.dummyDaysRow.wrapper Rows.dummyDaysRow.mainSum := by
 unfold Func.isWrapper; first | (rw [if_pos (by decide +kernel)]; kernel_rfl) | (rw [if_neg (by decide +kernel)]; exact ⟨rfl, rfl⟩)
theorem saidD : Rows.DummyDaysSaid :=
 OpenClaim.holds_of_cond 7 Tryz.f7 rfl rfl rfl rfl rfl rfl rfl ⟨rfl, rfl, rfl, rfl, rfl⟩ rfl rfl rfl rfl rfl m_funcD Tryz.func7
  (joined_of m_restD laidOut pMaps pStops pStopKnobs m_placeD m_unfolD m_recurD m_namedD pKeys pHeard pEnter pLifted pMake)
  (of_decide_eq_true (by kernel_rfl)) m_wrapD
  (fun os started H enc _ F => by rw [OpenClaim.pre_eq_preRow]; exact liftedD os started H enc F)
end Go.Vm.S3
