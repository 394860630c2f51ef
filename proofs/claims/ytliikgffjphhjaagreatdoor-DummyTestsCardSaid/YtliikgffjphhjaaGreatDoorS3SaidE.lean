/- DummyTests: the statement. -/
import Derived.Test.YtliikgffjphhjaaGreatDoorS3LiftE
import Derived.Test.YtliikgffjphhjaaGreatDoorS3Facts
namespace Go.Vm.S3
open Go.Proofs Go.RowKit Go.ChangeShapes Go.WideShapes
open Go.Proofs.YtliikgffjphhjaaGreatDoor
set_option maxRecDepth 100000
theorem m_placeE : Rows.dummyTestsRow.inPlace = Tryz.prog.inPlace 6 := by kernel_rfl
theorem m_unfolE : Rows.dummyTestsRow.unfollowed = Tryz.prog.unfollowed 6 := by kernel_rfl
theorem m_recurE : Rows.dummyTestsRow.recurses = Tryz.prog.recurses 6 := by kernel_rfl
theorem m_namedE : Rows.dummyTestsRow.named = Tryz.prog.varsNamed 6 := by kernel_rfl
theorem m_restE : restFacts Tryz.prog Tryz.f6 (OpenSpec.ofChange Rows.dummyTestsSpec).bare Rows.dummyTestsRow = true := by kernel_rfl
theorem m_funcE : Tryz.pinned.checked.prog.funcNamed Rows.dummyTestsRow.func = some 6 := by kernel_rfl
theorem m_wrapE : Tryz.f6.isWrapper Tryz.prog Rows.dummyTestsRow.wrapper Rows.dummyTestsRow.mainSum := by
 unfold Func.isWrapper; first | (rw [if_pos (by decide +kernel)]; kernel_rfl) | (rw [if_neg (by decide +kernel)]; exact ⟨rfl, rfl⟩)
theorem saidE : Rows.DummyTestsSaid :=
 OpenClaim.holds_of_cond 6 Tryz.f6 rfl rfl rfl rfl rfl rfl rfl ⟨rfl, rfl, rfl, rfl, rfl⟩ rfl rfl rfl rfl rfl m_funcE Tryz.func6
  (joined_of m_restE laidOut pMaps pStops pStopKnobs m_placeE m_unfolE m_recurE m_namedE pKeys pHeard pEnter pLifted pMake)
  (of_decide_eq_true (by kernel_rfl)) m_wrapE
  (fun os started H enc _ F => by rw [OpenClaim.pre_eq_preRow]; exact liftedE os started H enc F)
end Go.Vm.S3
