/- DummyLabs: the statement. -/
import Derived.Test.YtliikgffjphhjaaGreatDoorS3LiftL
import Derived.Test.YtliikgffjphhjaaGreatDoorS3Facts
namespace Go.Vm.S3
open Go.Proofs Go.RowKit Go.ChangeShapes Go.WideShapes
open Go.Proofs.YtliikgffjphhjaaGreatDoor
set_option maxRecDepth 100000
theorem m_placeL : Rows.dummyLabsRow.inPlace = Tryz.prog.inPlace 5 := by kernel_rfl
theorem m_unfolL : Rows.dummyLabsRow.unfollowed = Tryz.prog.unfollowed 5 := by kernel_rfl
theorem m_recurL : Rows.dummyLabsRow.recurses = Tryz.prog.recurses 5 := by kernel_rfl
theorem m_namedL : Rows.dummyLabsRow.named = Tryz.prog.varsNamed 5 := by kernel_rfl
theorem m_restL : restFacts Tryz.prog Tryz.f5 (OpenSpec.ofChange Rows.dummyLabsSpec).bare Rows.dummyLabsRow = true := by kernel_rfl
theorem m_funcL : Tryz.pinned.checked.prog.funcNamed Rows.dummyLabsRow.func = some 5 := by kernel_rfl
theorem m_wrapL : Tryz.f5.isWrapper Tryz.prog Rows.dummyLabsRow.wrapper Rows.dummyLabsRow.mainSum := by
  unfold Func.isWrapper; first | (rw [if_pos (by decide +kernel)]; kernel_rfl) | (rw [if_neg (by decide +kernel)]; exact ⟨rfl, rfl⟩)
theorem saidL : Rows.DummyLabsSaid :=
  OpenClaim.holds_of_cond 5 Tryz.f5 rfl rfl rfl rfl rfl rfl rfl ⟨rfl, rfl, rfl, rfl, rfl⟩ rfl rfl rfl rfl rfl m_funcL Tryz.func5
    (joined_of m_restL laidOut pMaps pStops pStopKnobs m_placeL m_unfolL m_recurL m_namedL pKeys pHeard pEnter pLifted pMake)
    (of_decide_eq_true (by kernel_rfl)) m_wrapL
    (fun os started H enc _ F => by rw [OpenClaim.pre_eq_preRow]; exact liftedL os started H enc F)
end Go.Vm.S3
