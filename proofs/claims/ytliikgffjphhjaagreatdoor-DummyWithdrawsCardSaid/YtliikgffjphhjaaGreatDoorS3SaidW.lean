/- DummyWithdraws: the statement. -/
import Derived.Test.YtliikgffjphhjaaGreatDoorS3LiftW
import Derived.Test.YtliikgffjphhjaaGreatDoorS3Facts
namespace Go.Vm.S3
open Go.Proofs Go.RowKit Go.ChangeShapes Go.WideShapes
open Go.Proofs.YtliikgffjphhjaaGreatDoor
set_option maxRecDepth 100000
theorem m_placeW : Rows.dummyWithdrawsRow.inPlace = Tryz.prog.inPlace 9 := by kernel_rfl
theorem m_unfolW : Rows.dummyWithdrawsRow.unfollowed = Tryz.prog.unfollowed 9 := by kernel_rfl
theorem m_recurW : Rows.dummyWithdrawsRow.recurses = Tryz.prog.recurses 9 := by kernel_rfl
theorem m_namedW : Rows.dummyWithdrawsRow.named = Tryz.prog.varsNamed 9 := by kernel_rfl
theorem m_restW : restFacts Tryz.prog Tryz.f9 (OpenSpec.ofChange Rows.dummyWithdrawsSpec).bare Rows.dummyWithdrawsRow = true := by kernel_rfl
theorem m_funcW : Tryz.pinned.checked.prog.funcNamed Rows.dummyWithdrawsRow.func = some 9 := by kernel_rfl
theorem m_wrapW : Tryz.f9.isWrapper Tryz.prog Rows.dummyWithdrawsRow.wrapper Rows.dummyWithdrawsRow.mainSum := by
 unfold Func.isWrapper; first | (rw [if_pos (by decide +kernel)]; kernel_rfl) | (rw [if_neg (by decide +kernel)]; exact ⟨rfl, rfl⟩)
theorem saidW : Rows.DummyWithdrawsSaid :=
 OpenClaim.holds_of_cond 9 Tryz.f9 rfl rfl rfl rfl rfl rfl rfl ⟨rfl, rfl, rfl, rfl, rfl⟩ rfl rfl rfl rfl rfl m_funcW Tryz.func9
  (joined_of m_restW laidOut pMaps pStops pStopKnobs m_placeW m_unfolW m_recurW m_namedW pKeys pHeard pEnter pLifted pMake)
  (of_decide_eq_true (by kernel_rfl)) m_wrapW
  (fun os started H enc _ F => by rw [OpenClaim.pre_eq_preRow]; exact liftedW os started H enc F)
end Go.Vm.S3
