/- DummyMoments: the statement. -/
import Derived.Test.YtliikgffjphhjaaGreatDoorS3LiftM
import Derived.Test.YtliikgffjphhjaaGreatDoorS3Facts
namespace Go.Vm.S3
open Go.Proofs Go.RowKit Go.ChangeShapes Go.WideShapes
open Go.Proofs.YtliikgffjphhjaaGreatDoor
set_option maxRecDepth 100000

theorem m_place : Rows.dummyMomentsRow.inPlace = Tryz.prog.inPlace 4 := by kernel_rfl
theorem m_unfol : Rows.dummyMomentsRow.unfollowed = Tryz.prog.unfollowed 4 := by kernel_rfl
theorem m_recur : Rows.dummyMomentsRow.recurses = Tryz.prog.recurses 4 := by kernel_rfl
theorem m_named : Rows.dummyMomentsRow.named = Tryz.prog.varsNamed 4 := by kernel_rfl
theorem m_rest : restFacts Tryz.prog Tryz.f4 (OpenSpec.ofChange Rows.dummyMomentsSpec).bare Rows.dummyMomentsRow = true := by kernel_rfl
theorem m_func : Tryz.pinned.checked.prog.funcNamed Rows.dummyMomentsRow.func = some 4 := by kernel_rfl
theorem m_wrap : Tryz.f4.isWrapper Tryz.prog Rows.dummyMomentsRow.wrapper Rows.dummyMomentsRow.mainSum := by
  unfold Func.isWrapper; first | (rw [if_pos (by decide +kernel)]; kernel_rfl) | (rw [if_neg (by decide +kernel)]; exact ⟨rfl, rfl⟩)
theorem said : Rows.DummyMomentsSaid :=
  OpenClaim.holds_of_cond 4 Tryz.f4 rfl rfl rfl rfl rfl rfl rfl ⟨rfl, rfl, rfl, rfl, rfl⟩ rfl rfl rfl rfl rfl m_func Tryz.func4
    (joined_of m_rest laidOut pMaps pStops pStopKnobs m_place m_unfol m_recur m_named pKeys pHeard pEnter pLifted pMake)
    (of_decide_eq_true (by kernel_rfl)) m_wrap
    (fun os started H enc _ F => by rw [OpenClaim.pre_eq_preRow]; exact lifted os started H enc F)
end Go.Vm.S3
