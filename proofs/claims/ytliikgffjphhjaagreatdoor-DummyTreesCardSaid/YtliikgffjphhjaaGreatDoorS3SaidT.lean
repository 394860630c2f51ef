/- DummyTrees: the statement. -/
import Derived.Test.YtliikgffjphhjaaGreatDoorS3LiftT
import Derived.Test.YtliikgffjphhjaaGreatDoorS3Facts
namespace Go.Vm.S3
open Go.Proofs Go.RowKit Go.ChangeShapes Go.WideShapes
open Go.Proofs.YtliikgffjphhjaaGreatDoor
set_option maxRecDepth 100000

theorem m_placeT : Rows.dummyTreesRow.inPlace = Tryz.prog.inPlace 3 := by kernel_rfl
theorem m_unfolT : Rows.dummyTreesRow.unfollowed = Tryz.prog.unfollowed 3 := by kernel_rfl
theorem m_recurT : Rows.dummyTreesRow.recurses = Tryz.prog.recurses 3 := by kernel_rfl
theorem m_namedT : Rows.dummyTreesRow.named = Tryz.prog.varsNamed 3 := by kernel_rfl
theorem m_restT : restFacts Tryz.prog Tryz.f3 (OpenSpec.ofChange Rows.dummyTreesSpec).bare Rows.dummyTreesRow = true := by kernel_rfl
theorem m_funcT : Tryz.pinned.checked.prog.funcNamed Rows.dummyTreesRow.func = some 3 := by kernel_rfl
theorem m_wrapT : Tryz.f3.isWrapper Tryz.prog Rows.dummyTreesRow.wrapper Rows.dummyTreesRow.mainSum := by
  unfold Func.isWrapper; first | (rw [if_pos (by decide +kernel)]; kernel_rfl) | (rw [if_neg (by decide +kernel)]; exact ⟨rfl, rfl⟩)
theorem saidT : Rows.DummyTreesSaid :=
  OpenClaim.holds_of_cond 3 Tryz.f3 rfl rfl rfl rfl rfl rfl rfl ⟨rfl, rfl, rfl, rfl, rfl⟩ rfl rfl rfl rfl rfl m_funcT Tryz.func3
    (joined_of m_restT laidOut pMaps pStops pStopKnobs m_placeT m_unfolT m_recurT m_namedT pKeys pHeard pEnter pLifted pMake)
    (of_decide_eq_true (by kernel_rfl)) m_wrapT
    (fun os started H enc _ F => by rw [OpenClaim.pre_eq_preRow]; exact liftedT os started H enc F)
end Go.Vm.S3
