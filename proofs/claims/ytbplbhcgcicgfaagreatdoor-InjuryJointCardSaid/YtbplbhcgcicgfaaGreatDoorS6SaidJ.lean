/- InjuryJoint: the statement. -/
import Derived.Test.YtbplbhcgcicgfaaGreatDoorS6LiftJ
import Derived.Test.YtbplbhcgcicgfaaGreatDoorS6Facts
namespace Go.Vm.S6
open Go.Proofs Go.RowKit Go.ChangeShapes Go.WideShapes
open Go.Proofs.YtbplbhcgcicgfaaGreatDoor
set_option maxRecDepth 100000

theorem m_placeJ : Rows.injuryJointRow.inPlace = Tryz.prog.inPlace 8 := by kernel_rfl
theorem m_unfolJ : Rows.injuryJointRow.unfollowed = Tryz.prog.unfollowed 8 := by kernel_rfl
theorem m_recurJ : Rows.injuryJointRow.recurses = Tryz.prog.recurses 8 := by kernel_rfl
theorem m_namedJ : Rows.injuryJointRow.named = Tryz.prog.varsNamed 8 := by kernel_rfl
theorem m_restJ : restFacts Tryz.prog Tryz.f8 (OpenSpec.ofChange Rows.injuryJointSpec).bare Rows.injuryJointRow = true := by kernel_rfl
theorem m_funcJ : Tryz.pinned.checked.prog.funcNamed Rows.injuryJointRow.func = some 8 := by kernel_rfl
theorem m_wrapJ : Tryz.f8.isWrapper Tryz.prog Rows.injuryJointRow.wrapper Rows.injuryJointRow.mainSum := by
  unfold Func.isWrapper; first | (rw [if_pos (by decide +kernel)]; kernel_rfl) | (rw [if_neg (by decide +kernel)]; exact ⟨rfl, rfl⟩)
theorem saidJ : Rows.InjuryJointSaid :=
  OpenClaim.holds_of_cond 8 Tryz.f8 rfl rfl rfl rfl rfl rfl rfl ⟨rfl, rfl, rfl, rfl, rfl⟩ rfl rfl rfl rfl rfl m_funcJ Tryz.func8
    (joined_of m_restJ laidOut pMaps pStops pStopKnobs m_placeJ m_unfolJ m_recurJ m_namedJ pKeys pHeard pEnter pLifted pMake)
    (of_decide_eq_true (by kernel_rfl)) m_wrapJ
    (fun os started H enc _ F => by rw [OpenClaim.pre_eq_preRow]; exact liftedJ os started H enc F)
end Go.Vm.S6
