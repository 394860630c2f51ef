/- InjurySums: the statement. -/
import Derived.Test.YtbplbhcgcicgfaaGreatDoorS6LiftU
import Derived.Test.YtbplbhcgcicgfaaGreatDoorS6Facts
namespace Go.Vm.S6
open Go.Proofs Go.RowKit Go.ChangeShapes Go.WideShapes
open Go.Proofs.YtbplbhcgcicgfaaGreatDoor
set_option maxRecDepth 100000

theorem m_placeU : Rows.injurySumsRow.inPlace = Tryz.prog.inPlace 5 := by kernel_rfl
theorem m_unfolU : Rows.injurySumsRow.unfollowed = Tryz.prog.unfollowed 5 := by kernel_rfl
theorem m_recurU : Rows.injurySumsRow.recurses = Tryz.prog.recurses 5 := by kernel_rfl
theorem m_namedU : Rows.injurySumsRow.named = Tryz.prog.varsNamed 5 := by kernel_rfl
theorem m_restU : restFacts Tryz.prog Tryz.f5 (OpenSpec.ofChange Rows.injurySumsSpec).bare Rows.injurySumsRow = true := by kernel_rfl
theorem m_funcU : Tryz.pinned.checked.prog.funcNamed Rows.injurySumsRow.func = some 5 := by kernel_rfl
theorem m_wrapU : Tryz.f5.isWrapper Tryz.prog Rows.injurySumsRow.wrapper Rows.injurySumsRow.mainSum := by
  unfold Func.isWrapper; first | (rw [if_pos (by decide +kernel)]; kernel_rfl) | (rw [if_neg (by decide +kernel)]; exact ⟨rfl, rfl⟩)
theorem saidU : Rows.InjurySumsSaid :=
  OpenClaim.holds_of_cond 5 Tryz.f5 rfl rfl rfl rfl rfl rfl rfl ⟨rfl, rfl, rfl, rfl, rfl⟩ rfl rfl rfl rfl rfl m_funcU Tryz.func5
    (joined_of m_restU laidOut pMaps pStops pStopKnobs m_placeU m_unfolU m_recurU m_namedU pKeys pHeard pEnter pLifted pMake)
    (of_decide_eq_true (by kernel_rfl)) m_wrapU
    (fun os started H enc _ F => by rw [OpenClaim.pre_eq_preRow]; exact liftedU os started H enc F)
end Go.Vm.S6
