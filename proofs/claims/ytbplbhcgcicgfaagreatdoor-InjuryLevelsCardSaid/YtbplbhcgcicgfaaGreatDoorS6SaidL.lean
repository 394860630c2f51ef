/- InjuryLevels: the statement. -/
import Derived.Test.YtbplbhcgcicgfaaGreatDoorS6LiftL
import Derived.Test.YtbplbhcgcicgfaaGreatDoorS6Facts
namespace Go.Vm.S6
open Go.Proofs Go.RowKit Go.ChangeShapes Go.WideShapes
open Go.Proofs.YtbplbhcgcicgfaaGreatDoor
set_option maxRecDepth 100000

theorem m_placeL : Rows.injuryLevelsRow.inPlace = Tryz.prog.inPlace 4 := by kernel_rfl
theorem m_unfolL : Rows.injuryLevelsRow.unfollowed = Tryz.prog.unfollowed 4 := by kernel_rfl
theorem m_recurL : Rows.injuryLevelsRow.recurses = Tryz.prog.recurses 4 := by kernel_rfl
theorem m_namedL : Rows.injuryLevelsRow.named = Tryz.prog.varsNamed 4 := by kernel_rfl
theorem m_restL : restFacts Tryz.prog Tryz.f4 (OpenSpec.ofChange Rows.injuryLevelsSpec).bare Rows.injuryLevelsRow = true := by kernel_rfl
theorem m_funcL : Tryz.pinned.checked.prog.funcNamed Rows.injuryLevelsRow.func = some 4 := by kernel_rfl
theorem m_wrapL : Tryz.f4.isWrapper Tryz.prog Rows.injuryLevelsRow.wrapper Rows.injuryLevelsRow.mainSum := by
  unfold Func.isWrapper; first | (rw [if_pos (by decide +kernel)]; kernel_rfl) | (rw [if_neg (by decide +kernel)]; exact ⟨rfl, rfl⟩)
theorem saidL : Rows.InjuryLevelsSaid :=
  OpenClaim.holds_of_cond 4 Tryz.f4 rfl rfl rfl rfl rfl rfl rfl ⟨rfl, rfl, rfl, rfl, rfl⟩ rfl rfl rfl rfl rfl m_funcL Tryz.func4
    (joined_of m_restL laidOut pMaps pStops pStopKnobs m_placeL m_unfolL m_recurL m_namedL pKeys pHeard pEnter pLifted pMake)
    (of_decide_eq_true (by kernel_rfl)) m_wrapL
    (fun os started H enc _ F => by rw [OpenClaim.pre_eq_preRow]; exact liftedL os started H enc F)
end Go.Vm.S6
