/- InjuryWindows: the statement. -/
import Derived.Test.YtbplbhcgcicgfaaGreatDoorS6LiftW
import Derived.Test.YtbplbhcgcicgfaaGreatDoorS6Facts
namespace Go.Vm.S6
open Go.Proofs Go.RowKit Go.ChangeShapes Go.WideShapes
open Go.Proofs.YtbplbhcgcicgfaaGreatDoor
set_option maxRecDepth 100000

theorem m_placeW : Rows.injuryWindowsRow.inPlace = Tryz.prog.inPlace 3 := by kernel_rfl
theorem m_unfolW : Rows.injuryWindowsRow.unfollowed = Tryz.prog.unfollowed 3 := by kernel_rfl
theorem m_recurW : Rows.injuryWindowsRow.recurses = Tryz.prog.recurses 3 := by kernel_rfl
theorem m_namedW : Rows.injuryWindowsRow.named = Tryz.prog.varsNamed 3 := by kernel_rfl
theorem m_restW : restFacts Tryz.prog Tryz.f3 (OpenSpec.ofChange Rows.injuryWindowsSpec).bare Rows.injuryWindowsRow = true := by kernel_rfl
theorem m_funcW : Tryz.pinned.checked.prog.funcNamed Rows.injuryWindowsRow.func = some 3 := by kernel_rfl
theorem m_wrapW : Tryz.f3.isWrapper Tryz.prog Rows.injuryWindowsRow.wrapper Rows.injuryWindowsRow.mainSum := by
  unfold Func.isWrapper; first | (rw [if_pos (by decide +kernel)]; kernel_rfl) | (rw [if_neg (by decide +kernel)]; exact ⟨rfl, rfl⟩)
theorem saidW : Rows.InjuryWindowsSaid :=
  OpenClaim.holds_of_cond 3 Tryz.f3 rfl rfl rfl rfl rfl rfl rfl ⟨rfl, rfl, rfl, rfl, rfl⟩ rfl rfl rfl rfl rfl m_funcW Tryz.func3
    (joined_of m_restW laidOut pMaps pStops pStopKnobs m_placeW m_unfolW m_recurW m_namedW pKeys pHeard pEnter pLifted pMake)
    (of_decide_eq_true (by kernel_rfl)) m_wrapW
    (fun os started H enc _ F => by rw [OpenClaim.pre_eq_preRow]; exact liftedW os started H enc F)
end Go.Vm.S6
