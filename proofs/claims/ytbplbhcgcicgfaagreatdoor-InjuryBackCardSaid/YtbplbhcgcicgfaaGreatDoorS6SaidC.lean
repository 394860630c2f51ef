/- InjuryBack: the statement. -/
import Derived.Test.YtbplbhcgcicgfaaGreatDoorS6LiftC
import Derived.Test.YtbplbhcgcicgfaaGreatDoorS6Facts
namespace Go.Vm.S6
open Go.Proofs Go.RowKit Go.ChangeShapes Go.WideShapes
open Go.Proofs.YtbplbhcgcicgfaaGreatDoor
set_option maxRecDepth 100000

theorem m_placeC : Rows.injuryBackRow.inPlace = Tryz.prog.inPlace 15 := by kernel_rfl
theorem m_unfolC : Rows.injuryBackRow.unfollowed = Tryz.prog.unfollowed 15 := by kernel_rfl
theorem m_recurC : Rows.injuryBackRow.recurses = Tryz.prog.recurses 15 := by kernel_rfl
theorem m_namedC : Rows.injuryBackRow.named = Tryz.prog.varsNamed 15 := by kernel_rfl
theorem m_restC : restFacts Tryz.prog Tryz.f15 (OpenSpec.ofChange Rows.injuryBackSpec).bare Rows.injuryBackRow = true := by kernel_rfl
theorem m_funcC : Tryz.pinned.checked.prog.funcNamed Rows.injuryBackRow.func = some 15 := by kernel_rfl
theorem m_wrapC : Tryz.f15.isWrapper Tryz.prog Rows.injuryBackRow.wrapper Rows.injuryBackRow.mainSum := by
  unfold Func.isWrapper; first | (rw [if_pos (by decide +kernel)]; kernel_rfl) | (rw [if_neg (by decide +kernel)]; exact ⟨rfl, rfl⟩)
theorem saidC : Rows.InjuryBackSaid :=
  OpenClaim.holds_of_cond 15 Tryz.f15 rfl rfl rfl rfl rfl rfl rfl ⟨rfl, rfl, rfl, rfl, rfl⟩ rfl rfl rfl rfl rfl m_funcC Tryz.func15
    (joined_of m_restC laidOut pMaps pStops pStopKnobs m_placeC m_unfolC m_recurC m_namedC pKeys pHeard pEnter pLifted pMake)
    (of_decide_eq_true (by kernel_rfl)) m_wrapC
    (fun os started H enc _ F => by rw [OpenClaim.pre_eq_preRow]; exact liftedC os started H enc F)
end Go.Vm.S6
