/- InjuryHolds: the statement. -/
import Derived.Test.YtbplbhcgcicgfaaGreatDoorS6LiftH
import Derived.Test.YtbplbhcgcicgfaaGreatDoorS6Facts
namespace Go.Vm.S6
open Go.Proofs Go.RowKit Go.ChangeShapes Go.WideShapes
open Go.Proofs.YtbplbhcgcicgfaaGreatDoor
set_option maxRecDepth 100000

theorem m_placeH : Rows.injuryHoldsRow.inPlace = Tryz.prog.inPlace 13 := by kernel_rfl
theorem m_unfolH : Rows.injuryHoldsRow.unfollowed = Tryz.prog.unfollowed 13 := by kernel_rfl
theorem m_recurH : Rows.injuryHoldsRow.recurses = Tryz.prog.recurses 13 := by kernel_rfl
theorem m_namedH : Rows.injuryHoldsRow.named = Tryz.prog.varsNamed 13 := by kernel_rfl
theorem m_restH : restFacts Tryz.prog Tryz.f13 (OpenSpec.ofChange Rows.injuryHoldsSpec).bare Rows.injuryHoldsRow = true := by kernel_rfl
theorem m_funcH : Tryz.pinned.checked.prog.funcNamed Rows.injuryHoldsRow.func = some 13 := by kernel_rfl
theorem m_wrapH : Tryz.f13.isWrapper Tryz.prog Rows.injuryHoldsRow.wrapper Rows.injuryHoldsRow.mainSum := by
  unfold Func.isWrapper; first | (rw [if_pos (by decide +kernel)]; kernel_rfl) | (rw [if_neg (by decide +kernel)]; exact ⟨rfl, rfl⟩)
theorem saidH : Rows.InjuryHoldsSaid :=
  OpenClaim.holds_of_cond 13 Tryz.f13 rfl rfl rfl rfl rfl rfl rfl ⟨rfl, rfl, rfl, rfl, rfl⟩ rfl rfl rfl rfl rfl m_funcH Tryz.func13
    (joined_of m_restH laidOut pMaps pStops pStopKnobs m_placeH m_unfolH m_recurH m_namedH pKeys pHeard pEnter pLifted pMake)
    (of_decide_eq_true (by kernel_rfl)) m_wrapH
    (fun os started H enc _ F => by rw [OpenClaim.pre_eq_preRow]; exact liftedH os started H enc F)
end Go.Vm.S6
