/- InjuryWithin: the statement. -/
import Derived.Test.YtbplbhcgcicgfaaGreatDoorS6LiftQ
import Derived.Test.YtbplbhcgcicgfaaGreatDoorS6Facts
namespace Go.Vm.S6
open Go.Proofs Go.RowKit Go.ChangeShapes Go.WideShapes
open Go.Proofs.YtbplbhcgcicgfaaGreatDoor
set_option maxRecDepth 100000

theorem m_placeQ : Rows.injuryWithinRow.inPlace = Tryz.prog.inPlace 12 := by kernel_rfl
theorem m_unfolQ : Rows.injuryWithinRow.unfollowed = Tryz.prog.unfollowed 12 := by kernel_rfl
theorem m_recurQ : Rows.injuryWithinRow.recurses = Tryz.prog.recurses 12 := by kernel_rfl
theorem m_namedQ : Rows.injuryWithinRow.named = Tryz.prog.varsNamed 12 := by kernel_rfl
theorem m_restQ : restFacts Tryz.prog Tryz.f12 (OpenSpec.ofChange Rows.injuryWithinSpec).bare Rows.injuryWithinRow = true := by kernel_rfl
theorem m_funcQ : Tryz.pinned.checked.prog.funcNamed Rows.injuryWithinRow.func = some 12 := by kernel_rfl
theorem m_wrapQ : Tryz.f12.isWrapper Tryz.prog Rows.injuryWithinRow.wrapper Rows.injuryWithinRow.mainSum := by
  unfold Func.isWrapper; first | (rw [if_pos (by decide +kernel)]; kernel_rfl) | (rw [if_neg (by decide +kernel)]; exact ⟨rfl, rfl⟩)
theorem saidQ : Rows.InjuryWithinSaid :=
  OpenClaim.holds_of_cond 12 Tryz.f12 rfl rfl rfl rfl rfl rfl rfl ⟨rfl, rfl, rfl, rfl, rfl⟩ rfl rfl rfl rfl rfl m_funcQ Tryz.func12
    (joined_of m_restQ laidOut pMaps pStops pStopKnobs m_placeQ m_unfolQ m_recurQ m_namedQ pKeys pHeard pEnter pLifted pMake)
    (of_decide_eq_true (by kernel_rfl)) m_wrapQ
    (fun os started H enc _ F => by rw [OpenClaim.pre_eq_preRow]; exact liftedQ os started H enc F)
end Go.Vm.S6
