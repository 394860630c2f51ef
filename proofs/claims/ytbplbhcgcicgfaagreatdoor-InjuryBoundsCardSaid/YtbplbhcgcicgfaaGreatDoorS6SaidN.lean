/- InjuryBounds: the statement. -/
import Derived.Test.YtbplbhcgcicgfaaGreatDoorS6LiftN
import Derived.Test.YtbplbhcgcicgfaaGreatDoorS6Facts
namespace Go.Vm.S6
open Go.Proofs Go.RowKit Go.ChangeShapes Go.WideShapes
open Go.Proofs.YtbplbhcgcicgfaaGreatDoor
set_option maxRecDepth 100000

theorem m_placeN : Rows.injuryBoundsRow.inPlace = Tryz.prog.inPlace 7 := by kernel_rfl
theorem m_unfolN : Rows.injuryBoundsRow.unfollowed = Tryz.prog.unfollowed 7 := by kernel_rfl
theorem m_recurN : Rows.injuryBoundsRow.recurses = Tryz.prog.recurses 7 := by kernel_rfl
theorem m_namedN : Rows.injuryBoundsRow.named = Tryz.prog.varsNamed 7 := by kernel_rfl
theorem m_restN : restFacts Tryz.prog Tryz.f7 (OpenSpec.ofChange Rows.injuryBoundsSpec).bare Rows.injuryBoundsRow = true := by kernel_rfl
theorem m_funcN : Tryz.pinned.checked.prog.funcNamed Rows.injuryBoundsRow.func = some 7 := by kernel_rfl
theorem m_wrapN : Tryz.f7.isWrapper Tryz.prog Rows.injuryBoundsRow.wrapper Rows.injuryBoundsRow.mainSum := by
  unfold Func.isWrapper; first | (rw [if_pos (by decide +kernel)]; kernel_rfl) | (rw [if_neg (by decide +kernel)]; exact ⟨rfl, rfl⟩)
theorem saidN : Rows.InjuryBoundsSaid :=
  OpenClaim.holds_of_cond 7 Tryz.f7 rfl rfl rfl rfl rfl rfl rfl ⟨rfl, rfl, rfl, rfl, rfl⟩ rfl rfl rfl rfl rfl m_funcN Tryz.func7
    (joined_of m_restN laidOut pMaps pStops pStopKnobs m_placeN m_unfolN m_recurN m_namedN pKeys pHeard pEnter pLifted pMake)
    (of_decide_eq_true (by kernel_rfl)) m_wrapN
    (fun os started H enc _ F => by rw [OpenClaim.pre_eq_preRow]; exact liftedN os started H enc F)
end Go.Vm.S6
