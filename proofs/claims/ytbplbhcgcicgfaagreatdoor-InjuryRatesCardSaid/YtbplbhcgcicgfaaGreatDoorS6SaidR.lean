/- InjuryRates: the statement. -/
import Derived.Test.YtbplbhcgcicgfaaGreatDoorS6LiftR
import Derived.Test.YtbplbhcgcicgfaaGreatDoorS6Facts
namespace Go.Vm.S6
open Go.Proofs Go.RowKit Go.ChangeShapes Go.WideShapes
open Go.Proofs.YtbplbhcgcicgfaaGreatDoor
set_option maxRecDepth 100000

theorem m_placeR : Rows.injuryRatesRow.inPlace = Tryz.prog.inPlace 6 := by kernel_rfl
theorem m_unfolR : Rows.injuryRatesRow.unfollowed = Tryz.prog.unfollowed 6 := by kernel_rfl
theorem m_recurR : Rows.injuryRatesRow.recurses = Tryz.prog.recurses 6 := by kernel_rfl
theorem m_namedR : Rows.injuryRatesRow.named = Tryz.prog.varsNamed 6 := by kernel_rfl
theorem m_restR : restFacts Tryz.prog Tryz.f6 (OpenSpec.ofChange Rows.injuryRatesSpec).bare Rows.injuryRatesRow = true := by kernel_rfl
theorem m_funcR : Tryz.pinned.checked.prog.funcNamed Rows.injuryRatesRow.func = some 6 := by kernel_rfl
theorem m_wrapR : Tryz.f6.isWrapper Tryz.prog Rows.injuryRatesRow.wrapper Rows.injuryRatesRow.mainSum := by
  unfold Func.isWrapper; first | (rw [if_pos (by decide +kernel)]; kernel_rfl) | (rw [if_neg (by decide +kernel)]; exact ⟨rfl, rfl⟩)
theorem saidR : Rows.InjuryRatesSaid :=
  OpenClaim.holds_of_cond 6 Tryz.f6 rfl rfl rfl rfl rfl rfl rfl ⟨rfl, rfl, rfl, rfl, rfl⟩ rfl rfl rfl rfl rfl m_funcR Tryz.func6
    (joined_of m_restR laidOut pMaps pStops pStopKnobs m_placeR m_unfolR m_recurR m_namedR pKeys pHeard pEnter pLifted pMake)
    (of_decide_eq_true (by kernel_rfl)) m_wrapR
    (fun os started H enc _ F => by rw [OpenClaim.pre_eq_preRow]; exact liftedR os started H enc F)
end Go.Vm.S6
