/- InjuryBest: the statement. -/
import Derived.Test.YtbplbhcgcicgfaaGreatDoorS6LiftB
import Derived.Test.YtbplbhcgcicgfaaGreatDoorS6Facts
namespace Go.Vm.S6
open Go.Proofs Go.RowKit Go.ChangeShapes Go.WideShapes
open Go.Proofs.YtbplbhcgcicgfaaGreatDoor
set_option maxRecDepth 100000

theorem m_placeB : Rows.injuryBestRow.inPlace = Tryz.prog.inPlace 11 := by kernel_rfl
theorem m_unfolB : Rows.injuryBestRow.unfollowed = Tryz.prog.unfollowed 11 := by kernel_rfl
theorem m_recurB : Rows.injuryBestRow.recurses = Tryz.prog.recurses 11 := by kernel_rfl
theorem m_namedB : Rows.injuryBestRow.named = Tryz.prog.varsNamed 11 := by kernel_rfl
theorem m_restB : restFacts Tryz.prog Tryz.f11 (OpenSpec.ofChange Rows.injuryBestSpec).bare Rows.injuryBestRow = true := by kernel_rfl
theorem m_funcB : Tryz.pinned.checked.prog.funcNamed Rows.injuryBestRow.func = some 11 := by kernel_rfl
theorem m_wrapB : Tryz.f11.isWrapper Tryz.prog Rows.injuryBestRow.wrapper Rows.injuryBestRow.mainSum := by
  unfold Func.isWrapper; first | (rw [if_pos (by decide +kernel)]; kernel_rfl) | (rw [if_neg (by decide +kernel)]; exact ⟨rfl, rfl⟩)
theorem saidB : Rows.InjuryBestSaid :=
  OpenClaim.holds_of_cond 11 Tryz.f11 rfl rfl rfl rfl rfl rfl rfl ⟨rfl, rfl, rfl, rfl, rfl⟩ rfl rfl rfl rfl rfl m_funcB Tryz.func11
    (joined_of m_restB laidOut pMaps pStops pStopKnobs m_placeB m_unfolB m_recurB m_namedB pKeys pHeard pEnter pLifted pMake)
    (of_decide_eq_true (by kernel_rfl)) m_wrapB
    (fun os started H enc _ F => by rw [OpenClaim.pre_eq_preRow]; exact liftedB os started H enc F)
end Go.Vm.S6
