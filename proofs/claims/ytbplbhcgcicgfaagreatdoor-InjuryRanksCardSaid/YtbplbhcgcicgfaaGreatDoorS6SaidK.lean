/- InjuryRanks: the statement. -/
import Derived.Test.YtbplbhcgcicgfaaGreatDoorS6LiftK
import Derived.Test.YtbplbhcgcicgfaaGreatDoorS6Facts
namespace Go.Vm.S6
open Go.Proofs Go.RowKit Go.ChangeShapes Go.WideShapes
open Go.Proofs.YtbplbhcgcicgfaaGreatDoor
set_option maxRecDepth 100000

theorem m_placeK : Rows.injuryRanksRow.inPlace = Tryz.prog.inPlace 10 := by kernel_rfl
theorem m_unfolK : Rows.injuryRanksRow.unfollowed = Tryz.prog.unfollowed 10 := by kernel_rfl
theorem m_recurK : Rows.injuryRanksRow.recurses = Tryz.prog.recurses 10 := by kernel_rfl
theorem m_namedK : Rows.injuryRanksRow.named = Tryz.prog.varsNamed 10 := by kernel_rfl
theorem m_restK : restFacts Tryz.prog Tryz.f10 (OpenSpec.ofChange Rows.injuryRanksSpec).bare Rows.injuryRanksRow = true := by kernel_rfl
theorem m_funcK : Tryz.pinned.checked.prog.funcNamed Rows.injuryRanksRow.func = some 10 := by kernel_rfl
theorem m_wrapK : Tryz.f10.isWrapper Tryz.prog Rows.injuryRanksRow.wrapper Rows.injuryRanksRow.mainSum := by
  unfold Func.isWrapper; first | (rw [if_pos (by decide +kernel)]; kernel_rfl) | (rw [if_neg (by decide +kernel)]; exact ⟨rfl, rfl⟩)
theorem saidK : Rows.InjuryRanksSaid :=
  OpenClaim.holds_of_cond 10 Tryz.f10 rfl rfl rfl rfl rfl rfl rfl ⟨rfl, rfl, rfl, rfl, rfl⟩ rfl rfl rfl rfl rfl m_funcK Tryz.func10
    (joined_of m_restK laidOut pMaps pStops pStopKnobs m_placeK m_unfolK m_recurK m_namedK pKeys pHeard pEnter pLifted pMake)
    (of_decide_eq_true (by kernel_rfl)) m_wrapK
    (fun os started H enc _ F => by rw [OpenClaim.pre_eq_preRow]; exact liftedK os started H enc F)
end Go.Vm.S6
