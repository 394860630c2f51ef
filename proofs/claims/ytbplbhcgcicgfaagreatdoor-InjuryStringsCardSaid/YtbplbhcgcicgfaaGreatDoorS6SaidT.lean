/- InjuryStrings: the statement. -/
import Derived.Test.YtbplbhcgcicgfaaGreatDoorS6LiftT
import Derived.Test.YtbplbhcgcicgfaaGreatDoorS6Facts
namespace Go.Vm.S6
open Go.Proofs Go.RowKit Go.ChangeShapes Go.WideShapes
open Go.Proofs.YtbplbhcgcicgfaaGreatDoor
set_option maxRecDepth 100000

theorem m_placeT : Rows.injuryStringsRow.inPlace = Tryz.prog.inPlace 14 := by kernel_rfl
theorem m_unfolT : Rows.injuryStringsRow.unfollowed = Tryz.prog.unfollowed 14 := by kernel_rfl
theorem m_recurT : Rows.injuryStringsRow.recurses = Tryz.prog.recurses 14 := by kernel_rfl
theorem m_namedT : Rows.injuryStringsRow.named = Tryz.prog.varsNamed 14 := by kernel_rfl
theorem m_restT : restFacts Tryz.prog Tryz.f14 (OpenSpec.ofChange Rows.injuryStringsSpec).bare Rows.injuryStringsRow = true := by kernel_rfl
theorem m_funcT : Tryz.pinned.checked.prog.funcNamed Rows.injuryStringsRow.func = some 14 := by kernel_rfl
theorem m_wrapT : Tryz.f14.isWrapper Tryz.prog Rows.injuryStringsRow.wrapper Rows.injuryStringsRow.mainSum := by
  unfold Func.isWrapper; first | (rw [if_pos (by decide +kernel)]; kernel_rfl) | (rw [if_neg (by decide +kernel)]; exact ⟨rfl, rfl⟩)
theorem saidT : Rows.InjuryStringsSaid :=
  OpenClaim.holds_of_cond 14 Tryz.f14 rfl rfl rfl rfl rfl rfl rfl ⟨rfl, rfl, rfl, rfl, rfl⟩ rfl rfl rfl rfl rfl m_funcT Tryz.func14
    (joined_of m_restT laidOut pMaps pStops pStopKnobs m_placeT m_unfolT m_recurT m_namedT pKeys pHeard pEnter pLifted pMake)
    (of_decide_eq_true (by kernel_rfl)) m_wrapT
    (fun os started H enc _ F => by rw [OpenClaim.pre_eq_preRow]; exact liftedT os started H enc F)
end Go.Vm.S6
