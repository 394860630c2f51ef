/- InjuryMargins: the statement. -/
import Derived.Test.YtbplbhcgcicgfaaGreatDoorS6LiftM
import Derived.Test.YtbplbhcgcicgfaaGreatDoorS6Facts
namespace Go.Vm.S6
open Go.Proofs Go.RowKit Go.ChangeShapes Go.WideShapes
open Go.Proofs.YtbplbhcgcicgfaaGreatDoor
set_option maxRecDepth 100000

theorem m_placeM : Rows.injuryMarginsRow.inPlace = Tryz.prog.inPlace 9 := by kernel_rfl
theorem m_unfolM : Rows.injuryMarginsRow.unfollowed = Tryz.prog.unfollowed 9 := by kernel_rfl
theorem m_recurM : Rows.injuryMarginsRow.recurses = Tryz.prog.recurses 9 := by kernel_rfl
theorem m_namedM : Rows.injuryMarginsRow.named = Tryz.prog.varsNamed 9 := by kernel_rfl
theorem m_restM : restFacts Tryz.prog Tryz.f9 (OpenSpec.ofChange Rows.injuryMarginsSpec).bare Rows.injuryMarginsRow = true := by kernel_rfl
theorem m_funcM : Tryz.pinned.checked.prog.funcNamed Rows.injuryMarginsRow.func = some 9 := by kernel_rfl
theorem m_wrapM : Tryz.f9.isWrapper Tryz.prog Rows.injuryMarginsRow.wrapper Rows.injuryMarginsRow.mainSum := by
  unfold Func.isWrapper; first | (rw [if_pos (by decide +kernel)]; kernel_rfl) | (rw [if_neg (by decide +kernel)]; exact ⟨rfl, rfl⟩)
theorem saidM : Rows.InjuryMarginsSaid :=
  OpenClaim.holds_of_cond 9 Tryz.f9 rfl rfl rfl rfl rfl rfl rfl ⟨rfl, rfl, rfl, rfl, rfl⟩ rfl rfl rfl rfl rfl m_funcM Tryz.func9
    (joined_of m_restM laidOut pMaps pStops pStopKnobs m_placeM m_unfolM m_recurM m_namedM pKeys pHeard pEnter pLifted pMake)
    (of_decide_eq_true (by kernel_rfl)) m_wrapM
    (fun os started H enc _ F => by rw [OpenClaim.pre_eq_preRow]; exact liftedM os started H enc F)
end Go.Vm.S6
