/- InjuryJoint: the card. -/
import Derived.Test.YtbplbhcgcicgfaaGreatDoorS6SaidJ
namespace Go.Vm.S6
open Go.Proofs Go.RowKit Go.ChangeShapes Go.WideShapes
open Go.Proofs.YtbplbhcgcicgfaaGreatDoor
set_option maxRecDepth 100000

theorem plainJ (f : FuncId) (fn : Func) (hf : Tryz.pinned.checked.prog.funcNamed "crumple/crumplelaw06.InjuryJoint" = some f) (hfn : Tryz.pinned.checked.prog.funcs[f]? = some fn) :
    false = Tryz.pinned.checked.prog.looks [] ∧ ∀ (j : Nat) t, fn.params[j]? = some t → Tryz.pinned.checked.prog.wantsStandIn t = false := by
  obtain rfl : f = 8 := Option.some.inj ((show Tryz.prog.funcNamed "crumple/crumplelaw06.InjuryJoint" = some 8 by kernel_rfl).symm.trans hf) |>.symm
  obtain rfl : fn = Tryz.f8 := (Option.some.inj (Tryz.func8.symm.trans hfn)).symm
  refine ⟨by kernel_rfl, fun j t ht => ?_⟩
  rw [Tryz.params8] at ht
  have h : t = 88 ∨ t = 88 ∨ t = 62 := by simpa using Array.mem_of_getElem? ht
  rcases h with rfl | rfl | rfl
  · exact (show Tryz.prog.wantsStandIn 88 = false by kernel_rfl)
  · exact (show Tryz.prog.wantsStandIn 88 = false by kernel_rfl)
  · exact (show Tryz.prog.wantsStandIn 62 = false by kernel_rfl)

end Go.Vm.S6
namespace Go.Proofs.YtbplbhcgcicgfaaGreatDoor
open Go Go.Vm.S6
theorem joint_card : Rows.InjuryJointCardSaid :=
  Claim7.holds_tied_plain_at .later [] _ _ _ _ saidJ (fun _ h => by cases h) (by kernel_rfl) (fun _ h => by cases h) injuryJoint_row_tie rfl ⟨rfl, rfl⟩ (by kernel_rfl) rfl plainJ (by kernel_rfl)
end Go.Proofs.YtbplbhcgcicgfaaGreatDoor
