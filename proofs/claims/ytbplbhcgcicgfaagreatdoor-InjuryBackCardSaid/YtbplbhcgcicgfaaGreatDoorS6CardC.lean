/- InjuryBack: the card. -/
import Derived.Test.YtbplbhcgcicgfaaGreatDoorS6SaidC
namespace Go.Vm.S6
open Go.Proofs Go.RowKit Go.ChangeShapes Go.WideShapes
open Go.Proofs.YtbplbhcgcicgfaaGreatDoor
set_option maxRecDepth 100000

theorem plainC (f : FuncId) (fn : Func) (hf : Tryz.pinned.checked.prog.funcNamed "crumple/crumplelaw06.InjuryBack" = some f) (hfn : Tryz.pinned.checked.prog.funcs[f]? = some fn) :
    false = Tryz.pinned.checked.prog.looks [] ∧ ∀ (j : Nat) t, fn.params[j]? = some t → Tryz.pinned.checked.prog.wantsStandIn t = false := by
  obtain rfl : f = 15 := Option.some.inj ((show Tryz.prog.funcNamed "crumple/crumplelaw06.InjuryBack" = some 15 by kernel_rfl).symm.trans hf) |>.symm
  obtain rfl : fn = Tryz.f15 := (Option.some.inj (Tryz.func15.symm.trans hfn)).symm
  refine ⟨by kernel_rfl, fun j t ht => ?_⟩
  rw [Tryz.params15] at ht
  have h : t = 121 ∨ t = 107 ∨ t = 9 := by simpa using Array.mem_of_getElem? ht
  rcases h with rfl | rfl | rfl
  · exact (show Tryz.prog.wantsStandIn 121 = false by kernel_rfl)
  · exact (show Tryz.prog.wantsStandIn 107 = false by kernel_rfl)
  · exact (show Tryz.prog.wantsStandIn 9 = false by kernel_rfl)

end Go.Vm.S6
namespace Go.Proofs.YtbplbhcgcicgfaaGreatDoor
open Go Go.Vm.S6
theorem back_card : Rows.InjuryBackCardSaid :=
  Claim7.holds_tied_plain_at .later [] _ _ _ _ saidC (fun _ h => by cases h) (by kernel_rfl) (fun _ h => by cases h) injuryBack_row_tie rfl ⟨rfl, rfl⟩ (by kernel_rfl) rfl plainC (by kernel_rfl)
end Go.Proofs.YtbplbhcgcicgfaaGreatDoor
