/- InjuryRanks: the card. -/
import Derived.Test.YtbplbhcgcicgfaaGreatDoorS6SaidK
namespace Go.Vm.S6
open Go.Proofs Go.RowKit Go.ChangeShapes Go.WideShapes
open Go.Proofs.YtbplbhcgcicgfaaGreatDoor
set_option maxRecDepth 100000

theorem plainK (f : FuncId) (fn : Func) (hf : Tryz.pinned.checked.prog.funcNamed "crumple/crumplelaw06.InjuryRanks" = some f) (hfn : Tryz.pinned.checked.prog.funcs[f]? = some fn) :
    false = Tryz.pinned.checked.prog.looks [] ∧ ∀ (j : Nat) t, fn.params[j]? = some t → Tryz.pinned.checked.prog.wantsStandIn t = false := by
  obtain rfl : f = 10 := Option.some.inj ((show Tryz.prog.funcNamed "crumple/crumplelaw06.InjuryRanks" = some 10 by kernel_rfl).symm.trans hf) |>.symm
  obtain rfl : fn = Tryz.f10 := (Option.some.inj (Tryz.func10.symm.trans hfn)).symm
  refine ⟨by kernel_rfl, fun j t ht => ?_⟩
  rw [Tryz.params10] at ht
  obtain rfl : t = 121 := by simpa using Array.mem_of_getElem? ht
  exact (show Tryz.prog.wantsStandIn 121 = false by kernel_rfl)

end Go.Vm.S6
namespace Go.Proofs.YtbplbhcgcicgfaaGreatDoor
open Go Go.Vm.S6
theorem ranks_card : Rows.InjuryRanksCardSaid :=
  Claim7.holds_tied_plain_at .later [] _ _ _ _ saidK (fun _ h => by cases h) (by kernel_rfl) (fun _ h => by cases h) injuryRanks_row_tie rfl ⟨rfl, rfl⟩ (by kernel_rfl) rfl plainK (by kernel_rfl)
end Go.Proofs.YtbplbhcgcicgfaaGreatDoor
