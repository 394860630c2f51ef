/- DummyDays: the card. -/
import Derived.Test.YtliikgffjphhjaaGreatDoorS3SaidD
namespace Go.Vm.S3
open Go.Proofs Go.RowKit Go.ChangeShapes Go.WideShapes
open Go.Proofs.YtliikgffjphhjaaGreatDoor
set_option maxRecDepth 100000
theorem plainD (f : FuncId) (fn : Func) (hf : Tryz.pinned.checked.prog.funcNamed "crumple/crumplelaw03.DummyDays" = some f) (hfn : Tryz.pinned.checked.prog.funcs[f]? = some fn) :
  false = Tryz.pinned.checked.prog.looks [] ∧ ∀ (j : Nat) t, fn.params[j]? = some t → Tryz.pinned.checked.prog.wantsStandIn t = false := by
 obtain rfl : f = 7 := Option.some.inj ((show Tryz.prog.funcNamed "crumple/crumplelaw03.DummyDays" = some 7 by kernel_rfl).symm.trans hf) |>.symm
 obtain rfl : fn = Tryz.f7 := (Option.some.inj (Tryz.func7.symm.trans hfn)).symm
 refine ⟨by kernel_rfl, fun j t ht => ?_⟩
 rw [Tryz.params7] at ht
 have h : t = 64 ∨ t = 3 := by simpa using Array.mem_of_getElem? ht
 rcases h with rfl | rfl
 ·exact (show Tryz.prog.wantsStandIn 64 = false by kernel_rfl)
 ·exact (show Tryz.prog.wantsStandIn 3 = false by kernel_rfl)
end Go.Vm.S3
namespace Go.Proofs.YtliikgffjphhjaaGreatDoor
open Go Go.Vm.S3
theorem days_card : Rows.DummyDaysCardSaid :=
 Claim7.holds_tied_plain_at .later [] _ _ _ _ saidD (fun _ h => by cases h) (by kernel_rfl) (fun _ h => by cases h) dummyDays_row_tie rfl ⟨rfl, rfl⟩ (by kernel_rfl) rfl plainD (by kernel_rfl)
end Go.Proofs.YtliikgffjphhjaaGreatDoor
