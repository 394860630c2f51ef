/- DummyWithdraws: the card. -/
import Derived.Test.YtliikgffjphhjaaGreatDoorS3SaidW
namespace Go.Vm.S3
open Go.Proofs Go.RowKit Go.ChangeShapes Go.WideShapes
open Go.Proofs.YtliikgffjphhjaaGreatDoor
set_option maxRecDepth 100000
theorem plainW (f : FuncId) (fn : Func) (hf : Tryz.pinned.checked.prog.funcNamed "crumple/crumplelaw03.DummyWithdraws" = some f) (hfn : Tryz.pinned.checked.prog.funcs[f]? = some fn) :
  false = Tryz.pinned.checked.prog.looks [] ∧ ∀ (j : Nat) t, fn.params[j]? = some t → Tryz.pinned.checked.prog.wantsStandIn t = false := by
 obtain rfl : f = 9 := Option.some.inj ((show Tryz.prog.funcNamed "crumple/crumplelaw03.DummyWithdraws" = some 9 by kernel_rfl).symm.trans hf) |>.symm
 obtain rfl : fn = Tryz.f9 := (Option.some.inj (Tryz.func9.symm.trans hfn)).symm
 refine ⟨by kernel_rfl, fun j t ht => ?_⟩
 rw [Tryz.params9] at ht
 have h : t = 64 ∨ t = 5 := by simpa using Array.mem_of_getElem? ht
 rcases h with rfl | rfl
 ·exact (show Tryz.prog.wantsStandIn 64 = false by kernel_rfl)
 ·exact (show Tryz.prog.wantsStandIn 5 = false by kernel_rfl)
end Go.Vm.S3
namespace Go.Proofs.YtliikgffjphhjaaGreatDoor
open Go Go.Vm.S3
theorem withdraws_card : Rows.DummyWithdrawsCardSaid :=
 Claim7.holds_tied_plain_at .later [] _ _ _ _ saidW (fun _ h => by cases h) (by kernel_rfl) (fun _ h => by cases h) dummyWithdraws_row_tie rfl ⟨rfl, rfl⟩ (by kernel_rfl) rfl plainW (by kernel_rfl)
end Go.Proofs.YtliikgffjphhjaaGreatDoor
