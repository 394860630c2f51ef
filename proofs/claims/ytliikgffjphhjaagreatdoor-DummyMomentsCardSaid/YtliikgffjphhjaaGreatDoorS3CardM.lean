/- DummyMoments: the card. -/
import Derived.Test.YtliikgffjphhjaaGreatDoorS3SaidM
namespace Go.Vm.S3
open Go.Proofs Go.RowKit Go.ChangeShapes Go.WideShapes
open Go.Proofs.YtliikgffjphhjaaGreatDoor
set_option maxRecDepth 100000

theorem plain (f : FuncId) (fn : Func) (hf : Tryz.pinned.checked.prog.funcNamed "crumple/crumplelaw03.DummyMoments" = some f) (hfn : Tryz.pinned.checked.prog.funcs[f]? = some fn) :
    false = Tryz.pinned.checked.prog.looks [] ∧ ∀ (j : Nat) t, fn.params[j]? = some t → Tryz.pinned.checked.prog.wantsStandIn t = false := by
  obtain rfl : f = 4 := Option.some.inj ((show Tryz.prog.funcNamed "crumple/crumplelaw03.DummyMoments" = some 4 by kernel_rfl).symm.trans hf) |>.symm
  obtain rfl : fn = Tryz.f4 := (Option.some.inj (Tryz.func4.symm.trans hfn)).symm
  refine ⟨by kernel_rfl, fun j t ht => ?_⟩
  rw [Tryz.params4] at ht
  obtain rfl : t = 32 := by simpa using Array.mem_of_getElem? ht
  exact (show Tryz.prog.wantsStandIn 32 = false by kernel_rfl)

end Go.Vm.S3
namespace Go.Proofs.YtliikgffjphhjaaGreatDoor
open Go Go.Vm.S3
theorem moments_card : Rows.DummyMomentsCardSaid :=
  Claim7.holds_tied_plain_at .later [] _ _ _ _ said (fun _ h => by cases h) (by kernel_rfl) (fun _ h => by cases h) dummyMoments_row_tie rfl ⟨rfl, rfl⟩ (by kernel_rfl) rfl plain (by kernel_rfl)
end Go.Proofs.YtliikgffjphhjaaGreatDoor
