/- DummySeats: the card. -/
import Derived.Test.YtliikgffjphhjaaGreatDoorS3SaidS
namespace Go.Vm.S3
open Go.Proofs Go.RowKit Go.ChangeShapes Go.WideShapes
open Go.Proofs.YtliikgffjphhjaaGreatDoor
set_option maxRecDepth 100000

theorem plainS (f : FuncId) (fn : Func) (hf : Tryz.pinned.checked.prog.funcNamed "crumple/crumplelaw03.DummySeats" = some f) (hfn : Tryz.pinned.checked.prog.funcs[f]? = some fn) :
    false = Tryz.pinned.checked.prog.looks [] ∧ ∀ (j : Nat) t, fn.params[j]? = some t → Tryz.pinned.checked.prog.wantsStandIn t = false := by
  obtain rfl : f = 8 := Option.some.inj ((show Tryz.prog.funcNamed "crumple/crumplelaw03.DummySeats" = some 8 by kernel_rfl).symm.trans hf) |>.symm
  obtain rfl : fn = Tryz.f8 := (Option.some.inj (Tryz.func8.symm.trans hfn)).symm
  refine ⟨by kernel_rfl, fun j t ht => ?_⟩
  rw [Tryz.params8] at ht
  have h : t = 104 ∨ t = 105 ∨ t = 106 := by simpa using Array.mem_of_getElem? ht
  rcases h with rfl | rfl | rfl
  · exact (show Tryz.prog.wantsStandIn 104 = false by kernel_rfl)
  · exact (show Tryz.prog.wantsStandIn 105 = false by kernel_rfl)
  · exact (show Tryz.prog.wantsStandIn 106 = false by kernel_rfl)

end Go.Vm.S3
namespace Go.Proofs.YtliikgffjphhjaaGreatDoor
open Go Go.Vm.S3
theorem seats_card : Rows.DummySeatsCardSaid :=
  Claim7.holds_tied_plain_at .later [] _ _ _ _ saidS (fun _ h => by cases h) (by kernel_rfl) (fun _ h => by cases h) dummySeats_row_tie rfl ⟨rfl, rfl⟩ (by kernel_rfl) rfl plainS (by kernel_rfl)
end Go.Proofs.YtliikgffjphhjaaGreatDoor
