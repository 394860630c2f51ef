/- Labs: the same (Q19). -/
import Derived.Test.YtliikgffjphhjaaGreatDoorS3GK
namespace Go.Vm.S3
open Go.Proofs Go.RowKit
def Q19 : Specs := Q18
theorem Q19_ok : Ok Q19 := Q18_ok
end Go.Vm.S3

namespace Go.Vm.S3
open Go.Proofs Go.RowKit
noncomputable def eqC {α : Type} (a b : α) : Bool := @decide (a = b) (Classical.propDecidable _)
theorem eqC_self {α : Type} (a : α) : eqC a a = true := by unfold eqC; exact @decide_eq_true _ (Classical.propDecidable _) rfl
theorem eqC_of {α : Type} {a b : α} (h : eqC a b = true) : a = b := by unfold eqC at h; exact @of_decide_eq_true _ (Classical.propDecidable _) h
noncomputable def Q20 : Specs := Q19
theorem Q20_ok : Ok Q20 := Q19_ok
end Go.Vm.S3

namespace Go.Vm.S3
open Go.Proofs Go.RowKit
noncomputable def Q21 : Specs := Q20
theorem Q21_ok : Ok Q21 := Q20_ok
end Go.Vm.S3

namespace Go.Vm.S3
open Go.Proofs Go.RowKit
theorem okLb_short {x : Lb} (h : shortL x = true) : okLb x = true := by
 have S := shortL_at h
 unfold okLb
 simp only [Bool.and_eq_true, List.all_eq_true]
 refine ⟨shortP_ok S.ps, Nat.ble_eq_true_of_le (by have := S.fs; unfold lim; omega), Nat.ble_eq_true_of_le (by have := S.cs; unfold lim; omega), Nat.ble_eq_true_of_le (by have := S.ts; unfold lim; omega), fun c hc => Nat.ble_eq_true_of_le ?_, fun c hc => Nat.ble_eq_true_of_le ?_⟩
 ·have := longC_at (S.co c hc); unfold lim; omega
 ·have := longT_at (S.te c hc); unfold lim; omega
theorem okWo {x : Lb} (k : Nat) (h : okLb x = true) : okLb (woM x k) = true := by
 have K := okLb_at h
 unfold okLb woM
 simp only [Bool.and_eq_true, List.all_eq_true]
 refine ⟨K.ps, Nat.ble_eq_true_of_le K.fs, Nat.ble_eq_true_of_le ?_, Nat.ble_eq_true_of_le K.ts, fun c hc => ?_, K.ws⟩
 ·have := K.cs
  rw [List.length_append, List.length_take, List.length_drop]
  omega
 ·rcases List.mem_append.1 hc with hc | hc
  ·exact K.vs c (List.mem_of_mem_take hc)
  ·exact K.vs c (List.mem_of_mem_drop hc)
end Go.Vm.S3
