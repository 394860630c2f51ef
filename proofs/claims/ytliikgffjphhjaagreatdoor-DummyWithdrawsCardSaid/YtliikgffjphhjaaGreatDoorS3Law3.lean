/- DummyTrees: the law. -/
import Derived.Test.YtliikgffjphhjaaGreatDoorS3P17
namespace Go.Vm.S3
open Go.Proofs Go.RowKit
theorem same_refl (l : List ByteArray) : sameM seq l l = true := by
 unfold sameM
 simp only [beq_self_eq_true, Bool.true_and, List.all_eq_true]
 intro p hp
 have : p.1 = p.2 := by
  have hz := List.mem_iff_getElem?.1 hp
  obtain ⟨i, hi⟩ := hz
  rw [List.getElem?_zip_eq_some] at hi
  have := hi.1.symm.trans hi.2
  simpa using this
 rw [this]; exact seq_self _
end Go.Vm.S3
