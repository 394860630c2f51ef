/- DummyTrees: the law. -/
import Derived.Test.YtliikgffjphhjaaGreatDoorS3P17
namespace Go.Vm.S3
open Go.Proofs Go.RowKit
theorem spList {l : List ByteArray} (hl : Nat.blt l.length two63 = true) (e bad : Int) (m : List ByteArray) : listedG [slA strC 1 l, iA e, iA bad, slA strC 1 m] = some (bA (listedM l e bad m)) := by
 have h := sp4_at (A := listC strC 1) (B := intC) (D := intC) (E := listC strC 1) (F := fun l e bad m => bif Nat.blt l.length two63 then some (bA (listedM l e bad m)) else none) l e bad m
 rw [hl] at h; exact h
theorem same_refl (l : List ByteArray) : sameM seq l l = true := by
 unfold sameM
 simp only [beq_self_eq_true, Bool.true_and, List.all_eq_true]
 intro p hp
 have : p.1 = p.2 := by
  have hz := List.mem_iff_getElem?.1 hp
  obtain ⟨i, hi⟩ := hz
  rw [List.getElem?_zip_eq_some] at hi
  have := hi.1.symm.trans hi.2
  simpa using this
 rw [this]; exact seq_self _
end Go.Vm.S3
