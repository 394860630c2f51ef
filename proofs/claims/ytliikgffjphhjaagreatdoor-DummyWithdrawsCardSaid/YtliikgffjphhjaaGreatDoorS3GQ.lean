/- Days: whether a test is questionable by a calibration, of the reference. -/
import Derived.Test.YtliikgffjphhjaaGreatDoorS3GP
import Derived.Test.YtliikgffjphhjaaGreatDoorS3GO
namespace Go.Vm.S3
open Go.Proofs Go.RowKit
set_option maxRecDepth 20000
theorem take_at {α : Type} {l : List α} {k i : Nat} {o : α} (h : (l.take k)[i]? = some o) : i < k ∧ l[i]? = some o := by
 rw [List.getElem?_take] at h
 by_cases hi : i < k
 ·rw [if_pos hi] at h; exact ⟨hi, h⟩
 ·rw [if_neg hi] at h; cases h
end Go.Vm.S3

namespace Go.Vm.S3
open Go.Proofs Go.RowKit
set_option maxRecDepth 20000
end Go.Vm.S3

namespace Go.Vm.S3
open Go.Proofs Go.RowKit
set_option maxRecDepth 20000
end Go.Vm.S3

namespace Go.Vm.S3
open Go.Proofs Go.RowKit
set_option maxRecDepth 20000
end Go.Vm.S3

namespace Go.Vm.S3
open Go.Proofs Go.RowKit
set_option maxRecDepth 20000
end Go.Vm.S3

namespace Go.Vm.S3
open Go.Proofs Go.RowKit
set_option maxRecDepth 20000
end Go.Vm.S3

namespace Go.Vm.S3
open Go.Proofs Go.RowKit
set_option maxRecDepth 20000
theorem ch_lim {x : Lb} (g : Nat → Bool) (h : okLb x = true) : (chM x g).length ≤ lim := Nat.le_trans (gath_le (chG_le _) _ _) (okLb_at h).ts
end Go.Vm.S3
