/- Seats: the program's count of signs against the reference's. -/
import Derived.Test.YtliikgffjphhjaaGreatDoorS3GB
namespace Go.Vm.S3
theorem whenZ {b : Bool} {e : Int} (he : e ≠ 0) (hw : whenM b e = 0) : b = false := by
  cases b with
  | false => rfl
  | true => exact absurd hw he
end Go.Vm.S3
