/- Parts of a dummy: what the law's own helpers answer. -/
import Derived.Test.YtliikgffjphhjaaGreatDoorS3GE
import Derived.Test.YtliikgffjphhjaaGreatDoorS3A4
namespace Go.Vm.S3
open Go.Proofs Go.RowKit
abbrev c6 (q : I6) : AV := .agg [iA q.1, iA q.2.1, iA q.2.2.1, iA q.2.2.2.1, iA q.2.2.2.2.1, iA q.2.2.2.2.2]
def P17 : Specs := P16
theorem P17_ok : Ok P17 := P16_ok
end Go.Vm.S3
