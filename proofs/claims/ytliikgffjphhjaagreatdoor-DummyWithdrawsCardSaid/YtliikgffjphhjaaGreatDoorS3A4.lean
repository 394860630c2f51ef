/- The moment, and DummyMoments. -/
import Derived.Test.YtliikgffjphhjaaGreatDoorS3GA
import Derived.Test.YtliikgffjphhjaaGreatDoorS3Awake
namespace Go.Vm.S3
open Go.Proofs Go.RowKit
end Go.Vm.S3
