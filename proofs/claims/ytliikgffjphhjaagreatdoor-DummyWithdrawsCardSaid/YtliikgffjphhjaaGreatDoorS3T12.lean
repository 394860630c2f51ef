/- The document's examples: among the specifications. -/
import Derived.Test.YtliikgffjphhjaaGreatDoorS3GB
import Derived.Test.YtliikgffjphhjaaGreatDoorS3Awake
namespace Go.Vm.S3
open Go.Proofs Go.RowKit
def T12 : Specs := (T11.set 14 (atG [] (gB true)))
theorem T12_ok : Ok T12 := (T11_ok.set (at_holds (SB_ok.tr0 awake_ev)))
end Go.Vm.S3
