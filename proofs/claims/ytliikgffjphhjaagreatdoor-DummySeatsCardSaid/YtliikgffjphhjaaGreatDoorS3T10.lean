/- Words and numbers that are the same: among the specifications. -/
import Derived.Test.YtliikgffjphhjaaGreatDoorS3T9
namespace Go.Vm.S3
open Go.Proofs Go.RowKit
def T10 : Specs := ((T9.set 77 (sp2 (listC strC 1) strC fun l s => bif Nat.blt l.length two63 then some (boolA (hasWordM l s)) else none)).set 78 (sp2 (listC strC 1) (listC strC 1) fun l m => bif Nat.blt l.length two63 then some (boolA (sameM seq l m)) else none)).set 75 (sp2 (listC intC 1) (listC intC 1) fun l m => bif Nat.blt l.length two63 then some (boolA (sameM (· == ·) l m)) else none)
theorem T10_ok : Ok T10 := ((T9_ok.set (hasWord_ok T9_ok)).set (sameWords_ok T9_ok)).set (sameInts_ok T9_ok)
end Go.Vm.S3
