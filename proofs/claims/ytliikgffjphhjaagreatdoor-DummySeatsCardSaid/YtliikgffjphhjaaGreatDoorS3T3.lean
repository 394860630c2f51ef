/- The check of a box. -/
import Derived.Test.YtliikgffjphhjaaGreatDoorS3T2
import Derived.Test.YtliikgffjphhjaaGreatDoorS3Map
namespace Go.Vm.S3
open Go.Proofs Go.RowKit
set_option maxRecDepth 100000 in
theorem t150 (a b c d e f : Int) : evTreeD (CS T2) 60 150 [.agg [intA a, intA b, intA c, intA d, intA e, intA f]] [] =
    (.done (some (.v (.int .i64 (firstM [ivM (a, b) (IntKind.i64.wrap (0 - 10000)) 10000, ivM (c, d) (IntKind.i64.wrap (0 - 10000)) 10000, ivM (e, f) (IntKind.i64.wrap (0 - 10000)) 10000]))))) := by kernel_rfl
def bxM (b : I6) : Int := firstM [ivM (b.1, b.2.1) (-10000) 10000, ivM (b.2.2.1, b.2.2.2.1) (-10000) 10000, ivM (b.2.2.2.2.1, b.2.2.2.2.2) (-10000) 10000]
def bxG : List AV → Option AV := sp1 bxC fun b => some (intA (bxM b))
theorem h150 : Holds 150 bxG := holds1 fun b r hr => by
  simp only [Option.some.injEq] at hr; subst hr; exact T2_ok.tr (t150 b.1 b.2.1 b.2.2.1 b.2.2.2.1 b.2.2.2.2.1 b.2.2.2.2.2) rfl
def T3 : Specs := T2.set 150 bxG
theorem T3_ok : Ok T3 := T2_ok.set h150
end Go.Vm.S3
