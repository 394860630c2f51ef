/- The moment, and DummyMoments. -/
import Derived.Test.YtliikgffjphhjaaGreatDoorS3GA
import Derived.Test.YtliikgffjphhjaaGreatDoorS3Awake
namespace Go.Vm.S3
open Go.Proofs Go.RowKit
set_option maxRecDepth 100000 in
theorem t32 (v w : V3) (e bad : Int) (b : Bool) : evTreeD (CS S3) 60 32 [vA v, intA e, intA bad, vA w] [.eq (gB b)] =
    (bif bad != 0 then (.need ((abin (CS S3) BinOp.eql 32 (Operand.tmp 12) (Operand.tmp 13) (AV.agg [.v (.int .i64 v.fst), .v (.int .i64 v.snd.fst), .v (.int .i64 v.snd.snd)]) (AV.agg [.v (.int .i64 0), .v (.int .i64 0), .v (.int .i64 0)])) = (some (AV.v (.bool b)))) (bif b then (.done (some (.v (.bool (bif true then e == bad else false))))) else (.done (some (.v (.bool false)))))) else (.need ((abin (CS S3) BinOp.eql 32 (Operand.tmp 12) (Operand.tmp 13) (AV.agg [.v (.int .i64 v.fst), .v (.int .i64 v.snd.fst), .v (.int .i64 v.snd.snd)]) (AV.agg [.v (.int .i64 w.fst), .v (.int .i64 w.snd.fst), .v (.int .i64 w.snd.snd)])) = (some (AV.v (.bool b)))) (bif b then (.done (some (.v (.bool (bif true then e == bad else false))))) else (.done (some (.v (.bool false))))))) := by kernel_rfl
def veqB (v w : V3) : Bool := v.1 == w.1 && (v.2.1 == w.2.1 && v.2.2 == w.2.2)
def placeM (have_ : V3) (e bad : Int) (want : V3) : Bool := veqB have_ (bif bad != 0 then (0, 0, 0) else want) && e == bad
def placeG : List AV → Option AV := sp4 vecC intC intC vecC fun v e bad w => some (gB (placeM v e bad w))
theorem place_ok : Holds 32 placeG := holds4 fun v e bad w r hr => by
  simp only [Option.some.injEq] at hr; subst hr
  refine S3_ok.tr (t32 v w e bad (veqB v (bif bad != 0 then (0, 0, 0) else w))) ?_
  unfold placeM
  cases hb : bad != 0 with
  | true =>
    refine ⟨vec_eq S3 _ _ v.1 v.2.1 v.2.2 0 0 0, ?_⟩
    simp only [cond_true]
    cases veqB v (0, 0, 0) <;> rfl
  | false =>
    refine ⟨vec_eq S3 _ _ v.1 v.2.1 v.2.2 w.1 w.2.1 w.2.2, ?_⟩
    simp only [cond_false]
    cases veqB v w <;> rfl
end Go.Vm.S3
