/- Parts of a dummy: what the law's own helpers answer. -/
import Derived.Test.YtliikgffjphhjaaGreatDoorS3GE
import Derived.Test.YtliikgffjphhjaaGreatDoorS3A4
namespace Go.Vm.S3
open Go.Proofs Go.RowKit
set_option maxRecDepth 100000
abbrev c6 (q : I6) : AV := .agg [iA q.1, iA q.2.1, iA q.2.2.1, iA q.2.2.2.1, iA q.2.2.2.2.1, iA q.2.2.2.2.2]
theorem t21b (a b : Int) : evTreeD (CS P16) 60 21 [.rsl 1 [iA a, iA b] true] [] =
  .done (some (iA (firstM [a, b]))) := by kernel_rfl
def first2G : List AV → Option AV
 | [.rsl 1 [.v (.int .i64 a), .v (.int .i64 b)] true] => some (iA (firstM [a, b]))
 | _ => none
theorem first2_ok : Holds 21 first2G := fun l r hr => by
 unfold first2G at hr
 split at hr
 ·simp only [Option.some.injEq] at hr; subst hr
  exact P16_ok.tr (t21b _ _) rfl
 ·cases hr
def P17 : Specs := (P16.set 21 first2G)
theorem P17_ok : Ok P17 := (P16_ok.set first2_ok)
end Go.Vm.S3
