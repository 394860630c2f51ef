/- InjuryJoint. -/
import Derived.Test.YtbplbhcgcicgfaaGreatDoorS6V4
namespace Go.Vm.S6
open Go.Proofs Go.RowKit
theorem eqBd (S : Specs) (xo yo : Operand) (a b c d a' b' c' d' : Int) (o o' : Bool) : abin (CS S) .eql 91 xo yo (.agg [intA a, intA b, intA c, intA d, boolA o]) (.agg [intA a', intA b', intA c', intA d', boolA o']) =
    some (gB ((a == a' && (b == b' && true)) && ((c == c' && (d == d' && true)) && (o == o' && true)))) :=
  (abin_agg rfl rfl (by kernel_rfl) (by kernel_rfl)).1
theorem eqT91 (S : Specs) (xo yo : Operand) (x : Bd5) : abin (CS S) .eql 91 xo yo (bdA x) (bdA x) = some (gB true) := by
  unfold bdA bd5
  rw [eqBd S xo yo _ _ _ _ _ _ _ _ _ _]
  simp only [beq_self_eq_true, Bool.and_true]
theorem specOwnV {l : List Va} (h : Nat.ble l.length lim = true) : ownVG [slA vaC 4 l] = some (slA vaC 4 l) := by
  have h1 := sp1_at (A := vasC) (F := fun l => bif Nat.ble l.length lim then some (slA vaC 4 l) else none) l
  rw [h] at h1; exact h1
theorem specStr (l : List Va) : stTrG [slA vaC 4 l] = some (boolA (shortM l.length)) := sp1_at (A := vasC) (F := fun l => some (boolA (shortM l.length))) l
end Go.Vm.S6
