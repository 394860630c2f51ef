/- InjuryWithin: what its walk asks. -/
import Derived.Test.YtbplbhcgcicgfaaGreatDoorS6PW
namespace Go.Vm.S6
open Go.Proofs Go.RowKit
set_option maxRecDepth 100000 in
theorem t83 (a b c d x y c1 c2 : Int) (o : Bool) : evTreeD (CS M2) 60 83 [.agg [intA a, intA b, intA c, intA d, boolA o], .agg [intA x, intA y]] [.sp [.agg [intA x, intA y], .agg [intA a, intA b]] (intA c1), .sp [.agg [intA x, intA y], .agg [intA c, intA d]] (intA c2)] =
    (.need (([.agg [intA x, intA y], .agg [intA a, intA b]] : List AV) = ([.agg [intA x, intA y], .agg [intA a, intA b]] : List AV) ∧ (Cx.spec (CS M2) 80 ([.agg [intA x, intA y], .agg [intA a, intA b]] : List AV)) = (some (AV.v (.int .i64 c1)))) (bif decide (c1 ≥ 0) then (bif o then (.done (some (boolA true))) else (.need (([.agg [intA x, intA y], .agg [intA c, intA d]] : List AV) = ([.agg [intA x, intA y], .agg [intA c, intA d]] : List AV) ∧ (Cx.spec (CS M2) 80 ([.agg [intA x, intA y], .agg [intA c, intA d]] : List AV)) = (some (AV.v (.int .i64 c2)))) (.done (some (boolA (decide (c2 ≤ 0))))))) else (.done (some (boolA false))))) := by kernel_rfl
/-! ### A size within bounds -/
def insM (b : Bd) (x : P2) : Bool := bif decide (cmpW x (loB b) ≥ 0) then (bif ovB b then true else decide (cmpW x (hiB b) ≤ 0)) else false
def insG : List AV → Option AV := sp2 bdC p2C fun b x => some (boolA (insM b x))
theorem h83 : Holds 83 insG := holds2 fun b x r hr => by
  simp only [Option.some.injEq] at hr; subst hr
  have ht := t83 b.1 b.2.1 b.2.2.1 b.2.2.2.1 x.1 x.2 (cmpW x (loB b)) (cmpW x (hiB b)) b.2.2.2.2
  have f1 : cmpRG [p2A x, p2A (loB b)] = some (intA (cmpW x (loB b))) := sp2_at (A := p2C) (B := p2C) (F := fun x y => some (intA (cmpW x y))) x (loB b)
  have f2 : cmpRG [p2A x, p2A (hiB b)] = some (intA (cmpW x (hiB b))) := sp2_at (A := p2C) (B := p2C) (F := fun x y => some (intA (cmpW x y))) x (hiB b)
  refine M2_ok.tr ht ?_
  unfold insM
  show (_ ∧ _) ∧ _
  refine ⟨⟨rfl, f1⟩, ?_⟩
  cases decide (cmpW x (loB b) ≥ 0) with
  | false => rfl
  | true =>
    cases hb : b.2.2.2.2 with
    | true => rw [show ovB b = true from hb]; rfl
    | false => rw [show ovB b = false from hb]; exact ⟨⟨rfl, f2⟩, rfl⟩
def W1 : Specs := ((((((((V8.set 62 stTabG).set 65 ownSG).set 67 bdG).set 68 tblG).set 63 pmaG).set 64 prkG).set 66 prbG).set 83 insG)
theorem W1_ok : Ok W1 := ((((((((V8_ok.set h62).set h65).set h67).set h68).set h63).set h64).set h66).set h83)
/-- The struct of where the integers are: two rows of 16 bytes, a limit, a table. -/
def whC (f : Nat → Int) (n d : Int) (tb : List AV) : List AV :=
  [u8A (f 0), u8A (f 1), u8A (f 2), u8A (f 3), u8A (f 4), u8A (f 5), u8A (f 6), u8A (f 7), u8A (f 8), u8A (f 9), u8A (f 10), u8A (f 11), u8A (f 12), u8A (f 13), u8A (f 14), u8A (f 15),
   u8A (f 16), u8A (f 17), u8A (f 18), u8A (f 19), u8A (f 20), u8A (f 21), u8A (f 22), u8A (f 23), u8A (f 24), u8A (f 25), u8A (f 26), u8A (f 27), u8A (f 28), u8A (f 29), u8A (f 30), u8A (f 31), intA n, intA d, .rsl 3 tb false]
theorem whC_at (f : Nat → Int) (n d : Int) (tb : List AV) : ∀ i, i < 32 → (whC f n d tb)[i]? = some (u8A (f i)) := by
  intro i hi
  match i, hi with
  | 0, _ => rfl
  | 1, _ => rfl
  | 2, _ => rfl
  | 3, _ => rfl
  | 4, _ => rfl
  | 5, _ => rfl
  | 6, _ => rfl
  | 7, _ => rfl
  | 8, _ => rfl
  | 9, _ => rfl
  | 10, _ => rfl
  | 11, _ => rfl
  | 12, _ => rfl
  | 13, _ => rfl
  | 14, _ => rfl
  | 15, _ => rfl
  | 16, _ => rfl
  | 17, _ => rfl
  | 18, _ => rfl
  | 19, _ => rfl
  | 20, _ => rfl
  | 21, _ => rfl
  | 22, _ => rfl
  | 23, _ => rfl
  | 24, _ => rfl
  | 25, _ => rfl
  | 26, _ => rfl
  | 27, _ => rfl
  | 28, _ => rfl
  | 29, _ => rfl
  | 30, _ => rfl
  | 31, _ => rfl
  | k + 32, h => exact absurd h (by omega)
end Go.Vm.S6
