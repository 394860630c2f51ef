/- 'mapped': a list of what a function makes of each element. -/
import Derived.Test.YtbplbhcgcicgfaaGreatDoorS6AA
import Derived.Test.YtbplbhcgcicgfaaGreatDoorVmH
import Derived.Test.YtbplbhcgcicgfaaGreatDoorVmG
namespace Go.Vm.S6
open Go.Proofs Go.RowKit
abbrev lim : Nat := 1000000
section
variable {S : Specs} {f : FuncId} {α β : Type} {A : Cod α} {B : Cod β} {fv : AV} {g : α → β} {sza szb bb : Nat}
abbrev mapIn (fv a : AV) (sza : Nat) (es : List AV) (n i : Nat) : List AV := [fv, a, .rsl sza es false, intA (Int.ofNat n), intA (Int.ofNat i)]
end
/-- One function, as a parameter. -/
def fnV (f : FuncId) : AV := .fn (.func f) [] []
def isFn (f : FuncId) : AV → Bool
  | .fn (.func f') [] [] => Nat.beq f' f
  | _ => false
def fnC (f : FuncId) : Cod Unit := oneC (fnV f) (isFn f) (fun b hb => by
  unfold isFn at hb
  split at hb
  · rw [Nat.eq_of_beq_eq_true hb]; exact Weak.rfl
  · cases hb) (by simp [isFn, fnV])
theorem limTwo {n : Nat} (h : n ≤ lim) : n < two63 := by unfold lim at h; unfold two63; omega
theorem firstZ (x : Int) (r : List Int) : firstM (x :: r) = 0 ↔ x = 0 ∧ firstM r = 0 := by
  by_cases hx : x = 0
  · subst hx
    show firstM r = 0 ↔ _
    simp
  · have : (x != 0) = true := by simp [hx]
    unfold firstM
    rw [this]
    simp [hx]
theorem whenZ {b : Bool} {e : Int} (he : e ≠ 0) (hw : whenM b e = 0) : b = false := by
  cases b with
  | false => rfl
  | true => exact absurd hw he
theorem gath_id {α : Type} (l : List α) : gath (fun _ x => [x]) 0 l = l := by rw [gath_map (fun x => x)]; simp
end Go.Vm.S6
