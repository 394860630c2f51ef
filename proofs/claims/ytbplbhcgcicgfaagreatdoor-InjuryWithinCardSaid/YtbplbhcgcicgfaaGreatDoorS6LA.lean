/- InjuryLevels. -/
import Derived.Test.YtbplbhcgcicgfaaGreatDoorS6T7
namespace Go.Vm.S6
open Go.Proofs Go.RowKit
theorem specAt2 {α β : Type} {A : Cod α} {B : Cod β} {b : α → β → Bool} {F : α → β → AV} (x : α) (y : β) (h : b x y = true) : sp2 A B (fun x y => bif b x y then some (F x y) else none) [A.enc x, B.enc y] = some (F x y) := by
  rw [sp2_at, h]; rfl
theorem specAt3 {α β γ : Type} {A : Cod α} {B : Cod β} {D : Cod γ} {b : α → β → γ → Bool} {F : α → β → γ → AV} (x : α) (y : β) (z : γ) (h : b x y z = true) : sp3 A B D (fun x y z => bif b x y z then some (F x y z) else none) [A.enc x, B.enc y, D.enc z] = some (F x y z) := by
  rw [sp3_at, h]; rfl
theorem specOwn {l : List Int} (h : Nat.ble l.length lim = true) : ownG [slA intC 1 l] = some (slA intC 1 l) := by
  have h1 := sp1_at (A := intsC) (F := fun l => bif Nat.ble l.length lim then some (slA intC 1 l) else none) l
  rw [h] at h1; exact h1
end Go.Vm.S6

namespace Go.Vm.S6
open Go.Proofs Go.RowKit
abbrev jtC : Cod (Int × Int × Int) := aggC (RC.cons intC (RC.cons intC (RC.one intC)))
theorem bnz {e : Int} : (e != 0) = !(e == 0) := rfl
end Go.Vm.S6
