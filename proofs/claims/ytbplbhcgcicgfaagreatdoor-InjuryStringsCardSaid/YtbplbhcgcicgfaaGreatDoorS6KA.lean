/- Plain laws: ratios in order. -/
import Derived.Test.YtbplbhcgcicgfaaGreatDoorS6LA
import Derived.Test.YtbplbhcgcicgfaaGreatDoorS6M1
import Derived.Test.YtbplbhcgcicgfaaGreatDoorVmSort
import Derived.Laws.StructEq
namespace Go.Vm.S6
/-! ### Ranks -/
section
variable {α : Type}
end
end Go.Vm.S6

namespace Go.Vm.S6
open Go.Proofs Go.RowKit
/-! ### Ratios in order -/
end Go.Vm.S6

namespace Go.Vm.S6
open Go.Proofs Go.RowKit
/-- A loop whose state is known from its round's number. -/
theorem LoopRun.idx {α : Type} {C : Cx} {p nt : Nat} {rd : Bool} {c : Code} (enc : Nat → St) (ex : Ex) (out : St) (l : List α) (hx : ex ≠ .nrm)
    (hs : ∀ i x, l[i]? = some x → Says C p nt rd c (enc i) .nrm (enc (i + 1))) (hf : Says C p nt rd c (enc l.length) ex out) : LoopRun C p nt rd c (enc 0) ex out := by
  have h := LoopRun.list (C := C) (p := p) (nt := nt) (rd := rd) (c := c) (step := fun _ (_ : α) (_ : Unit) => (.inl () : Unit ⊕ Unit)) (fin := id) (enc := fun i _ => enc i) (ex := fun _ => ex) (out := fun _ => out) (l := l) (fun _ _ => True)
    (fun i x _ hi _ => ⟨hs i x hi, trivial⟩) (fun _ _ => ⟨hf, hx⟩) l [] () rfl trivial
  exact h
/-! ### Checks -/
/-! ### The closure -/
/-! ### The reference's ranks -/
def K1 : Specs := T8
theorem K1_ok : Ok K1 := T8_ok
end Go.Vm.S6

namespace Go.Vm.S6
open Go.Proofs Go.RowKit
theorem abSub1 {S : Specs} {t : Nat} {n : Nat} (h : n + 1 < two63) : abin (CS S) BinOp.sub 3 (Operand.tmp t) (Operand.const (Value.int IntKind.i64 1)) (AV.v (.int .i64 (Int.ofNat (n + 1)))) (AV.v (.int .i64 1)) = some (AV.v (.int .i64 (Int.ofNat n))) := by
  show some (AV.v (.int .i64 (IntKind.i64.wrap (Int.ofNat (n + 1) - 1)))) = _
  rw [show Int.ofNat (n + 1) - 1 = Int.ofNat n by simp only [Int.ofNat_eq_natCast]; omega, wrapN n (by omega)]
def K2 : Specs := K1
theorem K2_ok : Ok K2 := K1_ok
end Go.Vm.S6

namespace Go.Vm.S6
open Go.Proofs Go.RowKit
/-! ### The insertion sort -/
/-! ### The ranks -/
end Go.Vm.S6

namespace Go.Vm.S6
open Go.Proofs Go.RowKit Go.Sort Go.Shelf Go.Lib
/-! ### Ratios that are valid -/
abbrev Rt : Type := { x : P2 // ratErr x = 0 }
instance : Inhabited Rt := ⟨⟨(0, 1), rfl⟩⟩
theorem ratC {x : P2} (h : ratErr x = 0) : (0 ≤ x.1 ∧ x.1 ≤ 5000000000000) ∧ (0 ≤ x.2 ∧ x.2 ≤ 1000000) := by
  unfold ratErr at h
  cases hs : sizeErr x != 0 with
  | true => rw [hs, cond_true] at h; rw [h] at hs; cases hs
  | false =>
    obtain ⟨h1, h2⟩ := size_zero.1 (show sizeErr x = 0 by simpa using hs)
    exact ⟨h1, by omega, h2.2⟩
/-! ### The row -/
/-! ### The median -/
def K3 : Specs := K2
theorem K3_ok : Ok K3 := K2_ok
end Go.Vm.S6

namespace Go.Vm.S6
open Go.Proofs Go.RowKit
/-! ### Risks -/
theorem specTbl {l : List St3} (h : Nat.ble l.length lim = true) : tblG [slA stepC 3 l] = some (intA (tblM l)) := by
  have h1 := sp1_at (A := stepsC) (F := fun l => bif Nat.ble l.length lim then some (intA (tblM l)) else none) l
  rw [h] at h1; exact h1
end Go.Vm.S6
