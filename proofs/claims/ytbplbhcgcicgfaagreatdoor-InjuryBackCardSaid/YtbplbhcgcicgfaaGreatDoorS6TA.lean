/- Series, counts, worth. -/
import Derived.Test.YtbplbhcgcicgfaaGreatDoorS6Plain
namespace Go.Vm.S6
open Go.Proofs Go.RowKit
set_option maxRecDepth 100000 in
theorem t26 (a b : Int) (r : P2) (e : Bool) : evTreeD (CS T2) 60 26 [.agg [intA a, intA b]] [.br [] [.sp [intA a, intA b] (p2A r), .eq (boolA e)]] =
    (bif firstM [withinM a 0 5000000000000, withinM b 1 1000000] != 0 then (.done (some (.v (.int .i64 (firstM [withinM a 0 5000000000000, withinM b 1 1000000]))))) else (.need (asks (CS T2) 104 [.v (.int .i64 a), .v (.int .i64 b)] (AV.agg [.v (.int .i64 r.fst), .v (.int .i64 r.snd)])) (.need ((abin (CS T2) BinOp.neq 28 (Operand.tmp 19) (Operand.tmp 20) (AV.agg [.v (.int .i64 r.fst), .v (.int .i64 r.snd)]) (AV.agg [.v (.int .i64 a), .v (.int .i64 b)])) = (some (AV.v (.bool e)))) (.done (some (.v (.int .i64 (whenM e 1)))))))) := by kernel_rfl
/-! ### The program's check of a series -/
theorem specMany (n m : Int) : manyG [intA n, intA m] = some (intA (manyI n m)) := sp2_at (A := intC) (B := intC) (F := fun n m => some (intA (manyI n m))) n m
theorem specFirst {l : List Int} (h : Nat.ble l.length lim = true) : firstG [slA intC 1 l] = some (intA (firstM l)) := by
  have h1 := sp1_at (A := listC intC 1) (F := firstF) l
  have : Nat.blt l.length two63 = true := by have := Nat.le_of_ble_eq_true h; unfold lim at this; simp [Nat.blt]; unfold two63; omega
  unfold firstF at h1
  rw [this] at h1; exact h1
theorem firstAll {α : Type} {g : α → Int} : ∀ {l : List α}, firstM (l.map g) = 0 ↔ ∀ x ∈ l, g x = 0
  | [] => by simp [firstM]
  | x :: r => by rw [List.map_cons, firstZ, firstAll]; simp
def Ser (l : List Int) : Prop := 1 ≤ l.length ∧ l.length ≤ 128 ∧ ∀ x ∈ l, -16384 ≤ x ∧ x ≤ 16384
theorem Ser.two {l : List Int} (h : Ser l) : l.length < two63 := by have := h.2.1; unfold two63; omega
theorem Ser.ble {l : List Int} (h : Ser l) : Nat.ble l.length lim = true := Nat.ble_eq_true_of_le (by have := h.2.1; unfold lim; omega)
/-! ### Counts above a level -/
/-! ### The worth of a sum -/
theorem specLow {a b : Int} (h : lowOk a b = true) : lowG [intA a, intA b] = some (p2A (lowM a b)) := by
  have h1 := sp2_at (A := intC) (B := intC) (F := fun a b => bif lowOk a b then some (p2A (lowM a b)) else none) a b
  rw [h] at h1; exact h1
/-! ### Sums of windows -/
/-! ### Checks of ratios, sums of two -/
theorem h26 : Holds 26 ratG := holds1 fun x r hr => by
  simp only [Option.some.injEq] at hr; subst hr
  refine T2_ok.tr (t26 x.1 x.2 (lowM x.1 x.2) (!((lowM x.1 x.2).1 == x.1 && ((lowM x.1 x.2).2 == x.2 && true)))) ?_
  unfold ratErr
  show (bif sizeErr x != 0 then _ else _ : Dt AV).ok _
  cases h : sizeErr x != 0 with
  | true => rfl
  | false =>
    have h0 : sizeErr x = 0 := by simpa using h
    rw [size_zero] at h0
    refine ⟨⟨rfl, specLow (by unfold lowOk; simp only [Bool.and_eq_true, inN_iff, decide_eq_true_eq]; omega)⟩, (eqRa T2 _ _ _ _ _ _).2, ?_⟩
    have := lowM_self (n := x.1) (d := x.2) (by omega)
    have h2 : ((lowM x.1 x.2).1 == x.1 && ((lowM x.1 x.2).2 == x.2 && true)) = (Int.gcd x.1 x.2 == 1) := by
      rw [← this, Bool.and_true]; rfl
    rw [h2]
    have h3 : (!(Int.gcd x.1 x.2 == 1)) = ((Int.gcd x.1 x.2 : Int) != 1) := by
      rw [Bool.eq_iff_iff]; simp; omega
    rw [h3]; rfl
theorem mul_bd {x y a b : Int} (hx : 0 ≤ x ∧ x ≤ a) (hy : 0 ≤ y ∧ y ≤ b) : 0 ≤ x * y ∧ x * y ≤ a * b :=
  ⟨Int.mul_nonneg hx.1 hy.1, Int.mul_le_mul hx.2 hy.2 hy.1 (by omega)⟩
def T3 : Specs := (T2.set 26 ratG)
theorem T3_ok : Ok T3 := (T2_ok.set h26)
end Go.Vm.S6

namespace Go.Vm.S6
open Go.Proofs Go.RowKit
/-! ### The longest run -/
/-! ### The reference's longest run -/
/-! ### The program's worth of a window -/
def T4 : Specs := T3
theorem T4_ok : Ok T4 := T3_ok
end Go.Vm.S6

namespace Go.Vm.S6
open Go.Proofs Go.RowKit
theorem sub_ok (S : Specs) (x y : Operand) (a b : Int) : abin (CS S) .sub 3 x y (intA a) (intA b) = some (intA (IntKind.i64.wrap (a - b))) := rfl
/-! ### The program's held level -/
/-! ### The reference's -/
def T5 : Specs := T4
theorem T5_ok : Ok T5 := T4_ok
end Go.Vm.S6

namespace Go.Vm.S6
open Go.Proofs Go.RowKit
/-! ### Two series together -/
/-! ### The reference's -/
theorem cmpW_eq {x y : P2} {b c : Int} (hx : (0 ≤ x.1 ∧ x.1 ≤ b) ∧ 0 ≤ x.2 ∧ x.2 ≤ c) (hy : (0 ≤ y.1 ∧ y.1 ≤ b) ∧ 0 ≤ y.2 ∧ y.2 ≤ c) (hbc : b * c ≤ 9000000000000000000) : cmpW x y = cmpM x y := by
  have h1 := mul_bd hx.1 hy.2
  have h2 := mul_bd hy.1 hx.2
  unfold cmpW cmpM cmpI
  rw [wrap_in (n := x.1 * y.2) (by omega) (by omega), wrap_in (n := y.1 * x.2) (by omega) (by omega)]
/-! ### Moments -/
def T6 : Specs := T5
theorem T6_ok : Ok T6 := T5_ok
end Go.Vm.S6
