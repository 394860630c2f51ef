/- Strings: slices, the reference's Long, Split, Text. -/
import Derived.Test.YtbplbhcgcicgfaaGreatDoorS6Y1
import Derived.Test.YtbplbhcgcicgfaaGreatDoorS6LA
namespace Go.Vm.S6
open Go.Proofs Go.RowKit Go.Lib
/-! ### Slices of a string -/
theorem pure_bound {b : Nat} {i : Nat} {code : BoundsCode} (h : i ≤ b) : pureRun Tryz.prog (Instr.sliceBound (.int .i64 (Int.ofNat i)) b code) = some i := by
  unfold Instr.sliceBound
  simp only [asIntOf, pureRun_bind, pureRun_pure, Option.bind_some]
  rw [if_pos ⟨Int.natCast_nonneg i, by simp only [Int.ofNat_eq_natCast]; omega⟩]
  rfl
theorem str_slice (S : Specs) {s : ByteArray} {i j : Nat} (h1 : i ≤ j) (h2 : j ≤ s.size) : aslice (CS S) Tr.leaf 9 (AV.v (.string s)) (some (AV.v (.int .i64 (Int.ofNat i)))) (some (AV.v (.int .i64 (Int.ofNat j)))) none = some (AV.v (.string (s.extract i j))) := by
  have e : aslice (CS S) Tr.leaf 9 (AV.v (.string s)) (some (AV.v (.int .i64 (Int.ofNat i)))) (some (AV.v (.int .i64 (Int.ofNat j)))) none = (pureRun Tryz.prog (Instr.slice 9 (.string s) (some (.int .i64 (Int.ofNat i))) (some (.int .i64 (Int.ofNat j))) none)).bind fun r => bif Value.single r then some (.v r) else none := by kernel_rfl
  rw [e]
  unfold Instr.slice Instr.sliceBounds
  simp only [pureRun_bind, pureRun_pure, Option.bind_some, pureRun_underlying Tryz.underlying9, pure_bound h1, pure_bound h2, Option.isSome_none, Bool.false_eq_true, if_false]
  rfl
theorem str_tail (S : Specs) {s : ByteArray} {i : Nat} (h1 : i ≤ s.size) : aslice (CS S) Tr.leaf 9 (AV.v (.string s)) (some (AV.v (.int .i64 (Int.ofNat i)))) none none = some (AV.v (.string (s.extract i s.size))) := by
  have e : aslice (CS S) Tr.leaf 9 (AV.v (.string s)) (some (AV.v (.int .i64 (Int.ofNat i)))) none none = (pureRun Tryz.prog (Instr.slice 9 (.string s) (some (.int .i64 (Int.ofNat i))) none none)).bind fun r => bif Value.single r then some (.v r) else none := by kernel_rfl
  rw [e]
  unfold Instr.slice Instr.sliceBounds
  simp only [pureRun_bind, pureRun_pure, Option.bind_some, pureRun_underlying Tryz.underlying9, pure_bound h1, Option.isSome_none, Bool.false_eq_true, if_false]
  rfl
/-! ### The reference's number -/
def okN (s : ByteArray) : Option Int := bif decide (Int.ofNat s.size < 1) then none else bif decide (Int.ofNat s.size > 13) then none else bif decide (Int.ofNat s.size > 1) && fstI s == 48 then none else intV s
/-- The program's number is the reference's, where it is one. -/
theorem int_ok (s : ByteArray) : match okN s with
    | some v => intT s = .tup [intA v, boolA true]
    | none => ∃ v, intT s = .tup [intA v, boolA false] := by
  have hgo := goL_stp s.size (bytesI s) 0 0
  have hV : intV s = bif (bytesI s).all fun c => digI c && Nat.ble s.size 13 then some (numI (bytesI s) 0) else none := hgo
  unfold okN intT
  by_cases h1 : s.size < 1
  · have e1 : decide (Int.ofNat s.size < 1) = true := by simp only [decide_eq_true_eq, Int.ofNat_eq_natCast]; omega
    have e2 : (Int.ofNat s.size == 0) = true := by simp only [beq_iff_eq, Int.ofNat_eq_natCast]; omega
    rw [e1, cond_true]
    simp only
    cases intV s with
    | none => exact ⟨0, rfl⟩
    | some v => rw [e2]; exact ⟨v, rfl⟩
  · have e1 : decide (Int.ofNat s.size < 1) = false := by simp only [decide_eq_false_iff_not, Int.ofNat_eq_natCast]; omega
    have e2 : (Int.ofNat s.size == 0) = false := by simp only [beq_eq_false_iff_ne, ne_eq, Int.ofNat_eq_natCast]; omega
    rw [e1, cond_false]
    by_cases h2 : s.size > 13
    · have e3 : decide (Int.ofNat s.size > 13) = true := by simp only [decide_eq_true_eq, Int.ofNat_eq_natCast]; omega
      have e4 : intV s = none := by
        rw [hV]
        have hb : Nat.ble s.size 13 = false := by
          rw [Bool.eq_false_iff]; intro h; have := Nat.le_of_ble_eq_true h; omega
        have hlen := bytesI_len s
        cases hq : bytesI s with
        | nil => rw [hq] at hlen; simp at hlen; omega
        | cons c r => rw [List.all_cons, hb, Bool.and_false, Bool.false_and]; rfl
      rw [e3, cond_true, e4]
      exact ⟨0, rfl⟩
    · have e3 : decide (Int.ofNat s.size > 13) = false := by simp only [decide_eq_false_iff_not, Int.ofNat_eq_natCast]; omega
      rw [e3, cond_false, e2]
      by_cases h3 : s.size > 1
      · have e5 : decide (Int.ofNat s.size > 1) = true := by simp only [decide_eq_true_eq, Int.ofNat_eq_natCast]; omega
        have e6 : (Int.ofNat s.size == 1) = false := by simp only [beq_eq_false_iff_ne, ne_eq, Int.ofNat_eq_natCast]; omega
        rw [e5, e6, Bool.true_and]
        cases h4 : fstI s == 48 with
        | true =>
          have : (fstI s != 48) = false := by rw [bne, h4]; rfl
          rw [this, cond_true]
          cases intV s with
          | none => exact ⟨0, rfl⟩
          | some v => exact ⟨v, rfl⟩
        | false =>
          have : (fstI s != 48) = true := by rw [bne, h4]; rfl
          rw [this, cond_false]
          cases intV s with
          | none => exact ⟨0, rfl⟩
          | some v => rfl
      · have e5 : decide (Int.ofNat s.size > 1) = false := by simp only [decide_eq_false_iff_not, Int.ofNat_eq_natCast]; omega
        have e6 : (Int.ofNat s.size == 1) = true := by simp only [beq_iff_eq, Int.ofNat_eq_natCast]; omega
        rw [e5, e6, Bool.false_and, cond_false]
        cases intV s with
        | none => exact ⟨0, rfl⟩
        | some v => rfl
end Go.Vm.S6
