/- InjuryLevels. -/
import Derived.Test.YtbplbhcgcicgfaaGreatDoorS6T7
import Derived.Test.YtbplbhcgcicgfaaGreatDoorVmMapI
namespace Go.Vm.S6
open Go.Proofs Go.RowKit
end Go.Vm.S6

namespace Go.Vm.S6
open Go.Proofs Go.RowKit
abbrev jtC : Cod (Int × Int × Int) := aggC (RC.cons intC (RC.cons intC (RC.one intC)))
end Go.Vm.S6

namespace Go.Vm.S6
open Go.Proofs Go.RowKit
end Go.Vm.S6

namespace Go.Vm.S6
open Go.Proofs Go.RowKit
end Go.Vm.S6

namespace Go.Vm.S6
open Go.Proofs Go.RowKit
/-! ### The reference's search -/
/-! ### The program's two questions -/
end Go.Vm.S6

namespace Go.Vm.S6
/-! ### The best window: what it is -/
/-! Ratios in lowest terms. -/
theorem lowest_unique {a b c e : Nat} (h1 : Nat.gcd a b = 1) (h2 : Nat.gcd c e = 1) (hb : 0 < b) (he : 0 < e) (h : a * e = c * b) : a = c ∧ b = e := by
  have d1 : b ∣ e := by
    have : b ∣ a * e := ⟨c, by rw [h, Nat.mul_comm]⟩
    exact Nat.Coprime.dvd_of_dvd_mul_left (show Nat.Coprime b a by rw [Nat.coprime_comm]; exact h1) this
  have d2 : e ∣ b := by
    have : e ∣ c * b := ⟨a, by rw [← h, Nat.mul_comm]⟩
    exact Nat.Coprime.dvd_of_dvd_mul_left (show Nat.Coprime e c by rw [Nat.coprime_comm]; exact h2) this
  have hbe : b = e := Nat.dvd_antisymm d1 d2
  subst hbe
  exact ⟨Nat.eq_of_mul_eq_mul_right hb h, rfl⟩
/-- A ratio in lowest terms. -/
def LowR (a : Ra) : Prop := 0 ≤ a.1 ∧ 0 < a.2 ∧ Int.gcd a.1 a.2 = 1
theorem LowR.eq {a b : Ra} (ha : LowR a) (hb : LowR b) (h : a.1 * b.2 = b.1 * a.2) : a = b := by
  obtain ⟨a1, a2⟩ := a
  obtain ⟨b1, b2⟩ := b
  obtain ⟨p1, p2, p3⟩ := ha
  obtain ⟨q1, q2, q3⟩ := hb
  simp only at *
  obtain ⟨x, rfl⟩ := Int.eq_ofNat_of_zero_le p1
  obtain ⟨y, rfl⟩ := Int.eq_ofNat_of_zero_le (Int.le_of_lt p2)
  obtain ⟨z, rfl⟩ := Int.eq_ofNat_of_zero_le q1
  obtain ⟨w, rfl⟩ := Int.eq_ofNat_of_zero_le (Int.le_of_lt q2)
  obtain ⟨r1, r2⟩ := lowest_unique (a := x) (b := y) (c := z) (e := w) p3 q3 (by omega) (by omega) (by exact_mod_cast h)
  rw [r1, r2]
/-! The worth of a sum. -/
/-! The fold. -/
/-! All windows, by their beginnings. -/
end Go.Vm.S6

namespace Go.Vm.S6
/-! Sums of windows: greater integers, and turned around. -/
def geL : List Int → List Int → Prop
  | [], [] => True
  | x :: r, y :: q => x ≤ y ∧ geL r q
  | _, _ => False
theorem geL.drop : ∀ {l m : List Int} (n : Nat), geL l m → geL (l.drop n) (m.drop n)
  | [], [], n, _ => by simp [geL]
  | x :: r, y :: q, 0, h => h
  | x :: r, y :: q, n + 1, h => geL.drop n h.2
  | [], _ :: _, _, h => h.elim
  | _ :: _, [], _, h => h.elim
theorem geL.take : ∀ {l m : List Int} (n : Nat), geL l m → geL (l.take n) (m.take n)
  | [], [], n, _ => by simp [geL]
  | x :: r, y :: q, 0, _ => trivial
  | x :: r, y :: q, n + 1, h => ⟨h.1, geL.take n h.2⟩
  | [], _ :: _, _, h => h.elim
  | _ :: _, [], _, h => h.elim
end Go.Vm.S6

namespace Go.Vm.S6
/-! ### Held levels and longest spans: what they are -/
/-! The law's own questions. -/
end Go.Vm.S6

namespace Go.Vm.S6
open Go.Proofs Go.RowKit
theorem wrapN (a : Nat) (h : a < two63) : IntKind.i64.wrap (Int.ofNat a) = Int.ofNat a := wrap_in (by simp only [Int.ofNat_eq_natCast]; omega) (by unfold two63 at h; simp only [Int.ofNat_eq_natCast]; omega)
end Go.Vm.S6
