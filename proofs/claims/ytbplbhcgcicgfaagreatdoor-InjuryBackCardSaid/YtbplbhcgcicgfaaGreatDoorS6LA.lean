/- InjuryLevels. -/
import Derived.Test.YtbplbhcgcicgfaaGreatDoorS6T7
import Derived.Test.YtbplbhcgcicgfaaGreatDoorVmMapI
namespace Go.Vm.S6
open Go.Proofs Go.RowKit
theorem specAt2 {α β : Type} {A : Cod α} {B : Cod β} {b : α → β → Bool} {F : α → β → AV} (x : α) (y : β) (h : b x y = true) : sp2 A B (fun x y => bif b x y then some (F x y) else none) [A.enc x, B.enc y] = some (F x y) := by
  rw [sp2_at, h]; rfl
theorem specFirstT (l : List Int) (h : Nat.blt l.length two63 = true) : firstG [.rsl 1 (l.map intA) true] = some (intA (firstM l)) := by
  have hd : (listC intC 1).dec (.rsl 1 (l.map intA) true) = some l := by
    have := (listC intC 1).rt l
    exact this
  simp only [firstG, sp1, hd]
  unfold firstF
  rw [h]; rfl
end Go.Vm.S6

namespace Go.Vm.S6
open Go.Proofs Go.RowKit
abbrev jtC : Cod (Int × Int × Int) := aggC (RC.cons intC (RC.cons intC (RC.one intC)))
theorem bnz {e : Int} : (e != 0) = !(e == 0) := rfl
end Go.Vm.S6

namespace Go.Vm.S6
open Go.Proofs Go.RowKit
end Go.Vm.S6

namespace Go.Vm.S6
open Go.Proofs Go.RowKit
def RaB (r : Ra) : Prop := (0 ≤ r.1 ∧ r.1 ≤ 9000000000000) ∧ 0 ≤ r.2 ∧ r.2 ≤ 1000000
theorem cmpB {x y : Ra} (hx : RaB x) (hy : RaB y) : cmpW x y = cmpM x y := cmpW_eq hx hy (by omega)
end Go.Vm.S6

namespace Go.Vm.S6
open Go.Proofs Go.RowKit
/-! ### The reference's search -/
/-! ### The program's two questions -/
end Go.Vm.S6

namespace Go.Vm.S6
/-! ### The best window: what it is -/
def leR (a b : Ra) : Prop := a.1 * b.2 ≤ b.1 * a.2
def ltR (a b : Ra) : Prop := a.1 * b.2 < b.1 * a.2
def PosR (a : Ra) : Prop := 0 ≤ a.1 ∧ 0 < a.2
theorem leR_rfl (a : Ra) : leR a a := Int.le_refl _
theorem leR_trans {a b c : Ra} (ha : PosR a) (hb : PosR b) (hc : PosR c) (h : leR a b) (k : leR b c) : leR a c := by
  unfold leR at *
  have h1 : a.1 * b.2 * c.2 ≤ b.1 * a.2 * c.2 := Int.mul_le_mul_of_nonneg_right h (by have := hc.2; omega)
  have h2 : b.1 * c.2 * a.2 ≤ c.1 * b.2 * a.2 := Int.mul_le_mul_of_nonneg_right k (by have := ha.2; omega)
  have e1 : b.1 * a.2 * c.2 = b.1 * c.2 * a.2 := by rw [Int.mul_assoc, Int.mul_comm a.2, ← Int.mul_assoc]
  have e2 : a.1 * b.2 * c.2 = b.2 * (a.1 * c.2) := by rw [Int.mul_comm a.1, Int.mul_assoc]
  have e3 : c.1 * b.2 * a.2 = b.2 * (c.1 * a.2) := by rw [Int.mul_comm c.1, Int.mul_assoc]
  have : b.2 * (a.1 * c.2) ≤ b.2 * (c.1 * a.2) := by omega
  exact Int.le_of_mul_le_mul_left this hb.2
theorem ltR_of_lt_le {a b c : Ra} (ha : PosR a) (hb : PosR b) (hc : PosR c) (h : ltR a b) (k : leR b c) : ltR a c := by
  unfold leR ltR at *
  have h1 : a.1 * b.2 * c.2 < b.1 * a.2 * c.2 := Int.mul_lt_mul_of_pos_right h hc.2
  have h2 : b.1 * c.2 * a.2 ≤ c.1 * b.2 * a.2 := Int.mul_le_mul_of_nonneg_right k (by have := ha.2; omega)
  have e1 : b.1 * a.2 * c.2 = b.1 * c.2 * a.2 := by rw [Int.mul_assoc, Int.mul_comm a.2, ← Int.mul_assoc]
  have e2 : a.1 * b.2 * c.2 = b.2 * (a.1 * c.2) := by rw [Int.mul_comm a.1, Int.mul_assoc]
  have e3 : c.1 * b.2 * a.2 = b.2 * (c.1 * a.2) := by rw [Int.mul_comm c.1, Int.mul_assoc]
  have : b.2 * (a.1 * c.2) < b.2 * (c.1 * a.2) := by omega
  exact Int.lt_of_mul_lt_mul_left this (by have := hb.2; omega)
theorem ltR_of_le_lt {a b c : Ra} (ha : PosR a) (hb : PosR b) (hc : PosR c) (h : leR a b) (k : ltR b c) : ltR a c := by
  unfold leR ltR at *
  have h1 : a.1 * b.2 * c.2 ≤ b.1 * a.2 * c.2 := Int.mul_le_mul_of_nonneg_right h (by have := hc.2; omega)
  have h2 : b.1 * c.2 * a.2 < c.1 * b.2 * a.2 := Int.mul_lt_mul_of_pos_right k ha.2
  have e1 : b.1 * a.2 * c.2 = b.1 * c.2 * a.2 := by rw [Int.mul_assoc, Int.mul_comm a.2, ← Int.mul_assoc]
  have e2 : a.1 * b.2 * c.2 = b.2 * (a.1 * c.2) := by rw [Int.mul_comm a.1, Int.mul_assoc]
  have e3 : c.1 * b.2 * a.2 = b.2 * (c.1 * a.2) := by rw [Int.mul_comm c.1, Int.mul_assoc]
  have : b.2 * (a.1 * c.2) < b.2 * (c.1 * a.2) := by omega
  exact Int.lt_of_mul_lt_mul_left this (by have := hb.2; omega)
theorem ltR.le {a b : Ra} (h : ltR a b) : leR a b := Int.le_of_lt h
theorem not_ltR {a b : Ra} : ¬ ltR a b ↔ leR b a := by unfold ltR leR; omega
theorem cmpM_gt {a b : Ra} : cmpM a b > 0 ↔ ltR b a := by
  unfold cmpM ltR
  by_cases h : a.1 * b.2 < b.1 * a.2
  · rw [decide_eq_true h]; simp; omega
  · rw [decide_eq_false h, cond_false]
    by_cases h2 : a.1 * b.2 > b.1 * a.2
    · rw [decide_eq_true h2]; simp; omega
    · rw [decide_eq_false h2]; simp; omega
theorem cmpM_lt {a b : Ra} : cmpM a b < 0 ↔ ltR a b := by
  unfold cmpM ltR
  by_cases h : a.1 * b.2 < b.1 * a.2
  · rw [decide_eq_true h]; simp; omega
  · rw [decide_eq_false h, cond_false]
    by_cases h2 : a.1 * b.2 > b.1 * a.2
    · rw [decide_eq_true h2]; simp; omega
    · rw [decide_eq_false h2]; simp; omega
theorem cmpM_zero {a b : Ra} : cmpM a b = 0 ↔ a.1 * b.2 = b.1 * a.2 := by
  have h1 := cmpM_gt (a := a) (b := b)
  have h2 := cmpM_lt (a := a) (b := b)
  unfold ltR at *
  omega
/-! Ratios in lowest terms. -/
theorem lowest_unique {a b c e : Nat} (h1 : Nat.gcd a b = 1) (h2 : Nat.gcd c e = 1) (hb : 0 < b) (he : 0 < e) (h : a * e = c * b) : a = c ∧ b = e := by
  have d1 : b ∣ e := by
    have : b ∣ a * e := ⟨c, by rw [h, Nat.mul_comm]⟩
    exact Nat.Coprime.dvd_of_dvd_mul_left (show Nat.Coprime b a by rw [Nat.coprime_comm]; exact h1) this
  have d2 : e ∣ b := by
    have : e ∣ c * b := ⟨a, by rw [← h, Nat.mul_comm]⟩
    exact Nat.Coprime.dvd_of_dvd_mul_left (show Nat.Coprime e c by rw [Nat.coprime_comm]; exact h2) this
  have hbe : b = e := Nat.dvd_antisymm d1 d2
  subst hbe
  exact ⟨Nat.eq_of_mul_eq_mul_right hb h, rfl⟩
/-- A ratio in lowest terms. -/
def LowR (a : Ra) : Prop := 0 ≤ a.1 ∧ 0 < a.2 ∧ Int.gcd a.1 a.2 = 1
theorem LowR.eq {a b : Ra} (ha : LowR a) (hb : LowR b) (h : a.1 * b.2 = b.1 * a.2) : a = b := by
  obtain ⟨a1, a2⟩ := a
  obtain ⟨b1, b2⟩ := b
  obtain ⟨p1, p2, p3⟩ := ha
  obtain ⟨q1, q2, q3⟩ := hb
  simp only at *
  obtain ⟨x, rfl⟩ := Int.eq_ofNat_of_zero_le p1
  obtain ⟨y, rfl⟩ := Int.eq_ofNat_of_zero_le (Int.le_of_lt p2)
  obtain ⟨z, rfl⟩ := Int.eq_ofNat_of_zero_le q1
  obtain ⟨w, rfl⟩ := Int.eq_ofNat_of_zero_le (Int.le_of_lt q2)
  obtain ⟨r1, r2⟩ := lowest_unique (a := x) (b := y) (c := z) (e := w) p3 q3 (by omega) (by omega) (by exact_mod_cast h)
  rw [r1, r2]
/-! The worth of a sum. -/
/-! The fold. -/
/-! All windows, by their beginnings. -/
end Go.Vm.S6

namespace Go.Vm.S6
/-! Sums of windows: greater integers, and turned around. -/
def geL : List Int → List Int → Prop
  | [], [] => True
  | x :: r, y :: q => x ≤ y ∧ geL r q
  | _, _ => False
theorem geL.drop : ∀ {l m : List Int} (n : Nat), geL l m → geL (l.drop n) (m.drop n)
  | [], [], n, _ => by simp [geL]
  | x :: r, y :: q, 0, h => h
  | x :: r, y :: q, n + 1, h => geL.drop n h.2
  | [], _ :: _, _, h => h.elim
  | _ :: _, [], _, h => h.elim
theorem geL.take : ∀ {l m : List Int} (n : Nat), geL l m → geL (l.take n) (m.take n)
  | [], [], n, _ => by simp [geL]
  | x :: r, y :: q, 0, _ => trivial
  | x :: r, y :: q, n + 1, h => ⟨h.1, geL.take n h.2⟩
  | [], _ :: _, _, h => h.elim
  | _ :: _, [], _, h => h.elim
theorem geL.foldl : ∀ {l m : List Int} {s t : Int}, geL l m → s ≤ t → l.foldl (· + ·) s ≤ m.foldl (· + ·) t
  | [], [], _, _, _, k => k
  | x :: r, y :: q, s, t, h, k => geL.foldl (l := r) (m := q) h.2 (by have := h.1; dsimp only; omega)
  | [], _ :: _, _, _, h, _ => h.elim
  | _ :: _, [], _, _, h, _ => h.elim
end Go.Vm.S6

namespace Go.Vm.S6
/-! ### Held levels and longest spans: what they are -/
/-! The law's own questions. -/
end Go.Vm.S6

namespace Go.Vm.S6
open Go.Proofs Go.RowKit
theorem wrapN (a : Nat) (h : a < two63) : IntKind.i64.wrap (Int.ofNat a) = Int.ofNat a := wrap_in (by simp only [Int.ofNat_eq_natCast]; omega) (by unfold two63 at h; simp only [Int.ofNat_eq_natCast]; omega)
theorem spRat (x : P2) : ratG [p2A x] = some (intA (ratErr x)) := sp1_at (A := p2C) (F := fun x => some (intA (ratErr x))) x
theorem spCmp (x y : P2) : cmpRG [p2A x, p2A y] = some (intA (cmpW x y)) := sp2_at (A := p2C) (B := p2C) (F := fun x y => some (intA (cmpW x y))) x y
end Go.Vm.S6
