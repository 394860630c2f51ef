/- InjurySums. -/
import Derived.Test.YtbplbhcgcicgfaaGreatDoorS6Law4
namespace Go.Vm.S6
open Go.Proofs Go.RowKit
theorem eqT28 (S : Specs) (xo yo : Operand) (x : P2) : abin (CS S) .eql 28 xo yo (.agg [intA x.1, intA x.2]) (.agg [intA x.1, intA x.2]) = some (gB true) := by
  rw [(eqRa S xo yo _ _ _ _).1, beq_self_eq_true, beq_self_eq_true]; rfl
abbrev jtC : Cod (Int × Int × Int) := aggC (RC.cons intC (RC.cons intC (RC.one intC)))
theorem nest3 (a b c d : Int) : firstM [firstM [a, b, c], d] = firstM [a, b, c, d] := by
  rw [firstB, first3]
  show _ = (bif a != 0 then a else firstM [b, c, d])
  rw [first3, firstB, firstB]
  cases ha : a != 0 <;> cases hb : b != 0 <;> cases hc : c != 0 <;> simp [ha, hb, hc]
theorem specPco {l m : List Int} {k : P2} (h : Nat.ble l.length lim = true) (h2 : Nat.ble m.length lim = true) : pcoG [slA intC 1 l, slA intC 1 m, p2A k] = some (pcoM l m k) := specAt3 (A := intsC) (B := intsC) (D := p2C) (b := fun l m _ => Nat.ble l.length lim && Nat.ble m.length lim) (F := fun l m k => pcoM l m k) l m k (by rw [h, h2]; rfl)
theorem specPmo {l m : List Int} {k : Int} (h : Nat.ble l.length lim = true) (h2 : Nat.ble m.length lim = true) : pmoG [slA intC 1 l, slA intC 1 m, intA k] = some (pmoM l m k) := specAt3 (A := intsC) (B := intsC) (D := intC) (b := fun l m _ => Nat.ble l.length lim && Nat.ble m.length lim) (F := fun l m k => pmoM l m k) l m k (by rw [h, h2]; rfl)
theorem specRcm {l m : List Int} {k : P2} (h : serZ l m k = true) : rcomG [slA intC 1 l, slA intC 1 m, p2A k] = some (rcomM l m k) := specAt3 (A := intsC) (B := intsC) (D := p2C) (b := fun l m k => serZ l m k) (F := fun l m k => rcomM l m k) l m k h
theorem specMom {l m : List Int} {k : Int} (h : momOk l m = true) : momG [slA intC 1 l, slA intC 1 m, intA k] = some (slA intC 1 ((l.zip m).map (momW k))) := specAt3 (A := intsC) (B := intsC) (D := intC) (b := fun l m _ => momOk l m) (F := fun l m k => slA intC 1 ((l.zip m).map (momW k))) l m k h
theorem bnz {e : Int} : (e != 0) = !(e == 0) := rfl
theorem pcoU (l m : List Int) (k : P2) : pcoM l m k = .tup [p2A (bif cErr l m k == 0 then lowM (mostP ((l.zip m).map fun p => numK k (absP p)) 0 (-1, 0)).1 (k.1 * k.2) else (0, 0)), intA (bif cErr l m k == 0 then (mostP ((l.zip m).map fun p => numK k (absP p)) 0 (-1, 0)).2 else 0), intA (cErr l m k)] := by
  unfold pcoM
  rw [bnz]
  cases h : cErr l m k == 0 with
  | true => rw [show cErr l m k = 0 by simpa using h]; rfl
  | false => rfl
theorem pmoU (l m : List Int) (k : Int) : pmoM l m k = .tup [slA intC 1 (bif momErr l m k == 0 then (l.zip m).map (momW k) else []), intA (momErr l m k)] := by
  unfold pmoM
  rw [bnz]
  cases h : momErr l m k == 0 with
  | true => rw [show momErr l m k = 0 by simpa using h]; rfl
  | false => rfl
theorem rcmU {l m : List Int} {k : P2} (h : serZ l m k = true) : rcomM l m k = .tup [p2A (lowM (mostP ((l.zip m).map fun p => numK k (absP p)) 0 (-1, 0)).1 (k.1 * k.2)), intA (mostP ((l.zip m).map fun p => numK k (absP p)) 0 (-1, 0)).2] := by
  obtain ⟨hsl, hsm, hlm, hk⟩ := serZ_iff.1 h
  unfold rcomM
  have hz := zlen hlm
  rw [rat_eq (d := k.1 * k.2) (by have := (prodK hk).1; omega) (l := (l.zip m).map fun p => numK k (absP p)) (by
    intro h0
    have := congrArg List.length h0
    rw [List.length_map, hz] at this
    have h1 := hsl.1
    simp at this
    rw [this] at h1
    simp at h1) (by
    intro x hx
    rw [List.mem_map] at hx
    obtain ⟨p, hp, rfl⟩ := hx
    exact (numR hk (absBnd hsl hsm hp)).1) ((0, 0), 0)]
theorem sameI (l : List Int) : sameM (· == ·) l l = true := sameM_refl (fun x => by simp) l
theorem specSame {l : List Int} (h : Nat.blt l.length two63 = true) : sameG [slA intC 1 l, slA intC 1 l] = some (boolA true) := by
  have h1 := sp2_at (A := intsC) (B := intsC) (F := fun l m => bif Nat.blt l.length two63 then some (boolA (sameM (· == ·) l m)) else none) l l
  rw [h, sameI] at h1; exact h1
theorem specSameN : sameG [slA intC 1 [], nilS] = some (boolA true) := by
  have h1 : intsC.dec (slA intC 1 []) = some [] := intsC.rt []
  have h2 : intsC.dec nilS = some [] := rfl
  simp only [sameG, sp2, h1, h2]
  rfl
end Go.Vm.S6
