/- InjuryLevels. -/
import Derived.Test.YtbplbhcgcicgfaaGreatDoorS6T7
namespace Go.Vm.S6
open Go.Proofs Go.RowKit
theorem eqT24 (S : Specs) (xo yo : Operand) (x : P2) : abin (CS S) .eql 24 xo yo (.agg [intA x.1, intA x.2]) (.agg [intA x.1, intA x.2]) = some (gB true) := by
  rw [(eqSp S xo yo _ _ _ _).1, beq_self_eq_true, beq_self_eq_true]; rfl
theorem specAt2 {α β : Type} {A : Cod α} {B : Cod β} {b : α → β → Bool} {F : α → β → AV} (x : α) (y : β) (h : b x y = true) : sp2 A B (fun x y => bif b x y then some (F x y) else none) [A.enc x, B.enc y] = some (F x y) := by
  rw [sp2_at, h]; rfl
theorem specAt3 {α β γ : Type} {A : Cod α} {B : Cod β} {D : Cod γ} {b : α → β → γ → Bool} {F : α → β → γ → AV} (x : α) (y : β) (z : γ) (h : b x y z = true) : sp3 A B D (fun x y z => bif b x y z then some (F x y z) else none) [A.enc x, B.enc y, D.enc z] = some (F x y z) := by
  rw [sp3_at, h]; rfl
theorem specOwn {l : List Int} (h : Nat.ble l.length lim = true) : ownG [slA intC 1 l] = some (slA intC 1 l) := by
  have h1 := sp1_at (A := intsC) (F := fun l => bif Nat.ble l.length lim then some (slA intC 1 l) else none) l
  rw [h] at h1; exact h1
theorem specShort (l : List Int) : shortG [slA intC 1 l] = some (boolA (shortM l.length)) := sp1_at (A := intsC) (F := fun l => some (boolA (shortM l.length))) l
theorem specFirstT (l : List Int) (h : Nat.blt l.length two63 = true) : firstG [.rsl 1 (l.map intA) true] = some (intA (firstM l)) := by
  have hd : (listC intC 1).dec (.rsl 1 (l.map intA) true) = some l := by
    have := (listC intC 1).rt l
    exact this
  simp only [firstG, sp1, hd]
  unfold firstF
  rw [h]; rfl
theorem shortLim {n : Nat} (h : shortM n = true) : Nat.ble n lim = true := by
  unfold shortM at h
  simp at h
  exact Nat.ble_eq_true_of_le (by unfold lim; omega)
theorem lngU (l : List Int) (c : Int) : lngM l c = .tup [p2A (bif lvErr l c == 0 then longP l c else (0, 0)), intA (lvErr l c)] := by
  unfold lngM
  cases h : lvErr l c == 0 with
  | true => rw [show (lvErr l c != 0) = false by unfold bne; rw [h]; rfl, show lvErr l c = 0 by simpa using h]; rfl
  | false => rw [show (lvErr l c != 0) = true by unfold bne; rw [h]; rfl]; rfl
theorem tabU (l : List Int) (c : Int) : tabM l c = .tup [intA (bif lvErr l c == 0 then abvM l c else 0), intA (lvErr l c)] := by
  unfold tabM
  cases h : lvErr l c == 0 with
  | true => rw [show (lvErr l c != 0) = false by unfold bne; rw [h]; rfl, show lvErr l c = 0 by simpa using h]; rfl
  | false => rw [show (lvErr l c != 0) = true by unfold bne; rw [h]; rfl]; rfl
theorem hdU (l : List Int) (k : Int) : hdM l k = .tup [intA (bif hErr l k == 0 then (heldP l (natOf k)).1 else 0), p2A (bif hErr l k == 0 then ((heldP l (natOf k)).2, (heldP l (natOf k)).2 + k) else (0, 0)), intA (hErr l k)] := by
  unfold hdM
  cases h : hErr l k == 0 with
  | true => rw [show (hErr l k != 0) = false by unfold bne; rw [h]; rfl, show hErr l k = 0 by simpa using h]; rfl
  | false => rw [show (hErr l k != 0) = true by unfold bne; rw [h]; rfl]; rfl
theorem first3 (a b c : Int) : firstM [a, b, c] = bif firstM [a, b] != 0 then firstM [a, b] else c := by
  rw [firstB]
  show (bif a != 0 then a else firstM [b, c]) = _
  rw [firstB]
  cases ha : a != 0 <;> cases hb : b != 0 <;> simp [ha, hb]
theorem hErrU (l : List Int) (k : Int) : hErr l k = bif firstM [seriesM l, cntM k] == 0 then (bif decide (k > Int.ofNat l.length) then 16 else 0) else firstM [seriesM l, cntM k] := by
  unfold hErr
  rw [first3]
  cases h : firstM [seriesM l, cntM k] == 0 with
  | true => rw [show (firstM [seriesM l, cntM k] != 0) = false by unfold bne; rw [h]; rfl]; rfl
  | false => rw [show (firstM [seriesM l, cntM k] != 0) = true by unfold bne; rw [h]; rfl]; rfl
theorem specLrn {l : List Int} {c : Int} (h : Nat.ble l.length lim = true) : lrnG [slA intC 1 l, intA c] = some (p2A (longR l c)) := specAt2 (A := intsC) (B := intC) (b := fun l _ => Nat.ble l.length lim) (F := fun l c => p2A (longR l c)) l c h
theorem specAbv {l : List Int} {c : Int} (h : Nat.ble l.length lim = true) : abvG [slA intC 1 l, intA c] = some (intA (abvM l c)) := specAt2 (A := intsC) (B := intC) (b := fun l _ => Nat.ble l.length lim) (F := fun l c => intA (abvM l c)) l c h
theorem specLng {l : List Int} {c : Int} (h : Nat.ble l.length lim = true) : lngG [slA intC 1 l, intA c] = some (lngM l c) := specAt2 (A := intsC) (B := intC) (b := fun l _ => Nat.ble l.length lim) (F := fun l c => lngM l c) l c h
theorem specTab {l : List Int} {c : Int} (h : Nat.ble l.length lim = true) : tabG [slA intC 1 l, intA c] = some (tabM l c) := specAt2 (A := intsC) (B := intC) (b := fun l _ => Nat.ble l.length lim) (F := fun l c => tabM l c) l c h
theorem specHd {l : List Int} {k : Int} (h : Nat.ble l.length lim = true) : hdG [slA intC 1 l, intA k] = some (hdM l k) := specAt2 (A := intsC) (B := intC) (b := fun l _ => Nat.ble l.length lim) (F := fun l k => hdM l k) l k h
theorem specHlr {l : List Int} {k : Int} (h : heldOk l k = true) : hlrG [slA intC 1 l, intA k] = some (hlrM l k) := specAt2 (A := intsC) (B := intC) (b := fun l k => heldOk l k) (F := fun l k => hlrM l k) l k h
theorem hlrU {l : List Int} {k : Int} (h : heldOk l k = true) : hlrM l k = .tup [intA (heldP l (natOf k)).1, p2A ((heldP l (natOf k)).2, (heldP l (natOf k)).2 + k)] := by
  obtain ⟨hs, n, rfl, hn⟩ := heldZ h
  unfold hlrM
  rw [held_eq l (natOf (Int.ofNat n)) (fun x hx => (hs.2.2 x hx).1)]
  rfl
end Go.Vm.S6
