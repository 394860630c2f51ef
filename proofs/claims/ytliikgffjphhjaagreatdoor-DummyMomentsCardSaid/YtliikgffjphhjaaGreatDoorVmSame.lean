/- A specification at one input: data that are compared. -/
import Derived.Test.YtliikgffjphhjaaGreatDoorVmKit
namespace Go.Vm

def eqL (f : AV → AV → Bool) : List AV → List AV → Bool
  | [], [] => true
  | a :: as, b :: bs => bif f a b then eqL f as bs else false
  | _, _ => false
def eqA : Nat → AV → AV → Bool
  | 0, _, _ => false
  | n + 1, a, b => match a, b with
    | .v (.int k x), .v (.int k' y) => decide (k = k') && decide (x = y)
    | .v (.bool x), .v (.bool y) => x == y
    | .v (.string x), .v (.string y) => x.data.toList == y.data.toList
    | .v (.slice none 0 0), .v (.slice none 0 0) => true
    | .agg cs, .agg ds => eqL (eqA n) cs ds
    | .rsl s es ex, .rsl s' es' ex' => Nat.beq s s' && (ex == ex') && eqL (eqA n) es es'
    | _, _ => false
theorem eqL_eq {f : AV → AV → Bool} (hf : ∀ a b, f a b = true → a = b) : ∀ (l m : List AV), eqL f l m = true → l = m
  | [], [], _ => rfl
  | a :: l, b :: m, h => by
    simp only [eqL] at h
    cases hab : f a b with
    | false => simp [hab] at h
    | true =>
      simp only [hab, cond_true] at h
      rw [hf a b hab, eqL_eq hf l m h]
  | [], _ :: _, h => by simp [eqL] at h
  | _ :: _, [], h => by simp [eqL] at h
theorem eqA_eq : ∀ (n : Nat) (a b : AV), eqA n a b = true → a = b
  | 0, a, b, h => by simp [eqA] at h
  | n + 1, a, b, h => by
    unfold eqA at h
    split at h
    · simp only [Bool.and_eq_true, decide_eq_true_eq] at h; rw [h.1, h.2]
    · rw [eq_of_beq h]
    · have h1 := eq_of_beq h
      rename_i x y
      have h2 : x.data = y.data := Array.toList_inj.1 h1
      cases x; cases y; simp only at h2; rw [h2]
    · rfl
    · rw [eqL_eq (eqA_eq n) _ _ h]
    · simp only [Bool.and_eq_true] at h
      rw [Nat.eq_of_beq_eq_true h.1.1, eq_of_beq h.1.2, eqL_eq (eqA_eq n) _ _ h.2]
    · cases h
/-- What a function gives at one input. -/
def atG (l : List AV) (r : AV) (as : List AV) : Option AV := bif eqL (eqA 20) as l then some r else none
theorem at_holds {P : Program} {glob : Nat → Option (List AV)} {f : FuncId} {l : List AV} {r : AV} (h : Comp P glob f l r) : Holds1 P glob f (atG l r) := fun as q hq => by
  unfold atG at hq
  cases he : eqL (eqA 20) as l with
  | false => simp [he] at hq
  | true =>
    simp only [he, cond_true, Option.some.injEq] at hq
    subst hq
    rw [eqL_eq (eqA_eq 20) _ _ he]; exact h
end Go.Vm
