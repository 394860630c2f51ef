/- Plain laws: strings in parts. -/
import Derived.Test.YtbplbhcgcicgfaaGreatDoorS6Lib
import Derived.Lib.SplitLaws
namespace Go.Vm.S6
open Go.Lib
/-! ### The parts of a string between bytes -/
def splitL (c : UInt8) : List UInt8 → List (List UInt8)
  | [] => [[]]
  | x :: r => bif x == c then [] :: splitL c r else match splitL c r with
    | h :: t => (x :: h) :: t
    | [] => [[x]]
theorem splitL_ne (c : UInt8) : ∀ l, splitL c l ≠ []
  | [] => by simp [splitL]
  | x :: r => by
    unfold splitL
    cases x == c with
    | true => simp
    | false =>
      cases h : splitL c r with
      | nil => exact absurd h (splitL_ne c r)
      | cons a t => simp
theorem splitL_hit {c x : UInt8} (r : List UInt8) (h : (x == c) = true) : splitL c (x :: r) = [] :: splitL c r := by rw [splitL, h]; rfl
theorem splitL_miss {c x : UInt8} {r : List UInt8} {a : List UInt8} {t : List (List UInt8)} (h : (x == c) = false) (hr : splitL c r = a :: t) : splitL c (x :: r) = (x :: a) :: t := by rw [splitL, h, hr]; rfl
theorem splitL_snoc (c x : UInt8) : ∀ l, ∃ d a, splitL c l = d ++ [a] ∧ splitL c (l ++ [x]) = bif x == c then d ++ [a, []] else d ++ [a ++ [x]]
  | [] => by
    refine ⟨[], [], rfl, ?_⟩
    cases h : x == c with
    | true => rw [List.nil_append, splitL_hit [] h]; rfl
    | false => rw [List.nil_append, splitL_miss h (show splitL c [] = [] :: [] from rfl)]; rfl
  | y :: l => by
    obtain ⟨d, a, h1, h2⟩ := splitL_snoc c x l
    cases hy : y == c with
    | true =>
      refine ⟨[] :: d, a, by rw [splitL_hit l hy, h1]; rfl, ?_⟩
      rw [List.cons_append, splitL_hit (l ++ [x]) hy, h2]
      cases x == c <;> rfl
    | false =>
      cases d with
      | nil =>
        refine ⟨[], y :: a, by rw [splitL_miss hy (a := a) (t := []) (by rw [h1]; rfl)]; rfl, ?_⟩
        rw [List.cons_append]
        cases hx : x == c with
        | true => rw [splitL_miss hy (a := a) (t := [[]]) (by rw [h2, hx]; rfl)]; rfl
        | false => rw [splitL_miss hy (a := a ++ [x]) (t := []) (by rw [h2, hx]; rfl)]; rfl
      | cons q d =>
        refine ⟨(y :: q) :: d, a, by rw [splitL_miss hy (a := q) (t := d ++ [a]) (by rw [h1]; rfl)]; rfl, ?_⟩
        rw [List.cons_append]
        cases hx : x == c with
        | true => rw [splitL_miss hy (a := q) (t := d ++ [a, []]) (by rw [h2, hx]; rfl)]; rfl
        | false => rw [splitL_miss hy (a := q) (t := d ++ [a ++ [x]]) (by rw [h2, hx]; rfl)]; rfl
theorem splitL_free {c : UInt8} : ∀ {l : List UInt8}, indexByte l c = -1 → splitL c l = [l]
  | [], _ => rfl
  | x :: l, h => by
    unfold indexByte at h
    cases hx : x == c with
    | true => rw [hx] at h; simp at h
    | false =>
      rw [hx] at h
      simp only [Bool.false_eq_true, if_false] at h
      by_cases h2 : indexByte l c = -1
      · rw [splitL_miss hx (splitL_free h2)]
      · have := indexByte_ge l c
        have h3 : (indexByte l c == -1) = false := by simpa using h2
        rw [h3] at h
        simp only [Bool.false_eq_true, if_false] at h
        omega
theorem splitL_at {c : UInt8} : ∀ {l : List UInt8} {i : Nat}, indexByte l c = Int.ofNat i → splitL c l = l.take i :: splitL c (l.drop (i + 1))
  | [], i, h => by unfold indexByte at h; simp only [Int.ofNat_eq_natCast] at h; omega
  | x :: l, i, h => by
    unfold indexByte at h
    cases hx : x == c with
    | true =>
      rw [hx] at h
      simp only [if_true, Int.ofNat_eq_natCast] at h
      have : i = 0 := by omega
      subst this
      rw [splitL_hit l hx]; simp
    | false =>
      rw [hx] at h
      simp only [Bool.false_eq_true, if_false] at h
      by_cases h2 : indexByte l c = -1
      · rw [h2] at h
        simp only [beq_self_eq_true, if_true, Int.ofNat_eq_natCast] at h
        omega
      · have h4 := indexByte_ge l c
        have h3 : (indexByte l c == -1) = false := by simpa using h2
        rw [h3] at h
        simp only [Bool.false_eq_true, if_false, Int.ofNat_eq_natCast] at h
        obtain ⟨j, rfl⟩ : ∃ j, i = j + 1 := ⟨i - 1, by omega⟩
        have hj : indexByte l c = Int.ofNat j := by simp only [Int.ofNat_eq_natCast]; omega
        rw [splitL_miss hx (splitL_at hj)]
        simp
theorem indexByte_lt {c : UInt8} : ∀ {l : List UInt8} {i : Nat}, indexByte l c = Int.ofNat i → i < l.length
  | [], i, h => by unfold indexByte at h; simp only [Int.ofNat_eq_natCast] at h; omega
  | x :: l, i, h => by
    unfold indexByte at h
    by_cases hx : (x == c) = true
    · rw [if_pos hx] at h; simp only [Int.ofNat_eq_natCast] at h; simp only [List.length_cons]; omega
    · rw [if_neg hx] at h
      by_cases h2 : (indexByte l c == -1) = true
      · rw [if_pos h2] at h; simp only [Int.ofNat_eq_natCast] at h; omega
      · rw [if_neg h2] at h
        have h4 := indexByte_ge l c
        simp only [beq_iff_eq] at h2
        simp only [Int.ofNat_eq_natCast] at h
        have := indexByte_lt (l := l) (c := c) (i := i - 1) (by simp only [Int.ofNat_eq_natCast]; omega)
        simp only [List.length_cons]; omega
theorem splitK_one (c : UInt8) : ∀ (n : Nat) (l : List UInt8), l.length < n → splitK [c] 0 (count l [c]) l = splitL c l
  | 0, l, h => by omega
  | n + 1, l, h => by
    by_cases hi : indexByte l c = -1
    · rw [splitL_free hi]
      cases count l [c] with
      | zero => rfl
      | succ k => unfold splitK; rw [index_one, hi]; simp
    · have h4 := indexByte_ge l c
      obtain ⟨i, hi2⟩ : ∃ i : Nat, indexByte l c = Int.ofNat i := ⟨(indexByte l c).toNat, by simp only [Int.ofNat_eq_natCast]; omega⟩
      have hlen : i < l.length := indexByte_lt hi2
      have hc : count l [c] = count (l.drop (i + 1)) [c] + 1 := by
        rw [count_hit (s := l) (sub := [c]) (i := i) (by simp) (by rw [index_one]; exact hi2), Nat.add_comm]; rfl
      rw [hc, splitL_at hi2]
      unfold splitK
      rw [index_one, hi2]
      have h5 : (Int.ofNat i == -1) = false := by simp only [Int.ofNat_eq_natCast, beq_eq_false_iff_ne, ne_eq]; omega
      rw [h5]
      simp only [Bool.false_eq_true, if_false, List.length_singleton, Nat.add_zero]
      rw [show (Int.ofNat i).toNat = i from rfl, splitK_one c n (l.drop (i + 1)) (by rw [List.length_drop]; omega)]
end Go.Vm.S6
