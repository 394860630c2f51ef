/- Strings: the frame of Parse that waits at its range over the lines; the lines of a string, one after the other. -/
import Derived.Test.YtbplbhcgcicgfaaGreatDoorS6YD
import Derived.Test.YtbplbhcgcicgfaaGreatDoorVmH
namespace Go.Vm.S6
open Go.Proofs Go.RowKit
/-- The frame of Parse that waits at its range. -/
abbrev LB85 (C : Cx) (pend : Option (Option Code)) : Bool × Blk := (false, .loop 85 0 80 (mkT [2, 3, 4, 5] [.ptr 2 0 0, .ptr 3 1 0, .ptr 4 2 0, .ptr 5 3 0] .leaf) [19] (rangeOf C 85 19).1 (rangeOf C 85 19).2 pend)
abbrev bb85 (C : Cx) (out : AV) (s : AV) : List (Bool × Blk) := [(false, .box [nilS]), (false, .box [intA 0]), (false, .box [intA 0]), (false, .box [out]), LB85 C none, (false, .box [s])]
abbrev br85 (C : Cx) (i : AV) : List (Bool × Blk) := [(false, .box [nilS]), (false, .box [i]), (false, .box [intA 25]), (false, .box [.bad]), LB85 C (some (some .ret)), (false, .box [.bad])]
open Go.Lib
/-! ### The lines of a string, one after the other -/
theorem ext_head {s : ByteArray} {i : Nat} : s.extract 0 i = bA (s.data.toList.take i) := by
  have h : (s.extract 0 i).data.toList = s.data.toList.take i := by
    rw [ByteArray.data_extract, Array.toList_extract, List.extract_eq_take_drop]; simp
  rw [← h]; rfl
theorem ext_tail {s : ByteArray} {i : Nat} : s.extract i s.size = bA (s.data.toList.drop i) := by
  have h : (s.extract i s.size).data.toList = s.data.toList.drop i := by
    rw [ByteArray.data_extract, Array.toList_extract, List.extract_eq_take_drop]
    rw [← List.drop_take, List.take_of_length_le (by exact Nat.le_refl _)]
  rw [← h]; rfl
/-- A line with its end is told from the last one. -/
theorem suf_line {t : ByteArray} {i : Nat} (h : indexByte t.data.toList 10 = Int.ofNat i) : sufM (t.extract 0 (i + 1)) = true ∧ (t.extract 0 (i + 1)).extract 0 ((t.extract 0 (i + 1)).size - 1) = t.extract 0 i := by
  have hlt := indexByte_lt h
  have hsz : (t.extract 0 (i + 1)).size = i + 1 := by
    rw [ext_head]; show (t.data.toList.take (i + 1)).toArray.size = _
    rw [List.size_toArray, List.length_take]; omega
  refine ⟨?_, ?_⟩
  · unfold sufM
    rw [hsz]
    have h1 : decide (Int.ofNat (i + 1) ≥ 1) = true := by simp only [decide_eq_true_eq, Int.ofNat_eq_natCast]; omega
    rw [h1, Bool.true_and]
    have h2 : (t.extract 0 (i + 1)).extract (i + 1 - 1) (i + 1) = bA ((t.data.toList.take (i + 1)).drop i) := by
      conv => lhs; rw [show (t.extract 0 (i + 1)).extract (i + 1 - 1) (i + 1) = (t.extract 0 (i + 1)).extract i (t.extract 0 (i + 1)).size by rw [hsz]; rfl]
      rw [ext_tail, ext_head]; rfl
    rw [h2]
    have h3 : (t.data.toList.take (i + 1)).drop i = [10] := by
      obtain ⟨a, ha⟩ : ∃ a, t.data.toList[i]? = some a := ⟨_, List.getElem?_eq_getElem hlt⟩
      have hx : t.data.toList.take (i + 1) = t.data.toList.take i ++ [a] := by
        rw [List.take_add_one, ha]; rfl
      have ha10 : a = 10 := by
        have key : ∀ (l : List UInt8) (i : Nat) (a : UInt8), indexByte l 10 = Int.ofNat i → l[i]? = some a → a = 10 := by
          intro l
          induction l with
          | nil => intro i a _ h2; simp at h2
          | cons x l ih =>
            intro i a h1 h2
            unfold indexByte at h1
            by_cases hx : (x == 10) = true
            · rw [if_pos hx] at h1
              have : i = 0 := by simp only [Int.ofNat_eq_natCast] at h1; omega
              subst this
              simp only [List.getElem?_cons_zero, Option.some.injEq] at h2
              subst h2; simpa using hx
            · rw [if_neg hx] at h1
              have h4 := indexByte_ge l 10
              by_cases h5 : (indexByte l 10 == -1) = true
              · rw [if_pos h5] at h1; simp only [Int.ofNat_eq_natCast] at h1; omega
              · rw [if_neg h5] at h1
                simp only [beq_iff_eq] at h5
                simp only [Int.ofNat_eq_natCast] at h1
                obtain ⟨j, rfl⟩ : ∃ j, i = j + 1 := ⟨i - 1, by omega⟩
                exact ih j a (by simp only [Int.ofNat_eq_natCast]; omega) (by simpa using h2)
        exact key _ _ _ h ha
      rw [hx, ha10, List.drop_left' (by rw [List.length_take]; omega)]
    rw [h3, ByteArray.toList_eq, ByteArray.toList_eq]; rfl
  · rw [hsz, Nat.add_sub_cancel]
    rw [ext_head, ext_head, ext_head]
    show bA ((t.data.toList.take (i + 1)).take i) = _
    rw [List.take_take]; congr 2; omega
theorem suf_none {t : ByteArray} (h : indexByte t.data.toList 10 = -1) : sufM t = false := by
  unfold sufM
  cases h1 : decide (Int.ofNat t.size ≥ 1) with
  | false => rfl
  | true =>
    rw [Bool.true_and, ext_tail]
    simp only [ge_iff_le, decide_eq_true_eq, Int.ofNat_eq_natCast] at h1
    rw [ByteArray.toList_eq, ByteArray.toList_eq, beq_eq_false_iff_ne]
    show t.data.toList.drop (t.size - 1) ≠ [10]
    intro hd
    have key : ∀ (l : List UInt8) (n : Nat), indexByte l 10 = -1 → l.drop n ≠ [10] := by
      intro l
      induction l with
      | nil => intro n _ h2; simp at h2
      | cons x l ih =>
        intro n h1 h2
        unfold indexByte at h1
        by_cases hx : (x == 10) = true
        · rw [if_pos hx] at h1; omega
        · rw [if_neg hx] at h1
          have h4 := indexByte_ge l 10
          by_cases h5 : (indexByte l 10 == -1) = true
          · cases n with
            | zero =>
              rw [List.drop_zero] at h2
              injection h2 with h2 _
              subst h2; simp at hx
            | succ n => exact ih n (by simpa using h5) (by simpa using h2)
          · rw [if_neg h5] at h1
            omega
    exact key _ _ h hd
/-- One round: the next line. -/
def rnd85 (x : ByteArray × List St3) : (ByteArray × List St3) ⊕ (Nat ⊕ List St3) :=
  bif Int.ofNat x.1.size == 0 then .inr (.inr x.2) else
  bif decide (indexByte x.1.data.toList 10 ≥ 0) then (match lineP (x.1.extract 0 (indexByte x.1.data.toList 10).toNat) with
    | some v => .inl (x.1.extract ((indexByte x.1.data.toList 10).toNat + 1) x.1.size, x.2 ++ [v])
    | none => .inr (.inl x.2.length))
  else .inr (.inl x.2.length)
def fin85 (w : ByteArray) (n : Nat) : Nat ⊕ List St3 → Nat ⊕ List St3
  | .inl i => .inl i
  | .inr rs => bif notNil w then .inl (n + rs.length) else .inr rs
theorem run85 : ∀ (n : Nat) (t : ByteArray) (rs : List St3), t.size < n → goW rnd85 n (t, rs) = some (fin85 (lastB t) 0 (goL stp87 .inr rs.length (partsB 10 t).dropLast rs))
  | 0, t, rs, h => by omega
  | n + 1, t, rs, h => by
    have hsz : t.size = t.data.toList.length := rfl
    cases h0 : Int.ofNat t.size == 0 with
    | true =>
      have hnil : t.data.toList = [] := by
        simp only [beq_iff_eq, Int.ofNat_eq_natCast] at h0
        exact List.eq_nil_of_length_eq_zero (by omega)
      have hp : partsB 10 t = [⟨#[]⟩] := by unfold partsB; rw [hnil]; rfl
      have hl : lastB t = ⟨#[]⟩ := by unfold lastB; rw [hp]; rfl
      rw [goW, rnd85]
      simp only [h0, cond_true]
      rw [hl, hp]
      have hn : notNil ⟨#[]⟩ = false := by unfold notNil; rw [toList_nil]; rfl
      show some (Sum.inr rs) = some (fin85 ⟨#[]⟩ 0 (.inr rs))
      unfold fin85
      simp only [hn, cond_false]
    | false =>
      rw [goW, rnd85]
      simp only [h0, cond_false]
      by_cases hi : indexByte t.data.toList 10 = -1
      · have h1 : decide (indexByte t.data.toList 10 ≥ 0) = false := by rw [hi]; decide
        have hp : partsB 10 t = [t] := by unfold partsB; rw [splitL_free hi]; rfl
        have hl : lastB t = t := by unfold lastB; rw [hp]; rfl
        simp only [h1, cond_false]
        rw [hl, hp]
        have hn : notNil t = true := by unfold notNil; rw [toList_nil, h0]; rfl
        show some (Sum.inl rs.length) = some (fin85 t 0 (.inr rs))
        unfold fin85
        simp only [hn, cond_true, Nat.zero_add]
      · have h4 := indexByte_ge t.data.toList 10
        obtain ⟨i, hi2⟩ : ∃ i : Nat, indexByte t.data.toList 10 = Int.ofNat i := ⟨(indexByte t.data.toList 10).toNat, by simp only [Int.ofNat_eq_natCast]; omega⟩
        have h1 : decide (indexByte t.data.toList 10 ≥ 0) = true := by rw [hi2]; simp only [decide_eq_true_eq, Int.ofNat_eq_natCast]; omega
        have hlt := indexByte_lt hi2
        simp only [h1, cond_true]
        rw [hi2, show (Int.ofNat i).toNat = i from rfl]
        have hpl : splitL 10 t.data.toList = t.data.toList.take i :: splitL 10 (t.data.toList.drop (i + 1)) := splitL_at hi2
        have hp : partsB 10 t = t.extract 0 i :: partsB 10 (t.extract (i + 1) t.size) := by
          unfold partsB
          rw [hpl, List.map_cons, ext_head, ext_tail]; rfl
        have hne : partsB 10 (t.extract (i + 1) t.size) ≠ [] := by
          unfold partsB; intro h; rw [List.map_eq_nil_iff] at h; exact splitL_ne _ _ h
        have hl : lastB t = lastB (t.extract (i + 1) t.size) := by
          unfold lastB
          rw [hp]
          cases hq : partsB 10 (t.extract (i + 1) t.size) with
          | nil => exact absurd hq hne
          | cons a r => simp [List.getLastD]
        rw [hl, hp, List.dropLast_cons_of_ne_nil hne, goL, stp87]
        cases hv : lineP (t.extract 0 i) with
        | none => rfl
        | some v =>
          simp only
          have hts : (t.extract (i + 1) t.size).size < n := by
            rw [ext_tail]; show (t.data.toList.drop (i + 1)).toArray.size < n
            rw [List.size_toArray, List.length_drop]; omega
          have := run85 n (t.extract (i + 1) t.size) (rs ++ [v]) hts
          rw [this]
          rw [List.length_append, List.length_singleton]
theorem run85s (s : ByteArray) : goW rnd85 (s.size + 1) (s, []) = some (match rows87 s with | .inl i => .inl i | .inr rs => bif notNil (lastB s) then .inl rs.length else .inr rs) := by
  rw [run85 (s.size + 1) s [] (Nat.lt_succ_self _)]
  show some (fin85 (lastB s) 0 (rows87 s)) = _
  cases rows87 s with
  | inl i => rfl
  | inr rs => unfold fin85; simp only [Nat.zero_add]
end Go.Vm.S6
