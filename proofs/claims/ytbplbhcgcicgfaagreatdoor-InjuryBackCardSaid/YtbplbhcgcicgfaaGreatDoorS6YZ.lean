/- Plain laws: strings in parts. -/
import Derived.Test.YtbplbhcgcicgfaaGreatDoorS6Lib
import Derived.Lib.SplitLaws
import Derived.Test.YtbplbhcgcicgfaaGreatDoorS6Base
import Derived.Test.YtbplbhcgcicgfaaGreatDoorVmH
import Derived.Test.YtbplbhcgcicgfaaGreatDoorVmStr
namespace Go.Vm.S6
open Go.Lib
/-! ### The parts of a string between bytes -/
def splitL (c : UInt8) : List UInt8 → List (List UInt8)
  | [] => [[]]
  | x :: r => bif x == c then [] :: splitL c r else match splitL c r with
    | h :: t => (x :: h) :: t
    | [] => [[x]]
theorem splitL_ne (c : UInt8) : ∀ l, splitL c l ≠ []
  | [] => by simp [splitL]
  | x :: r => by
    unfold splitL
    cases x == c with
    | true => simp
    | false =>
      cases h : splitL c r with
      | nil => exact absurd h (splitL_ne c r)
      | cons a t => simp
theorem splitL_hit {c x : UInt8} (r : List UInt8) (h : (x == c) = true) : splitL c (x :: r) = [] :: splitL c r := by rw [splitL, h]; rfl
theorem splitL_miss {c x : UInt8} {r : List UInt8} {a : List UInt8} {t : List (List UInt8)} (h : (x == c) = false) (hr : splitL c r = a :: t) : splitL c (x :: r) = (x :: a) :: t := by rw [splitL, h, hr]; rfl
theorem splitL_snoc (c x : UInt8) : ∀ l, ∃ d a, splitL c l = d ++ [a] ∧ splitL c (l ++ [x]) = bif x == c then d ++ [a, []] else d ++ [a ++ [x]]
  | [] => by
    refine ⟨[], [], rfl, ?_⟩
    cases h : x == c with
    | true => rw [List.nil_append, splitL_hit [] h]; rfl
    | false => rw [List.nil_append, splitL_miss h (show splitL c [] = [] :: [] from rfl)]; rfl
  | y :: l => by
    obtain ⟨d, a, h1, h2⟩ := splitL_snoc c x l
    cases hy : y == c with
    | true =>
      refine ⟨[] :: d, a, by rw [splitL_hit l hy, h1]; rfl, ?_⟩
      rw [List.cons_append, splitL_hit (l ++ [x]) hy, h2]
      cases x == c <;> rfl
    | false =>
      cases d with
      | nil =>
        refine ⟨[], y :: a, by rw [splitL_miss hy (a := a) (t := []) (by rw [h1]; rfl)]; rfl, ?_⟩
        rw [List.cons_append]
        cases hx : x == c with
        | true => rw [splitL_miss hy (a := a) (t := [[]]) (by rw [h2, hx]; rfl)]; rfl
        | false => rw [splitL_miss hy (a := a ++ [x]) (t := []) (by rw [h2, hx]; rfl)]; rfl
      | cons q d =>
        refine ⟨(y :: q) :: d, a, by rw [splitL_miss hy (a := q) (t := d ++ [a]) (by rw [h1]; rfl)]; rfl, ?_⟩
        rw [List.cons_append]
        cases hx : x == c with
        | true => rw [splitL_miss hy (a := q) (t := d ++ [a, []]) (by rw [h2, hx]; rfl)]; rfl
        | false => rw [splitL_miss hy (a := q) (t := d ++ [a ++ [x]]) (by rw [h2, hx]; rfl)]; rfl
theorem splitL_free {c : UInt8} : ∀ {l : List UInt8}, indexByte l c = -1 → splitL c l = [l]
  | [], _ => rfl
  | x :: l, h => by
    unfold indexByte at h
    cases hx : x == c with
    | true => rw [hx] at h; simp at h
    | false =>
      rw [hx] at h
      simp only [Bool.false_eq_true, if_false] at h
      by_cases h2 : indexByte l c = -1
      · rw [splitL_miss hx (splitL_free h2)]
      · have := indexByte_ge l c
        have h3 : (indexByte l c == -1) = false := by simpa using h2
        rw [h3] at h
        simp only [Bool.false_eq_true, if_false] at h
        omega
theorem splitL_at {c : UInt8} : ∀ {l : List UInt8} {i : Nat}, indexByte l c = Int.ofNat i → splitL c l = l.take i :: splitL c (l.drop (i + 1))
  | [], i, h => by unfold indexByte at h; simp only [Int.ofNat_eq_natCast] at h; omega
  | x :: l, i, h => by
    unfold indexByte at h
    cases hx : x == c with
    | true =>
      rw [hx] at h
      simp only [if_true, Int.ofNat_eq_natCast] at h
      have : i = 0 := by omega
      subst this
      rw [splitL_hit l hx]; simp
    | false =>
      rw [hx] at h
      simp only [Bool.false_eq_true, if_false] at h
      by_cases h2 : indexByte l c = -1
      · rw [h2] at h
        simp only [beq_self_eq_true, if_true, Int.ofNat_eq_natCast] at h
        omega
      · have h4 := indexByte_ge l c
        have h3 : (indexByte l c == -1) = false := by simpa using h2
        rw [h3] at h
        simp only [Bool.false_eq_true, if_false, Int.ofNat_eq_natCast] at h
        obtain ⟨j, rfl⟩ : ∃ j, i = j + 1 := ⟨i - 1, by omega⟩
        have hj : indexByte l c = Int.ofNat j := by simp only [Int.ofNat_eq_natCast]; omega
        rw [splitL_miss hx (splitL_at hj)]
        simp
theorem indexByte_lt {c : UInt8} : ∀ {l : List UInt8} {i : Nat}, indexByte l c = Int.ofNat i → i < l.length
  | [], i, h => by unfold indexByte at h; simp only [Int.ofNat_eq_natCast] at h; omega
  | x :: l, i, h => by
    unfold indexByte at h
    by_cases hx : (x == c) = true
    · rw [if_pos hx] at h; simp only [Int.ofNat_eq_natCast] at h; simp only [List.length_cons]; omega
    · rw [if_neg hx] at h
      by_cases h2 : (indexByte l c == -1) = true
      · rw [if_pos h2] at h; simp only [Int.ofNat_eq_natCast] at h; omega
      · rw [if_neg h2] at h
        have h4 := indexByte_ge l c
        simp only [beq_iff_eq] at h2
        simp only [Int.ofNat_eq_natCast] at h
        have := indexByte_lt (l := l) (c := c) (i := i - 1) (by simp only [Int.ofNat_eq_natCast]; omega)
        simp only [List.length_cons]; omega
theorem splitK_one (c : UInt8) : ∀ (n : Nat) (l : List UInt8), l.length < n → splitK [c] 0 (count l [c]) l = splitL c l
  | 0, l, h => by omega
  | n + 1, l, h => by
    by_cases hi : indexByte l c = -1
    · rw [splitL_free hi]
      cases count l [c] with
      | zero => rfl
      | succ k => unfold splitK; rw [index_one, hi]; simp
    · have h4 := indexByte_ge l c
      obtain ⟨i, hi2⟩ : ∃ i : Nat, indexByte l c = Int.ofNat i := ⟨(indexByte l c).toNat, by simp only [Int.ofNat_eq_natCast]; omega⟩
      have hlen : i < l.length := indexByte_lt hi2
      have hc : count l [c] = count (l.drop (i + 1)) [c] + 1 := by
        rw [count_hit (s := l) (sub := [c]) (i := i) (by simp) (by rw [index_one]; exact hi2), Nat.add_comm]; rfl
      rw [hc, splitL_at hi2]
      unfold splitK
      rw [index_one, hi2]
      have h5 : (Int.ofNat i == -1) = false := by simp only [Int.ofNat_eq_natCast, beq_eq_false_iff_ne, ne_eq]; omega
      rw [h5]
      simp only [Bool.false_eq_true, if_false, List.length_singleton, Nat.add_zero]
      rw [show (Int.ofNat i).toNat = i from rfl, splitK_one c n (l.drop (i + 1)) (by rw [List.length_drop]; omega)]
end Go.Vm.S6

namespace Go.Vm.S6
open Go.Proofs Go.RowKit Go.Lib
theorem enters173 : Enters Tryz.prog 173 := enters_of Tryz.func173 rfl (by decide)
theorem enters153 : Enters Tryz.prog 153 := enters_of Tryz.func153 rfl (by decide)
def idxG : List AV → Option AV := sp2 strC (oneC (u8A 10) (fun a => match a with | .v (.int .u8 10) => true | _ => false) (fun b hb => by split at hb; exact Weak.rfl; cases hb) rfl) fun s _ => some (intA (indexByte s.data.toList 10))
theorem h173 : Holds 173 idxG := holds2 fun s _ r hF => ⟨enters173, by
  intro M ys hlt hr _
  simp only [Option.some.injEq] at hF
  subst hF
  simp only [RepL.cons_iff, RepL.nil_iff] at hr
  obtain ⟨y1, _, rfl, h1, y2, _, rfl, h2, rfl⟩ := hr
  have h1 : Rep M.bare (strA s) y1 := h1
  have h2 : Rep M.bare (u8A 10) y2 := h2
  unfold Rep at h1 h2
  subst h1; subst h2
  rw [callsIn_one]
  refine (Tryz.strings_IndexByte s 10 M.w).mono ?_
  rintro e w' ⟨rfl, rfl⟩
  exact ⟨_, rfl, postK_plain hlt (Below.refl _ _)⟩⟩
/-! ### A variable whose value is not known -/
def globM (m : Int) : Nat → Option (List AV)
  | 1 => some [intA m]
  | n => globA n
abbrev HoldsM (m : Int) (f : FuncId) (g : List AV → Option AV) : Prop := Holds1 Tryz.prog (globM m) f g
abbrev OkM (m : Int) (S : Specs) : Prop := SpecsOk Tryz.prog (globM m) S
abbrev CmpM (m : Int) (f : FuncId) (l : List AV) (r : AV) : Prop := Comp Tryz.prog (globM m) f l r
theorem globOk_m {m : Int} {M : Mem} (h : GlobOk (mkCx Tryz.prog (Tabs.bare (globM m)) 0 (fun _ => .tree) (fun _ _ => none)) M) : GlobOk (mkCx Tryz.prog (Tabs.bare globA) 0 (fun _ => .tree) (fun _ _ => none)) M := fun g cs hg => by
  refine h g cs ?_
  have hg : globA g = some cs := hg
  show globM m g = some cs
  unfold globM
  split
  · cases hg
  · exact hg
theorem Holds.m {f : FuncId} {g : List AV → Option AV} (h : Holds f g) (m : Int) : HoldsM m f g := fun l r hr => ⟨(h l r hr).1, fun M ys h1 h2 h3 => (h l r hr).2 M ys h1 h2 (globOk_m h3)⟩
theorem Ok.m {S : Specs} (h : Ok S) (m : Int) : OkM m S := fun f g hg => Holds.m (h f g hg) m
/-- The words of a string. -/
def wordsB (s : ByteArray) : List ByteArray := (splitL 32 s.data.toList).map fun l => ⟨l.toArray⟩
theorem words_split (s : ByteArray) : splitB ⟨#[32]⟩ 0 (countB s ⟨#[32]⟩) s = wordsB s := by
  have h := splitB_data ⟨#[32]⟩ 0 (countB s ⟨#[32]⟩) s
  have h2 : splitK [32] 0 (countB s ⟨#[32]⟩) s.data.toList = splitL 32 s.data.toList := splitK_one 32 _ s.data.toList (Nat.lt_succ_self _)
  have h3 : (splitB ⟨#[32]⟩ 0 (countB s ⟨#[32]⟩) s).map (·.data.toList) = splitL 32 s.data.toList := h.trans h2
  unfold wordsB
  rw [← h3, List.map_map]
  have : ∀ l : List ByteArray, l = l.map ((fun l => (⟨l.toArray⟩ : ByteArray)) ∘ fun x => x.data.toList) := fun l => by
    refine (List.map_id l).symm.trans (List.map_congr_left fun x _ => ?_)
    simp
  exact this _
theorem repL_strs {M : Mem} : ∀ ws : List ByteArray, RepL M (ws.map strC.enc) (ws.map Value.string)
  | [] => by show RepL M [] []; rw [RepL.nil_iff]
  | w :: ws => by
    show RepL M (strA w :: ws.map strC.enc) (Value.string w :: ws.map Value.string)
    rw [RepL.cons_iff]
    exact ⟨_, _, rfl, by unfold Rep; rfl, repL_strs ws⟩
def splG : List AV → Option AV := sp2 strC (oneC (strA ⟨#[32]⟩) (fun a => match a with | .v (.string s) => decide (s = ⟨#[32]⟩) | _ => false) (fun b hb => by split at hb; rw [of_decide_eq_true hb]; exact Weak.rfl; cases hb) rfl) fun s _ => bif Nat.blt s.size 4294967281 then some (slA strC 1 (wordsB s)) else none
theorem h153 (m : Int) : HoldsM m 153 splG := holds2 fun s _ r hF => ⟨enters153, by
  intro M ys hlt hr hg
  cases hb : Nat.blt s.size 4294967281 with
  | false => simp [hb] at hF
  | true =>
    simp only [hb, cond_true, Option.some.injEq] at hF
    subst hF
    simp only [RepL.cons_iff, RepL.nil_iff] at hr
    obtain ⟨y1, _, rfl, h1, y2, _, rfl, h2, rfl⟩ := hr
    have h1 : Rep M.bare (strA s) y1 := h1
    have h2 : Rep M.bare (strA ⟨#[32]⟩) y2 := h2
    unfold Rep at h1 h2
    subst h1; subst h2
    obtain ⟨hi, arr, ty, fr, hh, hra⟩ := hg 1 [intA m] rfl
    have hm : M.w.cell? ⟨1, 0, none⟩ = some (.int .i64 m) := by
      simp only [RepL.cons_iff, RepL.nil_iff] at hra
      obtain ⟨z, _, he, hz, rfl⟩ := hra
      unfold Rep at hz
      subst hz
      unfold World.cell?
      simp only [hh]
      rw [← Array.getElem?_toList, he]; rfl
    have hcnt : countB s ⟨#[32]⟩ + 1 = (wordsB s).length := by
      have h := splitB_all ⟨#[32]⟩ (by decide) 0 _ s rfl
      rw [← words_split, h]
    rw [callsIn_one]
    refine (Tryz.strings_Split s ⟨#[32]⟩ m M.w (Nat.le_of_ble_eq_true hb) hm (by decide)).mono ?_
    rintro e w' ⟨rfl, rfl⟩
    rw [words_split, hcnt]
    refine ⟨_, rfl, { M.bare with w := M.w.alloc (.cells ((wordsB s).map Value.string).toArray 9), imm := fun b => M.imm b ∨ b = M.w.heap.size }, rfl, ?_, rfl, ?_, ?_, ?_, Below.alloc (Below.refl _ _) (Nat.le_refl _) _⟩
    · exact ⟨fun _ _ h => (by cases h), fun _ h => .inl h, fun b h => Below.heap_alloc _ _ _ (hlt b h), rfl⟩
    · rintro b (h | rfl)
      · exact .inl h
      · exact .inr (Nat.le_refl _)
    · rintro b (h | rfl)
      · have := hlt b h; simp; omega
      · simp
    · show Rep _ (.rsl 1 ((wordsB s).map strC.enc) false) _
      unfold Rep
      refine ⟨some ⟨M.w.heap.size, 0, none⟩, (wordsB s).length, (wordsB s).map Value.string, by rw [List.length_map], by rw [List.length_map]; exact Nat.le_refl _, ?_, ?_, .inl ⟨_, _, rfl, ?_⟩, fun h => by cases h⟩
      · exact repL_strs _
      · intro y hy
        obtain ⟨x, _, rfl⟩ := List.mem_map.1 hy
        rfl
      · rw [flat_strings]
        intro i x hx
        refine ⟨.inr rfl, ?_⟩
        unfold World.cell?
        simp only [Nat.zero_add]
        rw [show (M.w.alloc (.cells ((wordsB s).map Value.string).toArray 9)).heap[M.w.heap.size]? = some (.cells ((wordsB s).map Value.string).toArray 9) by show (M.w.heap.push _)[M.w.heap.size]? = _; simp]
        simpa using hx⟩
end Go.Vm.S6
