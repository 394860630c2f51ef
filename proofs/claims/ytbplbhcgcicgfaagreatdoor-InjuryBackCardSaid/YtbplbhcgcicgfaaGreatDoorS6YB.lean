/- Strings: the reference's Split. -/
import Derived.Test.YtbplbhcgcicgfaaGreatDoorS6Y2
import Derived.Test.YtbplbhcgcicgfaaGreatDoorS6KA
namespace Go.Vm.S6
open Go.Proofs Go.RowKit Go.Lib
def bA (l : List UInt8) : ByteArray := ⟨l.toArray⟩
def partsB (c : UInt8) (s : ByteArray) : List ByteArray := (splitL c s.data.toList).map bA
def byC : Cod UInt8 where
  dec | .v (.int .u8 n) => bif decide (0 ≤ n) && decide (n < 256) then some (UInt8.ofNat n.toNat) else none
      | _ => none
  enc c := u8A (Int.ofNat c.toNat)
  weak a x h := by
    split at h
    · rename_i n
      cases hb : decide (0 ≤ n) && decide (n < 256) with
      | false => rw [hb] at h; cases h
      | true =>
        rw [hb] at h
        simp only [cond_true, Option.some.injEq] at h
        subst h
        simp only [Bool.and_eq_true, decide_eq_true_eq] at hb
        have : n = Int.ofNat (UInt8.ofNat n.toNat).toNat := by
          rw [UInt8.toNat_ofNat', Nat.mod_eq_of_lt (by omega)]; simp only [Int.ofNat_eq_natCast]; omega
        rw [← this]
        exact Weak.rfl
    · cases h
  rt c := by
    have h := c.toNat_lt
    show (bif decide (0 ≤ Int.ofNat c.toNat) && decide (Int.ofNat c.toNat < 256) then _ else _) = _
    rw [decide_eq_true (show (0 : Int) ≤ Int.ofNat c.toNat from Int.natCast_nonneg _), decide_eq_true (by simp only [Int.ofNat_eq_natCast]; omega)]
    simp
theorem splitL_len (c : UInt8) : ∀ l : List UInt8, (splitL c l).length ≤ l.length + 1
  | [] => by simp [splitL]
  | x :: l => by
    have ih := splitL_len c l
    cases h : x == c with
    | true => rw [splitL_hit l h]; simp only [List.length_cons]; omega
    | false =>
      cases hr : splitL c l with
      | nil => exact absurd hr (splitL_ne c l)
      | cons a t => rw [splitL_miss h hr]; rw [hr] at ih; simp only [List.length_cons] at ih ⊢; omega
def dP (c : UInt8) (l : List UInt8) : List (List UInt8) := (splitL c l).dropLast
def aP (c : UInt8) (l : List UInt8) : List UInt8 := (splitL c l).getLastD []
theorem P_eq (c : UInt8) (l : List UInt8) : splitL c l = dP c l ++ [aP c l] := by
  obtain ⟨d, a, h, _⟩ := splitL_snoc c 0 l
  unfold dP aP
  rw [h]; simp
theorem P_snoc (c x : UInt8) (l : List UInt8) : dP c (l ++ [x]) = (bif x == c then dP c l ++ [aP c l] else dP c l) ∧ aP c (l ++ [x]) = bif x == c then [] else aP c l ++ [x] := by
  obtain ⟨d, a, h1, h2⟩ := splitL_snoc c x l
  unfold dP aP
  rw [h1, h2]
  cases x == c with
  | true =>
    rw [cond_true, cond_true, cond_true, show d ++ [a, []] = (d ++ [a]) ++ [[]] by simp]
    simp
  | false => simp
theorem P_sufN (c : UInt8) : ∀ (n : Nat) (l : List UInt8), l.length = n → ∃ p, l = p ++ aP c l
  | 0, l, h => by rw [List.length_eq_zero_iff] at h; subst h; exact ⟨[], rfl⟩
  | n + 1, l, h => by
    have hne : l ≠ [] := fun e => by subst e; cases h
    have hl := (List.dropLast_concat_getLast hne).symm
    obtain ⟨p, hp⟩ := P_sufN c n l.dropLast (by rw [List.length_dropLast]; omega)
    generalize l.getLast hne = x at hl
    generalize l.dropLast = m at hl hp
    subst hl
    rw [(P_snoc c x m).2]
    cases x == c with
    | true => exact ⟨m ++ [x], by simp⟩
    | false => exact ⟨p, by rw [cond_false, ← List.append_assoc, ← hp]⟩
theorem P_suf (c : UInt8) (l : List UInt8) : ∃ p, l = p ++ aP c l := P_sufN c l.length l rfl
theorem dP_len (c : UInt8) (l : List UInt8) : (dP c l).length ≤ l.length := by
  have := splitL_len c l
  rw [P_eq, List.length_append] at this
  simp at this; omega
/-- Where the last part begins. -/
def iP (c : UInt8) (l : List UInt8) : Nat := l.length - (aP c l).length
theorem P_ext (c : UInt8) {s : ByteArray} {j : Nat} (hj : j ≤ s.size) : iP c (s.data.toList.take j) ≤ j ∧ s.extract (iP c (s.data.toList.take j)) j = bA (aP c (s.data.toList.take j)) := by
  have hlen : (s.data.toList.take j).length = j := by rw [List.length_take]; have : s.data.toList.length = s.size := rfl; omega
  obtain ⟨p, hp⟩ := P_suf c (s.data.toList.take j)
  have hl : p.length + (aP c (s.data.toList.take j)).length = j := by rw [← List.length_append, ← hp, hlen]
  have hi : iP c (s.data.toList.take j) = p.length := by unfold iP; rw [hlen]; omega
  rw [hi]
  refine ⟨by omega, ?_⟩
  have h : (s.extract p.length j).data.toList = aP c (s.data.toList.take j) := by
    rw [ByteArray.data_extract, Array.toList_extract, List.extract_eq_take_drop]
    have h2 : (s.data.toList.take j).drop p.length = aP c (s.data.toList.take j) := by
      conv => lhs; rw [hp]
      rw [List.drop_left]
    rw [← List.drop_take]; exact h2
  unfold bA
  rw [← h]
theorem take_snoc {l : List UInt8} {j : Nat} {x : UInt8} (h : l[j]? = some x) : l.take (j + 1) = l.take j ++ [x] := by
  rw [List.take_add_one, h]; rfl
def sStr (l : List (List UInt8)) : List AV := l.map fun a => strA (bA a)
theorem sStr_cl (l : List (List UInt8)) : ClosedL (sStr l) := ClosedL.map fun _ => rfl
def st91 (ts : List Tmp) (_s : ByteArray) (vs : AV → List AV) : List (List UInt8) → St
  | [] => mkSt ts [] 34 (vs nilS) []
  | a :: r => mkSt ts [25] 34 (vs (.sl 25 0 1 0 (sStr (a :: r)).length)) [(false, .arr 1 (sStr (a :: r)) false)]
theorem loop91 (s : ByteArray) (c : UInt8) (hs : s.size ≤ 100000) :
    Says (CS SL) 0 34 false (.loop (loopOf (CS SL) 91 0)) (mkSt [0, 1, 5, 6, 7] [] 34 [strA s, u8A (Int.ofNat c.toNat), nilS, intA 0, intA 0] []) (.exit 0)
      (st91 [0, 5, 6] s (fun a => [strA s, a, intA (Int.ofNat (iP c s.data.toList))]) (dP c s.data.toList)) := by
  have hl : s.size < two63 := by unfold two63; omega
  have hd : s.data.toList.length = s.size := rfl
  have h := LoopRun.idx (C := CS SL) (p := 0) (nt := 34) (rd := false) (c := loopOf (CS SL) 91 0)
    (fun j => st91 [0, 1, 5, 6, 7] s (fun a => [strA s, u8A (Int.ofNat c.toNat), a, intA (Int.ofNat (iP c (s.data.toList.take j))), intA (Int.ofNat j)]) (dP c (s.data.toList.take j))) (.exit 0)
    (st91 [0, 5, 6] s (fun a => [strA s, a, intA (Int.ofNat (iP c s.data.toList))]) (dP c s.data.toList)) s.data.toList (by simp)
    (fun j x hx => by
      have hj : j < s.size := by rw [← hd]; exact (List.getElem?_eq_some_iff.1 hx).1
      have hlt := lt_of hj
      have hw := wrap_ix hj hl
      have hb : (bytesI s)[j]? = some (Int.ofNat x.toNat) := by unfold bytesI; rw [List.getElem?_map, hx]; rfl
      have hix := str_at SL hb
      have hlen : (s.data.toList.take j).length = j := by rw [List.length_take]; omega
      obtain ⟨e1, e2⟩ := P_ext c (s := s) (j := j) (by omega)
      have hcmp : (Int.ofNat x.toNat == Int.ofNat c.toNat) = (x == c) := by
        cases h : x == c with
        | true => have := eq_of_beq h; subst this; simp
        | false =>
          rw [beq_eq_false_iff_ne] at h ⊢
          intro hh
          exact h (UInt8.toNat_inj.1 (Int.ofNat.inj hh))
      have hdl := dP_len c (s.data.toList.take j)
      rw [hlen] at hdl
      rw [take_snoc hx]
      have hs1 := (P_snoc c x (s.data.toList.take j)).1
      have hs2 := (P_snoc c x (s.data.toList.take j)).2
      have hi2 : iP c (s.data.toList.take j ++ [x]) = bif x == c then j + 1 else iP c (s.data.toList.take j) := by
        unfold iP
        rw [hs2, List.length_append, hlen]
        cases x == c with
        | true => simp
        | false => simp
      rw [hs1, hi2]
      cases hc : x == c with
      | true =>
        rw [hc] at hcmp
        simp only [cond_true]
        have hsl := str_slice SL e1 (show j ≤ s.size by omega)
        rw [e2] at hsl
        generalize dP c (s.data.toList.take j) = d at hdl ⊢
        cases d with
        | nil =>
          have hr := r91Ha s (bA (aP c (s.data.toList.take j))) (Int.ofNat c.toNat) (Int.ofNat x.toNat) (iP c (s.data.toList.take j)) j
          rw [hw] at hr
          exact SL_ok.rndN hr ⟨hlt, hix, hcmp, hsl, ⟨sStr_cl [aP c (s.data.toList.take j)], trivial⟩, rfl⟩
        | cons q r =>
          have hr := r91Hb s (bA (aP c (s.data.toList.take j))) (Int.ofNat c.toNat) (Int.ofNat x.toNat) (iP c (s.data.toList.take j)) j (sStr (q :: r)) (sStr (q :: r)).length
          have hap : sStr (q :: r) ++ [AV.v (.string (bA (aP c (s.data.toList.take j))))] = sStr ((q :: r) ++ [aP c (s.data.toList.take j)]) := by unfold sStr; rw [List.map_append]; rfl
          rw [hw, hap] at hr
          have h2 : (sStr ((q :: r) ++ [aP c (s.data.toList.take j)])).length ≤ 100001 := by unfold sStr; rw [List.length_map, List.length_append]; simp only [List.length_cons, List.length_nil] at hdl ⊢; omega
          exact SL_ok.rndN hr ⟨hlt, hix, hcmp, hsl, ⟨rfl, rfl, rfl, by omega, by omega, by decide⟩, ⟨sStr_cl _, trivial⟩, rfl⟩
      | false =>
        rw [hc] at hcmp
        simp only [cond_false]
        generalize dP c (s.data.toList.take j) = d
        cases d with
        | nil =>
          have hr := r91Ma s (Int.ofNat c.toNat) (Int.ofNat x.toNat) (iP c (s.data.toList.take j)) j
          rw [hw] at hr
          exact SL_ok.rndN hr ⟨hlt, hix, hcmp, trivial, rfl⟩
        | cons q r =>
          have hr := r91Mb s (Int.ofNat c.toNat) (Int.ofNat x.toNat) (iP c (s.data.toList.take j)) j (sStr (q :: r)) (sStr (q :: r)).length
          rw [hw] at hr
          exact SL_ok.rndN hr ⟨hlt, hix, hcmp, ⟨sStr_cl _, trivial⟩, rfl⟩)
    (by
      rw [List.take_length, hd]
      generalize dP c s.data.toList = d
      cases d with
      | nil => exact SL_ok.rndX (r91Xa s (Int.ofNat c.toNat) (iP c s.data.toList) s.size) ⟨lt_self _, trivial, rfl⟩
      | cons q r => exact SL_ok.rndX (r91Xb s (Int.ofNat c.toNat) (iP c s.data.toList) s.size (sStr (q :: r)) (sStr (q :: r)).length) ⟨lt_self _, ⟨sStr_cl _, trivial⟩, rfl⟩)
  exact h.says
def spltG : List AV → Option AV := sp2 strC byC fun s c => bif Nat.ble s.size 100000 then some (slA strC 1 (partsB c s)) else none
theorem h91 : Holds 91 spltG := holds2 fun s c r hr => by
  cases hb : Nat.ble s.size 100000 with
  | false => simp [hb] at hr
  | true =>
    simp only [hb, cond_true, Option.some.injEq] at hr; subst hr
    have hs := Nat.le_of_ble_eq_true hb
    have hl := loop91 s c hs
    obtain ⟨e1, e2⟩ := P_ext c (s := s) (j := s.size) (Nat.le_refl _)
    have hd : s.data.toList.length = s.size := rfl
    rw [← hd, List.take_length, hd] at e1 e2
    have ht := str_tail SL e1
    rw [e2] at ht
    have hdl := dP_len c s.data.toList
    rw [hd] at hdl
    have hres : slA strC 1 (partsB c s) = .rsl 1 (sStr (dP c s.data.toList) ++ [AV.v (.string (bA (aP c s.data.toList)))]) false := by
      show AV.rsl 1 ((partsB c s).map strC.enc) false = _
      unfold partsB
      rw [P_eq, List.map_append, List.map_append, List.map_map]; rfl
    rw [hres]
    have hlen : (sStr (dP c s.data.toList) ++ [AV.v (.string (bA (aP c s.data.toList)))]).length ≤ 100001 := by unfold sStr; rw [List.length_append, List.length_map]; simp; omega
    have hcl : ClosedL (sStr (dP c s.data.toList) ++ [AV.v (.string (bA (aP c s.data.toList)))]) := (sStr_cl _).append (sStr_cl [aP c s.data.toList])
    generalize dP c s.data.toList = d at hl hlen hcl ⊢
    cases d with
    | nil => exact SL_ok.tr (t91a s (bA (aP c s.data.toList)) (Int.ofNat c.toNat) (iP c s.data.toList)) ⟨⟨trivial, trivial, hl⟩, ht, ⟨rfl, rfl, by show 1 * 16 ≤ _; omega, by show 1 ≤ _; omega, by decide, hcl⟩, rfl⟩
    | cons q r => exact SL_ok.tr (t91b s (bA (aP c s.data.toList)) (Int.ofNat c.toNat) (iP c s.data.toList) (sStr (q :: r)).length (sStr (q :: r))) ⟨⟨trivial, ⟨sStr_cl _, trivial⟩, hl⟩, ht, ⟨rfl, rfl, rfl, by omega, by omega, by decide, hcl⟩, rfl⟩
end Go.Vm.S6

namespace Go.Vm.S6
open Go.Proofs Go.RowKit Go.Lib
theorem addStr (S : Specs) (x y : Operand) {s t : ByteArray} (h : s.size + t.size < two63) : abin (CS S) BinOp.add 9 x y (AV.v (.string s)) (AV.v (.string t)) = some (AV.v (.string (s ++ t))) := by
  have e : abin (CS S) BinOp.add 9 x y (AV.v (.string s)) (AV.v (.string t)) = (pureRun Tryz.prog (Op.stringOp .add s t)).bind fun r => bif Value.single r then some (.v r) else none := by kernel_rfl
  rw [e]
  unfold Op.stringOp
  simp only
  rw [if_neg (by unfold two63 at h; simp only [IntKind.max, IntKind.bits, IntKind.signed]; omega)]
  rfl
/-! ### Text -/
theorem bA_app (a b : List UInt8) : bA a ++ bA b = bA (a ++ b) := by
  unfold bA
  apply ByteArray.ext
  simp
end Go.Vm.S6
