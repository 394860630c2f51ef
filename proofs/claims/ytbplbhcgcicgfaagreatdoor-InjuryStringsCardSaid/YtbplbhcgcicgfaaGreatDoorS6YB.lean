/- Strings: the reference's Split. -/
import Derived.Test.YtbplbhcgcicgfaaGreatDoorS6Y2
import Derived.Test.YtbplbhcgcicgfaaGreatDoorS6KA
namespace Go.Vm.S6
open Go.Proofs Go.RowKit Go.Lib
def bA (l : List UInt8) : ByteArray := ⟨l.toArray⟩
def partsB (c : UInt8) (s : ByteArray) : List ByteArray := (splitL c s.data.toList).map bA
def byC : Cod UInt8 where
  dec | .v (.int .u8 n) => bif decide (0 ≤ n) && decide (n < 256) then some (UInt8.ofNat n.toNat) else none
      | _ => none
  enc c := u8A (Int.ofNat c.toNat)
  weak a x h := by
    split at h
    · rename_i n
      cases hb : decide (0 ≤ n) && decide (n < 256) with
      | false => rw [hb] at h; cases h
      | true =>
        rw [hb] at h
        simp only [cond_true, Option.some.injEq] at h
        subst h
        simp only [Bool.and_eq_true, decide_eq_true_eq] at hb
        have : n = Int.ofNat (UInt8.ofNat n.toNat).toNat := by
          rw [UInt8.toNat_ofNat', Nat.mod_eq_of_lt (by omega)]; simp only [Int.ofNat_eq_natCast]; omega
        rw [← this]
        exact Weak.rfl
    · cases h
  rt c := by
    have h := c.toNat_lt
    show (bif decide (0 ≤ Int.ofNat c.toNat) && decide (Int.ofNat c.toNat < 256) then _ else _) = _
    rw [decide_eq_true (show (0 : Int) ≤ Int.ofNat c.toNat from Int.natCast_nonneg _), decide_eq_true (by simp only [Int.ofNat_eq_natCast]; omega)]
    simp
theorem splitL_len (c : UInt8) : ∀ l : List UInt8, (splitL c l).length ≤ l.length + 1
  | [] => by simp [splitL]
  | x :: l => by
    have ih := splitL_len c l
    cases h : x == c with
    | true => rw [splitL_hit l h]; simp only [List.length_cons]; omega
    | false =>
      cases hr : splitL c l with
      | nil => exact absurd hr (splitL_ne c l)
      | cons a t => rw [splitL_miss h hr]; rw [hr] at ih; simp only [List.length_cons] at ih ⊢; omega
def dP (c : UInt8) (l : List UInt8) : List (List UInt8) := (splitL c l).dropLast
def aP (c : UInt8) (l : List UInt8) : List UInt8 := (splitL c l).getLastD []
theorem P_eq (c : UInt8) (l : List UInt8) : splitL c l = dP c l ++ [aP c l] := by
  obtain ⟨d, a, h, _⟩ := splitL_snoc c 0 l
  unfold dP aP
  rw [h]; simp
theorem P_snoc (c x : UInt8) (l : List UInt8) : dP c (l ++ [x]) = (bif x == c then dP c l ++ [aP c l] else dP c l) ∧ aP c (l ++ [x]) = bif x == c then [] else aP c l ++ [x] := by
  obtain ⟨d, a, h1, h2⟩ := splitL_snoc c x l
  unfold dP aP
  rw [h1, h2]
  cases x == c with
  | true =>
    rw [cond_true, cond_true, cond_true, show d ++ [a, []] = (d ++ [a]) ++ [[]] by simp]
    simp
  | false => simp
theorem P_sufN (c : UInt8) : ∀ (n : Nat) (l : List UInt8), l.length = n → ∃ p, l = p ++ aP c l
  | 0, l, h => by rw [List.length_eq_zero_iff] at h; subst h; exact ⟨[], rfl⟩
  | n + 1, l, h => by
    have hne : l ≠ [] := fun e => by subst e; cases h
    have hl := (List.dropLast_concat_getLast hne).symm
    obtain ⟨p, hp⟩ := P_sufN c n l.dropLast (by rw [List.length_dropLast]; omega)
    generalize l.getLast hne = x at hl
    generalize l.dropLast = m at hl hp
    subst hl
    rw [(P_snoc c x m).2]
    cases x == c with
    | true => exact ⟨m ++ [x], by simp⟩
    | false => exact ⟨p, by rw [cond_false, ← List.append_assoc, ← hp]⟩
theorem P_suf (c : UInt8) (l : List UInt8) : ∃ p, l = p ++ aP c l := P_sufN c l.length l rfl
theorem dP_len (c : UInt8) (l : List UInt8) : (dP c l).length ≤ l.length := by
  have := splitL_len c l
  rw [P_eq, List.length_append] at this
  simp at this; omega
/-- Where the last part begins. -/
def iP (c : UInt8) (l : List UInt8) : Nat := l.length - (aP c l).length
theorem P_ext (c : UInt8) {s : ByteArray} {j : Nat} (hj : j ≤ s.size) : iP c (s.data.toList.take j) ≤ j ∧ s.extract (iP c (s.data.toList.take j)) j = bA (aP c (s.data.toList.take j)) := by
  have hlen : (s.data.toList.take j).length = j := by rw [List.length_take]; have : s.data.toList.length = s.size := rfl; omega
  obtain ⟨p, hp⟩ := P_suf c (s.data.toList.take j)
  have hl : p.length + (aP c (s.data.toList.take j)).length = j := by rw [← List.length_append, ← hp, hlen]
  have hi : iP c (s.data.toList.take j) = p.length := by unfold iP; rw [hlen]; omega
  rw [hi]
  refine ⟨by omega, ?_⟩
  have h : (s.extract p.length j).data.toList = aP c (s.data.toList.take j) := by
    rw [ByteArray.data_extract, Array.toList_extract, List.extract_eq_take_drop]
    have h2 : (s.data.toList.take j).drop p.length = aP c (s.data.toList.take j) := by
      conv => lhs; rw [hp]
      rw [List.drop_left]
    rw [← List.drop_take]; exact h2
  unfold bA
  rw [← h]
theorem take_snoc {l : List UInt8} {j : Nat} {x : UInt8} (h : l[j]? = some x) : l.take (j + 1) = l.take j ++ [x] := by
  rw [List.take_add_one, h]; rfl
def sStr (l : List (List UInt8)) : List AV := l.map fun a => strA (bA a)
theorem sStr_cl (l : List (List UInt8)) : ClosedL (sStr l) := ClosedL.map fun _ => rfl
def st91 (ts : List Tmp) (_s : ByteArray) (vs : AV → List AV) : List (List UInt8) → St
  | [] => mkSt ts [] 34 (vs nilS) []
  | a :: r => mkSt ts [25] 34 (vs (.sl 25 0 1 0 (sStr (a :: r)).length)) [(false, .arr 1 (sStr (a :: r)) false)]
theorem loop91 (s : ByteArray) (c : UInt8) (hs : s.size ≤ 100000) :
    Says (CS SL) 0 34 false (.loop (loopOf (CS SL) 91 0)) (mkSt [0, 1, 5, 6, 7] [] 34 [strA s, u8A (Int.ofNat c.toNat), nilS, intA 0, intA 0] []) (.exit 0)
      (st91 [0, 5, 6] s (fun a => [strA s, a, intA (Int.ofNat (iP c s.data.toList))]) (dP c s.data.toList)) := by
  have hl : s.size < two63 := by unfold two63; omega
  have hd : s.data.toList.length = s.size := rfl
  have h := LoopRun.idx (C := CS SL) (p := 0) (nt := 34) (rd := false) (c := loopOf (CS SL) 91 0)
    (fun j => st91 [0, 1, 5, 6, 7] s (fun a => [strA s, u8A (Int.ofNat c.toNat), a, intA (Int.ofNat (iP c (s.data.toList.take j))), intA (Int.ofNat j)]) (dP c (s.data.toList.take j))) (.exit 0)
    (st91 [0, 5, 6] s (fun a => [strA s, a, intA (Int.ofNat (iP c s.data.toList))]) (dP c s.data.toList)) s.data.toList (by simp)
    (fun j x hx => by
      have hj : j < s.size := by rw [← hd]; exact (List.getElem?_eq_some_iff.1 hx).1
      have hlt := lt_of hj
      have hw := wrap_ix hj hl
      have hb : (bytesI s)[j]? = some (Int.ofNat x.toNat) := by unfold bytesI; rw [List.getElem?_map, hx]; rfl
      have hix := str_at SL hb
      have hlen : (s.data.toList.take j).length = j := by rw [List.length_take]; omega
      obtain ⟨e1, e2⟩ := P_ext c (s := s) (j := j) (by omega)
      have hcmp : (Int.ofNat x.toNat == Int.ofNat c.toNat) = (x == c) := by
        cases h : x == c with
        | true => have := eq_of_beq h; subst this; simp
        | false =>
          rw [beq_eq_false_iff_ne] at h ⊢
          intro hh
          exact h (UInt8.toNat_inj.1 (Int.ofNat.inj hh))
      have hdl := dP_len c (s.data.toList.take j)
      rw [hlen] at hdl
      rw [take_snoc hx]
      have hs1 := (P_snoc c x (s.data.toList.take j)).1
      have hs2 := (P_snoc c x (s.data.toList.take j)).2
      have hi2 : iP c (s.data.toList.take j ++ [x]) = bif x == c then j + 1 else iP c (s.data.toList.take j) := by
        unfold iP
        rw [hs2, List.length_append, hlen]
        cases x == c with
        | true => simp
        | false => simp
      rw [hs1, hi2]
      cases hc : x == c with
      | true =>
        rw [hc] at hcmp
        simp only [cond_true]
        have hsl := str_slice SL e1 (show j ≤ s.size by omega)
        rw [e2] at hsl
        generalize dP c (s.data.toList.take j) = d at hdl ⊢
        cases d with
        | nil =>
          have hr := r91Ha s (bA (aP c (s.data.toList.take j))) (Int.ofNat c.toNat) (Int.ofNat x.toNat) (iP c (s.data.toList.take j)) j
          rw [hw] at hr
          exact SL_ok.rndN hr ⟨hlt, hix, hcmp, hsl, ⟨sStr_cl [aP c (s.data.toList.take j)], trivial⟩, rfl⟩
        | cons q r =>
          have hr := r91Hb s (bA (aP c (s.data.toList.take j))) (Int.ofNat c.toNat) (Int.ofNat x.toNat) (iP c (s.data.toList.take j)) j (sStr (q :: r)) (sStr (q :: r)).length
          have hap : sStr (q :: r) ++ [AV.v (.string (bA (aP c (s.data.toList.take j))))] = sStr ((q :: r) ++ [aP c (s.data.toList.take j)]) := by unfold sStr; rw [List.map_append]; rfl
          rw [hw, hap] at hr
          have h2 : (sStr ((q :: r) ++ [aP c (s.data.toList.take j)])).length ≤ 100001 := by unfold sStr; rw [List.length_map, List.length_append]; simp only [List.length_cons, List.length_nil] at hdl ⊢; omega
          exact SL_ok.rndN hr ⟨hlt, hix, hcmp, hsl, ⟨rfl, rfl, rfl, by omega, by omega, by decide⟩, ⟨sStr_cl _, trivial⟩, rfl⟩
      | false =>
        rw [hc] at hcmp
        simp only [cond_false]
        generalize dP c (s.data.toList.take j) = d
        cases d with
        | nil =>
          have hr := r91Ma s (Int.ofNat c.toNat) (Int.ofNat x.toNat) (iP c (s.data.toList.take j)) j
          rw [hw] at hr
          exact SL_ok.rndN hr ⟨hlt, hix, hcmp, trivial, rfl⟩
        | cons q r =>
          have hr := r91Mb s (Int.ofNat c.toNat) (Int.ofNat x.toNat) (iP c (s.data.toList.take j)) j (sStr (q :: r)) (sStr (q :: r)).length
          rw [hw] at hr
          exact SL_ok.rndN hr ⟨hlt, hix, hcmp, ⟨sStr_cl _, trivial⟩, rfl⟩)
    (by
      rw [List.take_length, hd]
      generalize dP c s.data.toList = d
      cases d with
      | nil => exact SL_ok.rndX (r91Xa s (Int.ofNat c.toNat) (iP c s.data.toList) s.size) ⟨lt_self _, trivial, rfl⟩
      | cons q r => exact SL_ok.rndX (r91Xb s (Int.ofNat c.toNat) (iP c s.data.toList) s.size (sStr (q :: r)) (sStr (q :: r)).length) ⟨lt_self _, ⟨sStr_cl _, trivial⟩, rfl⟩)
  exact h.says
def spltG : List AV → Option AV := sp2 strC byC fun s c => bif Nat.ble s.size 100000 then some (slA strC 1 (partsB c s)) else none
theorem h91 : Holds 91 spltG := holds2 fun s c r hr => by
  cases hb : Nat.ble s.size 100000 with
  | false => simp [hb] at hr
  | true =>
    simp only [hb, cond_true, Option.some.injEq] at hr; subst hr
    have hs := Nat.le_of_ble_eq_true hb
    have hl := loop91 s c hs
    obtain ⟨e1, e2⟩ := P_ext c (s := s) (j := s.size) (Nat.le_refl _)
    have hd : s.data.toList.length = s.size := rfl
    rw [← hd, List.take_length, hd] at e1 e2
    have ht := str_tail SL e1
    rw [e2] at ht
    have hdl := dP_len c s.data.toList
    rw [hd] at hdl
    have hres : slA strC 1 (partsB c s) = .rsl 1 (sStr (dP c s.data.toList) ++ [AV.v (.string (bA (aP c s.data.toList)))]) false := by
      show AV.rsl 1 ((partsB c s).map strC.enc) false = _
      unfold partsB
      rw [P_eq, List.map_append, List.map_append, List.map_map]; rfl
    rw [hres]
    have hlen : (sStr (dP c s.data.toList) ++ [AV.v (.string (bA (aP c s.data.toList)))]).length ≤ 100001 := by unfold sStr; rw [List.length_append, List.length_map]; simp; omega
    have hcl : ClosedL (sStr (dP c s.data.toList) ++ [AV.v (.string (bA (aP c s.data.toList)))]) := (sStr_cl _).append (sStr_cl [aP c s.data.toList])
    generalize dP c s.data.toList = d at hl hlen hcl ⊢
    cases d with
    | nil => exact SL_ok.tr (t91a s (bA (aP c s.data.toList)) (Int.ofNat c.toNat) (iP c s.data.toList)) ⟨⟨trivial, trivial, hl⟩, ht, ⟨rfl, rfl, by show 1 * 16 ≤ _; omega, by show 1 ≤ _; omega, by decide, hcl⟩, rfl⟩
    | cons q r => exact SL_ok.tr (t91b s (bA (aP c s.data.toList)) (Int.ofNat c.toNat) (iP c s.data.toList) (sStr (q :: r)).length (sStr (q :: r))) ⟨⟨trivial, ⟨sStr_cl _, trivial⟩, hl⟩, ht, ⟨rfl, rfl, rfl, by omega, by omega, by decide, hcl⟩, rfl⟩
end Go.Vm.S6

namespace Go.Vm.S6
open Go.Proofs Go.RowKit Go.Lib
theorem cvU8 (n : Int) : aconv (CS SL) 3 5 (AV.v (.int .i64 n)) = some (AV.v (.int .u8 (IntKind.u8.wrap n))) := by kernel_rfl
theorem cvStr (n : Int) : aconv (CS SL) 233 9 (AV.rsl 1 [.v (.int .u8 n)] true) = some (AV.v (.string (strOfNums [n]))) := by kernel_rfl
theorem addStr (S : Specs) (x y : Operand) {s t : ByteArray} (h : s.size + t.size < two63) : abin (CS S) BinOp.add 9 x y (AV.v (.string s)) (AV.v (.string t)) = some (AV.v (.string (s ++ t))) := by
  have e : abin (CS S) BinOp.add 9 x y (AV.v (.string s)) (AV.v (.string t)) = (pureRun Tryz.prog (Op.stringOp .add s t)).bind fun r => bif Value.single r then some (.v r) else none := by kernel_rfl
  rw [e]
  unfold Op.stringOp
  simp only
  rw [if_neg (by unfold two63 at h; simp only [IntKind.max, IntKind.bits, IntKind.signed]; omega)]
  rfl
/-! ### Text -/
def chr (d : Nat) : ByteArray := bA [UInt8.ofNat (48 + d)]
def rndT : ByteArray × Nat → (ByteArray × Nat) ⊕ ByteArray
  | (s, k) => bif Nat.beq k 0 then .inr s else .inl (chr (k % 10) ++ s, k / 10)
def digs (k : Nat) : List UInt8 := bif Nat.beq k 0 then [] else decDigits k
theorem digs_step {k : Nat} (h : k ≠ 0) : digs k = digs (k / 10) ++ [UInt8.ofNat (48 + k % 10)] := by
  have hk : Nat.beq k 0 = false := by cases hb : Nat.beq k 0 with | false => rfl | true => exact absurd (Nat.eq_of_beq_eq_true hb) h
  unfold digs
  rw [hk, cond_false, decDigits]
  by_cases h10 : k < 10
  · rw [dif_pos h10, show k / 10 = 0 by omega, show k % 10 = k by omega]; rfl
  · have hk2 : Nat.beq (k / 10) 0 = false := by cases hb : Nat.beq (k / 10) 0 with | false => rfl | true => have := Nat.eq_of_beq_eq_true hb; omega
    rw [dif_neg h10, hk2]; rfl
theorem bA_app (a b : List UInt8) : bA a ++ bA b = bA (a ++ b) := by
  unfold bA
  apply ByteArray.ext
  simp
theorem rndT_run : ∀ (n k : Nat) (l : List UInt8), k < n → goW rndT n (bA l, k) = some (bA (digs k ++ l))
  | 0, k, l, h => by omega
  | n + 1, k, l, h => by
    rw [goW]
    cases hk : Nat.beq k 0 with
    | true =>
      have e : rndT (bA l, k) = .inr (bA l) := by simp only [rndT, hk, cond_true]
      rw [e]
      unfold digs; rw [hk]; rfl
    | false =>
      have hk0 : k ≠ 0 := fun e => by subst e; cases hk
      have e : rndT (bA l, k) = .inl (bA (UInt8.ofNat (48 + k % 10) :: l), k / 10) := by
        simp only [rndT, hk, cond_false]
        unfold chr
        rw [bA_app]; rfl
      rw [e]
      simp only
      rw [rndT_run n (k / 10) _ (by omega), digs_step hk0]
      simp
theorem loop155 (n : Int) (k : Nat) (hk : k < two63) :
    Says (CS SL) 0 29 false (.loop (loopOf (CS SL) 155 0)) (mkSt [0, 3, 4] [] 29 [intA n, strA (bA []), intA (Int.ofNat k)] []) (.exit 0) (mkSt [0, 3] [] 29 [intA n, strA (bA (digs k))] []) := by
  have h := LoopRun.rounds (C := CS SL) (p := 0) (nt := 29) (rd := false) (c := loopOf (CS SL) 155 0) (rnd := rndT) (enc := fun s => mkSt [0, 3, 4] [] 29 [intA n, strA s.1, intA (Int.ofNat s.2)] []) (ex := fun _ => .exit 0)
    (out := fun t => mkSt [0, 3] [] 29 [intA n, strA t] []) (fun s => s.2 < two63 ∧ s.1.size + s.2 < two63)
    (fun s hs => by
      obtain ⟨s, k⟩ := s
      obtain ⟨h1, h2⟩ := hs
      simp only at h1 h2
      cases hk : Nat.beq k 0 with
      | true =>
        have e : rndT (s, k) = .inr s := by simp only [rndT, hk, cond_true]
        rw [e]
        have := Nat.eq_of_beq_eq_true hk
        subst this
        exact ⟨SL_ok.rndX (r155x n s 0) ⟨rfl, trivial, rfl⟩, by simp⟩
      | false =>
        have e : rndT (s, k) = .inl (chr (k % 10) ++ s, k / 10) := by simp only [rndT, hk, cond_false]
        rw [e]
        have hk0 : k ≠ 0 := fun e => by subst e; cases hk
        have hd : k % 10 < 10 := Nat.mod_lt _ (by omega)
        have hlen : (chr (k % 10)).size = 1 := rfl
        have g1 : (Int.ofNat k != 0) = true := by simp only [bne_iff_ne, ne_eq, Int.ofNat_eq_natCast]; omega
        have g2 : ∀ t, abin (CS SL) BinOp.rem 3 (Operand.tmp t) (Operand.const (Value.int IntKind.i64 10)) (AV.v (.int .i64 (Int.ofNat k))) (AV.v (.int .i64 10)) = some (AV.v (.int .i64 (Int.ofNat (k % 10)))) := fun t => by
          show some (AV.v (.int .i64 (Int.tmod (Int.ofNat k) 10))) = _
          rfl
        have g3 : abin (CS SL) BinOp.sub 3 (Operand.const (Value.int IntKind.i64 0)) (Operand.tmp 15) (AV.v (.int .i64 0)) (AV.v (.int .i64 (Int.ofNat (k % 10)))) = some (AV.v (.int .i64 (0 - Int.ofNat (k % 10)))) := by
          show some (AV.v (.int .i64 (IntKind.i64.wrap (0 - Int.ofNat (k % 10))))) = _
          rw [wrap_in (by simp only [Int.ofNat_eq_natCast]; omega) (by simp only [Int.ofNat_eq_natCast]; omega)]
        have gm : (if 0 - Int.ofNat (k % 10) > Int.ofNat (k % 10) then 0 - Int.ofNat (k % 10) else Int.ofNat (k % 10)) = Int.ofNat (k % 10) := if_neg (by simp only [Int.ofNat_eq_natCast]; omega)
        have g4 : abin (CS SL) BinOp.add 3 (Operand.const (Value.int IntKind.i64 48)) (Operand.tmp 17) (AV.v (.int .i64 48)) (AV.v (.int .i64 (if 0 - Int.ofNat (k % 10) > Int.ofNat (k % 10) then 0 - Int.ofNat (k % 10) else Int.ofNat (k % 10)))) = some (AV.v (.int .i64 (Int.ofNat (48 + k % 10)))) := by
          rw [gm]
          show some (AV.v (.int .i64 (IntKind.i64.wrap (48 + Int.ofNat (k % 10))))) = _
          rw [show 48 + Int.ofNat (k % 10) = Int.ofNat (48 + k % 10) by simp only [Int.ofNat_eq_natCast]; omega, wrapN _ (by unfold two63; omega)]
        have g5 : aconv (CS SL) 3 5 (AV.v (.int .i64 (Int.ofNat (48 + k % 10)))) = some (AV.v (.int .u8 (Int.ofNat (48 + k % 10)))) := by
          rw [cvU8, show IntKind.u8.wrap (Int.ofNat (48 + k % 10)) = Int.ofNat (48 + k % 10) by simp [IntKind.wrap, IntKind.bits, IntKind.signed]; omega]
        have g6 : aconv (CS SL) 233 9 (AV.rsl 1 [.v (.int .u8 (Int.ofNat (48 + k % 10)))] true) = some (AV.v (.string (chr (k % 10)))) := by rw [cvStr]; rfl
        have g7 := addStr SL (Operand.tmp 21) (Operand.tmp 22) (s := chr (k % 10)) (t := s) (by rw [hlen]; omega)
        have g8 : abin (CS SL) BinOp.quo 3 (Operand.tmp 10) (Operand.const (Value.int IntKind.i64 10)) (AV.v (.int .i64 (Int.ofNat k))) (AV.v (.int .i64 10)) = some (AV.v (.int .i64 (Int.ofNat (k / 10)))) := by
          show some (AV.v (.int .i64 (IntKind.i64.wrap (Int.tdiv (Int.ofNat k) 10)))) = _
          rw [show Int.tdiv (Int.ofNat k) 10 = Int.ofNat (k / 10) from rfl, wrapN (k / 10) (by omega)]
        exact ⟨SL_ok.rndN (r155 n (0 - Int.ofNat (k % 10)) (Int.ofNat (48 + k % 10)) s (chr (k % 10)) (chr (k % 10) ++ s) k (k % 10) (48 + k % 10) (k / 10)) ⟨g1, g2 _, g2 _, g3, g4, g5, g6, g7, g8, trivial, rfl⟩, by show k / 10 < two63; omega, by show (chr (k % 10) ++ s).size + k / 10 < two63; rw [ByteArray.size_append, hlen]; omega⟩)
    (k + 1) (bA [], k) (bA (digs k ++ [])) ⟨hk, by show 0 + k < two63; omega⟩ (rndT_run (k + 1) k [] (by omega))
  rw [List.append_nil] at h
  exact h.says
def txtG : List AV → Option AV := sp1 intC fun n => bif decide (0 ≤ n) && decide (n < 9223372036854775807) then some (strA (itoaB n)) else none
theorem h155 : Holds 155 txtG := holds1 fun n r hr => by
  cases hb : decide (0 ≤ n) && decide (n < 9223372036854775807) with
  | false => simp [hb] at hr
  | true =>
    simp only [hb, cond_true, Option.some.injEq] at hr; subst hr
    simp only [Bool.and_eq_true, decide_eq_true_eq] at hb
    obtain ⟨k, rfl⟩ := Int.eq_ofNat_of_zero_le hb.1
    have hb2 : (k : Int) < 9223372036854775807 := hb.2
    have hk : k < two63 := by unfold two63; omega
    have hi : itoaB (k : Int) = bA (decDigits k) := by
      unfold itoaB itoa
      rw [if_neg (by omega), Int.toNat_natCast]; rfl
    rw [hi]
    cases h0 : ((k : Int) == 0) with
    | true =>
      have : k = 0 := by simp only [beq_iff_eq] at h0; omega
      subst this
      have e : decDigits 0 = [48] := by rw [decDigits_one (by omega)]; rfl
      rw [e]
      exact SL_ok.tr (t155z 0) ⟨rfl, rfl⟩
    | false =>
      have hk0 : k ≠ 0 := fun e => by subst e; cases h0
      have hd : digs k = decDigits k := by
        unfold digs
        have : Nat.beq k 0 = false := by cases hb : Nat.beq k 0 with | false => rfl | true => exact absurd (Nat.eq_of_beq_eq_true hb) hk0
        rw [this]; rfl
      have hl := loop155 (k : Int) k hk
      rw [hd] at hl
      exact SL_ok.tr (t155 (k : Int) (bA (decDigits k))) ⟨h0, ⟨trivial, trivial, hl⟩, decide_eq_false (by omega), rfl⟩
end Go.Vm.S6

namespace Go.Vm.S6
open Go.Proofs Go.RowKit Go.Lib
theorem nDigits_le : ∀ (k u : Nat), u < 10 ^ (k + 1) → nDigits u ≤ k + 1
  | 0, u, h => by rw [nDigits_small (by simpa using h)]; omega
  | k + 1, u, h => by
    by_cases h10 : u < 10
    · rw [nDigits_small h10]; omega
    · rw [nDigits_big h10]
      have : u / 10 < 10 ^ (k + 1) := by rw [Nat.div_lt_iff_lt_mul (by omega)]; rw [Nat.pow_succ] at h; omega
      have := nDigits_le k (u / 10) this
      omega
/-- What a step's numbers are bound by. -/
def okSt (v : St3) : Bool := (decide (0 ≤ v.1) && decide (v.1 < 10000000000000)) && ((decide (0 ≤ v.2.1) && decide (v.2.1 < 10000000000000)) && (decide (0 ≤ v.2.2) && decide (v.2.2 < 10000000000000)))
theorem itoa_len {n : Int} (h0 : 0 ≤ n) (h1 : n < 10000000000000) : (itoa n).length ≤ 13 := by
  unfold itoa
  rw [if_neg (by omega), decDigits_length]
  exact nDigits_le 12 n.toNat (by omega)
def lineL (v : St3) : List UInt8 := [115, 116, 101, 112, 32] ++ itoa v.1 ++ [32] ++ itoa v.2.1 ++ [32] ++ itoa v.2.2 ++ [10]
theorem okSt_at {v : St3} (h : okSt v = true) : (0 ≤ v.1 ∧ v.1 < 10000000000000) ∧ (0 ≤ v.2.1 ∧ v.2.1 < 10000000000000) ∧ 0 ≤ v.2.2 ∧ v.2.2 < 10000000000000 := by
  unfold okSt at h
  simpa only [Bool.and_eq_true, decide_eq_true_eq] using h
theorem lineL_len {v : St3} (h : okSt v = true) : (lineL v).length ≤ 47 := by
  obtain ⟨⟨a1, a2⟩, ⟨b1, b2⟩, c1, c2⟩ := okSt_at h
  have := itoa_len a1 a2
  have := itoa_len b1 b2
  have := itoa_len c1 c2
  unfold lineL
  simp only [List.length_append, List.length_cons, List.length_nil]
  omega
def lineG : List AV → Option AV := sp1 stepC fun v => bif okSt v then some (strA (bA (lineL v))) else none
theorem spItoa {n : Int} (h0 : 0 ≤ n) (h1 : n < 10000000000000) : itoaG [intA n] = some (strA (bA (itoa n))) := by
  have := sp1_at (A := intC) (F := fun n => bif decide (-9223372036854775808 ≤ n) && decide (n ≤ 9223372036854775807) then some (strA (itoaB n)) else none) n
  rw [decide_eq_true (show -9223372036854775808 ≤ n by omega), decide_eq_true (show n ≤ 9223372036854775807 by omega)] at this
  exact this
theorem h150 : Holds 150 lineG := holds1 fun v r hr => by
  cases hb : okSt v with
  | false => simp [hb] at hr
  | true =>
    simp only [hb, cond_true, Option.some.injEq] at hr; subst hr
    obtain ⟨⟨a1, a2⟩, ⟨b1, b2⟩, c1, c2⟩ := okSt_at hb
    have hx := spItoa a1 a2
    have hy := spItoa b1 b2
    have hz := spItoa c1 c2
    have hl := lineL_len hb
    have hj : Lib.join ([(⟨#[115, 116, 101, 112]⟩ : ByteArray), bA (itoa v.1), bA (itoa v.2.1), bA (itoa v.2.2)].map (·.data.toList)) (⟨#[32]⟩ : ByteArray).data.toList = [115, 116, 101, 112, 32] ++ itoa v.1 ++ [32] ++ itoa v.2.1 ++ [32] ++ itoa v.2.2 := by
      simp [Lib.join, bA]
    have hjl : (Lib.join ([(⟨#[115, 116, 101, 112]⟩ : ByteArray), bA (itoa v.1), bA (itoa v.2.1), bA (itoa v.2.2)].map (·.data.toList)) (⟨#[32]⟩ : ByteArray).data.toList).length ≤ 46 := by
      rw [hj]; unfold lineL at hl; rw [List.length_append] at hl; simp only [List.length_cons, List.length_nil] at hl; omega
    have hs : joinG [.rsl 1 [.v (.string ⟨#[115, 116, 101, 112]⟩), strA (bA (itoa v.1)), strA (bA (itoa v.2.1)), strA (bA (itoa v.2.2))] true, .v (.string ⟨#[32]⟩)] = some (strA (bA ([115, 116, 101, 112, 32] ++ itoa v.1 ++ [32] ++ itoa v.2.1 ++ [32] ++ itoa v.2.2))) := by
      show joinF [⟨#[115, 116, 101, 112]⟩, bA (itoa v.1), bA (itoa v.2.1), bA (itoa v.2.2)] ⟨#[32]⟩ = _
      unfold joinF
      rw [Nat.ble_eq_true_of_le (show _ ≤ 140737488355328 by omega), show ([(⟨#[115, 116, 101, 112]⟩ : ByteArray), bA (itoa v.1), bA (itoa v.2.1), bA (itoa v.2.2)].length.ble 140737488355328) = true from rfl]
      show some (strA (joined _ _)) = _
      unfold joined
      rw [hj]; rfl
    have hadd := addStr SL (Operand.tmp 15) (Operand.const (Value.string (ByteArray.mk #[10]))) (s := bA ([115, 116, 101, 112, 32] ++ itoa v.1 ++ [32] ++ itoa v.2.1 ++ [32] ++ itoa v.2.2)) (t := ByteArray.mk #[10]) (by
      show ([115, 116, 101, 112, 32] ++ itoa v.1 ++ [32] ++ itoa v.2.1 ++ [32] ++ itoa v.2.2 : List UInt8).toArray.size + 1 < two63
      rw [hj] at hjl
      rw [List.size_toArray]
      have : (46 : Nat) + 1 < two63 := by decide
      omega)
    have he : bA ([115, 116, 101, 112, 32] ++ itoa v.1 ++ [32] ++ itoa v.2.1 ++ [32] ++ itoa v.2.2) ++ ByteArray.mk #[10] = bA (lineL v) := bA_app _ [10]
    rw [he] at hadd
    exact SL_ok.tr (t150 v.1 v.2.1 v.2.2 (bA (itoa v.1)) (bA (itoa v.2.1)) (bA (itoa v.2.2)) _ (bA (lineL v))) ⟨⟨rfl, hx⟩, ⟨rfl, hy⟩, ⟨rfl, hz⟩, ⟨rfl, hs⟩, hadd, rfl⟩
/-! ### A newline at the end -/
def nlB : ByteArray := ByteArray.mk #[10]
def sufM (s : ByteArray) : Bool := decide (Int.ofNat s.size ≥ 1) && (s.extract (s.size - 1) s.size).toList == nlB.toList
def nlC : Cod Unit := oneC (strA nlB) (fun a => match a with | .v (.string s) => decide (s = nlB) | _ => false) (fun b hb => by split at hb; rw [of_decide_eq_true hb]; exact Weak.rfl; cases hb) rfl
def sufG : List AV → Option AV := sp2 strC nlC fun s _ => bif Nat.ble s.size 100000 then some (boolA (sufM s)) else none
theorem h195 : Holds 195 sufG := holds2 fun s _ r hr => by
  cases hb : Nat.ble s.size 100000 with
  | false => simp [hb] at hr
  | true =>
    simp only [hb, cond_true, Option.some.injEq] at hr; subst hr
    have hs := Nat.le_of_ble_eq_true hb
    unfold sufM
    cases h1 : decide (Int.ofNat s.size ≥ 1) with
    | false => exact SL_ok.tr (t195a s) ⟨h1, rfl⟩
    | true =>
      have h2 : 1 ≤ s.size := by simp only [decide_eq_true_eq, Int.ofNat_eq_natCast, ge_iff_le] at h1; omega
      have ht := str_tail SL (s := s) (i := s.size - 1) (by omega)
      refine SL_ok.tr (t195b s (s.extract (s.size - 1) s.size) (s.size - 1)) ⟨h1, ?_, ht, rfl⟩
      show some (AV.v (.int .i64 (IntKind.i64.wrap (Int.ofNat s.size - 1)))) = _
      rw [show Int.ofNat s.size - 1 = Int.ofNat (s.size - 1) by simp only [Int.ofNat_eq_natCast]; omega, wrapN _ (by unfold two63; omega)]
def Z1 : Specs := (((((((((((K3.set 62 stTabG).set 65 ownSG).set 68 tblG).set 141 tblG).set 176 intG).set 156 lngNG).set 91 spltG).set 155 txtG).set 173 idxG).set 150 lineG).set 195 sufG)
theorem Z1_ok : Ok Z1 := (((((((((((K3_ok.set h62).set h65).set h68).set h141).set h176).set h156).set h91).set h155).set h173).set h150).set h195)
end Go.Vm.S6
