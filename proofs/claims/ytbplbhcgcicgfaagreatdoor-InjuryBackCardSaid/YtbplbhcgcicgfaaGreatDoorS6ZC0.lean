/- Plain laws: what is printed is parsed, and the other way round; a median's counts; a rank; a step's own risk. -/
import Derived.Test.YtbplbhcgcicgfaaGreatDoorS6ZB4
namespace Go.Vm.S6
open Go.Proofs Go.RowKit
open Go.Lib
/-! ### A numeral and its value -/
def numN : List UInt8 → Nat → Nat
  | [], v => v
  | c :: r, v => numN r (10 * v + (c.toNat - 48))
def digN (c : UInt8) : Bool := Nat.ble 48 c.toNat && Nat.ble c.toNat 57
theorem digN_at {c : UInt8} (h : digN c = true) : 48 ≤ c.toNat ∧ c.toNat ≤ 57 := by
  unfold digN at h
  simp only [Bool.and_eq_true, Nat.ble_eq] at h
  exact h
theorem digN_of (d : Nat) (h : d < 10) : (UInt8.ofNat (48 + d)).toNat = 48 + d := by
  rw [UInt8.toNat_ofNat']; omega
theorem digI_N (c : UInt8) : digI (Int.ofNat c.toNat) = digN c := by
  unfold digI digN
  rw [Bool.eq_iff_iff]
  simp only [Bool.and_eq_true, decide_eq_true_eq, Nat.ble_eq, Int.ofNat_eq_natCast]
  omega
theorem numI_N : ∀ (l : List UInt8) (v : Nat), l.all digN = true → numI (l.map fun b => Int.ofNat b.toNat) (Int.ofNat v) = Int.ofNat (numN l v)
  | [], _, _ => rfl
  | c :: r, v, h => by
    rw [List.all_cons, Bool.and_eq_true] at h
    have hc := digN_at h.1
    rw [List.map_cons, numI, numN, ← numI_N r (10 * v + (c.toNat - 48)) h.2]
    congr 1
    simp only [Int.ofNat_eq_natCast]
    omega
theorem numN_snoc : ∀ (l : List UInt8) (c : UInt8) (v : Nat), numN (l ++ [c]) v = 10 * numN l v + (c.toNat - 48)
  | [], _, _ => rfl
  | x :: r, c, v => by rw [List.cons_append, numN, numN_snoc r c, numN]
theorem dec_all (u : Nat) : (decDigits u).all digN = true := by
  induction u using Nat.strongRecOn with
  | _ u ih =>
    have hd : ∀ d : Nat, d < 10 → digN (UInt8.ofNat (48 + d)) = true := fun d h => by
      unfold digN; rw [digN_of d h]; simp only [Bool.and_eq_true, Nat.ble_eq]; omega
    by_cases h : u < 10
    · rw [decDigits, dif_pos h, List.all_cons, List.all_nil, Bool.and_true]; exact hd u h
    · rw [decDigits, dif_neg h, List.all_append, ih (u / 10) (by omega), List.all_cons, List.all_nil, Bool.and_true, Bool.true_and]
      exact hd (u % 10) (Nat.mod_lt _ (by omega))
theorem dec_num (u : Nat) : numN (decDigits u) 0 = u := by
  induction u using Nat.strongRecOn with
  | _ u ih =>
    by_cases h : u < 10
    · rw [decDigits, dif_pos h, numN, numN, digN_of u h]; omega
    · rw [decDigits, dif_neg h, numN_snoc, ih (u / 10) (by omega), digN_of _ (Nat.mod_lt _ (by omega))]; omega
theorem dec_ne (u : Nat) : decDigits u ≠ [] := by
  intro h
  have := decDigits_length u
  rw [h] at this
  have := nDigits_pos u
  simp at *; omega
/-- A numeral of more than one digit begins with none that is zero. -/
theorem dec_head (u : Nat) : 1 ≤ u → ∀ c, (decDigits u)[0]? = some c → c.toNat ≠ 48 := by
  induction u using Nat.strongRecOn with
  | _ u ih =>
    intro h1 c hc
    by_cases h : u < 10
    · rw [decDigits, dif_pos h] at hc
      simp only [List.getElem?_cons_zero, Option.some.injEq] at hc
      subst hc; rw [digN_of u h]; omega
    · rw [decDigits, dif_neg h] at hc
      rw [List.getElem?_append_left (by have := List.length_pos_iff.2 (dec_ne (u / 10)); omega)] at hc
      exact ih (u / 10) (by omega) (by omega) c hc
theorem dec_of : ∀ (n : Nat) (l : List UInt8), l.length = n → l ≠ [] → l.all digN = true → (1 < l.length → ∀ c, l[0]? = some c → c.toNat ≠ 48) → l = decDigits (numN l 0)
  | 0, l, h, hne, _, _ => absurd (List.eq_nil_of_length_eq_zero h) hne
  | n + 1, l, h, hne, hall, hh => by
    have hl := (List.dropLast_concat_getLast hne).symm
    generalize l.dropLast = p at hl
    generalize l.getLast hne = c at hl
    subst hl
    rw [List.all_append, Bool.and_eq_true] at hall
    have hc := digN_at (by simpa using hall.2 : digN c = true)
    have hcc : UInt8.ofNat (48 + (c.toNat - 48)) = c := by
      apply UInt8.toNat_inj.1; rw [digN_of _ (by omega)]; omega
    rw [numN_snoc]
    by_cases hp : p = []
    · subst hp
      rw [numN, decDigits, dif_pos (by omega)]
      rw [show 10 * 0 + (c.toNat - 48) = c.toNat - 48 by omega, hcc]; rfl
    · have hpl := List.length_pos_iff.2 hp
      have hh2 : ∀ d, p[0]? = some d → d.toNat ≠ 48 := fun d hd => hh (by rw [List.length_append, List.length_singleton]; omega) d (by rw [List.getElem?_append_left (by omega)]; exact hd)
      have ih := dec_of n p (by rw [List.length_append, List.length_singleton] at h; omega) hp hall.1 (fun _ => hh2)
      have hk : 1 ≤ numN p 0 := by
        rcases Nat.eq_zero_or_pos (numN p 0) with h0 | h0
        · exfalso
          rw [h0, decDigits_one (by omega)] at ih
          exact hh2 (UInt8.ofNat (48 + 0)) (by rw [ih]; rfl) (by rw [digN_of 0 (by omega)])
        · exact h0
      generalize numN p 0 = k at ih hk
      conv => rhs; rw [decDigits, dif_neg (by omega)]
      rw [show (10 * k + (c.toNat - 48)) / 10 = k by omega, show (10 * k + (c.toNat - 48)) % 10 = c.toNat - 48 by omega, hcc, ← ih]
theorem intV_N (w : ByteArray) : intV w = bif w.data.toList.all digN && (Nat.ble w.size 13 || Nat.ble w.size 0) then some (Int.ofNat (numN w.data.toList 0)) else none := by
  have hgo : intV w = bif (bytesI w).all fun c => digI c && Nat.ble w.size 13 then some (numI (bytesI w) 0) else none := goL_stp w.size (bytesI w) 0 0
  rw [hgo]
  have hsz : w.size = w.data.toList.length := rfl
  have hall : ((bytesI w).all fun c => digI c && Nat.ble w.size 13) = (w.data.toList.all digN && (Nat.ble w.size 13 || Nat.ble w.size 0)) := by
    unfold bytesI
    rw [List.all_map]
    cases hq : w.data.toList with
    | nil => rw [hq] at hsz; rw [hsz]; rfl
    | cons a r =>
      rw [hq] at hsz
      have h0 : Nat.ble w.size 0 = false := by rw [hsz]; rfl
      rw [h0, Bool.or_false]
      have : ((fun c => digI c && Nat.ble w.size 13) ∘ fun b : UInt8 => Int.ofNat b.toNat) = fun b => digN b && Nat.ble w.size 13 := by
        funext b; show (digI (Int.ofNat b.toNat) && _) = _; rw [digI_N]
      rw [this]
      cases Nat.ble w.size 13 with
      | true => simp
      | false => simp
  rw [hall]
  cases h : w.data.toList.all digN && (Nat.ble w.size 13 || Nat.ble w.size 0) with
  | false => rfl
  | true =>
    rw [Bool.and_eq_true] at h
    unfold bytesI
    have := numI_N w.data.toList 0 h.1
    rw [cond_true, cond_true, ← this]; rfl
theorem bA_list (l : List UInt8) : (bA l).data.toList = l := by unfold bA; simp
theorem bA_size (l : List UInt8) : (bA l).size = l.length := by show l.toArray.size = _; simp
theorem fst_N (w : ByteArray) {c : UInt8} (h : w.data.toList[0]? = some c) : fstI w = Int.ofNat c.toNat := by
  unfold fstI bytesI; rw [List.getElem?_map, h]; rfl
theorem okN_itoa {n : Int} (h0 : 0 ≤ n) (h1 : n < 10000000000000) : okN (bA (itoa n)) = some n := by
  have hl := itoa_len h0 h1
  obtain ⟨k, rfl⟩ := Int.eq_ofNat_of_zero_le h0
  have hi : itoa (k : Int) = decDigits k := itoa_nonneg k
  rw [hi] at hl ⊢
  have hne := List.length_pos_iff.2 (dec_ne k)
  unfold okN
  rw [bA_size]
  rw [show decide (Int.ofNat (decDigits k).length < 1) = false by simp only [decide_eq_false_iff_not, Int.ofNat_eq_natCast]; omega, cond_false]
  rw [show decide (Int.ofNat (decDigits k).length > 13) = false by simp only [decide_eq_false_iff_not, Int.ofNat_eq_natCast]; omega, cond_false]
  have hf : (decide (Int.ofNat (decDigits k).length > 1) && fstI (bA (decDigits k)) == 48) = false := by
    cases hd : decide (Int.ofNat (decDigits k).length > 1) with
    | false => rfl
    | true =>
      rw [Bool.true_and]
      simp only [gt_iff_lt, decide_eq_true_eq, Int.ofNat_eq_natCast] at hd
      have hk : 1 ≤ k := by
        rcases Nat.eq_zero_or_pos k with rfl | h
        · rw [decDigits_one (by omega)] at hd; simp at hd
        · exact h
      obtain ⟨c, hc⟩ : ∃ c, (decDigits k)[0]? = some c := ⟨_, List.getElem?_eq_getElem hne⟩
      rw [fst_N (bA (decDigits k)) (c := c) (by rw [bA_list]; exact hc)]
      have := dec_head k hk c hc
      simp only [beq_eq_false_iff_ne, ne_eq, Int.ofNat_eq_natCast]; omega
  rw [hf, cond_false, intV_N, bA_list, dec_all, bA_size, Nat.ble_eq_true_of_le hl, dec_num]
  rfl
theorem itoa_okN {w : ByteArray} {a : Int} (h : okN w = some a) : w = bA (itoa a) ∧ 0 ≤ a ∧ a < 10000000000000 := by
  unfold okN at h
  cases h1 : decide (Int.ofNat w.size < 1) with
  | true => rw [h1] at h; simp at h
  | false =>
    rw [h1, cond_false] at h
    cases h2 : decide (Int.ofNat w.size > 13) with
    | true => rw [h2] at h; simp at h
    | false =>
      rw [h2, cond_false] at h
      cases h3 : decide (Int.ofNat w.size > 1) && fstI w == 48 with
      | true => rw [h3] at h; simp at h
      | false =>
        rw [h3, cond_false, intV_N] at h
        simp only [decide_eq_false_iff_not, Int.ofNat_eq_natCast] at h1 h2
        cases h4 : w.data.toList.all digN && (Nat.ble w.size 13 || Nat.ble w.size 0) with
        | false => rw [h4] at h; simp at h
        | true =>
          rw [h4, cond_true, Option.some.injEq] at h
          rw [Bool.and_eq_true] at h4
          have hsz : w.size = w.data.toList.length := rfl
          have hne : w.data.toList ≠ [] := fun e => by rw [e, List.length_nil] at hsz; omega
          have hd := dec_of _ w.data.toList rfl hne h4.1 (fun hlt c hc => by
            rw [fst_N w hc] at h3
            have hlt : 1 < w.size := hlt
            rw [show decide (Int.ofNat w.size > 1) = true by simp only [decide_eq_true_eq, Int.ofNat_eq_natCast]; omega, Bool.true_and] at h3
            simp only [beq_eq_false_iff_ne, ne_eq, Int.ofNat_eq_natCast] at h3
            omega)
          subst h
          refine ⟨?_, by simp only [Int.ofNat_eq_natCast]; omega, ?_⟩
          · show w = bA (itoa ((numN w.data.toList 0 : Nat) : Int))
            rw [itoa_nonneg, ← hd]; rfl
          · have hlen := decDigits_length (numN w.data.toList 0)
            rw [← hd] at hlen
            have hp := lt_pow_nDigits (numN w.data.toList 0)
            have : 10 ^ nDigits (numN w.data.toList 0) ≤ 10 ^ 13 := Nat.pow_le_pow_right (by omega) (by omega)
            simp only [Int.ofNat_eq_natCast]
            have e13 : (10 : Nat) ^ 13 = 10000000000000 := by decide
            omega
/-! ### A line and its step -/
theorem itoa_dig {n : Int} (h0 : 0 ≤ n) (c : UInt8) (h : c ∈ itoa n) : 48 ≤ c.toNat ∧ c.toNat ≤ 57 := by
  obtain ⟨k, rfl⟩ := Int.eq_ofNat_of_zero_le h0
  rw [itoa_nonneg] at h
  exact digN_at (List.all_eq_true.1 (dec_all k) c h)
theorem splitL_cut {c : UInt8} : ∀ (a r : List UInt8), (∀ x ∈ a, x ≠ c) → splitL c (a ++ c :: r) = a :: splitL c r
  | [], r, _ => splitL_hit r (by simp)
  | x :: a, r, h => splitL_miss (by simpa using h x (by simp)) (splitL_cut a r fun y hy => h y (by simp [hy]))
theorem splitL_end {c : UInt8} : ∀ (a : List UInt8), (∀ x ∈ a, x ≠ c) → splitL c a = [a]
  | [], _ => rfl
  | x :: a, h => splitL_miss (by simpa using h x (by simp)) (splitL_end a fun y hy => h y (by simp [hy]))
def bodyL (v : St3) : List UInt8 := [115, 116, 101, 112] ++ 32 :: (itoa v.1 ++ 32 :: (itoa v.2.1 ++ 32 :: itoa v.2.2))
theorem line_body (v : St3) : lineL v = bodyL v ++ [10] := by unfold lineL bodyL; simp
theorem lineP_body {v : St3} (h : okSt v = true) : lineP (bA (bodyL v)) = some v := by
  obtain ⟨⟨a1, a2⟩, ⟨b1, b2⟩, c1, c2⟩ := okSt_at h
  have ne32 : ∀ {n : Int}, 0 ≤ n → ∀ x ∈ itoa n, x ≠ (32 : UInt8) := fun h0 x hx e => by
    have := itoa_dig h0 x hx; subst e; simp at this
  unfold lineP partsB
  rw [bA_list]
  unfold bodyL
  rw [splitL_cut [115, 116, 101, 112] _ (by decide), splitL_cut _ _ (ne32 a1), splitL_cut _ _ (ne32 b1), splitL_end _ (ne32 c1)]
  show lnP [bA [115, 116, 101, 112], bA (itoa v.1), bA (itoa v.2.1), bA (itoa v.2.2)] = some v
  have hs : isStep (bA [115, 116, 101, 112]) = true := by unfold isStep; exact beq_self_eq_true _
  simp only [lnP, hs, cond_true, okN_itoa a1 a2, okN_itoa b1 b2, okN_itoa c1 c2]
/-- A string is its parts, with the byte between them. -/
def glueL (c : UInt8) : List (List UInt8) → List UInt8
  | [] => []
  | [a] => a
  | a :: r => a ++ c :: glueL c r
theorem glueL_cons (c : UInt8) (a : List UInt8) {r : List (List UInt8)} (h : r ≠ []) : glueL c (a :: r) = a ++ c :: glueL c r := by
  cases r with
  | nil => exact absurd rfl h
  | cons b r => rfl
theorem glue_split (c : UInt8) : ∀ l : List UInt8, glueL c (splitL c l) = l
  | [] => rfl
  | x :: l => by
    have ih := glue_split c l
    cases hx : x == c with
    | true =>
      rw [splitL_hit l hx, glueL_cons c [] (splitL_ne c l), ih]
      rw [eq_of_beq hx]; rfl
    | false =>
      cases hq : splitL c l with
      | nil => exact absurd hq (splitL_ne c l)
      | cons a t =>
        rw [splitL_miss hx hq]
        rw [hq] at ih
        cases t with
        | nil => show x :: a = _; rw [show a = l from ih]
        | cons b t =>
          rw [glueL_cons c _ (by simp)]
          rw [glueL_cons c _ (by simp)] at ih
          rw [List.cons_append, ih]
theorem bA_inj {w : ByteArray} {l : List UInt8} (h : w.data.toList = l) : w = bA l := by subst h; rfl
theorem body_lineP {w : ByteArray} {v : St3} (h : lineP w = some v) : w = bA (bodyL v) ∧ okSt v = true := by
  have hg := glue_split 32 w.data.toList
  unfold lineP partsB at h
  generalize splitL 32 w.data.toList = ps at h hg
  match ps, h, hg with
  | [], h, _ => simp [lnP] at h
  | [_], h, _ => simp [lnP] at h
  | [_, _], h, _ => simp [lnP] at h
  | [_, _, _], h, _ => simp [lnP] at h
  | _ :: _ :: _ :: _ :: _ :: _, h, _ => simp [lnP] at h
  | [p0, p1, p2, p3], h, hg =>
    rw [show [p0, p1, p2, p3].map bA = [bA p0, bA p1, bA p2, bA p3] from rfl, lnP] at h
    cases hs : isStep (bA p0) with
    | false => rw [hs] at h; simp at h
    | true =>
      rw [hs, cond_true] at h
      have h0 : p0 = [115, 116, 101, 112] := by
        unfold isStep at hs
        rw [ByteArray.toList_eq, ByteArray.toList_eq, beq_iff_eq, bA_list] at hs
        exact hs
      cases ha : okN (bA p1) with
      | none => rw [ha] at h; simp at h
      | some a =>
        cases hb : okN (bA p2) with
        | none => rw [ha, hb] at h; simp at h
        | some b =>
          cases hc : okN (bA p3) with
          | none => rw [ha, hb, hc] at h; simp at h
          | some c =>
            rw [ha, hb, hc] at h
            simp only [Option.some.injEq] at h
            subst h
            obtain ⟨e1, a1, a2⟩ := itoa_okN ha
            obtain ⟨e2, b1, b2⟩ := itoa_okN hb
            obtain ⟨e3, c1, c2⟩ := itoa_okN hc
            have g1 : p1 = itoa a := by have := congrArg (fun s => s.data.toList) e1; simpa only [bA_list] using this
            have g2 : p2 = itoa b := by have := congrArg (fun s => s.data.toList) e2; simpa only [bA_list] using this
            have g3 : p3 = itoa c := by have := congrArg (fun s => s.data.toList) e3; simpa only [bA_list] using this
            refine ⟨bA_inj ?_, ?_⟩
            · rw [← hg, h0, g1, g2, g3]; rfl
            · unfold okSt
              simp only [Bool.and_eq_true, decide_eq_true_eq]
              exact ⟨⟨a1, a2⟩, ⟨b1, b2⟩, c1, c2⟩
/-! ### A table's string -/
theorem body_ten {v : St3} (h : okSt v = true) : ∀ x ∈ bodyL v, x ≠ (10 : UInt8) := by
  obtain ⟨⟨a1, _⟩, ⟨b1, _⟩, c1, _⟩ := okSt_at h
  intro x hx e
  subst e
  unfold bodyL at hx
  simp only [List.mem_append, List.mem_cons] at hx
  rcases hx with hx | hx | hx | hx | hx | hx
  · revert hx; decide
  · revert hx; decide
  · have := itoa_dig a1 _ hx; simp at this
  · revert hx; decide
  · have := itoa_dig b1 _ hx; simp at this
  · rcases hx with hx | hx
    · revert hx; decide
    · have := itoa_dig c1 _ hx; simp at this
theorem allL_cons (v : St3) (l : List St3) (r : List UInt8) : allL (v :: l) ++ r = bodyL v ++ 10 :: (allL l ++ r) := by
  unfold allL; rw [List.flatMap_cons, line_body]; simp
theorem parts_all : ∀ (l : List St3) (r : List UInt8), (∀ v ∈ l, okSt v = true) → splitL 10 (allL l ++ r) = l.map bodyL ++ splitL 10 r
  | [], r, _ => rfl
  | v :: l, r, h => by
    rw [allL_cons, splitL_cut _ _ (body_ten (h v (by simp))), parts_all l r fun v hv => h v (by simp [hv])]; rfl
theorem rows_all : ∀ (l : List St3) (i : Nat) (acc : List St3), (∀ v ∈ l, okSt v = true) → goL stp87 .inr i (l.map fun v => bA (bodyL v)) acc = .inr (acc ++ l)
  | [], _, acc, _ => by rw [List.map_nil, goL, List.append_nil]
  | v :: l, i, acc, h => by
    rw [List.map_cons, goL, stp87, lineP_body (h v (by simp))]
    simp only
    rw [rows_all l (i + 1) _ fun v hv => h v (by simp [hv])]; simp
theorem partsB_all {l : List St3} (h : ∀ v ∈ l, okSt v = true) : partsB 10 (bA (allL l)) = (l.map fun v => bA (bodyL v)) ++ [bA []] := by
  have := parts_all l [] h
  rw [List.append_nil] at this
  unfold partsB
  rw [bA_list, this, List.map_append, List.map_map]; rfl
theorem rows87_all {l : List St3} (h : ∀ v ∈ l, okSt v = true) : rows87 (bA (allL l)) = .inr l ∧ lastB (bA (allL l)) = bA [] := by
  unfold rows87 lastB
  rw [partsB_all h, List.dropLast_concat, rows_all l 0 [] h]
  exact ⟨rfl, by simp⟩
theorem rows87_cut {l : List St3} {v : St3} (h : ∀ v ∈ l, okSt v = true) (hv : okSt v = true) : rows87 (bA (allL l ++ bodyL v)) = .inr l ∧ lastB (bA (allL l ++ bodyL v)) = bA (bodyL v) := by
  have hp : partsB 10 (bA (allL l ++ bodyL v)) = (l.map fun v => bA (bodyL v)) ++ [bA (bodyL v)] := by
    unfold partsB
    rw [bA_list, parts_all l _ h, splitL_end _ (body_ten hv), List.map_append, List.map_map]; rfl
  unfold rows87 lastB
  rw [hp, List.dropLast_concat, rows_all l 0 [] h]
  exact ⟨rfl, by simp⟩
/-- What was read is the string of what was told. -/
theorem rows_back : ∀ (ws : List ByteArray) (i : Nat) (acc rs : List St3), goL stp87 .inr i ws acc = .inr rs → ∃ l, rs = acc ++ l ∧ ws = l.map (fun v => bA (bodyL v)) ∧ ∀ v ∈ l, okSt v = true
  | [], _, acc, rs, h => by
    rw [goL, Sum.inr.injEq] at h
    exact ⟨[], by rw [h]; simp, rfl, by simp⟩
  | w :: ws, i, acc, rs, h => by
    rw [goL, stp87] at h
    cases hv : lineP w with
    | none => rw [hv] at h; simp at h
    | some v =>
      rw [hv] at h
      obtain ⟨l, h1, h2, h3⟩ := rows_back ws (i + 1) (acc ++ [v]) rs h
      obtain ⟨e, hok⟩ := body_lineP hv
      refine ⟨v :: l, by rw [h1]; simp, by rw [List.map_cons, ← h2, ← e], ?_⟩
      intro x hx
      rcases List.mem_cons.1 hx with rfl | hx
      · exact hok
      · exact h3 x hx
theorem glue_all : ∀ (l : List St3) (r : List UInt8), glueL 10 (l.map bodyL ++ [r]) = allL l ++ r
  | [], r => rfl
  | v :: l, r => by
    rw [List.map_cons, List.cons_append, glueL_cons 10 _ (by simp), glue_all l r, allL_cons]
theorem string_back {s : ByteArray} {rs : List St3} (h : rows87 s = .inr rs) (hn : notNil (lastB s) = false) : s = bA (allL rs) ∧ ∀ v ∈ rs, okSt v = true := by
  unfold rows87 at h
  obtain ⟨l, h1, h2, h3⟩ := rows_back _ _ _ _ h
  rw [List.nil_append] at h1
  subst h1
  have hne : partsB 10 s ≠ [] := by unfold partsB; intro e; rw [List.map_eq_nil_iff] at e; exact splitL_ne _ _ e
  have hl : lastB s = bA [] := by
    unfold notNil at hn
    rw [toList_nil] at hn
    have h0 : (lastB s).data.toList = [] := by
      have : (lastB s).size = (lastB s).data.toList.length := rfl
      simp only [Bool.not_eq_eq_eq_not, Bool.not_false, beq_iff_eq, Int.ofNat_eq_natCast] at hn
      exact List.eq_nil_of_length_eq_zero (by omega)
    exact bA_inj h0
  have hp : partsB 10 s = (rs.map fun v => bA (bodyL v)) ++ [bA []] := by
    have hd := List.dropLast_concat_getLast hne
    have hg : (partsB 10 s).getLast hne = lastB s := by unfold lastB; rw [List.getLastD_eq_getLast?, List.getLast?_eq_some_getLast hne]; rfl
    rw [← hd, hg, hl, h2]
  have hs : splitL 10 s.data.toList = rs.map bodyL ++ [[]] := by
    have := congrArg (fun l => l.map fun s : ByteArray => s.data.toList) hp
    unfold partsB at this
    simp only [List.map_map, List.map_append, List.map_cons, List.map_nil] at this
    have e1 : ((fun s : ByteArray => s.data.toList) ∘ bA) = id := by funext l; exact bA_list l
    have e2 : ((fun s : ByteArray => s.data.toList) ∘ fun v : St3 => bA (bodyL v)) = bodyL := by funext l; exact bA_list _
    rw [e1, e2, List.map_id] at this
    exact this
  refine ⟨bA_inj ?_, h3⟩
  have := glue_split 10 s.data.toList
  rw [hs, glue_all, List.append_nil] at this
  exact this.symm
/-! ### Counts around a middle -/
theorem cnt_below {α : Type} (p : α → Bool) (L : List α) (k : Nat) (h : ∀ x ∈ L.drop k, p x = false) : L.countP p ≤ k := by
  conv => lhs; rw [← List.take_append_drop k L]
  rw [List.countP_append, (List.countP_eq_zero (l := L.drop k)).2 (fun x hx => by rw [h x hx]; simp), Nat.add_zero]
  exact Nat.le_trans List.countP_le_length (List.length_take_le _ _)
theorem cnt_above {α : Type} (p : α → Bool) (L : List α) (k : Nat) (h : ∀ x ∈ L.take k, p x = false) : L.countP p ≤ L.length - k := by
  conv => lhs; rw [← List.take_append_drop k L]
  rw [List.countP_append, List.countP_eq_zero.2 (fun x hx => by rw [h x hx]; simp), Nat.zero_add]
  exact Nat.le_trans List.countP_le_length (by rw [List.length_drop]; exact Nat.le_refl _)
/-- The state of three counts. -/
def cntS {α : Type} (f g h : α → Bool) (s : Nat × Nat × Bool) (x : α) : Nat × Nat × Bool := (bif f x then s.1 + 1 else s.1, bif g x then s.2.1 + 1 else s.2.1, s.2.2 || h x)
theorem cntS_all {α : Type} (f g h : α → Bool) : ∀ (l : List α) (s : Nat × Nat × Bool), l.foldl (cntS f g h) s = (s.1 + l.countP f, s.2.1 + l.countP g, s.2.2 || l.any h)
  | [], s => by simp
  | x :: l, s => by
    rw [List.foldl_cons, cntS_all f g h l, List.countP_cons, List.countP_cons, List.any_cons]
    unfold cntS
    cases f x <;> cases g x <;> simp [Bool.or_assoc] <;> omega
/-! ### Places in an ordered list -/
theorem pw_before {α : Type} {R : α → α → Prop} {L : List α} (h : L.Pairwise R) {k : Nat} {m : α} (hk : L[k]? = some m) : ∀ x ∈ L.take k, R x m := by
  obtain ⟨hlt, he⟩ := List.getElem?_eq_some_iff.1 hk
  have hd : L.drop k = m :: L.drop (k + 1) := by rw [List.drop_eq_getElem_cons hlt, he]
  rw [← List.take_append_drop k L, hd] at h
  intro x hx
  exact (List.pairwise_append.1 h).2.2 x hx m (by simp)
theorem pw_after {α : Type} {R : α → α → Prop} {L : List α} (h : L.Pairwise R) {k : Nat} {m : α} (hk : L[k]? = some m) : ∀ x ∈ L.drop (k + 1), R m x := by
  obtain ⟨hlt, he⟩ := List.getElem?_eq_some_iff.1 hk
  have hd : L.drop k = m :: L.drop (k + 1) := by rw [List.drop_eq_getElem_cons hlt, he]
  have hp := h.sublist (List.drop_sublist k L)
  rw [hd] at hp
  exact (List.pairwise_cons.1 hp).1
theorem med_has {l : List P2} (h : csErr l = 0) : (l.any fun x => x == atR l (midI l)) = true := by
  obtain ⟨⟨h1, h2⟩, hv⟩ := csZ.1 h
  have hs := (midI_at h).2.2
  exact List.any_eq_true.2 ⟨_, (sortR_perm hv).mem_iff.1 (List.mem_of_getElem? hs), by simp⟩
theorem med_below {l : List P2} (h : csErr l = 0) : l.countP (fun x => decide (cmpW x (atR l (midI l)) < 0)) ≤ (l.length - 1) / 2 := by
  obtain ⟨⟨h1, h2⟩, hv⟩ := csZ.1 h
  have hs := (midI_at h).2.2
  rw [← (sortR_perm hv).countP_eq]
  refine cnt_below _ _ _ fun x hx => ?_
  obtain ⟨hlt, he⟩ := List.getElem?_eq_some_iff.1 hs
  rw [List.drop_eq_getElem_cons hlt, he] at hx
  have hxl : ratErr x = 0 := by
    refine hv x ((sortR_perm hv).mem_iff.1 ?_)
    rcases List.mem_cons.1 hx with rfl | hx
    · exact List.mem_of_getElem? hs
    · exact List.mem_of_mem_drop hx
  have hle : leR (atR l (midI l)) x := by
    rcases List.mem_cons.1 hx with rfl | hx
    · exact leR_rfl _
    · exact pw_after (sortR_le hv) hs x hx
  rw [decide_eq_false_iff_not, cmpRK hxl (vaR_at hv _), cmpM_lt]
  exact not_ltR.2 hle
theorem med_above {l : List P2} (h : csErr l = 0) : l.countP (fun x => decide (cmpW x (atR l (midI l)) > 0)) ≤ l.length / 2 := by
  obtain ⟨⟨h1, h2⟩, hv⟩ := csZ.1 h
  have hs := (midI_at h).2.2
  have hlen : (sortR l).length = l.length := (sortR_perm hv).length_eq
  rw [← (sortR_perm hv).countP_eq]
  refine Nat.le_trans (cnt_above _ _ ((l.length - 1) / 2 + 1) fun x hx => ?_) (by rw [hlen]; omega)
  obtain ⟨hlt, he⟩ := List.getElem?_eq_some_iff.1 hs
  rw [List.take_add_one, hs] at hx
  simp only [Option.toList_some, List.mem_append, List.mem_singleton] at hx
  have hxl : ratErr x = 0 := by
    refine hv x ((sortR_perm hv).mem_iff.1 ?_)
    rcases hx with hx | rfl
    · exact List.mem_of_mem_take hx
    · exact List.mem_of_getElem? hs
  have hle : leR x (atR l (midI l)) := by
    rcases hx with hx | rfl
    · exact pw_before (sortR_le hv) hs x hx
    · exact leR_rfl _
  rw [decide_eq_false_iff_not, cmpRK hxl (vaR_at hv _), cmpM_gt]
  exact not_ltR.2 hle
/-! ### The rank -/
theorem rank_in {l : List P2} (h : csErr l = 0) : (rankR (ltI l) l.length l.length).length = l.length ∧ ∀ k i, (rankR (ltI l) l.length l.length)[k]? = some i → i < l.length ∧ i ∉ (rankR (ltI l) l.length l.length).take k ∧
    ∀ j p, k = j + 1 → (rankR (ltI l) l.length l.length)[j]? = some p → decide (cmpW (atR l p) (atR l i) > 0) = false ∧ (cmpW (atR l p) (atR l i) = 0 → p < i) := by
  obtain ⟨⟨h1, h2⟩, hv⟩ := csZ.1 h
  obtain ⟨_, _, _, _, h4, h5, h6⟩ := rankR_spec (swoR hv) l.length l.length (Nat.le_refl _)
  have hnd : (rankR (ltI l) l.length l.length).Nodup := by
    rw [← rank_eq (swoR hv)]
    exact (rankP_perm (ltI l) l.length).nodup_iff.2 List.nodup_range
  refine ⟨h6, fun k i hk => ⟨(h5 i (List.mem_of_getElem? hk)).1, fun hi => ?_, fun j p hj hp => ?_⟩⟩
  · exact pw_before hnd hk i hi rfl
  · subst hj
    have hpt : p ∈ (rankR (ltI l) l.length l.length).take (j + 1) := List.mem_of_getElem? (i := j) (by rw [List.getElem?_take_of_lt (by omega)]; exact hp)
    rw [decide_eq_false_iff_not, cmpRK (vaR_at hv _) (vaR_at hv _), cmpM_gt]
    rcases pw_before h4 hk p hpt with ha | ⟨ha, hlt⟩
    · have hl := (ltI_iff hv p i).1 ha
      refine ⟨not_ltR.2 hl.le, fun h0 => ?_⟩
      rw [cmpM_zero] at h0
      unfold ltR at hl
      omega
    · refine ⟨fun x => ?_, fun _ => hlt⟩
      rw [(ltI_iff hv i p).2 x] at ha
      cases ha
/-! ### The risk of a step's size -/
theorem tblBad {l : List St3} (h : tblM l = 0) (i : Nat) (x : St3) (hx : l[i]? = some x) : stErr x = 0 ∧ ∀ p, 1 ≤ i → l[i - 1]? = some p → badS p x = false := by
  unfold tblM at h
  cases hm : manyI (Int.ofNat l.length) 16 != 0 with
  | true => rw [hm, cond_true] at h; rw [h] at hm; cases hm
  | false =>
    rw [hm, cond_false] at h
    have hn : srch (tblF l) 0 l = none := by
      cases hs : srch (tblF l) 0 l with
      | none => rfl
      | some t =>
        exfalso
        rw [hs] at h
        have h : t = 0 := h
        subst h
        -- no answer of the search is 0
        have key : ∀ (r : List St3) (j : Nat), srch (tblF l) j r ≠ some 0 := by
          intro r
          induction r with
          | nil => intro j; simp [srch]
          | cons y r ih =>
            intro j
            unfold srch
            cases hf : tblF l j y with
            | none => exact ih (j + 1)
            | some t =>
              intro ht
              simp only [Option.some.injEq] at ht
              subst ht
              unfold tblF at hf
              cases he : stErr y != 0 with
              | true =>
                rw [he, cond_true] at hf
                simp only [Option.some.injEq] at hf
                rw [hf] at he; cases he
              | false =>
                rw [he, cond_false] at hf
                cases j with
                | zero => cases hf
                | succ j =>
                  dsimp only at hf
                  cases hp : l[j]? with
                  | none => rw [hp] at hf; cases hf
                  | some p =>
                    rw [hp] at hf
                    dsimp only at hf
                    cases hb : badS p y with
                    | true => rw [hb, cond_true] at hf; simp at hf
                    | false => rw [hb] at hf; cases hf
        exact key l 0 hs
    have := srchNo hn i x hx
    rw [Nat.zero_add] at this
    unfold tblF at this
    cases he : stErr x != 0 with
    | true => rw [he, cond_true] at this; cases this
    | false =>
      rw [he, cond_false] at this
      refine ⟨by simpa using he, fun p hi hp => ?_⟩
      cases i with
      | zero => omega
      | succ j =>
        rw [Nat.add_sub_cancel] at hp
        dsimp only at this
        rw [hp] at this
        dsimp only at this
        cases hb : badS p x with
        | true => rw [hb, cond_true] at this; cases this
        | false => rfl
theorem stOk {s : St3} (h : stErr s = 0) : ratErr (rat3 s) = 0 ∧ 0 ≤ s.2.2 := by
  unfold stErr at h
  rw [firstZ, firstZ, within_zero] at h
  exact ⟨h.1, h.2.1.1⟩
theorem tbl_lt {l : List St3} (h : tblM l = 0) (i : Nat) (y : St3) (hy : l[i]? = some y) : ∀ (n j : Nat) (z : St3), j = i + 1 + n → l[j]? = some z → ltR (rat3 y) (rat3 z)
  | 0, j, z, hj, hz => by
    obtain ⟨e1, b1⟩ := tblBad h j z hz
    have hb := b1 y (by omega) (by rw [show j - 1 = i by omega]; exact hy)
    unfold badS at hb
    rw [Bool.or_eq_false_iff] at hb
    have hb := of_decide_eq_false hb.1
    rw [cmpRK (stOk (tblBad h i y hy).1).1 (stOk e1).1] at hb
    exact cmpM_lt.1 (by omega)
  | n + 1, j, z, hj, hz => by
    obtain ⟨e1, b1⟩ := tblBad h j z hz
    obtain ⟨w, hw⟩ : ∃ w, l[j - 1]? = some w := ⟨_, List.getElem?_eq_getElem (by have := (List.getElem?_eq_some_iff.1 hz).1; omega)⟩
    have ih := tbl_lt h i y hy n (j - 1) w (by omega) hw
    have hb := b1 w (by omega) hw
    unfold badS at hb
    rw [Bool.or_eq_false_iff] at hb
    have hb := of_decide_eq_false hb.1
    have k1 := (stOk (tblBad h i y hy).1).1
    have k2 := (stOk (tblBad h (j - 1) w hw).1).1
    have k3 := (stOk e1).1
    rw [cmpRK k2 k3] at hb
    have hl : ltR (rat3 w) (rat3 z) := cmpM_lt.1 (by omega)
    exact ltR_of_lt_le (ratAll k1).1.2 (ratAll k2).1.2 (ratAll k3).1.2 ih hl.le
theorem foldl_same {α β : Type} (f : β → α → β) : ∀ (l : List α) (s : β), (∀ x ∈ l, ∀ s, f s x = s) → l.foldl f s = s
  | [], _, _ => rfl
  | x :: l, s, h => by rw [List.foldl_cons, h x (by simp), foldl_same f l s fun y hy => h y (by simp [hy])]
theorem rsk_own {l : List St3} (h : tblM l = 0) {i : Nat} {y : St3} (hy : l[i]? = some y) : rskM l (rat3 y) = y.2.2 := by
  obtain ⟨hlt, he⟩ := List.getElem?_eq_some_iff.1 hy
  have k1 := (stOk (tblBad h i y hy).1).1
  unfold rskM
  conv => lhs; rw [← List.take_append_drop i l, List.drop_eq_getElem_cons hlt, he]
  rw [List.foldl_append, List.foldl_cons]
  have e1 : ∀ s, rskS (rat3 y) s y = y.2.2 := fun s => by
    unfold rskS
    rw [cmpRK k1 k1]
    have : cmpM (rat3 y) (rat3 y) = 0 := cmpM_zero.2 rfl
    rw [this]; rfl
  rw [e1]
  refine foldl_same _ _ _ fun z hz s => ?_
  obtain ⟨n, hn⟩ := List.mem_iff_getElem?.1 hz
  rw [List.getElem?_drop] at hn
  have k3 := (stOk (tblBad h _ z hn).1).1
  have hl := tbl_lt h i y hy n _ z rfl hn
  unfold rskS
  rw [cmpRK k3 k1]
  have : cmpM (rat3 z) (rat3 y) > 0 := cmpM_gt.2 hl
  rw [decide_eq_false (by omega)]; rfl
end Go.Vm.S6
