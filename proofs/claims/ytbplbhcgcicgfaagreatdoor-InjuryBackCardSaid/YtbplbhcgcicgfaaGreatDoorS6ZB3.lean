/- Strings: the program's Parse. -/
import Derived.Test.YtbplbhcgcicgfaaGreatDoorS6ZB2
namespace Go.Vm.S6
open Go.Proofs Go.RowKit Go.Lib
def ex85 : Nat ⊕ List St3 → Ex
  | .inl _ => .ret
  | .inr _ => .exit 0
theorem spInt (w : ByteArray) : intG [strA w] = some (intT w) := sp1_at (A := strC) (F := fun s => some (intT s)) w
theorem spOk {w : ByteArray} {v : Int} (h : okN w = some v) : intG [strA w] = some (.tup [intA v, boolA true]) := by
  have := int_ok w
  rw [h] at this
  rw [spInt, this]
theorem spNo {w : ByteArray} (h : okN w = none) : ∃ v, intG [strA w] = some (.tup [intA v, boolA false]) := by
  have := int_ok w
  rw [h] at this
  obtain ⟨v, e⟩ := this
  exact ⟨v, by rw [spInt, e]⟩
theorem spAny (w : ByteArray) : ∃ v b, intG [strA w] = some (.tup [intA v, boolA b]) := by
  cases h : okN w with
  | none => obtain ⟨v, e⟩ := spNo h; exact ⟨v, false, e⟩
  | some v => exact ⟨v, true, spOk h⟩
theorem spIdx (t : ByteArray) : idxG [strA t, u8A 10] = some (intA (indexByte t.data.toList 10)) := by
  unfold idxG
  exact sp2_at (A := strC) (F := fun s (_ : Unit) => some (intA (indexByte s.data.toList 10))) t ()
theorem spWrd {w : ByteArray} (h : w.size ≤ 5000) : splG [strA w, strA ⟨#[32]⟩] = some (.rsl 1 ((partsB 32 w).map strC.enc) false) := by
  have hb : Nat.blt w.size 4294967281 = true := Nat.ble_eq_true_of_le (by omega)
  unfold splG
  refine (sp2_at (A := strC) (F := fun s (_ : Unit) => bif Nat.blt s.size 4294967281 then some (slA strC 1 (wordsB s)) else none) w ()).trans ?_
  rw [hb]; rfl
theorem line_no {m : Int} {t w : ByteArray} (rs : List St3) (hsz : decide (Int.ofNat t.size > 0) = true) (hix : idxG [strA t, u8A 10] = some (intA (-1))) (hcut : cutG [strA t, strA nlB] = some (.tup [strA w, boolA false]))
    (ws : List ByteArray) (hne : ws ≠ []) (hsp : splG [strA w, strA ⟨#[32]⟩] = some (.rsl 1 (ws.map strC.enc) false)) : Says (CSm m Z5) 6 25 false (loopOf (CSm m Z5) 172 0) (st85 m t rs) .ret (ot85 m (.inl rs.length)) := by
  match ws, hne, hsp with
  | [w0], _, hsp => exact s85N1 rs hsz hix hcut hsp
  | [w0, w1], _, hsp =>
    obtain ⟨a, p, n1⟩ := spAny w1
    exact s85N2 rs hsz hix hcut hsp n1
  | [w0, w1, w2], _, hsp =>
    obtain ⟨a, p, n1⟩ := spAny w1
    obtain ⟨b, q, n2⟩ := spAny w2
    exact s85N3 rs hsz hix hcut hsp n1 n2
  | w0 :: w1 :: w2 :: w3 :: l4, _, hsp =>
    obtain ⟨a, p, n1⟩ := spAny w1
    obtain ⟨b, q, n2⟩ := spAny w2
    obtain ⟨c, u, n3⟩ := spAny w3
    cases p with
    | false => exact s85NnF rs hsz hix hcut hsp n1 n2 n3
    | true =>
      cases q with
      | false => exact s85NnTF rs hsz hix hcut hsp n1 n2 n3
      | true =>
        cases u with
        | false => exact s85NnTTF rs hsz hix hcut hsp n1 n2 n3
        | true => exact s85NnTTT rs hsz hix hcut hsp n1 n2 n3
theorem line_ok {m : Int} {t l t2 w : ByteArray} {i j : Nat} (rs : List St3) (hsz : decide (Int.ofNat t.size > 0) = true) (hix : idxG [strA t, u8A 10] = some (intA (Int.ofNat i))) (had : ∀ d, abin (CSm m Z5) BinOp.add 3 (Operand.tmp d) (Operand.const (Value.int IntKind.i64 1)) (AV.v (.int .i64 (Int.ofNat i))) (AV.v (.int .i64 1)) = some (AV.v (.int .i64 (Int.ofNat j)))) (hl : aslice (CSm m Z5) Tr.leaf 9 (AV.v (.string t)) none (some (AV.v (.int .i64 (Int.ofNat j)))) none = some (AV.v (.string l))) (ht : aslice (CSm m Z5) Tr.leaf 9 (AV.v (.string t)) (some (AV.v (.int .i64 (Int.ofNat j)))) none none = some (AV.v (.string t2))) (hcut : cutG [strA l, strA nlB] = some (.tup [strA w, boolA true]))
    (ws : List ByteArray) (hne : ws ≠ []) (hsp : splG [strA w, strA ⟨#[32]⟩] = some (.rsl 1 (ws.map strC.enc) false)) (hlim : rs.length < 100000) :
    match lnP ws with
    | some v => Says (CSm m Z5) 6 25 false (loopOf (CSm m Z5) 172 0) (st85 m t rs) .nrm (st85 m t2 (rs ++ [v]))
    | none => Says (CSm m Z5) 6 25 false (loopOf (CSm m Z5) 172 0) (st85 m t rs) .ret (ot85 m (.inl rs.length)) := by
  match ws, hne, hsp with
  | [w0], _, hsp =>
    cases hq : isStep w0 with
    | false => exact s85W1 rs hsz hix had hl ht hcut hsp hq
    | true => exact s85B1 rs hsz hix had hl ht hcut hsp hq
  | [w0, w1], _, hsp =>
    obtain ⟨a, p, n1⟩ := spAny w1
    cases hq : isStep w0 with
    | false => exact s85W2 rs hsz hix had hl ht hcut hsp n1 hq
    | true => exact s85B2 rs hsz hix had hl ht hcut hsp n1 hq
  | [w0, w1, w2], _, hsp =>
    obtain ⟨a, p, n1⟩ := spAny w1
    obtain ⟨b, q, n2⟩ := spAny w2
    cases hq : isStep w0 with
    | false => exact s85W3 rs hsz hix had hl ht hcut hsp n1 n2 hq
    | true => exact s85B3 rs hsz hix had hl ht hcut hsp n1 n2 hq
  | w0 :: w1 :: w2 :: w3 :: l4, _, hsp =>
    have hW : isStep w0 = false → Says (CSm m Z5) 6 25 false (loopOf (CSm m Z5) 172 0) (st85 m t rs) .ret (ot85 m (.inl rs.length)) := fun hq => by
      obtain ⟨a, p, n1⟩ := spAny w1
      obtain ⟨b, q, n2⟩ := spAny w2
      obtain ⟨c, u, n3⟩ := spAny w3
      cases p with
      | false => exact s85WnF rs hsz hix had hl ht hcut hsp n1 n2 n3 hq
      | true =>
        cases q with
        | false => exact s85WnTF rs hsz hix had hl ht hcut hsp n1 n2 n3 hq
        | true =>
          cases u with
          | false => exact s85WnTTF rs hsz hix had hl ht hcut hsp n1 n2 n3 hq
          | true => exact s85WnTTT rs hsz hix had hl ht hcut hsp n1 n2 n3 hq
    have hB : isStep w0 = true → (okN w1 = none ∨ okN w2 = none ∨ okN w3 = none) → Says (CSm m Z5) 6 25 false (loopOf (CSm m Z5) 172 0) (st85 m t rs) .ret (ot85 m (.inl rs.length)) := fun hq hn => by
      cases h1 : okN w1 with
      | none =>
        obtain ⟨a, n1⟩ := spNo h1
        obtain ⟨b, q, n2⟩ := spAny w2
        obtain ⟨c, u, n3⟩ := spAny w3
        exact s85BnF rs hsz hix had hl ht hcut hsp n1 n2 n3 hq
      | some a =>
        cases h2 : okN w2 with
        | none =>
          obtain ⟨b, n2⟩ := spNo h2
          obtain ⟨c, u, n3⟩ := spAny w3
          exact s85BnTF rs hsz hix had hl ht hcut hsp (spOk h1) n2 n3 hq
        | some b =>
          cases h3 : okN w3 with
          | none =>
            obtain ⟨c, n3⟩ := spNo h3
            exact s85BnTTF rs hsz hix had hl ht hcut hsp (spOk h1) (spOk h2) n3 hq
          | some c => rw [h1, h2, h3] at hn; simp at hn
    cases l4 with
    | nil =>
      cases hq : isStep w0 with
      | false =>
        simp only [lnP, hq, cond_false]
        exact hW hq
      | true =>
        simp only [lnP, hq, cond_true]
        cases h1 : okN w1 with
        | none => exact hB hq (.inl h1)
        | some a =>
          cases h2 : okN w2 with
          | none => exact hB hq (.inr (.inl h2))
          | some b =>
            cases h3 : okN w3 with
            | none => exact hB hq (.inr (.inr h3))
            | some c => exact s85G rs hsz hix had hl ht hcut hsp (spOk h1) (spOk h2) (spOk h3) hq hlim
    | cons x l5 =>
      show Says (CSm m Z5) 6 25 false (loopOf (CSm m Z5) 172 0) (st85 m t rs) .ret (ot85 m (.inl rs.length))
      cases hq : isStep w0 with
      | false => exact hW hq
      | true =>
        cases h1 : okN w1 with
        | none => exact hB hq (.inl h1)
        | some a =>
          cases h2 : okN w2 with
          | none => exact hB hq (.inr (.inl h2))
          | some b =>
            cases h3 : okN w3 with
            | none => exact hB hq (.inr (.inr h3))
            | some c => exact s85M rs hsz hix had hl ht hcut hsp (spOk h1) (spOk h2) (spOk h3) hq
set_option maxRecDepth 100000 in
theorem str_headM (m : Int) {s : ByteArray} {j : Nat} (h2 : j ≤ s.size) : aslice (CSm m Z5) Tr.leaf 9 (AV.v (.string s)) none (some (AV.v (.int .i64 (Int.ofNat j)))) none = some (AV.v (.string (s.extract 0 j))) := str_head Z5 h2
set_option maxRecDepth 100000 in
theorem str_tailM (m : Int) {s : ByteArray} {i : Nat} (h1 : i ≤ s.size) : aslice (CSm m Z5) Tr.leaf 9 (AV.v (.string s)) (some (AV.v (.int .i64 (Int.ofNat i)))) none none = some (AV.v (.string (s.extract i s.size))) := str_tail Z5 h1
def Inv85 (x : ByteArray × List St3) : Prop := x.1.size ≤ 4096 ∧ x.2.length + x.1.size ≤ 4096
theorem rnd_ok (m : Int) (x : ByteArray × List St3) (hI : Inv85 x) : match rnd85 x with
    | .inl y => Says (CSm m Z5) 6 25 false (loopOf (CSm m Z5) 172 0) (st85 m x.1 x.2) .nrm (st85 m y.1 y.2) ∧ Inv85 y
    | .inr r => Says (CSm m Z5) 6 25 false (loopOf (CSm m Z5) 172 0) (st85 m x.1 x.2) (ex85 r) (ot85 m r) ∧ ex85 r ≠ .nrm := by
  obtain ⟨t, rs⟩ := x
  obtain ⟨h1, h2⟩ := hI
  simp only at h1 h2
  unfold rnd85
  cases h0 : Int.ofNat t.size == 0 with
  | true =>
    have hd : decide (Int.ofNat t.size > 0) = false := by
      simp only [beq_iff_eq] at h0
      rw [h0]; rfl
    simp only [cond_true]
    refine ⟨?_, by simp [ex85]⟩
    cases rs with
    | nil => exact Says.weakG ((Z5_ok m).rndX (r85xa m t) ⟨hd, trivial, rfl⟩) (by decide) .nil (.cons .rfl (.cons .rfl (.cons .rfl (.cons .rfl (.cons .rfl (.cons (.box (.cons (weakBad _) .nil)) .nil))))))
    | cons y r => exact Says.weakG ((Z5_ok m).rndX (r85xb m t ((y :: r).map stepC.enc) ((y :: r).map stepC.enc).length) ⟨hd, ⟨stCl _, trivial⟩, rfl⟩) (by decide) .nil (.cons .rfl (.cons .rfl (.cons .rfl (.cons .rfl (.cons .rfl (.cons (.box (.cons (weakBad _) .nil)) (.cons .rfl .nil)))))))
  | false =>
    have hd : decide (Int.ofNat t.size > 0) = true := by
      simp only [beq_eq_false_iff_ne, ne_eq, Int.ofNat_eq_natCast] at h0
      simp only [gt_iff_lt, decide_eq_true_eq, Int.ofNat_eq_natCast]; omega
    have hix := spIdx t
    simp only [cond_false]
    by_cases hi : indexByte t.data.toList 10 = -1
    · have hg : decide (indexByte t.data.toList 10 ≥ 0) = false := by rw [hi]; decide
      rw [hi] at hix
      simp only [hg, cond_false]
      refine ⟨?_, by simp [ex85]⟩
      have hcut := spCut (s := t) (Nat.ble_eq_true_of_le (by omega))
      unfold cutT at hcut
      rw [suf_none hi, cond_false] at hcut
      exact line_no rs hd hix hcut (partsB 32 t) (fun e => by unfold partsB at e; rw [List.map_eq_nil_iff] at e; exact splitL_ne _ _ e) (spWrd (by omega))
    · have h4 := indexByte_ge t.data.toList 10
      obtain ⟨i, hi2⟩ : ∃ i : Nat, indexByte t.data.toList 10 = Int.ofNat i := ⟨(indexByte t.data.toList 10).toNat, by simp only [Int.ofNat_eq_natCast]; omega⟩
      have hg : decide (indexByte t.data.toList 10 ≥ 0) = true := by rw [hi2]; simp only [ge_iff_le, decide_eq_true_eq, Int.ofNat_eq_natCast]; omega
      have hlt : i < t.size := indexByte_lt hi2
      simp only [hg, cond_true]
      obtain ⟨k1, k2⟩ := suf_line hi2
      have hls : (t.extract 0 (i + 1)).size ≤ 4096 := by rw [ext_head]; show (t.data.toList.take (i + 1)).toArray.size ≤ _; rw [List.size_toArray, List.length_take]; omega
      have hws : (t.extract 0 i).size ≤ 4096 := by rw [ext_head]; show (t.data.toList.take i).toArray.size ≤ _; rw [List.size_toArray, List.length_take]; omega
      have hts : (t.extract (i + 1) t.size).size ≤ t.size - 1 := by
        rw [ext_tail]; show (t.data.toList.drop (i + 1)).toArray.size ≤ _
        rw [List.size_toArray, List.length_drop]
        have : t.data.toList.length = t.size := rfl
        omega
      have h63 : t.size < two63 := Nat.lt_of_le_of_lt h1 (by decide)
      have hcut := spCut (s := t.extract 0 (i + 1)) (Nat.ble_eq_true_of_le (by omega))
      unfold cutT at hcut
      rw [k1, cond_true, k2] at hcut
      rw [hi2] at hix ⊢
      rw [show (Int.ofNat i).toNat = i from rfl]
      have hl := line_ok (m := m) rs hd hix (j := i + 1) (fun _ => congrArg (fun x => some (AV.v (.int .i64 x))) (wrap_ix hlt h63)) (str_headM m (by omega)) (str_tailM m (by omega)) hcut (partsB 32 (t.extract 0 i)) (fun e => by unfold partsB at e; rw [List.map_eq_nil_iff] at e; exact splitL_ne _ _ e) (spWrd (by omega)) (by omega)
      show match (match lineP (t.extract 0 i) with
        | some v => (.inl (t.extract (i + 1) t.size, rs ++ [v]) : (ByteArray × List St3) ⊕ (Nat ⊕ List St3))
        | none => .inr (.inl rs.length)) with
        | .inl y => Says (CSm m Z5) 6 25 false (loopOf (CSm m Z5) 172 0) (st85 m t rs) .nrm (st85 m y.1 y.2) ∧ Inv85 y
        | .inr r => Says (CSm m Z5) 6 25 false (loopOf (CSm m Z5) 172 0) (st85 m t rs) (ex85 r) (ot85 m r) ∧ ex85 r ≠ .nrm
      unfold lineP
      cases hv : lnP (partsB 32 (t.extract 0 i)) with
      | none => rw [hv] at hl; exact ⟨hl, by simp [ex85]⟩
      | some v =>
        rw [hv] at hl
        refine ⟨hl, by show (t.extract (i + 1) t.size).size ≤ 4096; omega, ?_⟩
        show (rs ++ [v]).length + (t.extract (i + 1) t.size).size ≤ 4096
        rw [List.length_append, List.length_singleton]; omega
theorem loop85 (m : Int) (s : ByteArray) (hs : s.size ≤ 4096) (r : Nat ⊕ List St3) (hr : goW rnd85 (s.size + 1) (s, []) = some r) :
    LoopRun (CSm m Z5) 6 25 false (loopOf (CSm m Z5) 172 0) (st85 m s []) (ex85 r) (ot85 m r) :=
  LoopRun.rounds (C := CSm m Z5) (p := 6) (nt := 25) (rd := false) (c := loopOf (CSm m Z5) 172 0) (rnd := rnd85) (ex := ex85) (out := ot85 m) (enc := fun x => st85 m x.1 x.2) Inv85 (fun x hx => by
    have h := rnd_ok m x hx
    cases hq : rnd85 x with
    | inl y => rw [hq] at h; exact h
    | inr r => rw [hq] at h; exact h) (s.size + 1) (s, []) r ⟨hs, by simp; omega⟩ hr
end Go.Vm.S6
