/- Lists of words and of integers. -/
import Derived.Test.YtliikgffjphhjaaGreatDoorS3A3
namespace Go.Vm.S3
open Go.Proofs Go.RowKit
set_option maxRecDepth 100000 in
theorem r77 (S : Specs) (es : List AV) (s x : ByteArray) (i : Nat) : roundD (CS S) 60 0 77 0 18 18 false (loopOf (CS S) 77 0) [0, 1, 5] [] [0, 1, 5] [] [4] [] [.rsl 1 es false, strA s, intA (Int.ofNat i)] [] [.chk [strA x]] =
    (bif decide (Int.ofNat i < Int.ofNat es.length) then (.need (es[i]? = (some (AV.v (.string x)))) (bif x.toList == s.toList then (.need (EntClosed []) (.done (some ((.ret, [.v (.bool true)], []))))) else (.need (EntClosed []) (.done (some ((.nrm, [.rsl 1 es false, .v (.string s), .v (.int .i64 (IntKind.i64.wrap (Int.ofNat i + 1)))], []))))))) else (.need (EntClosed []) (.done (some (((.exit 0), [.bad], [])))))) := by kernel_rfl
set_option maxRecDepth 100000 in
theorem t77r (S : Specs) (es : List AV) (s : ByteArray) : evTreeD (CS S) 60 77 [.rsl 1 es false, strA s] [.loop 0 [0, 1, 5] [] [4] [] .ret [boolA true] []] =
    (.need (EntClosed [] ∧ EntClosed [] ∧ Says (CS S) 0 18 false (.loop (loopOf (CS S) 77 0)) (mkSt [0, 1, 5] [] 18 [.rsl 1 es false, .v (.string s), .v (.int .i64 0)] []) .ret (mkSt [4] [] 18 [.v (.bool true)] [])) (.done (some (.v (.bool true))))) := by kernel_rfl
set_option maxRecDepth 100000 in
theorem t77e (S : Specs) (es : List AV) (s : ByteArray) : evTreeD (CS S) 60 77 [.rsl 1 es false, strA s] [.loop 0 [0, 1, 5] [] [4] [] (.exit 0) [.bad] []] =
    (.need (EntClosed [] ∧ EntClosed [] ∧ Says (CS S) 0 18 false (.loop (loopOf (CS S) 77 0)) (mkSt [0, 1, 5] [] 18 [.rsl 1 es false, .v (.string s), .v (.int .i64 0)] []) (.exit 0) (mkSt [4] [] 18 [.bad] [])) (.done (some (.v (.bool false))))) := by kernel_rfl
set_option maxRecDepth 100000 in
theorem r78 (S : Specs) (es fs : List AV) (x y : ByteArray) (i : Nat) : roundD (CS S) 60 0 78 0 26 26 false (loopOf (CS S) 78 0) [0, 1, 5] [] [0, 1, 5] [] [4] [] [.rsl 1 es false, .rsl 1 fs false, intA (Int.ofNat i)] [] [.chk [strA x], .chk [strA y]] =
    (bif decide (Int.ofNat i < Int.ofNat es.length) then (.need (es[i]? = (some (AV.v (.string x)))) (.need (fs[i]? = (some (AV.v (.string y)))) (bif !x.toList == y.toList then (.need (EntClosed []) (.done (some ((.ret, [.v (.bool false)], []))))) else (.need (EntClosed []) (.done (some ((.nrm, [.rsl 1 es false, .rsl 1 fs false, .v (.int .i64 (IntKind.i64.wrap (Int.ofNat i + 1)))], [])))))))) else (.need (EntClosed []) (.done (some (((.exit 0), [.bad], [])))))) := by kernel_rfl
set_option maxRecDepth 100000 in
theorem t78r (S : Specs) (es fs : List AV) : evTreeD (CS S) 60 78 [.rsl 1 es false, .rsl 1 fs false] [.loop 0 [0, 1, 5] [] [4] [] .ret [boolA false] []] =
    (bif Int.ofNat es.length != Int.ofNat fs.length then (.done (some (.v (.bool false)))) else (.need (EntClosed [] ∧ EntClosed [] ∧ Says (CS S) 0 26 false (.loop (loopOf (CS S) 78 0)) (mkSt [0, 1, 5] [] 26 [.rsl 1 es false, .rsl 1 fs false, .v (.int .i64 0)] []) .ret (mkSt [4] [] 26 [.v (.bool false)] [])) (.done (some (.v (.bool false)))))) := by kernel_rfl
set_option maxRecDepth 100000 in
theorem t78e (S : Specs) (es fs : List AV) : evTreeD (CS S) 60 78 [.rsl 1 es false, .rsl 1 fs false] [.loop 0 [0, 1, 5] [] [4] [] (.exit 0) [.bad] []] =
    (bif Int.ofNat es.length != Int.ofNat fs.length then (.done (some (.v (.bool false)))) else (.need (EntClosed [] ∧ EntClosed [] ∧ Says (CS S) 0 26 false (.loop (loopOf (CS S) 78 0)) (mkSt [0, 1, 5] [] 26 [.rsl 1 es false, .rsl 1 fs false, .v (.int .i64 0)] []) (.exit 0) (mkSt [4] [] 26 [.bad] [])) (.done (some (.v (.bool true)))))) := by kernel_rfl
set_option maxRecDepth 100000 in
theorem r75 (S : Specs) (es fs : List AV) (x y : Int) (i : Nat) : roundD (CS S) 60 0 75 0 26 26 false (loopOf (CS S) 75 0) [0, 1, 5] [] [0, 1, 5] [] [4] [] [.rsl 1 es false, .rsl 1 fs false, intA (Int.ofNat i)] [] [.chk [intA x], .chk [intA y]] =
    (bif decide (Int.ofNat i < Int.ofNat es.length) then (.need (es[i]? = (some (AV.v (.int .i64 x)))) (.need (fs[i]? = (some (AV.v (.int .i64 y)))) (bif x != y then (.need (EntClosed []) (.done (some ((.ret, [.v (.bool false)], []))))) else (.need (EntClosed []) (.done (some ((.nrm, [.rsl 1 es false, .rsl 1 fs false, .v (.int .i64 (IntKind.i64.wrap (Int.ofNat i + 1)))], [])))))))) else (.need (EntClosed []) (.done (some (((.exit 0), [.bad], [])))))) := by kernel_rfl
set_option maxRecDepth 100000 in
theorem t75r (S : Specs) (es fs : List AV) : evTreeD (CS S) 60 75 [.rsl 1 es false, .rsl 1 fs false] [.loop 0 [0, 1, 5] [] [4] [] .ret [boolA false] []] =
    (bif Int.ofNat es.length != Int.ofNat fs.length then (.done (some (.v (.bool false)))) else (.need (EntClosed [] ∧ EntClosed [] ∧ Says (CS S) 0 26 false (.loop (loopOf (CS S) 75 0)) (mkSt [0, 1, 5] [] 26 [.rsl 1 es false, .rsl 1 fs false, .v (.int .i64 0)] []) .ret (mkSt [4] [] 26 [.v (.bool false)] [])) (.done (some (.v (.bool false)))))) := by kernel_rfl
set_option maxRecDepth 100000 in
theorem t75e (S : Specs) (es fs : List AV) : evTreeD (CS S) 60 75 [.rsl 1 es false, .rsl 1 fs false] [.loop 0 [0, 1, 5] [] [4] [] (.exit 0) [.bad] []] =
    (bif Int.ofNat es.length != Int.ofNat fs.length then (.done (some (.v (.bool false)))) else (.need (EntClosed [] ∧ EntClosed [] ∧ Says (CS S) 0 26 false (.loop (loopOf (CS S) 75 0)) (mkSt [0, 1, 5] [] 26 [.rsl 1 es false, .rsl 1 fs false, .v (.int .i64 0)] []) (.exit 0) (mkSt [4] [] 26 [.bad] [])) (.done (some (.v (.bool true)))))) := by kernel_rfl
def seq (x y : ByteArray) : Bool := x.toList == y.toList
theorem e_len {α : Type} (f : α → AV) (l : List α) : Int.ofNat (l.map f).length = Int.ofNat l.length := by simp
theorem lt2 {α β : Type} {l : List α} {m : List β} {i : Nat} {x : α × β} (h : (l.zip m)[i]? = some x) : l[i]? = some x.1 ∧ m[i]? = some x.2 := by
  rw [List.getElem?_zip_eq_some] at h; exact h
abbrev strE (s : ByteArray) : AV := strA s
abbrev strsA (l : List ByteArray) : AV := .rsl 1 (l.map strE) false
abbrev intsA (l : List Int) : AV := .rsl 1 (l.map intA) false

/-! ### HasWord -/
def hasWordM (l : List ByteArray) (s : ByteArray) : Bool := l.any fun x => seq x s
theorem srch_any {α τ : Type} {p : α → Bool} {t : τ} : ∀ (l : List α) (i : Nat), srch (fun _ x => bif p x then some t else none) i l = bif l.any p then some t else none
  | [], i => rfl
  | x :: r, i => by
    unfold srch
    cases h : p x with
    | true => simp [h]
    | false => simp [h, srch_any r]
theorem hasWord_ok {S : Specs} (hS : Ok S) : Holds 77 (sp2 (listC strC 1) strC fun l s => bif Nat.blt l.length two63 then some (boolA (hasWordM l s)) else none) := holds2 fun l s r hr => by
  cases hb : Nat.blt l.length two63 with
  | false => simp [hb] at hr
  | true =>
    simp only [hb, cond_true, Option.some.injEq] at hr; subst hr
    have hl : l.length < two63 := Nat.le_of_ble_eq_true hb
    have h := LoopRun.search (l := l) (f := fun _ x => bif seq x s then some () else none) (C := CS S) (p := 0) (nt := 18) (rd := false) (c := loopOf (CS S) 77 0) (enc := fun i => mkSt [0, 1, 5] [] 18 [strsA l, strA s, intA (Int.ofNat i)] [])
      (out := fun _ => mkSt [4] [] 18 [boolA true] []) (miss := mkSt [4] [] 18 [.bad] []) (ex := fun _ => .ret) (ex2 := .exit 0) (by simp) (by simp)
      (fun i x hx => by
        have hi := lt_len hx
        have e := e_len strE l
        cases h : seq x s with
        | true => exact hS.rndR (r77 S (l.map strE) s x i) (by rw [e, lt_of hi]; change _ ∧ (bif seq x s then _ else _ : Dt _).ok _; rw [h]; exact ⟨get_map _ hx, trivial, rfl⟩)
        | false => exact hS.rndN (r77 S (l.map strE) s x i) (by rw [e, lt_of hi, wrap_ix hi hl]; change _ ∧ (bif seq x s then _ else _ : Dt _).ok _; rw [h]; exact ⟨get_map _ hx, trivial, rfl⟩))
      (hS.rndX (r77 S (l.map strE) s s l.length) (by rw [e_len, lt_self]; exact ⟨trivial, rfl⟩))
    rw [srch_any] at h
    unfold hasWordM
    cases ha : l.any (fun x => seq x s) with
    | true => rw [ha] at h; exact hS.tr (t77r S (l.map strE) s) ⟨⟨trivial, trivial, h.says⟩, rfl⟩
    | false => rw [ha] at h; exact hS.tr (t77e S (l.map strE) s) ⟨⟨trivial, trivial, h.says⟩, rfl⟩

/-! ### SameWords, SameInts -/
def sameM {α : Type} (eq : α → α → Bool) (l m : List α) : Bool := l.length == m.length && (l.zip m).all fun p => eq p.1 p.2
theorem srch_all {α τ : Type} {p : α → Bool} {t : τ} : ∀ (l : List α) (i : Nat), srch (fun _ x => bif p x then none else some t) i l = bif l.all p then none else some t
  | [], i => rfl
  | x :: r, i => by
    unfold srch
    cases h : p x with
    | true => simp [h, srch_all r]
    | false => simp [h]
theorem ne_len {α β : Type} {f : α → AV} {g : β → AV} (l : List α) (m : List β) : (Int.ofNat (l.map f).length != Int.ofNat (m.map g).length) = !(l.length == m.length) := by
  have : (Int.ofNat l.length == Int.ofNat m.length) = (l.length == m.length) := by
    rw [Bool.eq_iff_iff]; simp only [beq_iff_eq]; exact ⟨fun h => Int.ofNat.inj h, fun h => by rw [h]⟩
  simp only [List.length_map, bne, this]
theorem sameWords_ok {S : Specs} (hS : Ok S) : Holds 78 (sp2 (listC strC 1) (listC strC 1) fun l m => bif Nat.blt l.length two63 then some (boolA (sameM seq l m)) else none) := holds2 fun l m r hr => by
  cases hb : Nat.blt l.length two63 with
  | false => simp [hb] at hr
  | true =>
    simp only [hb, cond_true, Option.some.injEq] at hr; subst hr
    have hl : l.length < two63 := Nat.le_of_ble_eq_true hb
    unfold sameM
    cases hq : l.length == m.length with
    | false =>
      refine hS.tr (t78e S (l.map strE) (m.map strE)) ?_
      rw [ne_len, hq]; rfl
    | true =>
      have hlm : l.length = m.length := by simpa using hq
      have hz : (l.zip m).length = l.length := by rw [List.length_zip]; omega
      have h := LoopRun.search (l := l.zip m) (f := fun _ x => bif seq x.1 x.2 then none else some ()) (C := CS S) (p := 0) (nt := 26) (rd := false) (c := loopOf (CS S) 78 0) (enc := fun i => mkSt [0, 1, 5] [] 26 [strsA l, strsA m, intA (Int.ofNat i)] [])
        (out := fun _ => mkSt [4] [] 26 [boolA false] []) (miss := mkSt [4] [] 26 [.bad] []) (ex := fun _ => .ret) (ex2 := .exit 0) (by simp) (by simp)
        (fun i x hx => by
          have hi := lt_len hx
          rw [hz] at hi
          obtain ⟨h1, h2⟩ := lt2 hx
          have e := e_len strE l
          cases h : seq x.1 x.2 with
          | true => exact hS.rndN (r78 S (l.map strE) (m.map strE) x.1 x.2 i) (by rw [e, lt_of hi, wrap_ix hi hl]; change _ ∧ _ ∧ (bif !seq x.1 x.2 then _ else _ : Dt _).ok _; rw [h]; exact ⟨get_map _ h1, get_map _ h2, trivial, rfl⟩)
          | false => exact hS.rndR (r78 S (l.map strE) (m.map strE) x.1 x.2 i) (by rw [e, lt_of hi]; change _ ∧ _ ∧ (bif !seq x.1 x.2 then _ else _ : Dt _).ok _; rw [h]; exact ⟨get_map _ h1, get_map _ h2, trivial, rfl⟩))
        (by rw [hz]; exact hS.rndX (r78 S (l.map strE) (m.map strE) ⟨#[]⟩ ⟨#[]⟩ l.length) (by rw [e_len, lt_self]; exact ⟨trivial, rfl⟩))
      rw [srch_all] at h
      cases ha : (l.zip m).all (fun x => seq x.1 x.2) with
      | true => rw [ha] at h; exact hS.tr (t78e S (l.map strE) (m.map strE)) (by rw [ne_len, hq]; exact ⟨⟨trivial, trivial, h.says⟩, rfl⟩)
      | false => rw [ha] at h; exact hS.tr (t78r S (l.map strE) (m.map strE)) (by rw [ne_len, hq]; exact ⟨⟨trivial, trivial, h.says⟩, rfl⟩)
theorem sameInts_ok {S : Specs} (hS : Ok S) : Holds 75 (sp2 (listC intC 1) (listC intC 1) fun l m => bif Nat.blt l.length two63 then some (boolA (sameM (· == ·) l m)) else none) := holds2 fun l m r hr => by
  cases hb : Nat.blt l.length two63 with
  | false => simp [hb] at hr
  | true =>
    simp only [hb, cond_true, Option.some.injEq] at hr; subst hr
    have hl : l.length < two63 := Nat.le_of_ble_eq_true hb
    unfold sameM
    cases hq : l.length == m.length with
    | false =>
      refine hS.tr (t75e S (l.map intA) (m.map intA)) ?_
      rw [ne_len, hq]; rfl
    | true =>
      have hlm : l.length = m.length := by simpa using hq
      have hz : (l.zip m).length = l.length := by rw [List.length_zip]; omega
      have h := LoopRun.search (l := l.zip m) (f := fun _ x => bif x.1 == x.2 then none else some ()) (C := CS S) (p := 0) (nt := 26) (rd := false) (c := loopOf (CS S) 75 0) (enc := fun i => mkSt [0, 1, 5] [] 26 [intsA l, intsA m, intA (Int.ofNat i)] [])
        (out := fun _ => mkSt [4] [] 26 [boolA false] []) (miss := mkSt [4] [] 26 [.bad] []) (ex := fun _ => .ret) (ex2 := .exit 0) (by simp) (by simp)
        (fun i x hx => by
          have hi := lt_len hx
          rw [hz] at hi
          obtain ⟨h1, h2⟩ := lt2 hx
          have e := e_len intA l
          cases h : x.1 == x.2 with
          | true => exact hS.rndN (r75 S (l.map intA) (m.map intA) x.1 x.2 i) (by rw [e, lt_of hi, wrap_ix hi hl]; change _ ∧ _ ∧ (bif !(x.1 == x.2) then _ else _ : Dt _).ok _; rw [h]; exact ⟨get_map _ h1, get_map _ h2, trivial, rfl⟩)
          | false => exact hS.rndR (r75 S (l.map intA) (m.map intA) x.1 x.2 i) (by rw [e, lt_of hi]; change _ ∧ _ ∧ (bif !(x.1 == x.2) then _ else _ : Dt _).ok _; rw [h]; exact ⟨get_map _ h1, get_map _ h2, trivial, rfl⟩))
        (by rw [hz]; exact hS.rndX (r75 S (l.map intA) (m.map intA) 0 0 l.length) (by rw [e_len, lt_self]; exact ⟨trivial, rfl⟩))
      rw [srch_all] at h
      cases ha : (l.zip m).all (fun x => x.1 == x.2) with
      | true => rw [ha] at h; exact hS.tr (t75e S (l.map intA) (m.map intA)) (by rw [ne_len, hq]; exact ⟨⟨trivial, trivial, h.says⟩, rfl⟩)
      | false => rw [ha] at h; exact hS.tr (t75r S (l.map intA) (m.map intA)) (by rw [ne_len, hq]; exact ⟨⟨trivial, trivial, h.says⟩, rfl⟩)
end Go.Vm.S3
