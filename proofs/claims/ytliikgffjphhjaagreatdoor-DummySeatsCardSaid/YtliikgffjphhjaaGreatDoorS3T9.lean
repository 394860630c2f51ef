/- Seats: Open of the program. -/
import Derived.Test.YtliikgffjphhjaaGreatDoorS3Sign
namespace Go.Vm.S3
open Go.Proofs Go.RowKit
set_option maxRecDepth 100000 in
theorem r68 (es fs ks vs ks1 vs1 : List AV) (x : ByteArray × Bool) (i n : Nat) : roundD (CS T8) 60 0 68 0 97 97 false (loopOf (CS T8) 68 0) [0, 1, 7, 8, 9, 30, 31, 32] [29] [0, 1, 7, 8, 9, 30, 31, 32] [29] [0, 1, 7, 8, 9] [29] [.rsl 2 es false, .rsl 2 fs false, intA 0, intA 0, .mp 29 0, .rsl 2 es false, intA (Int.ofNat n), intA (Int.ofNat i)] [(false, .map ks vs)] [.chk [stA x], .mu ks1 vs1] =
    (bif decide (Int.ofNat i < Int.ofNat n) then (.need (es[i]? = (some (AV.agg [.v (.string x.fst), .v (.bool x.snd)]))) (.need ((mapUpd (CS T8) 196 ks vs (AV.v (.string x.fst)) (AV.v (.int .i64 (Int.ofNat i)))) = (some (ks1, vs1))) (.need (EntClosed [(false, .map ks1 vs1)]) (.done (some ((.nrm, [.rsl 2 es false, .rsl 2 fs false, .v (.int .i64 0), .v (.int .i64 0), .mp 29 0, .rsl 2 es false, .v (.int .i64 (Int.ofNat n)), .v (.int .i64 (IntKind.i64.wrap (Int.ofNat i + 1)))], [(false, .map ks1 vs1)]))))))) else (.need (EntClosed [(false, .map ks vs)]) (.done (some (((.exit 0), [.rsl 2 es false, .rsl 2 fs false, .v (.int .i64 0), .v (.int .i64 0), .mp 29 0], [(false, .map ks vs)])))))) := by kernel_rfl
set_option maxRecDepth 100000 in
theorem s68 (es fs ks vs ms ws ms1 ws1 : List AV) (s : ByteArray × ByteArray) (y : ByteArray × Bool) (j : Int) (is tw : Bool) (i n nx : Nat) (by' : Int) : roundD (CS T8) 60 0 68 0 97 97 false (loopOf (CS T8) 68 2) [0, 7, 8, 9, 12, 43, 44, 45] [29, 42] [0, 7, 8, 9, 12, 43, 44, 45] [29, 42] [4, 5] [] [.rsl 2 es false, intA (Int.ofNat nx), intA by', .mp 29 0, .mp 42 1, .rsl 2 fs false, intA (Int.ofNat n), intA (Int.ofNat i)] [(false, .map ks vs), (false, .map ms ws)] [.br [.chk [sgA s], .chk [.tup [intA j, boolA is]], .chk [boolA tw], .br [] [.mu ms1 ws1, .chk [stA y]]] []] =
    (bif decide (Int.ofNat i < Int.ofNat n) then (.need (fs[i]? = (some (AV.agg [.v (.string s.fst), .v (.string s.snd)]))) (.need ((alookup (CS T8) Tr.leaf 196 (AV.rmp ks vs) (AV.v (.string s.fst)) true) = (some (AV.tup [.v (.int .i64 j), .v (.bool is)]))) (.need ((alookup (CS T8) Tr.leaf 225 (AV.rmp ms ws) (AV.agg [.v (.string s.fst), .v (.string s.snd)]) false) = (some (AV.v (.bool tw)))) (bif firstM [whenM (!is) 10, nameErr s.snd, whenM (decide (j < Int.ofNat nx)) 23, whenM (decide (j > Int.ofNat nx)) 11, whenM tw 9] != 0 then (.need (EntClosed []) (.done (some ((.ret, [.v (.slice none 0 0), .v (.int .i64 (firstM [whenM (!is) 10, nameErr s.snd, whenM (decide (j < Int.ofNat nx)) 23, whenM (decide (j > Int.ofNat nx)) 11, whenM tw 9]))], []))))) else (.need ((mapUpd (CS T8) 225 ms ws (AV.agg [.v (.string s.fst), .v (.string s.snd)]) (AV.v (.bool true))) = (some (ms1, ws1))) (.need (es[nx]? = (some (AV.agg [.v (.string y.fst), .v (.bool y.snd)]))) (bif IntKind.i64.wrap (by' + 1) == needM y.snd then (.need (EntClosed [(false, .map ks vs), (false, .map ms1 ws1)]) (.done (some ((.nrm, [.rsl 2 es false, .v (.int .i64 (IntKind.i64.wrap (Int.ofNat nx + 1))), .v (.int .i64 0), .mp 29 0, .mp 42 1, .rsl 2 fs false, .v (.int .i64 (Int.ofNat n)), .v (.int .i64 (IntKind.i64.wrap (Int.ofNat i + 1)))], [(false, .map ks vs), (false, .map ms1 ws1)]))))) else (.need (EntClosed [(false, .map ks vs), (false, .map ms1 ws1)]) (.done (some ((.nrm, [.rsl 2 es false, .v (.int .i64 (Int.ofNat nx)), .v (.int .i64 (IntKind.i64.wrap (by' + 1))), .mp 29 0, .mp 42 1, .rsl 2 fs false, .v (.int .i64 (Int.ofNat n)), .v (.int .i64 (IntKind.i64.wrap (Int.ofNat i + 1)))], [(false, .map ks vs), (false, .map ms1 ws1)])))))))))))) else (.need (EntClosed []) (.done (some (((.exit 2), [.bad, .bad], [])))))) := by kernel_rfl
set_option maxRecDepth 100000 in
theorem s68x (es fs ks vs ms ws ms1 ws1 : List AV) (s : ByteArray × ByteArray) (y : ByteArray × Bool) (j : Int) (is tw : Bool) (i n nx : Nat) (by' : Int) : roundD (CS T8) 60 0 68 0 97 97 false (loopOf (CS T8) 68 2) [0, 7, 8, 9, 12, 43, 44, 45] [29, 42] [0, 7, 8, 9, 12, 43, 44, 45] [29, 42] [0, 7] [] [.rsl 2 es false, intA (Int.ofNat nx), intA by', .mp 29 0, .mp 42 1, .rsl 2 fs false, intA (Int.ofNat n), intA (Int.ofNat i)] [(false, .map ks vs), (false, .map ms ws)] [.br [.chk [sgA s], .chk [.tup [intA j, boolA is]], .chk [boolA tw], .br [] [.mu ms1 ws1, .chk [stA y]]] []] =
    (bif decide (Int.ofNat i < Int.ofNat n) then (.need (fs[i]? = (some (AV.agg [.v (.string s.fst), .v (.string s.snd)]))) (.need ((alookup (CS T8) Tr.leaf 196 (AV.rmp ks vs) (AV.v (.string s.fst)) true) = (some (AV.tup [.v (.int .i64 j), .v (.bool is)]))) (.need ((alookup (CS T8) Tr.leaf 225 (AV.rmp ms ws) (AV.agg [.v (.string s.fst), .v (.string s.snd)]) false) = (some (AV.v (.bool tw)))) (bif firstM [whenM (!is) 10, nameErr s.snd, whenM (decide (j < Int.ofNat nx)) 23, whenM (decide (j > Int.ofNat nx)) 11, whenM tw 9] != 0 then (.need (EntClosed []) (.done (some ((.ret, [.rsl 2 es false, .v (.int .i64 (Int.ofNat nx))], []))))) else (.need ((mapUpd (CS T8) 225 ms ws (AV.agg [.v (.string s.fst), .v (.string s.snd)]) (AV.v (.bool true))) = (some (ms1, ws1))) (.need (es[nx]? = (some (AV.agg [.v (.string y.fst), .v (.bool y.snd)]))) (bif IntKind.i64.wrap (by' + 1) == needM y.snd then (.need (EntClosed [(false, .map ks vs), (false, .map ms1 ws1)]) (.done (some ((.nrm, [.rsl 2 es false, .v (.int .i64 (IntKind.i64.wrap (Int.ofNat nx + 1))), .v (.int .i64 0), .mp 29 0, .mp 42 1, .rsl 2 fs false, .v (.int .i64 (Int.ofNat n)), .v (.int .i64 (IntKind.i64.wrap (Int.ofNat i + 1)))], [(false, .map ks vs), (false, .map ms1 ws1)]))))) else (.need (EntClosed [(false, .map ks vs), (false, .map ms1 ws1)]) (.done (some ((.nrm, [.rsl 2 es false, .v (.int .i64 (Int.ofNat nx)), .v (.int .i64 (IntKind.i64.wrap (by' + 1))), .mp 29 0, .mp 42 1, .rsl 2 fs false, .v (.int .i64 (Int.ofNat n)), .v (.int .i64 (IntKind.i64.wrap (Int.ofNat i + 1)))], [(false, .map ks vs), (false, .map ms1 ws1)])))))))))))) else (.need (EntClosed []) (.done (some (((.exit 2), [.rsl 2 es false, .v (.int .i64 (Int.ofNat nx))], [])))))) := by kernel_rfl
set_option maxRecDepth 100000 in
theorem t68r (l : List (ByteArray × Bool)) (fs ks vs : List AV) (a e : Int) : evTreeD (CS T8) 60 68 [slA stC 2 l, .rsl 2 fs false] [.sp [slA stC 2 l] (intA a), .br [] [.loop 0 [0, 1, 7, 8, 9, 30, 31, 32] [29] [0, 1, 7, 8, 9] [29] (.exit 0) [slA stC 2 l, .rsl 2 fs false, intA 0, intA 0, .mp 29 0] [(false, .map ks vs)], .loop 0 [0, 7, 8, 9, 12, 43, 44, 45] [29, 42] [4, 5] [] .ret [nilS, intA e] []]] =
    (.need (([.rsl 2 (List.map stC.enc l) false] : List AV) = ([.rsl 2 (List.map stC.enc l) false] : List AV) ∧ (Cx.spec (CS T8) 153 ([.rsl 2 (List.map stC.enc l) false] : List AV)) = (some (AV.v (.int .i64 a)))) (bif firstM [a, whenM (decide (Int.ofNat fs.length > 64)) 5] != 0 then (.done (some (.tup [.v (.slice none 0 0), .v (.int .i64 (firstM [a, whenM (decide (Int.ofNat fs.length > 64)) 5]))]))) else (.need (EntClosed [(false, .map [] [])] ∧ EntClosed [(false, .map ks vs)] ∧ Says (CS T8) 0 97 false (.loop (loopOf (CS T8) 68 0)) (mkSt [0, 1, 7, 8, 9, 30, 31, 32] [29] 97 [.rsl 2 (List.map stC.enc l) false, .rsl 2 fs false, .v (.int .i64 0), .v (.int .i64 0), .mp 29 0, .rsl 2 (List.map stC.enc l) false, .v (.int .i64 (Int.ofNat (List.map stC.enc l).length)), .v (.int .i64 0)] [(false, .map [] [])]) (.exit 0) (mkSt [0, 1, 7, 8, 9] [29] 97 [.rsl 2 (List.map stC.enc l) false, .rsl 2 fs false, .v (.int .i64 0), .v (.int .i64 0), .mp 29 0] [(false, .map ks vs)])) (.need (EntClosed [(false, .map ks vs), (false, .map [] [])] ∧ EntClosed [] ∧ Says (CS T8) 0 97 false (.loop (loopOf (CS T8) 68 2)) (mkSt [0, 7, 8, 9, 12, 43, 44, 45] [29, 42] 97 [.rsl 2 (List.map stC.enc l) false, .v (.int .i64 0), .v (.int .i64 0), .mp 29 0, .mp 42 1, .rsl 2 fs false, .v (.int .i64 (Int.ofNat fs.length)), .v (.int .i64 0)] [(false, .map ks vs), (false, .map [] [])]) .ret (mkSt [4, 5] [] 97 [.v (.slice none 0 0), .v (.int .i64 e)] [])) (.done (some (.tup [.v (.slice none 0 0), .v (.int .i64 e)]))))))) := by kernel_rfl
set_option maxRecDepth 100000 in
theorem t68e (l : List (ByteArray × Bool)) (fs ks vs rs : List AV) (a : Int) (nx : Nat) : evTreeD (CS T8) 60 68 [slA stC 2 l, .rsl 2 fs false] [.sp [slA stC 2 l] (intA a), .br [] [.loop 0 [0, 1, 7, 8, 9, 30, 31, 32] [29] [0, 1, 7, 8, 9] [29] (.exit 0) [slA stC 2 l, .rsl 2 fs false, intA 0, intA 0, .mp 29 0] [(false, .map ks vs)], .loop 0 [0, 7, 8, 9, 12, 43, 44, 45] [29, 42] [0, 7] [] (.exit 2) [slA stC 2 l, intA (Int.ofNat nx)] [], .chk (l.map stA), .sp [slA stC 2 (l.drop nx), fnV 157] (.rsl 1 rs false)]] =
    (.need (([.rsl 2 (List.map stC.enc l) false] : List AV) = ([.rsl 2 (List.map stC.enc l) false] : List AV) ∧ (Cx.spec (CS T8) 153 ([.rsl 2 (List.map stC.enc l) false] : List AV)) = (some (AV.v (.int .i64 a)))) (bif firstM [a, whenM (decide (Int.ofNat fs.length > 64)) 5] != 0 then (.done (some (.tup [.v (.slice none 0 0), .v (.int .i64 (firstM [a, whenM (decide (Int.ofNat fs.length > 64)) 5]))]))) else (.need (EntClosed [(false, .map [] [])] ∧ EntClosed [(false, .map ks vs)] ∧ Says (CS T8) 0 97 false (.loop (loopOf (CS T8) 68 0)) (mkSt [0, 1, 7, 8, 9, 30, 31, 32] [29] 97 [.rsl 2 (List.map stC.enc l) false, .rsl 2 fs false, .v (.int .i64 0), .v (.int .i64 0), .mp 29 0, .rsl 2 (List.map stC.enc l) false, .v (.int .i64 (Int.ofNat (List.map stC.enc l).length)), .v (.int .i64 0)] [(false, .map [] [])]) (.exit 0) (mkSt [0, 1, 7, 8, 9] [29] 97 [.rsl 2 (List.map stC.enc l) false, .rsl 2 fs false, .v (.int .i64 0), .v (.int .i64 0), .mp 29 0] [(false, .map ks vs)])) (.need (EntClosed [(false, .map ks vs), (false, .map [] [])] ∧ EntClosed [] ∧ Says (CS T8) 0 97 false (.loop (loopOf (CS T8) 68 2)) (mkSt [0, 7, 8, 9, 12, 43, 44, 45] [29, 42] 97 [.rsl 2 (List.map stC.enc l) false, .v (.int .i64 0), .v (.int .i64 0), .mp 29 0, .mp 42 1, .rsl 2 fs false, .v (.int .i64 (Int.ofNat fs.length)), .v (.int .i64 0)] [(false, .map ks vs), (false, .map [] [])]) (.exit 2) (mkSt [0, 7] [] 97 [.rsl 2 (List.map stC.enc l) false, .v (.int .i64 (Int.ofNat nx))] [])) (.need (nx ≤ (List.map stC.enc l).length ∧ (List.map stC.enc l).length ≤ (List.map stC.enc l).length) (.need (([.rsl 2 (List.take ((List.map stC.enc l).length - nx) (List.drop nx (List.map stC.enc l))) false, .fn (Fn.func 157) [] []] : List AV) = ([.rsl 2 (List.map stC.enc (List.drop nx l)) false, .fn (Fn.func 157) [] []] : List AV) ∧ (Cx.spec (CS T8) 156 ([.rsl 2 (List.map stC.enc (List.drop nx l)) false, .fn (Fn.func 157) [] []] : List AV)) = (some (AV.rsl 1 rs false))) (.done (some (.tup [.rsl 1 rs false, .v (.int .i64 0)]))))))))) := by kernel_rfl
/-! ### Open, of the program -/
def names (l : List (ByteArray × Bool)) : List ByteArray := l.map fun x => x.1
def idxA (n : Nat) : List AV := (List.range n).map fun j => intA (Int.ofNat j)
theorem closedIdx (n : Nat) : ClosedL (idxA n) := ClosedL.map fun _ => rfl
def signErr (l : List (ByteArray × Bool)) (m : List (ByteArray × ByteArray)) (i : Nat) (s : ByteArray × ByteArray) (nx : Nat) : Int :=
  firstM [whenM (!(findIx s.1 (names l) 0).isSome) 10, nameErr s.2, whenM (decide (Int.ofNat ((findIx s.1 (names l) 0).getD 0) < Int.ofNat nx)) 23, whenM (decide (Int.ofNat ((findIx s.1 (names l) 0).getD 0) > Int.ofNat nx)) 11, whenM ((m.take i).any (sgEq s)) 9]
def twoOf (l : List (ByteArray × Bool)) (nx : Nat) : Bool := (l[nx]?.map fun x => x.2).getD false
def signStep (l : List (ByteArray × Bool)) (m : List (ByteArray × ByteArray)) (i : Nat) (s : ByteArray × ByteArray) (st : Nat × Nat) : (Nat × Nat) ⊕ (Int ⊕ Nat) :=
  bif signErr l m i s st.1 != 0 then .inr (.inl (signErr l m i s st.1)) else .inl (bif Int.ofNat (st.2 + 1) == needM (twoOf l st.1) then (st.1 + 1, 0) else (st.1, st.2 + 1))
def signRun (l : List (ByteArray × Bool)) (m : List (ByteArray × ByteArray)) : Int ⊕ Nat := goL (signStep l m) (fun st => .inr st.1) 0 m (0, 0)
def openErr (l : List (ByteArray × Bool)) (m : List (ByteArray × ByteArray)) : Int := firstM [stepsM l, whenM (decide (Int.ofNat m.length > 64)) 5]
def openR (l : List (ByteArray × Bool)) (m : List (ByteArray × ByteArray)) : AV :=
  bif openErr l m != 0 then .tup [slA strC 1 [], intA (openErr l m)] else match signRun l m with
    | .inl e => .tup [slA strC 1 [], intA e]
    | .inr nx => .tup [slA strC 1 (names (l.drop nx)), intA 0]
def out68G : List AV → Option AV := sp2 (listC stC 2) (listC sgC 2) fun l m => bif Nat.ble l.length lim && Nat.ble m.length lim then some (openR l m) else none
def signEx : Int ⊕ Nat → Ex
  | .inl _ => .ret
  | .inr _ => .exit 2
def signOut (l : List (ByteArray × Bool)) : Int ⊕ Nat → St
  | .inl e => mkSt [4, 5] [] 97 [nilS, intA e] []
  | .inr nx => mkSt [0, 7] [] 97 [.rsl 2 (l.map stA) false, intA (Int.ofNat nx)] []
theorem srch_none {α τ : Type} : ∀ (l : List α) (i : Nat), srch (fun _ _ => (none : Option τ)) i l = none
  | [], _ => rfl
  | _ :: r, i => by unfold srch; exact srch_none r (i + 1)
theorem srch_all_none {α τ : Type} {f : Nat → α → Option τ} : ∀ (l : List α) (i0 : Nat), srch f i0 l = none → ∀ i x, l[i]? = some x → f (i0 + i) x = none
  | [], _, _, i, x, hx => by simp at hx
  | y :: r, i0, h, i, x, hx => by
    unfold srch at h
    cases hf : f i0 y with
    | some t => rw [hf] at h; cases h
    | none =>
      rw [hf] at h
      cases i with
      | zero => simp only [List.getElem?_cons_zero, Option.some.injEq] at hx; subst hx; exact hf
      | succ i =>
        rw [List.getElem?_cons_succ] at hx
        have := srch_all_none r (i0 + 1) h i x hx
        rw [show i0 + (i + 1) = i0 + 1 + i by omega]
        exact this
theorem srch_some_ne {α : Type} {F : Nat → α → Int} : ∀ (l : List α) (i : Nat) {t : Int}, srch (fun i x => bif F i x != 0 then some (F i x) else none) i l = some t → t ≠ 0
  | [], _, t, h => by simp [srch] at h
  | x :: r, i, t, h => by
    unfold srch at h
    cases hf : F i x != 0 with
    | true => simp only [hf, cond_true, Option.some.injEq] at h; subst h; simpa using hf
    | false => simp only [hf, cond_false] at h; exact srch_some_ne r (i + 1) h
/-- Valid steps have names of their own. -/
theorem steps_fresh {l : List (ByteArray × Bool)} (h : stepsM l = 0) {i : Nat} {x : ByteArray × Bool} (hx : l[i]? = some x) : findIx x.1 (names (l.take i)) 0 = none := by
  unfold stepsM at h
  cases hm : manyM l.length 32 != 0 with
  | true => rw [hm, cond_true] at h; rw [h] at hm; exact absurd hm (by decide)
  | false =>
    rw [hm, cond_false] at h
    unfold srchE at h
    cases hq : srch (fun i x => bif stepErr l i x != 0 then some (stepErr l i x) else none) 0 l with
    | some t => rw [hq] at h; exact absurd h (srch_some_ne l 0 hq)
    | none =>
      have h1 := srch_all_none l 0 hq i x hx
      rw [Nat.zero_add] at h1
      cases h0 : stepErr l i x != 0 with
      | true => rw [h0] at h1; cases h1
      | false =>
        have h2 : stepErr l i x = 0 := by simpa using h0
        unfold stepErr at h2
        rw [findM_ge, firstZ, firstZ] at h2
        have h3 := h2.2.1
        cases hf : findIx x.1 (names (l.take i)) 0 with
        | none => rfl
        | some j =>
          rw [show (findIx x.1 ((l.take i).map fun x => x.1) 0) = some j from hf] at h3
          have h4 : whenM true 9 = 0 := h3
          exact absurd h4 (by decide)
/-- The first loop: the index of each step. -/
theorem loop68a {l : List (ByteArray × Bool)} (m : List (ByteArray × ByteArray)) (hl : l.length < two63) (h0 : stepsM l = 0) :
    LoopRun (CS T8) 0 97 false (loopOf (CS T8) 68 0) (mkSt [0, 1, 7, 8, 9, 30, 31, 32] [29] 97 [.rsl 2 (l.map stA) false, .rsl 2 (m.map sgA) false, intA 0, intA 0, .mp 29 0, .rsl 2 (l.map stA) false, intA (Int.ofNat l.length), intA (Int.ofNat 0)] [(false, .map [] [])]) (.exit 0)
      (mkSt [0, 1, 7, 8, 9] [29] 97 [.rsl 2 (l.map stA) false, .rsl 2 (m.map sgA) false, intA 0, intA 0, .mp 29 0] [(false, .map ((names l).map strA) (idxA l.length))]) := by
  have h := LoopRun.find (C := CS T8) (p := 0) (nt := 97) (rd := false) (c := loopOf (CS T8) 68 0) (fun _ (_ : ByteArray × Bool) => (none : Option Unit))
    (fun i => mkSt [0, 1, 7, 8, 9, 30, 31, 32] [29] 97 [.rsl 2 (l.map stA) false, .rsl 2 (m.map sgA) false, intA 0, intA 0, .mp 29 0, .rsl 2 (l.map stA) false, intA (Int.ofNat l.length), intA (Int.ofNat i)] [(false, .map ((names (l.take i)).map strA) (idxA i))])
    (fun _ => mkSt [] [] 0 [] []) (mkSt [0, 1, 7, 8, 9] [29] 97 [.rsl 2 (l.map stA) false, .rsl 2 (m.map sgA) false, intA 0, intA 0, .mp 29 0] [(false, .map ((names l).map strA) (idxA l.length))]) (.exit 0) (fun _ => .ret) l (by simp) (by simp)
    (fun i x hx => by
      have hi := lt_len hx
      have u : mapUpd (CS T8) 196 ((names (l.take i)).map strA) (idxA i) (AV.v (.string x.1)) (AV.v (.int .i64 (Int.ofNat i))) = some ((names (l.take (i + 1))).map strA, idxA (i + 1)) := by
        refine ((map196 T8).add (vs := idxA i) (v := intA (Int.ofNat i)) (steps_fresh h0 hx)).trans ?_
        unfold names idxA
        rw [take_succ_map _ hx, List.range_succ, List.map_append, List.map_append]; rfl
      exact T8_ok.rndN (r68 (l.map stA) (m.map sgA) ((names (l.take i)).map strA) (idxA i) ((names (l.take (i + 1))).map strA) (idxA (i + 1)) x i l.length) (by
        rw [lt_of hi, wrap_ix hi hl]
        exact ⟨get_map stA hx, u, ⟨⟨closedStr _, closedIdx _⟩, trivial⟩, rfl⟩))
    (by
      rw [List.take_length]
      exact T8_ok.rndX (r68 (l.map stA) (m.map sgA) ((names l).map strA) (idxA l.length) [] [] (⟨#[]⟩, false) l.length l.length) (by rw [lt_self]; exact ⟨⟨⟨closedStr _, closedIdx _⟩, trivial⟩, rfl⟩))
  rw [srch_none] at h
  exact h
theorem look196 (l : List (ByteArray × Bool)) (s : ByteArray) : alookup (CS T8) .leaf 196 (.rmp ((names l).map strA) (idxA l.length)) (strA s) true = some (.tup [intA (Int.ofNat ((findIx s (names l) 0).getD 0)), boolA (findIx s (names l) 0).isSome]) := by
  rw [(map196 T8).look .leaf (names l) (idxA l.length) s true]
  cases hf : findIx s (names l) 0 with
  | none => rfl
  | some j =>
    have hj := (findIx_bound hf).2
    unfold names at hj
    rw [Nat.zero_add, List.length_map] at hj
    have : (idxA l.length)[j]? = some (intA (Int.ofNat j)) := by
      unfold idxA
      rw [List.getElem?_map, List.getElem?_range hj]; rfl
    simp only [this]; rfl
theorem signErr_zero {l : List (ByteArray × Bool)} {m : List (ByteArray × ByteArray)} {i : Nat} {s : ByteArray × ByteArray} {nx : Nat} (h : signErr l m i s nx = 0) :
    findIx s.1 (names l) 0 = some nx ∧ nameErr s.2 = 0 ∧ (m.take i).any (sgEq s) = false := by
  unfold signErr at h
  rw [firstZ, firstZ, firstZ, firstZ, firstZ] at h
  obtain ⟨h1, h2, h3, h4, h5, _⟩ := h
  have w : ∀ {b : Bool} {e : Int}, e ≠ 0 → whenM b e = 0 → b = false := fun {b e} he hw => by
    cases b with
    | false => rfl
    | true => exact absurd hw he
  have g1 := w (by decide) h1
  have g3 := w (by decide) h3
  have g4 := w (by decide) h4
  have g5 := w (by decide) h5
  refine ⟨?_, h2, g5⟩
  cases hf : findIx s.1 (names l) 0 with
  | none => rw [hf] at g1; cases g1
  | some j =>
    rw [hf] at g3 g4
    simp only [Option.getD_some, Int.ofNat_eq_natCast, decide_eq_false_iff_not] at g3 g4
    congr 1; omega
/-- The second loop: sign by sign. -/
theorem loop68b {l : List (ByteArray × Bool)} {m : List (ByteArray × ByteArray)} (hl : l.length < two63) (hm : m.length < two63) :
    LoopRun (CS T8) 0 97 false (loopOf (CS T8) 68 2) (mkSt [0, 7, 8, 9, 12, 43, 44, 45] [29, 42] 97 [.rsl 2 (l.map stA) false, intA (Int.ofNat 0), intA (Int.ofNat 0), .mp 29 0, .mp 42 1, .rsl 2 (m.map sgA) false, intA (Int.ofNat m.length), intA (Int.ofNat 0)] [(false, .map ((names l).map strA) (idxA l.length)), (false, .map [] [])])
      (signEx (signRun l m)) (signOut l (signRun l m)) := by
  refine LoopRun.list (step := signStep l m) (fin := fun st => .inr st.1) (enc := fun i (st : Nat × Nat) => mkSt [0, 7, 8, 9, 12, 43, 44, 45] [29, 42] 97 [.rsl 2 (l.map stA) false, intA (Int.ofNat st.1), intA (Int.ofNat st.2), .mp 29 0, .mp 42 1, .rsl 2 (m.map sgA) false, intA (Int.ofNat m.length), intA (Int.ofNat i)] [(false, .map ((names l).map strA) (idxA l.length)), (false, .map ((m.take i).map sgA) ((m.take i).map fun _ => boolA true))])
    (ex := signEx) (out := signOut l) (l := m) (fun i st => st.2 ≤ i ∧ st.1 ≤ l.length) (fun i s st hx hinv => ?_) (fun st hinv => ⟨?_, by simp [signEx]⟩) m [] (0, 0) rfl ⟨Nat.zero_le _, Nat.zero_le _⟩
  · have hi := lt_len hx
    have g := get_map sgA hx
    have q1 := look196 l s.1
    have q2 := lookSg T8 (m.take i) s
    unfold signStep
    cases h : signErr l m i s st.1 != 0 with
    | true =>
      refine ⟨T8_ok.rndR (s68 (l.map stA) (m.map sgA) ((names l).map strA) (idxA l.length) ((m.take i).map sgA) ((m.take i).map fun _ => boolA true) [] [] s (⟨#[]⟩, false) (Int.ofNat ((findIx s.1 (names l) 0).getD 0)) (findIx s.1 (names l) 0).isSome ((m.take i).any (sgEq s)) i m.length st.1 (Int.ofNat st.2)) ?_, by simp [signEx]⟩
      unfold signErr at h ⊢
      rw [lt_of hi, h]
      exact ⟨g, q1, q2, trivial, rfl⟩
    | false =>
      have hz : signErr l m i s st.1 = 0 := by simpa using h
      obtain ⟨h1, _, h3⟩ := signErr_zero hz
      have hnx : st.1 < l.length := by
        have := (findIx_bound h1).2
        unfold names at this
        rwa [Nat.zero_add, List.length_map] at this
      have hy : l[st.1]? = some l[st.1] := List.getElem?_eq_getElem hnx
      have gy : (l.map stA)[st.1]? = some (stA l[st.1]) := get_map stA hy
      have u : mapUpd (CS T8) 225 ((m.take i).map sgA) ((m.take i).map fun _ => boolA true) (sgA s) (boolA true) = some ((m.take (i + 1)).map sgA, (m.take (i + 1)).map fun _ => boolA true) := by
        rw [addSg T8 h3, take_succ_map _ hx, take_succ_map _ hx, List.map_append]; rfl
      have hw1 : IntKind.i64.wrap (Int.ofNat st.2 + 1) = Int.ofNat (st.2 + 1) := wrap_ix (i := st.2) (n := m.length) (by omega) hm
      have hw2 : IntKind.i64.wrap (Int.ofNat st.1 + 1) = Int.ofNat (st.1 + 1) := wrap_ix hnx hl
      have ht : twoOf l st.1 = (l[st.1]).2 := by unfold twoOf; rw [hy]; rfl
      have c : EntClosed [(false, .map ((names l).map strA) (idxA l.length)), (false, .map ((m.take (i + 1)).map sgA) ((m.take (i + 1)).map fun _ => boolA true))] := ⟨⟨closedStr _, closedIdx _⟩, ⟨ClosedL.map fun _ => rfl, ClosedL.map fun _ => rfl⟩, trivial⟩
      have key := s68 (l.map stA) (m.map sgA) ((names l).map strA) (idxA l.length) ((m.take i).map sgA) ((m.take i).map fun _ => boolA true) ((m.take (i + 1)).map sgA) ((m.take (i + 1)).map fun _ => boolA true) s l[st.1] (Int.ofNat ((findIx s.1 (names l) 0).getD 0)) (findIx s.1 (names l) 0).isSome ((m.take i).any (sgEq s)) i m.length st.1 (Int.ofNat st.2)
      cases hn : Int.ofNat (st.2 + 1) == needM (twoOf l st.1) with
      | true =>
        refine ⟨T8_ok.rndN key ?_, Nat.zero_le _, hnx⟩
        unfold signErr at h
        rw [ht] at hn
        rw [lt_of hi, h, hw1, hw2, wrap_ix hi hm, hn]
        exact ⟨g, q1, q2, u, gy, c, rfl⟩
      | false =>
        refine ⟨T8_ok.rndN key ?_, Nat.succ_le_succ hinv.1, hinv.2⟩
        unfold signErr at h
        rw [ht] at hn
        rw [lt_of hi, h, hw1, hw2, wrap_ix hi hm, hn]
        exact ⟨g, q1, q2, u, gy, c, rfl⟩
  · exact T8_ok.rndX (s68x (l.map stA) (m.map sgA) ((names l).map strA) (idxA l.length) ((m.take m.length).map sgA) ((m.take m.length).map fun _ => boolA true) [] [] (⟨#[]⟩, ⟨#[]⟩) (⟨#[]⟩, false) 0 false false m.length m.length st.1 (Int.ofNat st.2)) (by rw [lt_self]; exact ⟨trivial, rfl⟩)
theorem spec153 {l : List (ByteArray × Bool)} (hl : Nat.ble l.length lim = true) : stepsG [slA stC 2 l] = some (intA (stepsM l)) := by
  have h := sp1_at (A := listC stC 2) (F := fun l => bif Nat.ble l.length lim then some (intA (stepsM l)) else none) l
  rw [hl] at h
  exact h
theorem spec156 {l : List (ByteArray × Bool)} (hl : Nat.ble l.length lim = true) : step156G [slA stC 2 l, fnV 157] = some (slA strC 1 (names l)) := by
  have h := sp2_at (A := listC stC 2) (B := fnC 157) (F := fun l _ => bif Nat.ble l.length lim then some (slA strC 1 (names l)) else none) l ()
  rw [hl] at h
  exact h
theorem goL_le {l : List (ByteArray × Bool)} {m : List (ByteArray × ByteArray)} : ∀ (r : List (ByteArray × ByteArray)) (i : Nat) (st : Nat × Nat), st.1 ≤ l.length → ∀ nx, goL (signStep l m) (fun st => .inr st.1) i r st = .inr nx → nx ≤ l.length
  | [], _, st, h, nx, hn => by unfold goL at hn; cases hn; exact h
  | s :: r, i, st, h, nx, hn => by
    unfold goL at hn
    unfold signStep at hn
    cases he : signErr l m i s st.1 != 0 with
    | true => rw [he] at hn; cases hn
    | false =>
      rw [he] at hn
      have hz : signErr l m i s st.1 = 0 := by simpa using he
      have h1 := (findIx_bound (signErr_zero hz).1).2
      unfold names at h1
      rw [Nat.zero_add, List.length_map] at h1
      refine goL_le r (i + 1) _ ?_ nx hn
      cases Int.ofNat (st.2 + 1) == needM (twoOf l st.1) with
      | true => exact h1
      | false => exact h
theorem h68 : Holds 68 out68G := holds2 fun l m r hr => by
  cases hb : Nat.ble l.length lim && Nat.ble m.length lim with
  | false => simp [hb] at hr
  | true =>
    simp only [hb, cond_true, Option.some.injEq] at hr; subst hr
    rw [Bool.and_eq_true] at hb
    have hl := limTwo (Nat.le_of_ble_eq_true hb.1)
    have hm := limTwo (Nat.le_of_ble_eq_true hb.2)
    have n1 : Cx.spec (CS T8) 153 ([.rsl 2 (List.map stC.enc l) false] : List AV) = some (AV.v (.int .i64 (stepsM l))) := spec153 hb.1
    have em := e_len sgA m
    have el : Int.ofNat (List.map stC.enc l).length = Int.ofNat l.length := e_len _ l
    have c0 : EntClosed [(false, .map [] [])] := ⟨⟨ClosedL.nil, ClosedL.nil⟩, trivial⟩
    have c1 : EntClosed [(false, .map ((names l).map strA) (idxA l.length))] := ⟨⟨closedStr _, closedIdx _⟩, trivial⟩
    have c2 : EntClosed [(false, .map ((names l).map strA) (idxA l.length)), (false, .map [] [])] := ⟨⟨closedStr _, closedIdx _⟩, ⟨ClosedL.nil, ClosedL.nil⟩, trivial⟩
    unfold openR
    cases hq : openErr l m != 0 with
    | true =>
      rw [cond_true]
      have t := t68r l (m.map sgA) [] [] (stepsM l) 0
      rw [em] at t
      refine T8_ok.trW t (r' := .tup [nilS, intA (openErr l m)]) ⟨⟨rfl, n1⟩, ?_⟩ Weak.tupNil
      change (bif openErr l m != 0 then _ else _ : Dt _).ok _
      rw [hq]; rfl
    | false =>
      rw [cond_false]
      have h0 : stepsM l = 0 := by
        have : openErr l m = 0 := by simpa using hq
        unfold openErr at this
        rw [firstZ] at this
        exact this.1
      have ha := (loop68a m hl h0).says
      have hc := (loop68b (m := m) hl hm)
      cases hs : signRun l m with
      | inl e =>
        rw [hs] at hc
        have t := t68r l (m.map sgA) ((names l).map strA) (idxA l.length) (stepsM l) e
        rw [em, el] at t
        refine T8_ok.trW t (r' := .tup [nilS, intA e]) ⟨⟨rfl, n1⟩, ?_⟩ Weak.tupNil
        change (bif openErr l m != 0 then _ else _ : Dt _).ok _
        rw [hq]
        exact ⟨⟨c0, c1, ha⟩, ⟨c2, trivial, hc.says⟩, rfl⟩
      | inr nx =>
        rw [hs] at hc
        have hnx : nx ≤ l.length := goL_le m 0 (0, 0) (Nat.zero_le _) nx hs
        have n2 : Cx.spec (CS T8) 156 ([.rsl 2 (List.map stC.enc (List.drop nx l)) false, .fn (Fn.func 157) [] []] : List AV) = some (AV.rsl 1 ((names (l.drop nx)).map strA) false) := spec156 (Nat.ble_eq_true_of_le (by rw [List.length_drop]; have := Nat.le_of_ble_eq_true hb.1; omega))
        have t := t68e l (m.map sgA) ((names l).map strA) (idxA l.length) ((names (l.drop nx)).map strA) (stepsM l) nx
        rw [em, el] at t
        refine T8_ok.tr t ⟨⟨rfl, n1⟩, ?_⟩
        change (bif openErr l m != 0 then _ else _ : Dt _).ok _
        rw [hq]
        refine ⟨⟨c0, c1, ha⟩, ⟨c2, trivial, hc.says⟩, ⟨by rw [List.length_map]; exact hnx, Nat.le_refl _⟩, ⟨?_, n2⟩, rfl⟩
        rw [← List.map_drop, ← List.length_drop (i := nx), ← List.map_drop, List.take_length]
def T9 : Specs := T8.set 68 out68G
theorem T9_ok : Ok T9 := T8_ok.set h68
end Go.Vm.S3
