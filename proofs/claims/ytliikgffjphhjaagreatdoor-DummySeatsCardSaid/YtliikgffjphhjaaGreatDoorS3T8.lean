/- Seats: checkSteps of the program, with its map. -/
import Derived.Test.YtliikgffjphhjaaGreatDoorS3T7
import Derived.Test.YtliikgffjphhjaaGreatDoorVmH
namespace Go.Vm.S3
open Go.Proofs Go.RowKit
set_option maxRecDepth 100000 in
theorem r153 (es ks vs ks1 vs1 : List AV) (x : ByteArray × Bool) (k : Bool) (i n : Nat) : roundD (CS T7) 60 0 153 0 45 45 false (loopOf (CS T7) 153 0) [4, 22, 23, 24] [21] [4, 22, 23, 24] [21] [2] [] [.mp 21 0, .rsl 2 es false, intA (Int.ofNat n), intA (Int.ofNat i)] [(false, .map ks vs)] [.br [.chk [stA x], .chk [boolA k], .br [] [.mu ks1 vs1]] []] =
    (bif decide (Int.ofNat i < Int.ofNat n) then (.need (es[i]? = (some (AV.agg [.v (.string x.fst), .v (.bool x.snd)]))) (.need ((alookup (CS T7) Tr.leaf 277 (AV.rmp ks vs) (AV.v (.string x.fst)) false) = (some (AV.v (.bool k)))) (bif firstM [nameErr x.fst, whenM k 9] != 0 then (.need (EntClosed []) (.done (some ((.ret, [.v (.int .i64 (firstM [nameErr x.fst, whenM k 9]))], []))))) else (.need ((mapUpd (CS T7) 277 ks vs (AV.v (.string x.fst)) (AV.v (.bool true))) = (some (ks1, vs1))) (.need (EntClosed [(false, .map ks1 vs1)]) (.done (some ((.nrm, [.mp 21 0, .rsl 2 es false, .v (.int .i64 (Int.ofNat n)), .v (.int .i64 (IntKind.i64.wrap (Int.ofNat i + 1)))], [(false, .map ks1 vs1)]))))))))) else (.need (EntClosed []) (.done (some (((.exit 0), [.bad], [])))))) := by kernel_rfl
set_option maxRecDepth 100000 in
theorem t153r (es : List AV) (k : Int) : evTreeD (CS T7) 60 153 [.rsl 2 es false] [.br [] [.loop 0 [4, 22, 23, 24] [21] [2] [] .ret [intA k] []]] =
    (bif firstM [whenM (Int.ofNat es.length == 0) 12, whenM (decide (Int.ofNat es.length > 32)) 5] != 0 then (.done (some (.v (.int .i64 (firstM [whenM (Int.ofNat es.length == 0) 12, whenM (decide (Int.ofNat es.length > 32)) 5]))))) else (.need (EntClosed [(false, .map [] [])] ∧ EntClosed [] ∧ Says (CS T7) 0 45 false (.loop (loopOf (CS T7) 153 0)) (mkSt [4, 22, 23, 24] [21] 45 [.mp 21 0, .rsl 2 es false, .v (.int .i64 (Int.ofNat es.length)), .v (.int .i64 0)] [(false, .map [] [])]) .ret (mkSt [2] [] 45 [.v (.int .i64 k)] [])) (.done (some (.v (.int .i64 k)))))) := by kernel_rfl
set_option maxRecDepth 100000 in
theorem t153e (es : List AV) : evTreeD (CS T7) 60 153 [.rsl 2 es false] [.br [] [.loop 0 [4, 22, 23, 24] [21] [2] [] (.exit 0) [.bad] []]] =
    (bif firstM [whenM (Int.ofNat es.length == 0) 12, whenM (decide (Int.ofNat es.length > 32)) 5] != 0 then (.done (some (.v (.int .i64 (firstM [whenM (Int.ofNat es.length == 0) 12, whenM (decide (Int.ofNat es.length > 32)) 5]))))) else (.need (EntClosed [(false, .map [] [])] ∧ EntClosed [] ∧ Says (CS T7) 0 45 false (.loop (loopOf (CS T7) 153 0)) (mkSt [4, 22, 23, 24] [21] 45 [.mp 21 0, .rsl 2 es false, .v (.int .i64 (Int.ofNat es.length)), .v (.int .i64 0)] [(false, .map [] [])]) (.exit 0) (mkSt [2] [] 45 [.bad] [])) (.done (some (.v (.int .i64 0)))))) := by kernel_rfl
theorem bseq_comm (x y : ByteArray) : bseq x y = seq y x := by unfold bseq seq; rw [Bool.eq_iff_iff]; simp only [beq_iff_eq]; exact ⟨Eq.symm, Eq.symm⟩
theorem findIx_bound {s : ByteArray} : ∀ {ks : List ByteArray} {i j : Nat}, findIx s ks i = some j → i ≤ j ∧ j < i + ks.length
  | [], i, j, h => by simp [findIx] at h
  | a :: r, i, j, h => by
    unfold findIx at h
    cases hb : bseq s a with
    | true => rw [hb] at h; simp only [cond_true, Option.some.injEq] at h; subst h; simp
    | false => rw [hb] at h; have := findIx_bound (ks := r) h; simp only [List.length_cons]; omega
theorem srch_findIx (s : ByteArray) : ∀ (l : List (ByteArray × Bool)) (i : Nat), srch (fun i (x : ByteArray × Bool) => bif seq x.1 s then some (Int.ofNat i) else none) i l = (findIx s (l.map fun x => x.1) i).map Int.ofNat
  | [], _ => rfl
  | x :: r, i => by
    unfold srch
    rw [List.map_cons]
    unfold findIx
    rw [bseq_comm]
    cases seq x.1 s with
    | true => rfl
    | false => exact srch_findIx s r (i + 1)
theorem findM_ix (l : List (ByteArray × Bool)) (s : ByteArray) : findM l s = ((findIx s (l.map fun x => x.1) 0).map Int.ofNat).getD (-1) := by
  unfold findM
  rw [srch_findIx]
theorem findM_ge (l : List (ByteArray × Bool)) (s : ByteArray) : decide (findM l s ≥ 0) = (findIx s (l.map fun x => x.1) 0).isSome := by
  rw [findM_ix]
  cases findIx s (l.map fun x => x.1) 0 with
  | none => rfl
  | some j => simp
set_option maxRecDepth 100000 in
theorem map277 (S : Specs) : StrMap (CS S) 277 (.bool false) := strMap_of (kt := 9) (et := 4) (zb := isFalse) isFalse_eq (by kernel_rfl)
set_option maxRecDepth 100000 in
theorem map196 (S : Specs) : StrMap (CS S) 196 (.int .i64 0) := strMap_of (kt := 9) (et := 3) (zb := isZero) isZero_eq (by kernel_rfl)
theorem take_succ_map {α β : Type} (f : α → β) {l : List α} {i : Nat} {x : α} (h : l[i]? = some x) : (l.take (i + 1)).map f = (l.take i).map f ++ [f x] := by
  rw [List.take_add_one, h]; simp
/-! ### checkSteps, of the program -/
def keysA (l : List (ByteArray × Bool)) : List AV := (l.map fun x => x.1).map strA
def truesA (l : List (ByteArray × Bool)) : List AV := l.map fun _ => boolA true
theorem closedTrue (l : List (ByteArray × Bool)) : ClosedL (truesA l) := ClosedL.map fun _ => rfl
theorem h153 : Holds 153 stepsG := holds1 fun l r hr => by
  cases hb : Nat.ble l.length lim with
  | false => simp [hb] at hr
  | true =>
    simp only [hb, cond_true, Option.some.injEq] at hr; subst hr
    have hl := limTwo (Nat.le_of_ble_eq_true hb)
    have e := e_len stA l
    have h := LoopRun.find (C := CS T7) (p := 0) (nt := 45) (rd := false) (c := loopOf (CS T7) 153 0) (fun i (x : ByteArray × Bool) => bif stepErr l i x != 0 then some (stepErr l i x) else none)
      (fun i => mkSt [4, 22, 23, 24] [21] 45 [.mp 21 0, .rsl 2 (l.map stA) false, intA (Int.ofNat l.length), intA (Int.ofNat i)] [(false, .map (keysA (l.take i)) (truesA (l.take i)))])
      (fun t => mkSt [2] [] 45 [intA t] []) (mkSt [2] [] 45 [.bad] []) (.exit 0) (fun _ => .ret) l (by simp) (by simp)
      (fun i x hx => by
        have hi := lt_len hx
        have g := get_map stA hx
        have q : alookup (CS T7) Tr.leaf 277 (AV.rmp (keysA (l.take i)) (truesA (l.take i))) (AV.v (.string x.1)) false = some (AV.v (.bool (findIx x.1 ((l.take i).map fun x => x.1) 0).isSome)) := by
          have q0 := (map277 T7).look Tr.leaf ((l.take i).map fun x => x.1) (truesA (l.take i)) x.1 false
          show alookup (CS T7) Tr.leaf 277 (.rmp (((l.take i).map fun x => x.1).map strA) (truesA (l.take i))) (strA x.1) false = _
          rw [q0]
          cases hf : findIx x.1 ((l.take i).map fun x => x.1) 0 with
          | none => rfl
          | some j =>
            have hj := (findIx_bound hf).2
            rw [Nat.zero_add, List.length_map] at hj
            have : (truesA (l.take i))[j]? = some (boolA true) := by
              unfold truesA
              rw [List.getElem?_map, List.getElem?_eq_getElem hj]; rfl
            simp only [this]; rfl
        cases h : stepErr l i x != 0 with
        | true =>
          refine T7_ok.rndR (r153 (l.map stA) (keysA (l.take i)) (truesA (l.take i)) [] [] x (findIx x.1 ((l.take i).map fun x => x.1) 0).isSome i l.length) ?_
          unfold stepErr at h ⊢
          rw [findM_ge] at h ⊢
          rw [lt_of hi, h]
          exact ⟨g, q, trivial, rfl⟩
        | false =>
          have hn : findIx x.1 ((l.take i).map fun x => x.1) 0 = none := by
            have h0 : stepErr l i x = 0 := by simpa using h
            unfold stepErr at h0
            rw [findM_ge, firstZ, firstZ] at h0
            have h1 := h0.2.1
            cases hf : findIx x.1 ((l.take i).map fun x => x.1) 0 with
            | none => rfl
            | some j =>
              rw [hf] at h1
              have h2 : whenM true 9 = 0 := h1
              exact absurd h2 (by decide)
          have u : mapUpd (CS T7) 277 (keysA (l.take i)) (truesA (l.take i)) (AV.v (.string x.1)) (AV.v (.bool true)) = some (keysA (l.take (i + 1)), truesA (l.take (i + 1))) := by
            have := (map277 T7).add (vs := truesA (l.take i)) (v := boolA true) hn
            refine this.trans ?_
            unfold keysA truesA
            rw [take_succ_map _ hx, take_succ_map _ hx]
          refine T7_ok.rndN (r153 (l.map stA) (keysA (l.take i)) (truesA (l.take i)) (keysA (l.take (i + 1))) (truesA (l.take (i + 1))) x (findIx x.1 ((l.take i).map fun x => x.1) 0).isSome i l.length) ?_
          unfold stepErr at h
          rw [findM_ge] at h
          rw [lt_of hi, wrap_ix hi hl, h]
          exact ⟨g, q, u, ⟨⟨closedStr _, closedTrue _⟩, trivial⟩, rfl⟩)
      (T7_ok.rndX (r153 (l.map stA) (keysA (l.take l.length)) (truesA (l.take l.length)) [] [] (⟨#[]⟩, false) false l.length l.length) (by rw [lt_self]; exact ⟨trivial, rfl⟩))
    unfold stepsM srchE
    have c0 : EntClosed [(false, .map [] [])] := ⟨⟨ClosedL.nil, ClosedL.nil⟩, trivial⟩
    cases hm : manyM l.length 32 != 0 with
    | true => exact T7_ok.tr (t153e (l.map stA)) (by rw [e]; change (bif manyM l.length 32 != 0 then _ else _ : Dt _).ok _; rw [hm]; rfl)
    | false =>
      cases hq : srch (fun i (x : ByteArray × Bool) => bif stepErr l i x != 0 then some (stepErr l i x) else none) 0 l with
      | some t => rw [hq] at h; exact T7_ok.tr (t153r (l.map stA) t) (by rw [e]; change (bif manyM l.length 32 != 0 then _ else _ : Dt _).ok _; rw [hm]; exact ⟨⟨c0, trivial, h.says⟩, rfl⟩)
      | none => rw [hq] at h; exact T7_ok.tr (t153e (l.map stA)) (by rw [e]; change (bif manyM l.length 32 != 0 then _ else _ : Dt _).ok _; rw [hm]; exact ⟨⟨c0, trivial, h.says⟩, rfl⟩)
def T8 : Specs := T7.set 153 stepsG
theorem T8_ok : Ok T8 := T7_ok.set h153
end Go.Vm.S3
