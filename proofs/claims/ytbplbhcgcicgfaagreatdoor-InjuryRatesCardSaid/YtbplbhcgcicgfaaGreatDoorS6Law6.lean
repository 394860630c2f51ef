/- InjuryRates. -/
import Derived.Test.YtbplbhcgcicgfaaGreatDoorS6R2
namespace Go.Vm.S6
open Go.Proofs Go.RowKit
set_option maxRecDepth 100000 in
theorem r6 (es xs : List AV) (lo hi : Int) (w : Bool) (n i : Nat) : roundD (CS R2) 60 0 6 0 121 121 false (loopOf (CS R2) 6 0) [0, 3, 27, 28, 29] [3] [0, 3, 27, 28, 29] [3] [0, 3] [3] [.rsl 1 es false, .ptr 3 0 0, .rsl 1 es false, intA (Int.ofNat n), intA (Int.ofNat i)] [(false, .box [intA lo, intA hi])] [.br [.chk [.rsl 1 xs false], .sp [.rsl 1 xs false] (boolA w)] []] =
    (bif decide (Int.ofNat i < Int.ofNat n) then (.need (es[i]? = (some (AV.rsl 1 xs false))) (.need (([.rsl 1 xs false] : List AV) = ([.rsl 1 xs false] : List AV) ∧ (Cx.spec (CS R2) 17 ([.rsl 1 xs false] : List AV)) = (some (AV.v (.bool w)))) (bif !w then (.need (EntClosed [(false, .box [.v (.int .i64 lo), .v (.int .i64 hi)])]) (.done (some ((.ret, [.rsl 1 es false, .ptr 3 0 0], [(false, .box [.v (.int .i64 lo), .v (.int .i64 hi)])]))))) else (.need (EntClosed [(false, .box [.v (.int .i64 lo), .v (.int .i64 hi)])]) (.done (some ((.nrm, [.rsl 1 es false, .ptr 3 0 0, .rsl 1 es false, .v (.int .i64 (Int.ofNat n)), .v (.int .i64 (IntKind.i64.wrap (Int.ofNat i + 1)))], [(false, .box [.v (.int .i64 lo), .v (.int .i64 hi)])])))))))) else (.need (EntClosed [(false, .box [.v (.int .i64 lo), .v (.int .i64 hi)])]) (.done (some (((.exit 0), [.rsl 1 es false, .ptr 3 0 0], [(false, .box [.v (.int .i64 lo), .v (.int .i64 hi)])])))))) := by kernel_rfl
set_option maxRecDepth 100000 in
theorem r6r (es xs : List AV) (lo hi : Int) (w : Bool) (n i : Nat) : roundD (CS R2) 60 0 6 0 121 121 false (loopOf (CS R2) 6 0) [0, 3, 27, 28, 29] [3] [0, 3, 27, 28, 29] [3] [4] [] [.rsl 1 es false, .ptr 3 0 0, .rsl 1 es false, intA (Int.ofNat n), intA (Int.ofNat i)] [(false, .box [intA lo, intA hi])] [.br [.chk [.rsl 1 xs false], .sp [.rsl 1 xs false] (boolA w)] []] =
    (bif decide (Int.ofNat i < Int.ofNat n) then (.need (es[i]? = (some (AV.rsl 1 xs false))) (.need (([.rsl 1 xs false] : List AV) = ([.rsl 1 xs false] : List AV) ∧ (Cx.spec (CS R2) 17 ([.rsl 1 xs false] : List AV)) = (some (AV.v (.bool w)))) (bif !w then (.need (EntClosed []) (.done (some ((.ret, [.v (.bool true)], []))))) else (.need (EntClosed [(false, .box [.v (.int .i64 lo), .v (.int .i64 hi)])]) (.done (some ((.nrm, [.rsl 1 es false, .ptr 3 0 0, .rsl 1 es false, .v (.int .i64 (Int.ofNat n)), .v (.int .i64 (IntKind.i64.wrap (Int.ofNat i + 1)))], [(false, .box [.v (.int .i64 lo), .v (.int .i64 hi)])])))))))) else (.need (EntClosed []) (.done (some (((.exit 0), [.bad], [])))))) := by kernel_rfl
set_option maxRecDepth 100000 in
theorem t6r (es : List AV) (lo hi : Int) : evTreeD (CS R2) 60 6 [.rsl 1 es false, .agg [intA lo, intA hi]] [.sp [] (boolA true), .br [] [.loop 0 [0, 3, 27, 28, 29] [3] [4] [] .ret [boolA true] []]] =
    (.need (([] : List AV) = ([] : List AV) ∧ (Cx.spec (CS R2) 16 ([] : List AV)) = (some (AV.v (.bool true)))) (bif decide (Int.ofNat es.length > 9) then (.done (some (.v (.bool true)))) else (.need (EntClosed [(false, .box [.v (.int .i64 lo), .v (.int .i64 hi)])] ∧ EntClosed [] ∧ Says (CS R2) 0 121 false (.loop (loopOf (CS R2) 6 0)) (mkSt [0, 3, 27, 28, 29] [3] 121 [.rsl 1 es false, .ptr 3 0 0, .rsl 1 es false, .v (.int .i64 (Int.ofNat es.length)), .v (.int .i64 0)] [(false, .box [.v (.int .i64 lo), .v (.int .i64 hi)])]) .ret (mkSt [4] [] 121 [.v (.bool true)] [])) (.done (some (.v (.bool true))))))) := by kernel_rfl
set_option maxRecDepth 100000 in
theorem t6 (es xs : List AV) (lo hi n1 n2 e1 e2 e3 c1 v1 v2 i1 i2 sx : Int) (x1 x2 : P2) (q : Bool) : evTreeD (CS R2) 60 6 [.rsl 1 es false, .agg [intA lo, intA hi]] [.sp [] (boolA true), .br [] [.loop 0 [0, 3, 27, 28, 29] [3] [0, 3] [3] (.exit 0) [.rsl 1 es false, .ptr 3 0 0] [(false, .box [intA lo, intA hi])], .sp [.rsl 1 es false] (.rsl 1 es false), .sp [.rsl 1 es false, .agg [intA lo, intA hi]] (.tup [intA n1, p2A x1, intA e1]), .sp [.rsl 1 es false] (intA c1), .br [.sp [.rsl 1 es false, .agg [intA lo, intA hi]] (.tup [intA n2, p2A x2, intA e2]), .eq (boolA q), .br [] [.br [] [.chk [.rsl 1 xs false], .sp [.rsl 1 xs false] (.rsl 1 xs false), .sp [.rsl 1 xs false] (.tup [intA v1, intA i1, intA e3]), .chk [.rsl 1 xs false], .sp [.rsl 1 xs false] (intA sx), .chk [.rsl 1 xs false], .br [.chk [.rsl 1 xs false], .sp [.rsl 1 xs false] (.tup [intA v2, intA i2])] []]]] [.eq (boolA q), .br [] [.br [] [.chk [.rsl 1 xs false], .sp [.rsl 1 xs false] (.rsl 1 xs false), .sp [.rsl 1 xs false] (.tup [intA v1, intA i1, intA e3]), .chk [.rsl 1 xs false], .sp [.rsl 1 xs false] (intA sx), .chk [.rsl 1 xs false], .br [.chk [.rsl 1 xs false], .sp [.rsl 1 xs false] (.tup [intA v2, intA i2])] []]]]]] =
    (.need (([] : List AV) = ([] : List AV) ∧ (Cx.spec (CS R2) 16 ([] : List AV)) = (some (AV.v (.bool true)))) (bif decide (Int.ofNat es.length > 9) then (.done (some (.v (.bool true)))) else (.need (EntClosed [(false, .box [.v (.int .i64 lo), .v (.int .i64 hi)])] ∧ EntClosed [(false, .box [.v (.int .i64 lo), .v (.int .i64 hi)])] ∧ Says (CS R2) 0 121 false (.loop (loopOf (CS R2) 6 0)) (mkSt [0, 3, 27, 28, 29] [3] 121 [.rsl 1 es false, .ptr 3 0 0, .rsl 1 es false, .v (.int .i64 (Int.ofNat es.length)), .v (.int .i64 0)] [(false, .box [.v (.int .i64 lo), .v (.int .i64 hi)])]) (.exit 0) (mkSt [0, 3] [3] 121 [.rsl 1 es false, .ptr 3 0 0] [(false, .box [.v (.int .i64 lo), .v (.int .i64 hi)])])) (.need (([.rsl 1 es false] : List AV) = ([.rsl 1 es false] : List AV) ∧ (Cx.spec (CS R2) 47 ([.rsl 1 es false] : List AV)) = (some (AV.rsl 1 es false))) (.need (([.rsl 1 es false, .agg [.v (.int .i64 lo), .v (.int .i64 hi)]] : List AV) = ([.rsl 1 es false, .agg [.v (.int .i64 lo), .v (.int .i64 hi)]] : List AV) ∧ (Cx.spec (CS R2) 46 ([.rsl 1 es false, .agg [.v (.int .i64 lo), .v (.int .i64 hi)]] : List AV)) = (some (AV.tup [.v (.int .i64 n1), .agg [.v (.int .i64 x1.fst), .v (.int .i64 x1.snd)], .v (.int .i64 e1)]))) (.need (([.rsl 1 es false] : List AV) = ([.rsl 1 es false] : List AV) ∧ (Cx.spec (CS R2) 48 ([.rsl 1 es false] : List AV)) = (some (AV.v (.int .i64 c1)))) (bif firstM [c1, lenM (lo, hi)] == 0 then (.need (([.rsl 1 es false, .agg [.v (.int .i64 lo), .v (.int .i64 hi)]] : List AV) = ([.rsl 1 es false, .agg [.v (.int .i64 lo), .v (.int .i64 hi)]] : List AV) ∧ (Cx.spec (CS R2) 49 ([.rsl 1 es false, .agg [.v (.int .i64 lo), .v (.int .i64 hi)]] : List AV)) = (some (AV.tup [.v (.int .i64 n2), .agg [.v (.int .i64 x2.fst), .v (.int .i64 x2.snd)], .v (.int .i64 e2)]))) (bif n1 != n2 then (.done (some (.v (.bool false)))) else (.need ((abin (CS R2) BinOp.neq 28 (Operand.tmp 66) (Operand.tmp 67) (AV.agg [.v (.int .i64 x1.fst), .v (.int .i64 x1.snd)]) (AV.agg [.v (.int .i64 x2.fst), .v (.int .i64 x2.snd)])) = (some (AV.v (.bool q)))) (bif q then (.done (some (.v (.bool false)))) else (bif e1 != e2 then (.done (some (.v (.bool false)))) else (bif Int.ofNat es.length == 0 then (.done (some (.v (.bool true)))) else (.need (es[0]? = (some (AV.rsl 1 xs false))) (.need (([.rsl 1 xs false] : List AV) = ([.rsl 1 xs false] : List AV) ∧ (Cx.spec (CS R2) 19 ([.rsl 1 xs false] : List AV)) = (some (AV.rsl 1 xs false))) (.need (([.rsl 1 xs false] : List AV) = ([.rsl 1 xs false] : List AV) ∧ (Cx.spec (CS R2) 50 ([.rsl 1 xs false] : List AV)) = (some (AV.tup [.v (.int .i64 v1), .v (.int .i64 i1), .v (.int .i64 e3)]))) (.need (es[0]? = (some (AV.rsl 1 xs false))) (.need (([.rsl 1 xs false] : List AV) = ([.rsl 1 xs false] : List AV) ∧ (Cx.spec (CS R2) 22 ([.rsl 1 xs false] : List AV)) = (some (AV.v (.int .i64 sx)))) (.need (es[0]? = (some (AV.rsl 1 xs false))) (bif firstM [sx, whenM (decide (Int.ofNat xs.length < 3)) 16] == 0 then (.need (es[0]? = (some (AV.rsl 1 xs false))) (.need (([.rsl 1 xs false] : List AV) = ([.rsl 1 xs false] : List AV) ∧ (Cx.spec (CS R2) 51 ([.rsl 1 xs false] : List AV)) = (some (AV.tup [.v (.int .i64 v2), .v (.int .i64 i2)]))) (bif v1 == v2 then (bif i1 == i2 then (.done (some (.v (.bool (e3 == firstM [sx, whenM (decide (Int.ofNat xs.length < 3)) 16]))))) else (.done (some (.v (.bool false))))) else (.done (some (.v (.bool false))))))) else (bif v1 == 0 then (bif i1 == 0 then (.done (some (.v (.bool (e3 == firstM [sx, whenM (decide (Int.ofNat xs.length < 3)) 16]))))) else (.done (some (.v (.bool false))))) else (.done (some (.v (.bool false)))))))))))))))))) else (bif n1 != 0 then (.done (some (.v (.bool false)))) else (.need ((abin (CS R2) BinOp.neq 28 (Operand.tmp 66) (Operand.tmp 67) (AV.agg [.v (.int .i64 x1.fst), .v (.int .i64 x1.snd)]) (AV.agg [.v (.int .i64 0), .v (.int .i64 0)])) = (some (AV.v (.bool q)))) (bif q then (.done (some (.v (.bool false)))) else (bif e1 != firstM [c1, lenM (lo, hi)] then (.done (some (.v (.bool false)))) else (bif Int.ofNat es.length == 0 then (.done (some (.v (.bool true)))) else (.need (es[0]? = (some (AV.rsl 1 xs false))) (.need (([.rsl 1 xs false] : List AV) = ([.rsl 1 xs false] : List AV) ∧ (Cx.spec (CS R2) 19 ([.rsl 1 xs false] : List AV)) = (some (AV.rsl 1 xs false))) (.need (([.rsl 1 xs false] : List AV) = ([.rsl 1 xs false] : List AV) ∧ (Cx.spec (CS R2) 50 ([.rsl 1 xs false] : List AV)) = (some (AV.tup [.v (.int .i64 v1), .v (.int .i64 i1), .v (.int .i64 e3)]))) (.need (es[0]? = (some (AV.rsl 1 xs false))) (.need (([.rsl 1 xs false] : List AV) = ([.rsl 1 xs false] : List AV) ∧ (Cx.spec (CS R2) 22 ([.rsl 1 xs false] : List AV)) = (some (AV.v (.int .i64 sx)))) (.need (es[0]? = (some (AV.rsl 1 xs false))) (bif firstM [sx, whenM (decide (Int.ofNat xs.length < 3)) 16] == 0 then (.need (es[0]? = (some (AV.rsl 1 xs false))) (.need (([.rsl 1 xs false] : List AV) = ([.rsl 1 xs false] : List AV) ∧ (Cx.spec (CS R2) 51 ([.rsl 1 xs false] : List AV)) = (some (AV.tup [.v (.int .i64 v2), .v (.int .i64 i2)]))) (bif v1 == v2 then (bif i1 == i2 then (.done (some (.v (.bool (e3 == firstM [sx, whenM (decide (Int.ofNat xs.length < 3)) 16]))))) else (.done (some (.v (.bool false))))) else (.done (some (.v (.bool false))))))) else (bif v1 == 0 then (bif i1 == 0 then (.done (some (.v (.bool (e3 == firstM [sx, whenM (decide (Int.ofNat xs.length < 3)) 16]))))) else (.done (some (.v (.bool false))))) else (.done (some (.v (.bool false)))))))))))))))))))))))) := by kernel_rfl
theorem neT28 (S : Specs) (xo yo : Operand) (x : P2) : abin (CS S) .neq 28 xo yo (.agg [intA x.1, intA x.2]) (.agg [intA x.1, intA x.2]) = some (gB false) := by
  rw [(eqRa S xo yo _ _ _ _).2, beq_self_eq_true, beq_self_eq_true]; rfl
theorem specOwnM {ls : List (List Int)} (h : msOk ls = true) : ownMG [slA intsC 1 ls] = some (slA intsC 1 ls) := by
  have h1 := sp1_at (A := msC) (F := fun ls => bif msOk ls then some (slA intsC 1 ls) else none) ls
  rw [h] at h1; exact h1
def law6G : List AV → Option AV := sp2 msC p2C fun _ _ => some (boolA true)
theorem h6 : Holds 6 law6G := holds2 fun ls k r hr => by
  simp only [Option.some.injEq] at hr; subst hr
  have f16 : awakeG [] = some (boolA true) := rfl
  have e := e_len' intsC ls
  cases hl9 : decide (Int.ofNat ls.length > 9) with
  | true =>
    have ht := t6r (ls.map intsC.enc) k.1 k.2
    rw [e, hl9] at ht
    exact R2_ok.tr ht ⟨⟨rfl, f16⟩, rfl⟩
  | false =>
    have hn : ls.length ≤ 9 := by simp only [decide_eq_false_iff_not, Int.ofNat_eq_natCast] at hl9; omega
    have hl : ls.length < two63 := by unfold two63; omega
    have h := LoopRun.find (C := CS R2) (p := 0) (nt := 121) (rd := false) (c := loopOf (CS R2) 6 0) shS (fun i => mkSt [0, 3, 27, 28, 29] [3] 121 [.rsl 1 (ls.map intsC.enc) false, .ptr 3 0 0, .rsl 1 (ls.map intsC.enc) false, intA (Int.ofNat ls.length), intA (Int.ofNat i)] [(false, .box [intA k.1, intA k.2])])
      (fun _ => mkSt [4] [] 121 [boolA true] []) (mkSt [0, 3] [3] 121 [.rsl 1 (ls.map intsC.enc) false, .ptr 3 0 0] [(false, .box [intA k.1, intA k.2])]) (.exit 0) (fun _ => .ret) ls (by simp) (by simp)
      (fun i x hx => by
        have hi := lt_len hx
        unfold shS
        cases hs : shortM x.length with
        | true =>
          have hr := r6 (ls.map intsC.enc) (x.map intA) k.1 k.2 (shortM x.length) ls.length i
          rw [lt_of hi, wrap_ix hi hl, hs] at hr
          exact R2_ok.rndN hr ⟨get_map _ hx, ⟨rfl, by have := specShort x; rw [hs] at this; exact this⟩, trivial, rfl⟩
        | false =>
          have hr := r6r (ls.map intsC.enc) (x.map intA) k.1 k.2 (shortM x.length) ls.length i
          rw [lt_of hi, wrap_ix hi hl, hs] at hr
          exact R2_ok.rndR hr ⟨get_map _ hx, ⟨rfl, by have := specShort x; rw [hs] at this; exact this⟩, trivial, rfl⟩)
      (R2_ok.rndX (r6 (ls.map intsC.enc) [] k.1 k.2 true ls.length ls.length) (by rw [lt_self]; exact ⟨trivial, rfl⟩))
    cases hq : srch shS 0 ls with
    | some u =>
      rw [hq] at h
      have ht := t6r (ls.map intsC.enc) k.1 k.2
      rw [e, hl9] at ht
      exact R2_ok.tr ht ⟨⟨rfl, f16⟩, ⟨trivial, trivial, h.says⟩, rfl⟩
    | none =>
      rw [hq] at h
      have hall := sh_all hq
      have hb : msOk ls = true := by
        unfold msOk
        rw [Bool.and_eq_true, List.all_eq_true]
        exact ⟨Nat.ble_eq_true_of_le (by unfold lim; omega), fun l hl => shortLim (hall l hl)⟩
      have f46 : pwsG [slA intsC 1 ls, p2A k] = some (pwsM ls k) := specAt2 (A := msC) (B := p2C) (b := fun ls _ => msOk ls) (F := fun ls k => pwsM ls k) ls k hb
      have f48 : mnyG [slA intsC 1 ls] = some (intA (mnyM ls)) := by
        have h1 := sp1_at (A := msC) (F := fun ls => bif msOk ls then some (intA (mnyM ls)) else none) ls
        rw [hb] at h1; exact h1
      have f49 : wsErr ls k = 0 → rwsG [slA intsC 1 ls, p2A k] = some (.tup [intA (wsV (wstM ls k)).1, p2A (wsV (wstM ls k)).2, intA (wsE (wstM ls k))]) := fun h0 => by
        rw [← wsT_eq]
        exact specAt2 (A := msC) (B := p2C) (b := fun ls k => wsOk ls k) (F := fun ls k => wsT (wstM ls k)) ls k (wsErrZ (msOk_at hb).1 h0)
      have eE : firstM [mnyM ls, lenM (k.1, k.2)] = wsErr ls k := nestB _ _ _
      obtain ⟨xs, hxs⟩ : ∃ xs : List Int, ls = [] ∨ ls[0]? = some xs := by
        cases ls with
        | nil => exact ⟨[], .inl rfl⟩
        | cons x r => exact ⟨x, .inr rfl⟩
      have ht := t6 (ls.map intsC.enc) (xs.map intA) k.1 k.2 (bif wsErr ls k == 0 then (wsV (wstM ls k)).1 else 0) (bif wsErr ls k == 0 then (wsV (wstM ls k)).1 else 0) (bif wsErr ls k == 0 then wsE (wstM ls k) else wsErr ls k) (bif wsErr ls k == 0 then wsE (wstM ls k) else wsErr ls k) (vErr xs) (mnyM ls)
        (bif vErr xs == 0 then (visM xs).1 else 0) (visM xs).1 (bif vErr xs == 0 then Int.ofNat (visM xs).2 else 0) (Int.ofNat (visM xs).2) (seriesM xs) (bif wsErr ls k == 0 then (wsV (wstM ls k)).2 else (0, 0)) (bif wsErr ls k == 0 then (wsV (wstM ls k)).2 else (0, 0)) false
      have eV : firstM [seriesM xs, whenM (decide (Int.ofNat xs.length < 3)) 16] = vErr xs := rfl
      rw [e, hl9, eE, e_len, eV] at ht
      refine R2_ok.tr ht ⟨⟨rfl, f16⟩, ⟨trivial, trivial, h.says⟩, ⟨rfl, specOwnM hb⟩, ⟨rfl, f46⟩, ⟨rfl, f48⟩, ?_⟩
      have g50 : ls[0]? = some xs → pviG [slA intC 1 xs] = some (pviM xs) := fun hx => by
        have h1 := sp1_at (A := intsC) (F := fun l => bif Nat.ble l.length lim then some (pviM l) else none) xs
        rw [(msOk_at hb).2 xs (List.mem_of_getElem? hx)] at h1; exact h1
      have g51 : ls[0]? = some xs → vErr xs = 0 → rviG [slA intC 1 xs] = some (.tup [intA (visM xs).1, intA (Int.ofNat (visM xs).2)]) := fun hx hv => by
        have h1 := sp1_at (A := intsC) (F := fun l => bif Nat.ble 3 l.length && Nat.ble l.length lim then some (.tup [intA (visM l).1, intA (Int.ofNat (visM l).2)]) else none) xs
        rw [(msOk_at hb).2 xs (List.mem_of_getElem? hx), Nat.ble_eq_true_of_le (vErrZ hv).2] at h1; exact h1
      have hlen0 : ∀ {x : List Int}, ls[0]? = some x → (Int.ofNat ls.length == 0) = false := fun {x} hx => by
        have := lt_len hx
        simp only [Int.ofNat_eq_natCast, beq_eq_false_iff_ne, ne_eq]; omega
      cases hA : wsErr ls k == 0 with
      | true =>
        have g49 := f49 (by simpa using hA)
        rcases hxs with rfl | hx
        · simp only [cond_true, bne_self_eq_false, cond_false]
          exact ⟨⟨trivial, g49⟩, neT28 .., rfl⟩
        · have hser := specSer ((msOk_at hb).2 xs (List.mem_of_getElem? hx))
          have hown := specOwn ((msOk_at hb).2 xs (List.mem_of_getElem? hx))
          cases hB : vErr xs == 0 with
          | true =>
            simp only [cond_true, bne_self_eq_false, cond_false, hlen0 hx, beq_self_eq_true]
            exact ⟨⟨trivial, g49⟩, neT28 .., get_map _ hx, ⟨trivial, hown⟩, ⟨trivial, by have := g50 hx; unfold pviM at this; rw [hB] at this; exact this⟩, get_map _ hx, ⟨trivial, hser⟩, get_map _ hx, get_map _ hx, ⟨trivial, g51 hx (by simpa using hB)⟩, rfl⟩
          | false =>
            simp only [cond_true, bne_self_eq_false, cond_false, hlen0 hx, beq_self_eq_true]
            exact ⟨⟨trivial, g49⟩, neT28 .., get_map _ hx, ⟨trivial, hown⟩, ⟨trivial, by have := g50 hx; unfold pviM at this; rw [hB] at this; exact this⟩, get_map _ hx, ⟨trivial, hser⟩, get_map _ hx, rfl⟩
      | false =>
        rcases hxs with rfl | hx
        · simp only [bne_self_eq_false, cond_false]
          exact ⟨neT28 R2 _ _ (0, 0), rfl⟩
        · have hser := specSer ((msOk_at hb).2 xs (List.mem_of_getElem? hx))
          have hown := specOwn ((msOk_at hb).2 xs (List.mem_of_getElem? hx))
          cases hB : vErr xs == 0 with
          | true =>
            simp only [cond_true, bne_self_eq_false, cond_false, hlen0 hx, beq_self_eq_true]
            exact ⟨neT28 R2 _ _ (0, 0), get_map _ hx, ⟨trivial, hown⟩, ⟨trivial, by have := g50 hx; unfold pviM at this; rw [hB] at this; exact this⟩, get_map _ hx, ⟨trivial, hser⟩, get_map _ hx, get_map _ hx, ⟨trivial, g51 hx (by simpa using hB)⟩, rfl⟩
          | false =>
            simp only [cond_true, bne_self_eq_false, cond_false, hlen0 hx, beq_self_eq_true]
            exact ⟨neT28 R2 _ _ (0, 0), get_map _ hx, ⟨trivial, hown⟩, ⟨trivial, by have := g50 hx; unfold pviM at this; rw [hB] at this; exact this⟩, get_map _ hx, ⟨trivial, hser⟩, get_map _ hx, rfl⟩
end Go.Vm.S6
