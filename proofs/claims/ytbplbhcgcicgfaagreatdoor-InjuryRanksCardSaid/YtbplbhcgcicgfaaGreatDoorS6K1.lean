/- Ranks: checks, the closure, the reference's ranks. -/
import Derived.Test.YtbplbhcgcicgfaaGreatDoorS6LA
import Derived.Test.YtbplbhcgcicgfaaGreatDoorS6PT
namespace Go.Vm.S6
open Go.Proofs Go.RowKit
set_option maxRecDepth 100000 in
theorem t72 (es : List AV) : evTreeD (CS T8) 60 72 [.rsl 2 es false] [] =
    (.done (some (.v (.bool (decide (Int.ofNat es.length ≤ 16)))))) := by kernel_rfl
set_option maxRecDepth 100000 in
theorem r164a (es : List AV) (n i : Nat) (x : P2) : roundD (CS T8) 60 0 164 0 22 22 false (loopOf (CS T8) 164 0) [1, 5, 8, 9, 10] [] [1, 5, 8, 9, 10] [19] [5] [] (mapIn (fnV 102) nilS 2 es n i) [] [.chk [p2C.enc x]] =
    (bif decide (Int.ofNat i < Int.ofNat n) then (.need (es[i]? = (some (AV.agg [.v (.int .i64 x.fst), .v (.int .i64 x.snd)]))) (.need (EntClosed [(false, .arr 1 [.v (.int .i64 (ratErr x))] false)]) (.done (some ((.nrm, [.fn (Fn.func 102) [] [], .sl 19 0 1 0 1, .rsl 2 es false, .v (.int .i64 (Int.ofNat n)), .v (.int .i64 (IntKind.i64.wrap (Int.ofNat i + 1)))], [(false, .arr 1 [.v (.int .i64 (ratErr x))] false)])))))) else (.need (EntClosed []) (.done (some (((.exit 0), [.v (.slice none 0 0)], [])))))) := by kernel_rfl
set_option maxRecDepth 100000 in
theorem r164b (es rs : List AV) (n i k : Nat) (x : P2) : roundD (CS T8) 60 0 164 0 22 22 false (loopOf (CS T8) 164 0) [1, 5, 8, 9, 10] [19] [1, 5, 8, 9, 10] [19] [5] [19] (mapIn (fnV 102) (.sl 19 0 1 0 k) 2 es n i) [(false, .arr 1 rs false)] [.chk [p2C.enc x], .chk rs] =
    (bif decide (Int.ofNat i < Int.ofNat n) then (.need (es[i]? = (some (AV.agg [.v (.int .i64 x.fst), .v (.int .i64 x.snd)]))) (.need (k = rs.length ∧ true = true ∧ 1 = 1 ∧ (rs ++ ([.v (.int .i64 (ratErr x))] : List AV)).length * 8 ≤ 35184372088832 ∧ (rs ++ ([.v (.int .i64 (ratErr x))] : List AV)).length ≤ 35184372088832 ∧ 8 ≠ 0) (.need (EntClosed [(false, .arr 1 (rs ++ ([.v (.int .i64 (ratErr x))] : List AV)) false)]) (.done (some ((.nrm, [.fn (Fn.func 102) [] [], .sl 19 0 1 0 ((rs ++ ([.v (.int .i64 (ratErr x))] : List AV)).length), .rsl 2 es false, .v (.int .i64 (Int.ofNat n)), .v (.int .i64 (IntKind.i64.wrap (Int.ofNat i + 1)))], [(false, .arr 1 (rs ++ ([.v (.int .i64 (ratErr x))] : List AV)) false)]))))))) else (.need (EntClosed [(false, .arr 1 rs false)]) (.done (some (((.exit 0), [.sl 19 0 1 0 k], [(false, .arr 1 rs false)])))))) := by kernel_rfl
set_option maxRecDepth 100000 in
theorem t164 (es rs : List AV) : evTreeD (CS T8) 60 164 [.rsl 2 es false, fnV 102] [.loop 0 [1, 5, 8, 9, 10] [] [5] [] (.exit 0) [.rsl 1 rs false] []] =
    (.need (EntClosed [] ∧ EntClosed [] ∧ Says (CS T8) 0 22 false (.loop (loopOf (CS T8) 164 0)) (mkSt [1, 5, 8, 9, 10] [] 22 [.fn (Fn.func 102) [] [], .v (.slice none 0 0), .rsl 2 es false, .v (.int .i64 (Int.ofNat es.length)), .v (.int .i64 0)] []) (.exit 0) (mkSt [5] [] 22 [.rsl 1 rs false] [])) (.done (some (.rsl 1 rs false)))) := by kernel_rfl
set_option maxRecDepth 100000 in
theorem t74 (es : List AV) : evTreeD (CS T8) 60 74 [.rsl 2 es false] [.cl] =
    (.need (CloP 2 2 16 es (([] : List AV) ++ es)) (.done (some (.rsl 2 (([] : List AV) ++ es) false)))) := by kernel_rfl
set_option maxRecDepth 100000 in
theorem t147 (es : List AV) (i j : Nat) (x y : P2) (c : Int) : evTreeD (CS T8) 60 147 [intA (Int.ofNat i), intA (Int.ofNat j), .rptr [.rsl 2 es false]] [.chk [p2A x], .chk [p2A y], .sp [p2A x, p2A y] (intA c)] =
    (.need (es[i]? = (some (AV.agg [.v (.int .i64 x.fst), .v (.int .i64 x.snd)]))) (.need (es[j]? = (some (AV.agg [.v (.int .i64 y.fst), .v (.int .i64 y.snd)]))) (.need (([.agg [.v (.int .i64 x.fst), .v (.int .i64 x.snd)], .agg [.v (.int .i64 y.fst), .v (.int .i64 y.snd)]] : List AV) = ([.agg [.v (.int .i64 x.fst), .v (.int .i64 x.snd)], .agg [.v (.int .i64 y.fst), .v (.int .i64 y.snd)]] : List AV) ∧ (Cx.spec (CS T8) 119 ([.agg [.v (.int .i64 x.fst), .v (.int .i64 x.snd)], .agg [.v (.int .i64 y.fst), .v (.int .i64 y.snd)]] : List AV)) = (some (AV.v (.int .i64 c)))) (.done (some (.v (.int .i64 c))))))) := by kernel_rfl
set_option maxRecDepth 100000 in
theorem r76 (es : List AV) (i : Nat) (x : P2) (e : Int) : roundD (CS T8) 60 0 76 0 26 26 false (loopOf (CS T8) 76 0) [0, 4] [] [0, 4] [] [2] [] [.rsl 2 es false, intA (Int.ofNat i)] [] [.br [.chk [p2A x], .sp [p2A x] (intA e), .br [] []] []] =
    (bif decide (Int.ofNat i < Int.ofNat es.length) then (.need (es[i]? = (some (AV.agg [.v (.int .i64 x.fst), .v (.int .i64 x.snd)]))) (.need (([.agg [.v (.int .i64 x.fst), .v (.int .i64 x.snd)]] : List AV) = ([.agg [.v (.int .i64 x.fst), .v (.int .i64 x.snd)]] : List AV) ∧ (Cx.spec (CS T8) 26 ([.agg [.v (.int .i64 x.fst), .v (.int .i64 x.snd)]] : List AV)) = (some (AV.v (.int .i64 e)))) (bif e != 0 then (.need (EntClosed []) (.done (some ((.ret, [.v (.int .i64 e)], []))))) else (.need (EntClosed []) (.done (some ((.nrm, [.rsl 2 es false, .v (.int .i64 (IntKind.i64.wrap (Int.ofNat i + 1)))], [])))))))) else (.need (EntClosed []) (.done (some (((.exit 0), [.bad], [])))))) := by kernel_rfl
set_option maxRecDepth 100000 in
theorem t76c (es : List AV) (e : Int) : evTreeD (CS T8) 60 76 [.rsl 2 es false] [.sp [intA (Int.ofNat es.length), intA 15] (intA e), .as 10 true] =
    (.need (([.v (.int .i64 (Int.ofNat es.length)), .v (.int .i64 15)] : List AV) = ([.v (.int .i64 (Int.ofNat es.length)), .v (.int .i64 15)] : List AV) ∧ (Cx.spec (CS T8) 103 ([.v (.int .i64 (Int.ofNat es.length)), .v (.int .i64 15)] : List AV)) = (some (AV.v (.int .i64 e)))) (.need ((e != 0) = true) (.done (some (.v (.int .i64 e)))))) := by kernel_rfl
set_option maxRecDepth 100000 in
theorem t76r (es : List AV) (e x : Int) : evTreeD (CS T8) 60 76 [.rsl 2 es false] [.sp [intA (Int.ofNat es.length), intA 15] (intA e), .as 10 false, .loop 0 [0, 4] [] [2] [] .ret [intA x] []] =
    (.need (([.v (.int .i64 (Int.ofNat es.length)), .v (.int .i64 15)] : List AV) = ([.v (.int .i64 (Int.ofNat es.length)), .v (.int .i64 15)] : List AV) ∧ (Cx.spec (CS T8) 103 ([.v (.int .i64 (Int.ofNat es.length)), .v (.int .i64 15)] : List AV)) = (some (AV.v (.int .i64 e)))) (.need ((e != 0) = false) (.need (EntClosed [] ∧ EntClosed [] ∧ Says (CS T8) 0 26 false (.loop (loopOf (CS T8) 76 0)) (mkSt [0, 4] [] 26 [.rsl 2 es false, .v (.int .i64 0)] []) .ret (mkSt [2] [] 26 [.v (.int .i64 x)] [])) (.done (some (.v (.int .i64 x))))))) := by kernel_rfl
set_option maxRecDepth 100000 in
theorem t76e (es : List AV) (e : Int) : evTreeD (CS T8) 60 76 [.rsl 2 es false] [.sp [intA (Int.ofNat es.length), intA 15] (intA e), .as 10 false, .loop 0 [0, 4] [] [2] [] (.exit 0) [.bad] []] =
    (.need (([.v (.int .i64 (Int.ofNat es.length)), .v (.int .i64 15)] : List AV) = ([.v (.int .i64 (Int.ofNat es.length)), .v (.int .i64 15)] : List AV) ∧ (Cx.spec (CS T8) 103 ([.v (.int .i64 (Int.ofNat es.length)), .v (.int .i64 15)] : List AV)) = (some (AV.v (.int .i64 e)))) (.need ((e != 0) = false) (.need (EntClosed [] ∧ EntClosed [] ∧ Says (CS T8) 0 26 false (.loop (loopOf (CS T8) 76 0)) (mkSt [0, 4] [] 26 [.rsl 2 es false, .v (.int .i64 0)] []) (.exit 0) (mkSt [2] [] 26 [.bad] [])) (.done (some (.v (.int .i64 0))))))) := by kernel_rfl
set_option maxRecDepth 100000 in
theorem r782aX (es bs : List AV) (n m i j : Nat) (b : Int) : roundD (CS T8) 60 0 78 0 51 51 false (loopOf (CS T8) 78 2) [0, 3, 4, 5, 6, 11, 12] [9] [0, 3, 4, 5, 6, 11, 12] [9] [0, 3, 4, 5, 11, 12] [9] [.rsl 2 es false, nilS, .sl 9 0 1 0 n, intA b, intA (Int.ofNat j), intA (Int.ofNat m), intA (Int.ofNat i)] [(false, .arr 1 bs true)] [.as 17 false] =
    (.need ((decide (Int.ofNat j < Int.ofNat es.length)) = false) (.need (EntClosed [(false, .arr 1 bs true)]) (.done (some (((.exit 2), [.rsl 2 es false, .v (.slice none 0 0), .sl 9 0 1 0 n, .v (.int .i64 b), .v (.int .i64 (Int.ofNat m)), .v (.int .i64 (Int.ofNat i))], [(false, .arr 1 bs true)])))))) := by kernel_rfl
set_option maxRecDepth 100000 in
theorem r782aT (es bs : List AV) (n m i j : Nat) (b : Int) : roundD (CS T8) 60 0 78 0 51 51 false (loopOf (CS T8) 78 2) [0, 3, 4, 5, 6, 11, 12] [9] [0, 3, 4, 5, 6, 11, 12] [9] [0, 3, 4, 5, 11, 12] [9] [.rsl 2 es false, nilS, .sl 9 0 1 0 n, intA b, intA (Int.ofNat j), intA (Int.ofNat m), intA (Int.ofNat i)] [(false, .arr 1 bs true)] [.as 17 true, .chk ([] : List AV), .ld (boolA true), .as 25 false] =
    (.need ((decide (Int.ofNat j < Int.ofNat es.length)) = true) (.need (j < n) (.need (bs[(0 + j)]? = (some (AV.v (.bool true)))) (.need ((!true) = false) (.need (EntClosed [(false, .arr 1 bs true)]) (.done (some ((.nrm, [.rsl 2 es false, .v (.slice none 0 0), .sl 9 0 1 0 n, .v (.int .i64 b), .v (.int .i64 (IntKind.i64.wrap (Int.ofNat j + 1))), .v (.int .i64 (Int.ofNat m)), .v (.int .i64 (Int.ofNat i))], [(false, .arr 1 bs true)]))))))))) := by kernel_rfl
set_option maxRecDepth 100000 in
theorem r782aN (es bs : List AV) (n m i j : Nat) : roundD (CS T8) 60 0 78 0 51 51 false (loopOf (CS T8) 78 2) [0, 3, 4, 5, 6, 11, 12] [9] [0, 3, 4, 5, 6, 11, 12] [9] [0, 3, 4, 5, 11, 12] [9] [.rsl 2 es false, nilS, .sl 9 0 1 0 n, intA (-1), intA (Int.ofNat j), intA (Int.ofNat m), intA (Int.ofNat i)] [(false, .arr 1 bs true)] [.as 17 true, .chk ([] : List AV), .ld (boolA false), .as 25 true] =
    (.need ((decide (Int.ofNat j < Int.ofNat es.length)) = true) (.need (j < n) (.need (bs[(0 + j)]? = (some (AV.v (.bool false)))) (.need (true = true) (.need (EntClosed [(false, .arr 1 bs true)]) (.done (some ((.nrm, [.rsl 2 es false, .v (.slice none 0 0), .sl 9 0 1 0 n, .v (.int .i64 (Int.ofNat j)), .v (.int .i64 (IntKind.i64.wrap (Int.ofNat j + 1))), .v (.int .i64 (Int.ofNat m)), .v (.int .i64 (Int.ofNat i))], [(false, .arr 1 bs true)]))))))))) := by kernel_rfl
set_option maxRecDepth 100000 in
theorem r782aL (es bs : List AV) (n m i j : Nat) (b : Nat) (x y : P2) (c : Int) : roundD (CS T8) 60 0 78 0 51 51 false (loopOf (CS T8) 78 2) [0, 3, 4, 5, 6, 11, 12] [9] [0, 3, 4, 5, 6, 11, 12] [9] [0, 3, 4, 5, 11, 12] [9] [.rsl 2 es false, nilS, .sl 9 0 1 0 n, intA (Int.ofNat b), intA (Int.ofNat j), intA (Int.ofNat m), intA (Int.ofNat i)] [(false, .arr 1 bs true)] [.as 17 true, .chk ([] : List AV), .ld (boolA false), .as 25 true, .as 28 false, .chk [p2A x], .chk [p2A y], .sp [p2A x, p2A y] (intA c), .as 40 true] =
    (.need ((decide (Int.ofNat j < Int.ofNat es.length)) = true) (.need (j < n) (.need (bs[(0 + j)]? = (some (AV.v (.bool false)))) (.need (true = true) (.need ((decide (Int.ofNat b < 0)) = false) (.need (es[j]? = (some (AV.agg [.v (.int .i64 x.fst), .v (.int .i64 x.snd)]))) (.need (es[b]? = (some (AV.agg [.v (.int .i64 y.fst), .v (.int .i64 y.snd)]))) (.need (([.agg [.v (.int .i64 x.fst), .v (.int .i64 x.snd)], .agg [.v (.int .i64 y.fst), .v (.int .i64 y.snd)]] : List AV) = ([.agg [.v (.int .i64 x.fst), .v (.int .i64 x.snd)], .agg [.v (.int .i64 y.fst), .v (.int .i64 y.snd)]] : List AV) ∧ (Cx.spec (CS T8) 80 ([.agg [.v (.int .i64 x.fst), .v (.int .i64 x.snd)], .agg [.v (.int .i64 y.fst), .v (.int .i64 y.snd)]] : List AV)) = (some (AV.v (.int .i64 c)))) (.need ((decide (c < 0)) = true) (.need (EntClosed [(false, .arr 1 bs true)]) (.done (some ((.nrm, [.rsl 2 es false, .v (.slice none 0 0), .sl 9 0 1 0 n, .v (.int .i64 (Int.ofNat j)), .v (.int .i64 (IntKind.i64.wrap (Int.ofNat j + 1))), .v (.int .i64 (Int.ofNat m)), .v (.int .i64 (Int.ofNat i))], [(false, .arr 1 bs true)])))))))))))))) := by kernel_rfl
set_option maxRecDepth 100000 in
theorem r782aG (es bs : List AV) (n m i j : Nat) (b : Nat) (x y : P2) (c : Int) : roundD (CS T8) 60 0 78 0 51 51 false (loopOf (CS T8) 78 2) [0, 3, 4, 5, 6, 11, 12] [9] [0, 3, 4, 5, 6, 11, 12] [9] [0, 3, 4, 5, 11, 12] [9] [.rsl 2 es false, nilS, .sl 9 0 1 0 n, intA (Int.ofNat b), intA (Int.ofNat j), intA (Int.ofNat m), intA (Int.ofNat i)] [(false, .arr 1 bs true)] [.as 17 true, .chk ([] : List AV), .ld (boolA false), .as 25 true, .as 28 false, .chk [p2A x], .chk [p2A y], .sp [p2A x, p2A y] (intA c), .as 40 false] =
    (.need ((decide (Int.ofNat j < Int.ofNat es.length)) = true) (.need (j < n) (.need (bs[(0 + j)]? = (some (AV.v (.bool false)))) (.need (true = true) (.need ((decide (Int.ofNat b < 0)) = false) (.need (es[j]? = (some (AV.agg [.v (.int .i64 x.fst), .v (.int .i64 x.snd)]))) (.need (es[b]? = (some (AV.agg [.v (.int .i64 y.fst), .v (.int .i64 y.snd)]))) (.need (([.agg [.v (.int .i64 x.fst), .v (.int .i64 x.snd)], .agg [.v (.int .i64 y.fst), .v (.int .i64 y.snd)]] : List AV) = ([.agg [.v (.int .i64 x.fst), .v (.int .i64 x.snd)], .agg [.v (.int .i64 y.fst), .v (.int .i64 y.snd)]] : List AV) ∧ (Cx.spec (CS T8) 80 ([.agg [.v (.int .i64 x.fst), .v (.int .i64 x.snd)], .agg [.v (.int .i64 y.fst), .v (.int .i64 y.snd)]] : List AV)) = (some (AV.v (.int .i64 c)))) (.need ((decide (c < 0)) = false) (.need (EntClosed [(false, .arr 1 bs true)]) (.done (some ((.nrm, [.rsl 2 es false, .v (.slice none 0 0), .sl 9 0 1 0 n, .v (.int .i64 (Int.ofNat b)), .v (.int .i64 (IntKind.i64.wrap (Int.ofNat j + 1))), .v (.int .i64 (Int.ofNat m)), .v (.int .i64 (Int.ofNat i))], [(false, .arr 1 bs true)])))))))))))))) := by kernel_rfl
set_option maxRecDepth 100000 in
theorem r780a (es bs : List AV) (n m i : Nat) (b : Nat) : roundD (CS T8) 60 0 78 0 51 51 false (loopOf (CS T8) 78 0) [0, 3, 4, 11, 12] [9] [0, 3, 4, 11, 12] [9, 48] [3] [] [.rsl 2 es false, nilS, .sl 9 0 1 0 n, intA (Int.ofNat m), intA (Int.ofNat i)] [(false, .arr 1 bs true)] [.as 13 true, .loop 0 [0, 3, 4, 5, 6, 11, 12] [9] [0, 3, 4, 5, 11, 12] [9] (.exit 2) [.rsl 2 es false, nilS, .sl 9 0 1 0 n, intA (Int.ofNat b), intA (Int.ofNat m), intA (Int.ofNat i)] [(false, .arr 1 bs true)], .chk ([] : List AV), .st (boolA false)] =
    (.need ((decide (Int.ofNat i < Int.ofNat m)) = true) (.need (EntClosed [(false, .arr 1 bs true)] ∧ EntClosed [(false, .arr 1 bs true)] ∧ Says (CS T8) 0 51 false (.loop (loopOf (CS T8) 78 2)) (mkSt [0, 3, 4, 5, 6, 11, 12] [9] 51 [.rsl 2 es false, .v (.slice none 0 0), .sl 9 0 1 0 n, .v (.int .i64 (-1)), .v (.int .i64 0), .v (.int .i64 (Int.ofNat m)), .v (.int .i64 (Int.ofNat i))] [(false, .arr 1 bs true)]) (.exit 2) (mkSt [0, 3, 4, 5, 11, 12] [9] 51 [.rsl 2 es false, .v (.slice none 0 0), .sl 9 0 1 0 n, .v (.int .i64 (Int.ofNat b)), .v (.int .i64 (Int.ofNat m)), .v (.int .i64 (Int.ofNat i))] [(false, .arr 1 bs true)])) (.need (b < n) (.need (bs[(0 + b)]? = (some (AV.v (.bool false)))) (.need (EntClosed [(false, .arr 1 (bs.set ((0 + b)) (.v (.bool true))) true), (false, .arr 1 [.v (.int .i64 (Int.ofNat b))] false)]) (.done (some ((.nrm, [.rsl 2 es false, .sl 48 1 1 0 1, .sl 9 0 1 0 n, .v (.int .i64 (Int.ofNat m)), .v (.int .i64 (IntKind.i64.wrap (Int.ofNat i + 1)))], [(false, .arr 1 (bs.set ((0 + b)) (.v (.bool true))) true), (false, .arr 1 [.v (.int .i64 (Int.ofNat b))] false)]))))))))) := by kernel_rfl
set_option maxRecDepth 100000 in
theorem r780ax (es bs : List AV) (n m i : Nat) : roundD (CS T8) 60 0 78 0 51 51 false (loopOf (CS T8) 78 0) [0, 3, 4, 11, 12] [9] [0, 3, 4, 11, 12] [9, 48] [3] [] [.rsl 2 es false, nilS, .sl 9 0 1 0 n, intA (Int.ofNat m), intA (Int.ofNat i)] [(false, .arr 1 bs true)] [.as 13 false] =
    (.need ((decide (Int.ofNat i < Int.ofNat m)) = false) (.need (EntClosed []) (.done (some (((.exit 0), [.v (.slice none 0 0)], [])))))) := by kernel_rfl
set_option maxRecDepth 100000 in
theorem r782bX (es bs rs : List AV) (n m i j : Nat) (k : Nat) (b : Int) : roundD (CS T8) 60 0 78 0 51 51 false (loopOf (CS T8) 78 2) [0, 3, 4, 5, 6, 11, 12] [9, 48] [0, 3, 4, 5, 6, 11, 12] [9, 48] [0, 3, 4, 5, 11, 12] [9, 48] [.rsl 2 es false, .sl 48 1 1 0 k, .sl 9 0 1 0 n, intA b, intA (Int.ofNat j), intA (Int.ofNat m), intA (Int.ofNat i)] [(false, .arr 1 bs true), (false, .arr 1 rs false)] [.as 17 false] =
    (.need ((decide (Int.ofNat j < Int.ofNat es.length)) = false) (.need (EntClosed [(false, .arr 1 bs true), (false, .arr 1 rs false)]) (.done (some (((.exit 2), [.rsl 2 es false, .sl 48 1 1 0 k, .sl 9 0 1 0 n, .v (.int .i64 b), .v (.int .i64 (Int.ofNat m)), .v (.int .i64 (Int.ofNat i))], [(false, .arr 1 bs true), (false, .arr 1 rs false)])))))) := by kernel_rfl
set_option maxRecDepth 100000 in
theorem r782bT (es bs rs : List AV) (n m i j : Nat) (k : Nat) (b : Int) : roundD (CS T8) 60 0 78 0 51 51 false (loopOf (CS T8) 78 2) [0, 3, 4, 5, 6, 11, 12] [9, 48] [0, 3, 4, 5, 6, 11, 12] [9, 48] [0, 3, 4, 5, 11, 12] [9, 48] [.rsl 2 es false, .sl 48 1 1 0 k, .sl 9 0 1 0 n, intA b, intA (Int.ofNat j), intA (Int.ofNat m), intA (Int.ofNat i)] [(false, .arr 1 bs true), (false, .arr 1 rs false)] [.as 17 true, .chk ([] : List AV), .ld (boolA true), .as 25 false] =
    (.need ((decide (Int.ofNat j < Int.ofNat es.length)) = true) (.need (j < n) (.need (bs[(0 + j)]? = (some (AV.v (.bool true)))) (.need ((!true) = false) (.need (EntClosed [(false, .arr 1 bs true), (false, .arr 1 rs false)]) (.done (some ((.nrm, [.rsl 2 es false, .sl 48 1 1 0 k, .sl 9 0 1 0 n, .v (.int .i64 b), .v (.int .i64 (IntKind.i64.wrap (Int.ofNat j + 1))), .v (.int .i64 (Int.ofNat m)), .v (.int .i64 (Int.ofNat i))], [(false, .arr 1 bs true), (false, .arr 1 rs false)]))))))))) := by kernel_rfl
set_option maxRecDepth 100000 in
theorem r782bN (es bs rs : List AV) (n m i j : Nat) (k : Nat) : roundD (CS T8) 60 0 78 0 51 51 false (loopOf (CS T8) 78 2) [0, 3, 4, 5, 6, 11, 12] [9, 48] [0, 3, 4, 5, 6, 11, 12] [9, 48] [0, 3, 4, 5, 11, 12] [9, 48] [.rsl 2 es false, .sl 48 1 1 0 k, .sl 9 0 1 0 n, intA (-1), intA (Int.ofNat j), intA (Int.ofNat m), intA (Int.ofNat i)] [(false, .arr 1 bs true), (false, .arr 1 rs false)] [.as 17 true, .chk ([] : List AV), .ld (boolA false), .as 25 true] =
    (.need ((decide (Int.ofNat j < Int.ofNat es.length)) = true) (.need (j < n) (.need (bs[(0 + j)]? = (some (AV.v (.bool false)))) (.need (true = true) (.need (EntClosed [(false, .arr 1 bs true), (false, .arr 1 rs false)]) (.done (some ((.nrm, [.rsl 2 es false, .sl 48 1 1 0 k, .sl 9 0 1 0 n, .v (.int .i64 (Int.ofNat j)), .v (.int .i64 (IntKind.i64.wrap (Int.ofNat j + 1))), .v (.int .i64 (Int.ofNat m)), .v (.int .i64 (Int.ofNat i))], [(false, .arr 1 bs true), (false, .arr 1 rs false)]))))))))) := by kernel_rfl
set_option maxRecDepth 100000 in
theorem r782bL (es bs rs : List AV) (n m i j : Nat) (k : Nat) (b : Nat) (x y : P2) (c : Int) : roundD (CS T8) 60 0 78 0 51 51 false (loopOf (CS T8) 78 2) [0, 3, 4, 5, 6, 11, 12] [9, 48] [0, 3, 4, 5, 6, 11, 12] [9, 48] [0, 3, 4, 5, 11, 12] [9, 48] [.rsl 2 es false, .sl 48 1 1 0 k, .sl 9 0 1 0 n, intA (Int.ofNat b), intA (Int.ofNat j), intA (Int.ofNat m), intA (Int.ofNat i)] [(false, .arr 1 bs true), (false, .arr 1 rs false)] [.as 17 true, .chk ([] : List AV), .ld (boolA false), .as 25 true, .as 28 false, .chk [p2A x], .chk [p2A y], .sp [p2A x, p2A y] (intA c), .as 40 true] =
    (.need ((decide (Int.ofNat j < Int.ofNat es.length)) = true) (.need (j < n) (.need (bs[(0 + j)]? = (some (AV.v (.bool false)))) (.need (true = true) (.need ((decide (Int.ofNat b < 0)) = false) (.need (es[j]? = (some (AV.agg [.v (.int .i64 x.fst), .v (.int .i64 x.snd)]))) (.need (es[b]? = (some (AV.agg [.v (.int .i64 y.fst), .v (.int .i64 y.snd)]))) (.need (([.agg [.v (.int .i64 x.fst), .v (.int .i64 x.snd)], .agg [.v (.int .i64 y.fst), .v (.int .i64 y.snd)]] : List AV) = ([.agg [.v (.int .i64 x.fst), .v (.int .i64 x.snd)], .agg [.v (.int .i64 y.fst), .v (.int .i64 y.snd)]] : List AV) ∧ (Cx.spec (CS T8) 80 ([.agg [.v (.int .i64 x.fst), .v (.int .i64 x.snd)], .agg [.v (.int .i64 y.fst), .v (.int .i64 y.snd)]] : List AV)) = (some (AV.v (.int .i64 c)))) (.need ((decide (c < 0)) = true) (.need (EntClosed [(false, .arr 1 bs true), (false, .arr 1 rs false)]) (.done (some ((.nrm, [.rsl 2 es false, .sl 48 1 1 0 k, .sl 9 0 1 0 n, .v (.int .i64 (Int.ofNat j)), .v (.int .i64 (IntKind.i64.wrap (Int.ofNat j + 1))), .v (.int .i64 (Int.ofNat m)), .v (.int .i64 (Int.ofNat i))], [(false, .arr 1 bs true), (false, .arr 1 rs false)])))))))))))))) := by kernel_rfl
set_option maxRecDepth 100000 in
theorem r782bG (es bs rs : List AV) (n m i j : Nat) (k : Nat) (b : Nat) (x y : P2) (c : Int) : roundD (CS T8) 60 0 78 0 51 51 false (loopOf (CS T8) 78 2) [0, 3, 4, 5, 6, 11, 12] [9, 48] [0, 3, 4, 5, 6, 11, 12] [9, 48] [0, 3, 4, 5, 11, 12] [9, 48] [.rsl 2 es false, .sl 48 1 1 0 k, .sl 9 0 1 0 n, intA (Int.ofNat b), intA (Int.ofNat j), intA (Int.ofNat m), intA (Int.ofNat i)] [(false, .arr 1 bs true), (false, .arr 1 rs false)] [.as 17 true, .chk ([] : List AV), .ld (boolA false), .as 25 true, .as 28 false, .chk [p2A x], .chk [p2A y], .sp [p2A x, p2A y] (intA c), .as 40 false] =
    (.need ((decide (Int.ofNat j < Int.ofNat es.length)) = true) (.need (j < n) (.need (bs[(0 + j)]? = (some (AV.v (.bool false)))) (.need (true = true) (.need ((decide (Int.ofNat b < 0)) = false) (.need (es[j]? = (some (AV.agg [.v (.int .i64 x.fst), .v (.int .i64 x.snd)]))) (.need (es[b]? = (some (AV.agg [.v (.int .i64 y.fst), .v (.int .i64 y.snd)]))) (.need (([.agg [.v (.int .i64 x.fst), .v (.int .i64 x.snd)], .agg [.v (.int .i64 y.fst), .v (.int .i64 y.snd)]] : List AV) = ([.agg [.v (.int .i64 x.fst), .v (.int .i64 x.snd)], .agg [.v (.int .i64 y.fst), .v (.int .i64 y.snd)]] : List AV) ∧ (Cx.spec (CS T8) 80 ([.agg [.v (.int .i64 x.fst), .v (.int .i64 x.snd)], .agg [.v (.int .i64 y.fst), .v (.int .i64 y.snd)]] : List AV)) = (some (AV.v (.int .i64 c)))) (.need ((decide (c < 0)) = false) (.need (EntClosed [(false, .arr 1 bs true), (false, .arr 1 rs false)]) (.done (some ((.nrm, [.rsl 2 es false, .sl 48 1 1 0 k, .sl 9 0 1 0 n, .v (.int .i64 (Int.ofNat b)), .v (.int .i64 (IntKind.i64.wrap (Int.ofNat j + 1))), .v (.int .i64 (Int.ofNat m)), .v (.int .i64 (Int.ofNat i))], [(false, .arr 1 bs true), (false, .arr 1 rs false)])))))))))))))) := by kernel_rfl
set_option maxRecDepth 100000 in
theorem r780b (es bs rs : List AV) (n m i : Nat) (k : Nat) (b : Nat) : roundD (CS T8) 60 0 78 0 51 51 false (loopOf (CS T8) 78 0) [0, 3, 4, 11, 12] [9, 48] [0, 3, 4, 11, 12] [9, 48] [3] [48] [.rsl 2 es false, .sl 48 1 1 0 k, .sl 9 0 1 0 n, intA (Int.ofNat m), intA (Int.ofNat i)] [(false, .arr 1 bs true), (false, .arr 1 rs false)] [.as 13 true, .loop 0 [0, 3, 4, 5, 6, 11, 12] [9, 48] [0, 3, 4, 5, 11, 12] [9, 48] (.exit 2) [.rsl 2 es false, .sl 48 1 1 0 k, .sl 9 0 1 0 n, intA (Int.ofNat b), intA (Int.ofNat m), intA (Int.ofNat i)] [(false, .arr 1 bs true), (false, .arr 1 rs false)], .chk ([] : List AV), .st (boolA false), .chk rs] =
    (.need ((decide (Int.ofNat i < Int.ofNat m)) = true) (.need (EntClosed [(false, .arr 1 bs true), (false, .arr 1 rs false)] ∧ EntClosed [(false, .arr 1 bs true), (false, .arr 1 rs false)] ∧ Says (CS T8) 0 51 false (.loop (loopOf (CS T8) 78 2)) (mkSt [0, 3, 4, 5, 6, 11, 12] [9, 48] 51 [.rsl 2 es false, .sl 48 1 1 0 k, .sl 9 0 1 0 n, .v (.int .i64 (-1)), .v (.int .i64 0), .v (.int .i64 (Int.ofNat m)), .v (.int .i64 (Int.ofNat i))] [(false, .arr 1 bs true), (false, .arr 1 rs false)]) (.exit 2) (mkSt [0, 3, 4, 5, 11, 12] [9, 48] 51 [.rsl 2 es false, .sl 48 1 1 0 k, .sl 9 0 1 0 n, .v (.int .i64 (Int.ofNat b)), .v (.int .i64 (Int.ofNat m)), .v (.int .i64 (Int.ofNat i))] [(false, .arr 1 bs true), (false, .arr 1 rs false)])) (.need (b < n) (.need (bs[(0 + b)]? = (some (AV.v (.bool false)))) (.need (k = rs.length ∧ true = true ∧ 1 = 1 ∧ (rs ++ ([.v (.int .i64 (Int.ofNat b))] : List AV)).length * 8 ≤ 35184372088832 ∧ (rs ++ ([.v (.int .i64 (Int.ofNat b))] : List AV)).length ≤ 35184372088832 ∧ 8 ≠ 0) (.need (EntClosed [(false, .arr 1 (bs.set ((0 + b)) (.v (.bool true))) true), (false, .arr 1 (rs ++ ([.v (.int .i64 (Int.ofNat b))] : List AV)) false)]) (.done (some ((.nrm, [.rsl 2 es false, .sl 48 1 1 0 ((rs ++ ([.v (.int .i64 (Int.ofNat b))] : List AV)).length), .sl 9 0 1 0 n, .v (.int .i64 (Int.ofNat m)), .v (.int .i64 (IntKind.i64.wrap (Int.ofNat i + 1)))], [(false, .arr 1 (bs.set ((0 + b)) (.v (.bool true))) true), (false, .arr 1 (rs ++ ([.v (.int .i64 (Int.ofNat b))] : List AV)) false)])))))))))) := by kernel_rfl
set_option maxRecDepth 100000 in
theorem r780bx (es bs rs : List AV) (n m i : Nat) (k : Nat) : roundD (CS T8) 60 0 78 0 51 51 false (loopOf (CS T8) 78 0) [0, 3, 4, 11, 12] [9, 48] [0, 3, 4, 11, 12] [9, 48] [3] [48] [.rsl 2 es false, .sl 48 1 1 0 k, .sl 9 0 1 0 n, intA (Int.ofNat m), intA (Int.ofNat i)] [(false, .arr 1 bs true), (false, .arr 1 rs false)] [.as 13 false] =
    (.need ((decide (Int.ofNat i < Int.ofNat m)) = false) (.need (EntClosed [(false, .arr 1 rs false)]) (.done (some (((.exit 0), [.sl 48 0 1 0 k], [(false, .arr 1 rs false)])))))) := by kernel_rfl
set_option maxRecDepth 100000 in
theorem t78 (es rs : List AV) : evTreeD (CS T8) 60 78 [.rsl 2 es false] [.mk, .loop 0 [0, 3, 4, 11, 12] [9] [3] [] (.exit 0) [.rsl 1 rs false] []] =
    (.need (es.length ≤ es.length ∧ es.length * 1 ≤ 35184372088832 ∧ es.length ≤ 35184372088832 ∧ 1 = 1 ∧ 1 ≠ 0) (.need (EntClosed [(false, .arr 1 (List.replicate es.length (.v (.bool false) : AV)) true)] ∧ EntClosed [] ∧ Says (CS T8) 0 51 false (.loop (loopOf (CS T8) 78 0)) (mkSt [0, 3, 4, 11, 12] [9] 51 [.rsl 2 es false, .v (.slice none 0 0), .sl 9 0 1 0 es.length, .v (.int .i64 (Int.ofNat es.length)), .v (.int .i64 0)] [(false, .arr 1 (List.replicate es.length (.v (.bool false) : AV)) true)]) (.exit 0) (mkSt [3] [] 51 [.rsl 1 rs false] [])) (.done (some (.rsl 1 rs false))))) := by kernel_rfl
abbrev ratsC : Cod (List P2) := listC p2C 2
abbrev natA (n : Nat) : AV := intA (Int.ofNat n)
/-- A loop whose state is known from its round's number. -/
theorem LoopRun.idx {α : Type} {C : Cx} {p nt : Nat} {rd : Bool} {c : Code} (enc : Nat → St) (ex : Ex) (out : St) (l : List α) (hx : ex ≠ .nrm)
    (hs : ∀ i x, l[i]? = some x → Says C p nt rd c (enc i) .nrm (enc (i + 1))) (hf : Says C p nt rd c (enc l.length) ex out) : LoopRun C p nt rd c (enc 0) ex out := by
  have h := LoopRun.list (C := C) (p := p) (nt := nt) (rd := rd) (c := c) (step := fun _ (_ : α) (_ : Unit) => (.inl () : Unit ⊕ Unit)) (fin := id) (enc := fun i _ => enc i) (ex := fun _ => ex) (out := fun _ => out) (l := l) (fun _ _ => True)
    (fun i x _ hi _ => ⟨hs i x hi, trivial⟩) (fun _ _ => ⟨hf, hx⟩) l [] () rfl trivial
  exact h
/-! ### Checks -/
def shrG : List AV → Option AV := sp1 ratsC fun l => some (boolA (decide (Int.ofNat l.length ≤ 16)))
theorem h72 : Holds 72 shrG := holds1 fun l r hr => by
  simp only [Option.some.injEq] at hr; subst hr
  refine T8_ok.tr (t72 (l.map p2C.enc)) ?_
  rw [e_len']; rfl
def rmG : List AV → Option AV := mapG p2C 2 intC 1 102 ratErr
theorem h164 : Holds 164 rmG := mapG_holds fun l hl => mapped_ok (A := p2C) (B := intC) (g := ratErr) (fv := fnV 102) (szb := 1) (bb := 8) T8_ok (0, 0) (fun _ => rfl) ⟨by omega, by omega⟩ r164a r164b t164 l hl
def ownRG : List AV → Option AV := sp1 ratsC fun l => bif Nat.ble l.length lim then some (slA p2C 2 l) else none
theorem h74 : Holds 74 ownRG := holds1 fun l r hr => by
  cases hb : Nat.ble l.length lim with
  | false => simp [hb] at hr
  | true =>
    simp only [hb, cond_true, Option.some.injEq] at hr; subst hr
    have hl : l.length ≤ lim := Nat.le_of_ble_eq_true hb
    refine T8_ok.tr (t74 (l.map p2C.enc)) ⟨⟨allSz_map (f := p2C.enc) (fun _ => rfl) l, rfl, ?_, ?_, by decide, ClosedL.map fun _ => rfl⟩, rfl⟩
    · simp only [List.nil_append, List.length_map]; unfold lim at hl; omega
    · simp only [List.nil_append, List.length_map]; unfold lim at hl; omega
def csErr (l : List P2) : Int := firstM [manyI (Int.ofNat l.length) 15, firstM (l.map ratErr)]
def csG : List AV → Option AV := sp1 ratsC fun l => bif Nat.ble l.length lim then some (intA (csErr l)) else none
theorem h76 : Holds 76 csG := holds1 fun l r hr => by
  cases hb : Nat.ble l.length lim with
  | false => simp [hb] at hr
  | true =>
    simp only [hb, cond_true, Option.some.injEq] at hr; subst hr
    have hl := limTwo (Nat.le_of_ble_eq_true hb)
    have e := e_len' p2C l
    have h := LoopRun.find (C := CS T8) (p := 0) (nt := 26) (rd := false) (c := loopOf (CS T8) 76 0) (fun _ (x : P2) => bif ratErr x != 0 then some (ratErr x) else none) (fun i => mkSt [0, 4] [] 26 [.rsl 2 (l.map p2C.enc) false, intA (Int.ofNat i)] [])
      (fun t => mkSt [2] [] 26 [intA t] []) (mkSt [2] [] 26 [.bad] []) (.exit 0) (fun _ => .ret) l (by simp) (by simp)
      (fun i x hx => by
        have hi := lt_len hx
        have hp := spRat x
        have hr := r76 (l.map p2C.enc) i x (ratErr x)
        rw [e, lt_of hi, wrap_ix hi hl] at hr
        cases h : ratErr x != 0 with
        | true => rw [h] at hr; exact T8_ok.rndR hr ⟨get_map _ hx, ⟨rfl, hp⟩, trivial, rfl⟩
        | false => rw [h] at hr; exact T8_ok.rndN hr ⟨get_map _ hx, ⟨rfl, hp⟩, trivial, rfl⟩)
      (T8_ok.rndX (r76 (l.map p2C.enc) l.length (0, 0) 0) (by rw [e, lt_self]; exact ⟨trivial, rfl⟩))
    rw [srch_err] at h
    unfold csErr
    rw [firstB]
    have hm := specMany (Int.ofNat l.length) 15
    cases hc : manyI (Int.ofNat l.length) 15 != 0 with
    | true => exact T8_ok.tr (t76c (l.map p2C.enc) (manyI (Int.ofNat l.length) 15)) (by rw [e, hc]; exact ⟨⟨rfl, hm⟩, rfl, rfl⟩)
    | false =>
      cases hq : firstM (l.map ratErr) != 0 with
      | true => rw [hq] at h; exact T8_ok.tr (t76r (l.map p2C.enc) (manyI (Int.ofNat l.length) 15) (firstM (l.map ratErr))) (by rw [e, hc]; exact ⟨⟨rfl, hm⟩, rfl, ⟨trivial, trivial, h.says⟩, rfl⟩)
      | false =>
        rw [hq] at h
        have h0 : firstM (l.map ratErr) = 0 := by simpa using hq
        rw [h0]
        exact T8_ok.tr (t76e (l.map p2C.enc) (manyI (Int.ofNat l.length) 15)) (by rw [e, hc]; exact ⟨⟨rfl, hm⟩, rfl, ⟨trivial, trivial, h.says⟩, rfl⟩)
/-! ### The closure -/
def bxC {α : Type} (A : Cod α) : Cod α where
  dec | .rptr [a] => A.dec a
      | _ => none
  enc x := .rptr [A.enc x]
  weak a x h := by
    split at h
    · rename_i b
      intro M y hr
      unfold Rep at hr ⊢
      obtain ⟨q, o, l, e, hl, hrow⟩ := hr
      rw [RepL.cons_iff] at hl
      obtain ⟨z, zs, rfl, h1, h2⟩ := hl
      exact ⟨q, o, z :: zs, e, by rw [RepL.cons_iff]; exact ⟨z, zs, rfl, A.weak _ _ h _ _ h1, h2⟩, hrow⟩
    · cases h
  rt x := A.rt x
def ixOk (l : List P2) (i : Int) : Bool := decide (0 ≤ i) && Nat.blt i.toNat l.length
def cloG : List AV → Option AV := sp3 intC intC (bxC ratsC) fun i j l => bif ixOk l i && ixOk l j then some (intA (cmpW (atR l i.toNat) (atR l j.toNat))) else none
theorem ixOk_at {l : List P2} {i : Int} (h : ixOk l i = true) : i = Int.ofNat i.toNat ∧ i.toNat < l.length := by
  unfold ixOk at h
  simp only [Bool.and_eq_true, decide_eq_true_eq] at h
  exact ⟨by have := h.1; simp only [Int.ofNat_eq_natCast]; omega, Nat.lt_of_succ_le (Nat.le_of_ble_eq_true h.2)⟩
theorem h147 : Holds 147 cloG := holds3 fun i j l r hr => by
  cases hb : ixOk l i && ixOk l j with
  | false => simp [hb] at hr
  | true =>
    simp only [hb, cond_true, Option.some.injEq] at hr; subst hr
    rw [Bool.and_eq_true] at hb
    obtain ⟨ei, hi⟩ := ixOk_at hb.1
    obtain ⟨ej, hj⟩ := ixOk_at hb.2
    have := T8_ok.tr (t147 (l.map p2C.enc) i.toNat j.toNat (atR l i.toNat) (atR l j.toNat) (cmpW (atR l i.toNat) (atR l j.toNat))) ⟨get_map p2C.enc (atR_get hi), get_map p2C.enc (atR_get hj), ⟨rfl, spCmp _ _⟩, rfl⟩
    rw [← ei, ← ej] at this
    exact this
/-! ### The reference's ranks -/
def flg (acc : List Nat) (n : Nat) : List AV := (List.range n).map fun i => boolA (hasN acc i)
def optA : Option Nat → AV
  | none => intA (-1)
  | some b => natA b
theorem flg_at {acc : List Nat} {n i : Nat} (h : i < n) : (flg acc n)[0 + i]? = some (boolA (hasN acc i)) := by
  rw [Nat.zero_add]
  unfold flg
  rw [List.getElem?_map, List.getElem?_range h]; rfl
theorem flg_cl (acc : List Nat) (n : Nat) : ClosedL (flg acc n) := ClosedL.map fun _ => rfl
theorem flg_nil (n : Nat) : List.replicate n (AV.v (.bool false)) = flg [] n := by
  unfold flg
  refine List.ext_getElem (by simp) fun i h1 h2 => ?_
  simp [hasN]
theorem hasN_app (acc : List Nat) (b i : Nat) : hasN (acc ++ [b]) i = (hasN acc i || Nat.beq i b) := by
  unfold hasN; rw [List.any_append]; simp
theorem flg_set (acc : List Nat) (n b : Nat) : (flg acc n).set (0 + b) (AV.v (.bool true)) = flg (acc ++ [b]) n := by
  rw [Nat.zero_add]
  unfold flg
  refine List.ext_getElem? fun i => ?_
  rw [List.getElem?_set]
  simp only [List.getElem?_map, List.length_map, List.length_range]
  by_cases hi : i < n
  · rw [List.getElem?_range hi]
    simp only [Option.map_some, hasN_app]
    by_cases hb : b = i
    · subst hb
      rw [if_pos rfl, if_pos hi, Nat.beq_refl, Bool.or_true]
    · rw [if_neg hb]
      have : Nat.beq i b = false := by
        cases h : Nat.beq i b with
        | false => rfl
        | true => exact absurd (Nat.eq_of_beq_eq_true h).symm hb
      rw [this, Bool.or_false]
  · rw [List.getElem?_eq_none (by simpa using hi)]
    by_cases hb : b = i
    · subst hb; rw [if_pos rfl, if_neg hi]; rfl
    · rw [if_neg hb]; rfl
/-- A state of the reference's loops: its list so far is none, or one of its own. -/
def rkSt (ts : List Tmp) (vs : AV → List AV) (bs : List AV) : List Nat → St
  | [] => mkSt ts [9] 51 (vs nilS) [(false, .arr 1 bs true)]
  | a :: r => mkSt ts [9, 48] 51 (vs (.sl 48 1 1 0 ((a :: r).map natA).length)) [(false, .arr 1 bs true), (false, .arr 1 ((a :: r).map natA) false)]
theorem selM_succ (lt : Nat → Nat → Bool) (tk : Nat → Bool) (n : Nat) : selM lt tk (n + 1) = bif !tk n && (match selM lt tk n with | none => true | some j => lt n j) then some n else selM lt tk n := by
  unfold selM; rw [List.range_succ, List.foldl_append]; rfl
theorem selM_lt (lt : Nat → Nat → Bool) (tk : Nat → Bool) : ∀ n b, selM lt tk n = some b → b < n
  | 0, b, h => by cases h
  | n + 1, b, h => by
    rw [selM_succ] at h
    generalize (!tk n && _) = c at h
    cases c with
    | true => simp only [cond_true, Option.some.injEq] at h; omega
    | false => have := selM_lt lt tk n b h; omega
theorem natCl (l : List Nat) : ClosedL (l.map natA) := ClosedL.map fun _ => rfl
theorem inner78 (l : List P2) (acc : List Nat) (i : Nat) (hl : l.length < two63) :
    Says (CS T8) 0 51 false (.loop (loopOf (CS T8) 78 2))
      (rkSt [0, 3, 4, 5, 6, 11, 12] (fun a => [.rsl 2 (l.map p2C.enc) false, a, .sl 9 0 1 0 l.length, intA (-1), intA 0, natA l.length, natA i]) (flg acc l.length) acc) (.exit 2)
      (rkSt [0, 3, 4, 5, 11, 12] (fun a => [.rsl 2 (l.map p2C.enc) false, a, .sl 9 0 1 0 l.length, optA (selM (ltI l) (hasN acc) l.length), natA l.length, natA i]) (flg acc l.length) acc) := by
  have e := e_len' p2C l
  have h := LoopRun.idx (C := CS T8) (p := 0) (nt := 51) (rd := false) (c := loopOf (CS T8) 78 2)
    (fun j => rkSt [0, 3, 4, 5, 6, 11, 12] (fun a => [.rsl 2 (l.map p2C.enc) false, a, .sl 9 0 1 0 l.length, optA (selM (ltI l) (hasN acc) j), natA j, natA l.length, natA i]) (flg acc l.length) acc) (.exit 2)
    (rkSt [0, 3, 4, 5, 11, 12] (fun a => [.rsl 2 (l.map p2C.enc) false, a, .sl 9 0 1 0 l.length, optA (selM (ltI l) (hasN acc) l.length), natA l.length, natA i]) (flg acc l.length) acc) l (by simp)
    (fun j x hx => by
      have hj := lt_len hx
      have hw := wrap_ix hj hl
      have hlt : decide (Int.ofNat j < Int.ofNat (l.map p2C.enc).length) = true := by rw [e]; exact lt_of hj
      have hf := flg_at (acc := acc) hj
      have hgx : (l.map p2C.enc)[j]? = some (p2A (atR l j)) := get_map p2C.enc (atR_get hj)
      have hcl := flg_cl acc l.length
      rw [selM_succ]
      cases ht : hasN acc j with
      | true =>
        rw [ht] at hf
        rw [Bool.not_true, Bool.false_and, cond_false]
        cases hs : selM (ltI l) (hasN acc) j with
        | none =>
          cases acc with
          | nil => have hr := r782aT (l.map p2C.enc) (flg [] l.length) l.length l.length i j (-1); rw [hw] at hr; exact T8_ok.rndN hr ⟨hlt, hj, hf, rfl, ⟨hcl, trivial⟩, rfl⟩
          | cons q r => have hr := r782bT (l.map p2C.enc) (flg (q :: r) l.length) ((q :: r).map natA) l.length l.length i j ((q :: r).map natA).length (-1); rw [hw] at hr; exact T8_ok.rndN hr ⟨hlt, hj, hf, rfl, ⟨hcl, natCl (q :: r), trivial⟩, rfl⟩
        | some b =>
          cases acc with
          | nil => have hr := r782aT (l.map p2C.enc) (flg [] l.length) l.length l.length i j (Int.ofNat b); rw [hw] at hr; exact T8_ok.rndN hr ⟨hlt, hj, hf, rfl, ⟨hcl, trivial⟩, rfl⟩
          | cons q r => have hr := r782bT (l.map p2C.enc) (flg (q :: r) l.length) ((q :: r).map natA) l.length l.length i j ((q :: r).map natA).length (Int.ofNat b); rw [hw] at hr; exact T8_ok.rndN hr ⟨hlt, hj, hf, rfl, ⟨hcl, natCl (q :: r), trivial⟩, rfl⟩
      | false =>
        rw [ht] at hf
        rw [Bool.not_false, Bool.true_and]
        cases hs : selM (ltI l) (hasN acc) j with
        | none =>
          simp only [cond_true]
          cases acc with
          | nil => have hr := r782aN (l.map p2C.enc) (flg [] l.length) l.length l.length i j; rw [hw] at hr; exact T8_ok.rndN hr ⟨hlt, hj, hf, rfl, ⟨hcl, trivial⟩, rfl⟩
          | cons q r => have hr := r782bN (l.map p2C.enc) (flg (q :: r) l.length) ((q :: r).map natA) l.length l.length i j ((q :: r).map natA).length; rw [hw] at hr; exact T8_ok.rndN hr ⟨hlt, hj, hf, rfl, ⟨hcl, natCl (q :: r), trivial⟩, rfl⟩
        | some b =>
          have hb := selM_lt _ _ _ _ hs
          have hgy : (l.map p2C.enc)[b]? = some (p2A (atR l b)) := get_map p2C.enc (atR_get (by omega))
          have hb0 : decide (Int.ofNat b < 0) = false := by simp only [decide_eq_false_iff_not, Int.ofNat_eq_natCast]; omega
          have hsp := spCmp (atR l j) (atR l b)
          simp only
          cases hc : ltI l j b with
          | true =>
            have hc' : decide (cmpW (atR l j) (atR l b) < 0) = true := hc
            simp only [cond_true]
            cases acc with
            | nil => have hr := r782aL (l.map p2C.enc) (flg [] l.length) l.length l.length i j b (atR l j) (atR l b) (cmpW (atR l j) (atR l b)); rw [hw] at hr; exact T8_ok.rndN hr ⟨hlt, hj, hf, rfl, hb0, hgx, hgy, ⟨rfl, hsp⟩, hc', ⟨hcl, trivial⟩, rfl⟩
            | cons q r => have hr := r782bL (l.map p2C.enc) (flg (q :: r) l.length) ((q :: r).map natA) l.length l.length i j ((q :: r).map natA).length b (atR l j) (atR l b) (cmpW (atR l j) (atR l b)); rw [hw] at hr; exact T8_ok.rndN hr ⟨hlt, hj, hf, rfl, hb0, hgx, hgy, ⟨rfl, hsp⟩, hc', ⟨hcl, natCl (q :: r), trivial⟩, rfl⟩
          | false =>
            have hc' : decide (cmpW (atR l j) (atR l b) < 0) = false := hc
            simp only [cond_false]
            cases acc with
            | nil => have hr := r782aG (l.map p2C.enc) (flg [] l.length) l.length l.length i j b (atR l j) (atR l b) (cmpW (atR l j) (atR l b)); rw [hw] at hr; exact T8_ok.rndN hr ⟨hlt, hj, hf, rfl, hb0, hgx, hgy, ⟨rfl, hsp⟩, hc', ⟨hcl, trivial⟩, rfl⟩
            | cons q r => have hr := r782bG (l.map p2C.enc) (flg (q :: r) l.length) ((q :: r).map natA) l.length l.length i j ((q :: r).map natA).length b (atR l j) (atR l b) (cmpW (atR l j) (atR l b)); rw [hw] at hr; exact T8_ok.rndN hr ⟨hlt, hj, hf, rfl, hb0, hgx, hgy, ⟨rfl, hsp⟩, hc', ⟨hcl, natCl (q :: r), trivial⟩, rfl⟩)
    (by
      have hlt : decide (Int.ofNat l.length < Int.ofNat (l.map p2C.enc).length) = false := by rw [e]; exact lt_self _
      have hcl := flg_cl acc l.length
      cases selM (ltI l) (hasN acc) l.length with
      | none =>
        cases acc with
        | nil => exact T8_ok.rndX (r782aX (l.map p2C.enc) (flg [] l.length) l.length l.length i l.length (-1)) ⟨hlt, ⟨hcl, trivial⟩, rfl⟩
        | cons q r => exact T8_ok.rndX (r782bX (l.map p2C.enc) (flg (q :: r) l.length) ((q :: r).map natA) l.length l.length i l.length ((q :: r).map natA).length (-1)) ⟨hlt, ⟨hcl, natCl (q :: r), trivial⟩, rfl⟩
      | some b =>
        cases acc with
        | nil => exact T8_ok.rndX (r782aX (l.map p2C.enc) (flg [] l.length) l.length l.length i l.length (Int.ofNat b)) ⟨hlt, ⟨hcl, trivial⟩, rfl⟩
        | cons q r => exact T8_ok.rndX (r782bX (l.map p2C.enc) (flg (q :: r) l.length) ((q :: r).map natA) l.length l.length i l.length ((q :: r).map natA).length (Int.ofNat b)) ⟨hlt, ⟨hcl, natCl (q :: r), trivial⟩, rfl⟩)
  exact h.says
theorem csZ {l : List P2} : csErr l = 0 ↔ (1 ≤ l.length ∧ l.length ≤ 15) ∧ VaR l := by
  unfold csErr
  rw [firstZ, firstZ]
  have h1 : manyI (Int.ofNat l.length) 15 = 0 ↔ 1 ≤ l.length ∧ l.length ≤ 15 := by
    unfold manyI
    rw [firstZ, firstZ]
    constructor
    · rintro ⟨h1, h2, _⟩
      have h1 := whenZ (by decide) h1
      have h2 := whenZ (by decide) h2
      simp only [beq_eq_false_iff_ne, ne_eq, decide_eq_false_iff_not, Int.ofNat_eq_natCast] at h1 h2
      omega
    · rintro ⟨h1, h2⟩
      have e1 : (Int.ofNat l.length == 0) = false := by simp only [beq_eq_false_iff_ne, ne_eq, Int.ofNat_eq_natCast]; omega
      have e2 : decide (Int.ofNat l.length > 15) = false := by simp only [decide_eq_false_iff_not, Int.ofNat_eq_natCast]; omega
      rw [e1, e2]; exact ⟨rfl, rfl, rfl⟩
  rw [h1]
  have h2 : firstM (l.map ratErr) = 0 ↔ VaR l := by rw [firstAll]; simp [VaR]
  rw [h2]
  exact ⟨fun ⟨a, b, _⟩ => ⟨a, b⟩, fun ⟨a, b⟩ => ⟨a, b, rfl⟩⟩
theorem nats_map (xs : List Nat) : slA intC 1 (xs.map Int.ofNat) = .rsl 1 (xs.map natA) false := by
  show AV.rsl 1 ((xs.map Int.ofNat).map intC.enc) false = _
  rw [List.map_map]; rfl
theorem rank_next {l : List P2} (h : VaR l) {i : Nat} (hi : i < l.length) : ∃ b, selM (ltI l) (hasN (rankR (ltI l) l.length i)) l.length = some b ∧ b < l.length ∧ hasN (rankR (ltI l) l.length i) b = false ∧ rankR (ltI l) l.length (i + 1) = rankR (ltI l) l.length i ++ [b] := by
  obtain ⟨rest, h1, _, h3, _, _, _⟩ := rankR_spec (swoR h) l.length i (by omega)
  rcases selM_spec (swoR h) (hasN (rankR (ltI l) l.length i)) l.length with ⟨_, h5⟩ | ⟨b, h4, h5, h6, _⟩
  · cases rest with
    | nil => simp at h1; omega
    | cons q r =>
      have hq := (h3 q).1 (by simp)
      exact absurd (hasN_iff.1 (h5 q hq.1)) hq.2
  · refine ⟨b, h4, h5, h6, ?_⟩
    show rankR (ltI l) l.length i ++ [(selM (ltI l) (hasN (rankR (ltI l) l.length i)) l.length).getD 0] = _
    rw [h4]; rfl
def rkG : List AV → Option AV := sp1 ratsC fun l => bif csErr l == 0 then some (slA intC 1 ((rankR (ltI l) l.length l.length).map Int.ofNat)) else none
theorem h78 : Holds 78 rkG := holds1 fun l r hr => by
  cases hb : csErr l == 0 with
  | false => simp [hb] at hr
  | true =>
    simp only [hb, cond_true, Option.some.injEq] at hr; subst hr
    obtain ⟨⟨hn1, hn2⟩, hv⟩ := csZ.1 (by simpa using hb)
    have hl : l.length < two63 := by unfold two63; omega
    have e := e_len' p2C l
    have h := LoopRun.idx (C := CS T8) (p := 0) (nt := 51) (rd := false) (c := loopOf (CS T8) 78 0)
      (fun i => rkSt [0, 3, 4, 11, 12] (fun a => [.rsl 2 (l.map p2C.enc) false, a, .sl 9 0 1 0 l.length, natA l.length, natA i]) (flg (rankR (ltI l) l.length i) l.length) (rankR (ltI l) l.length i)) (.exit 0)
      (mkSt [3] [] 51 [.rsl 1 ((rankR (ltI l) l.length l.length).map natA) false] []) l (by simp)
      (fun i x hx => by
        have hi := lt_len hx
        have hw := wrap_ix hi hl
        have hlt := lt_of hi
        obtain ⟨b, hs, hb1, hb2, hb3⟩ := rank_next hv hi
        have hin := inner78 l (rankR (ltI l) l.length i) i hl
        rw [hs] at hin
        rw [hb3, ← flg_set]
        have hf := flg_at (acc := rankR (ltI l) l.length i) hb1
        rw [hb2] at hf
        have hcl := flg_cl (rankR (ltI l) l.length i) l.length
        have hcl2 := flg_cl (rankR (ltI l) l.length i ++ [b]) l.length
        rw [← flg_set] at hcl2
        have hlen : (rankR (ltI l) l.length i).length = i := by obtain ⟨_, _, _, _, _, _, h6⟩ := rankR_spec (swoR hv) l.length i (by omega); exact h6
        generalize rankR (ltI l) l.length i = acc at hin hf hcl hcl2 hlen ⊢
        cases acc with
        | nil =>
          have hr := r780a (l.map p2C.enc) (flg [] l.length) l.length l.length i b
          rw [hw] at hr
          exact T8_ok.rndN hr ⟨hlt, ⟨⟨hcl, trivial⟩, ⟨hcl, trivial⟩, hin⟩, hb1, hf, ⟨hcl2, natCl [b], trivial⟩, rfl⟩
        | cons q r =>
          have hr := r780b (l.map p2C.enc) (flg (q :: r) l.length) ((q :: r).map natA) l.length l.length i ((q :: r).map natA).length b
          rw [hw] at hr
          have eq : rkSt [0, 3, 4, 11, 12] (fun a => [.rsl 2 (l.map p2C.enc) false, a, .sl 9 0 1 0 l.length, natA l.length, natA (i + 1)]) ((flg (q :: r) l.length).set (0 + b) (AV.v (.bool true))) ((q :: r) ++ [b]) = mkSt [0, 3, 4, 11, 12] [9, 48] 51 [.rsl 2 (l.map p2C.enc) false, .sl 48 1 1 0 ((q :: r).map natA ++ [natA b]).length, .sl 9 0 1 0 l.length, natA l.length, natA (i + 1)] [(false, .arr 1 ((flg (q :: r) l.length).set (0 + b) (AV.v (.bool true))) true), (false, .arr 1 ((q :: r).map natA ++ [natA b]) false)] := by
            rw [show (q :: r).map natA ++ [natA b] = ((q :: r) ++ [b]).map natA by simp]; rfl
          rw [eq]
          have h2 : ((q :: r).map natA ++ [AV.v (.int .i64 (Int.ofNat b))]).length ≤ 100 := by simp at hlen ⊢; omega
          exact T8_ok.rndN hr ⟨hlt, ⟨⟨hcl, natCl (q :: r), trivial⟩, ⟨hcl, natCl (q :: r), trivial⟩, hin⟩, hb1, hf, ⟨rfl, rfl, rfl, by omega, by omega, by decide⟩, ⟨hcl2, (natCl (q :: r)).append (natCl [b]), trivial⟩, rfl⟩)
      (by
        refine Says.blEnd (key := 48) ?_ (natCl _)
        have hlt := lt_self l.length
        generalize rankR (ltI l) l.length l.length = acc
        cases acc with
        | nil => exact T8_ok.rndX (r780ax (l.map p2C.enc) (flg [] l.length) l.length l.length l.length) ⟨hlt, trivial, rfl⟩
        | cons q r => exact T8_ok.rndX (r780bx (l.map p2C.enc) (flg (q :: r) l.length) ((q :: r).map natA) l.length l.length l.length ((q :: r).map natA).length) ⟨hlt, ⟨natCl (q :: r), trivial⟩, rfl⟩)
    rw [nats_map]
    refine T8_ok.tr (t78 (l.map p2C.enc) ((rankR (ltI l) l.length l.length).map natA)) ?_
    rw [List.length_map, flg_nil]
    exact ⟨⟨Nat.le_refl _, by omega, by omega, rfl, by decide⟩, ⟨⟨flg_cl _ _, trivial⟩, trivial, h.says⟩, rfl⟩
def K1 : Specs := ((((((T8.set 72 shrG).set 164 rmG).set 74 ownRG).set 76 csG).set 147 cloG).set 78 rkG)
theorem K1_ok : Ok K1 := ((((((T8_ok.set h72).set h164).set h74).set h76).set h147).set h78)
end Go.Vm.S6
