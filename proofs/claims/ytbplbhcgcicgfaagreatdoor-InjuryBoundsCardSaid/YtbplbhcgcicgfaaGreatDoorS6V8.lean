/- Bounds of a trace. -/
import Derived.Test.YtbplbhcgcicgfaaGreatDoorS6V7
namespace Go.Vm.S6
open Go.Proofs Go.RowKit
set_option maxRecDepth 100000 in
theorem t53 (es ls hs : List AV) (lo hi e : Int) (st st2 : BW) (o : Bool) : evTreeD (CS V6) 60 53 [.rsl 4 es false, .agg [intA lo, intA hi]] [.sp [.rsl 4 es false] (intA e), .br [] [.sp [.rsl 4 es false, fnV 124] (.rsl 1 ls false), .sp [.rsl 1 ls false, .agg [intA lo, intA hi], clA es] (bwA st), .sp [.rsl 4 es false, fnV 125] (.rsl 1 hs false), .sp [.rsl 1 hs false, .agg [intA lo, intA hi], fnV 100] (bwA st2), .br [.sp [.rsl 4 es false, fnV 126] (boolA o)] [.sp [.rsl 4 es false, fnV 126] (boolA o)]]] =
    (.need (([.rsl 4 es false] : List AV) = ([.rsl 4 es false] : List AV) ∧ (Cx.spec (CS V6) 59 ([.rsl 4 es false] : List AV)) = (some (AV.v (.int .i64 e)))) (bif firstM [e, lenM (lo, hi), whenM (decide (Int.ofNat es.length < lo)) 16] != 0 then (.done (some (.tup [.agg [.v (.int .i64 0), .v (.int .i64 0), .v (.int .i64 0), .v (.int .i64 0), .v (.bool false)], .v (.int .i64 (firstM [e, lenM (lo, hi), whenM (decide (Int.ofNat es.length < lo)) 16]))]))) else (.need (([.rsl 4 es false, .fn (Fn.func 124) [] []] : List AV) = ([.rsl 4 es false, .fn (Fn.func 124) [] []] : List AV) ∧ (Cx.spec (CS V6) 123 ([.rsl 4 es false, .fn (Fn.func 124) [] []] : List AV)) = (some (AV.rsl 1 ls false))) (.need (([.rsl 1 ls false, .agg [.v (.int .i64 lo), .v (.int .i64 hi)], .fn (Fn.func 120) [] [.rptr [.rsl 4 es false]]] : List AV) = ([.rsl 1 ls false, .agg [.v (.int .i64 lo), .v (.int .i64 hi)], .fn (Fn.func 120) [] [.rptr [.rsl 4 es false]]] : List AV) ∧ (Cx.spec (CS V6) 99 ([.rsl 1 ls false, .agg [.v (.int .i64 lo), .v (.int .i64 hi)], .fn (Fn.func 120) [] [.rptr [.rsl 4 es false]]] : List AV)) = (some (AV.tup [.agg [.v (.int .i64 st.snd.fst.fst), .v (.int .i64 st.snd.fst.snd), .v (.int .i64 st.snd.snd.fst), .v (.int .i64 st.snd.snd.snd)], .v (.bool st.fst)]))) (.need (([.rsl 4 es false, .fn (Fn.func 125) [] []] : List AV) = ([.rsl 4 es false, .fn (Fn.func 125) [] []] : List AV) ∧ (Cx.spec (CS V6) 123 ([.rsl 4 es false, .fn (Fn.func 125) [] []] : List AV)) = (some (AV.rsl 1 hs false))) (.need (([.rsl 1 hs false, .agg [.v (.int .i64 lo), .v (.int .i64 hi)], .fn (Fn.func 100) [] []] : List AV) = ([.rsl 1 hs false, .agg [.v (.int .i64 lo), .v (.int .i64 hi)], .fn (Fn.func 100) [] []] : List AV) ∧ (Cx.spec (CS V6) 99 ([.rsl 1 hs false, .agg [.v (.int .i64 lo), .v (.int .i64 hi)], .fn (Fn.func 100) [] []] : List AV)) = (some (AV.tup [.agg [.v (.int .i64 st2.snd.fst.fst), .v (.int .i64 st2.snd.fst.snd), .v (.int .i64 st2.snd.snd.fst), .v (.int .i64 st2.snd.snd.snd)], .v (.bool st2.fst)]))) (bif !st.fst then (.need (([.rsl 4 es false, .fn (Fn.func 126) [] []] : List AV) = ([.rsl 4 es false, .fn (Fn.func 126) [] []] : List AV) ∧ (Cx.spec (CS V6) 121 ([.rsl 4 es false, .fn (Fn.func 126) [] []] : List AV)) = (some (AV.v (.bool o)))) (.done (some (.tup [.agg [.v (.int .i64 0), .v (.int .i64 1), .v (.int .i64 st2.snd.snd.fst), .v (.int .i64 st2.snd.snd.snd), .v (.bool o)], .v (.int .i64 0)])))) else (.need (([.rsl 4 es false, .fn (Fn.func 126) [] []] : List AV) = ([.rsl 4 es false, .fn (Fn.func 126) [] []] : List AV) ∧ (Cx.spec (CS V6) 121 ([.rsl 4 es false, .fn (Fn.func 126) [] []] : List AV)) = (some (AV.v (.bool o)))) (.done (some (.tup [.agg [.v (.int .i64 st.snd.snd.fst), .v (.int .i64 st.snd.snd.snd), .v (.int .i64 st2.snd.snd.fst), .v (.int .i64 st2.snd.snd.snd), .v (.bool o)], .v (.int .i64 0)]))))))))))) := by kernel_rfl
set_option maxRecDepth 100000 in
theorem t55 (es zs hs : List AV) (k e m1 m2 a1 b1 a2 b2 : Int) (o : Bool) : evTreeD (CS V6) 60 55 [.rsl 4 es false, intA k] [.sp [.rsl 4 es false] (intA e), .br [] [.sp [.rsl 4 es false, fnV 127] (.rsl 1 zs false), .sp [.rsl 1 zs false, intA k] (.tup [intA m1, .agg [intA a1, intA b1]]), .sp [.rsl 4 es false, fnV 125] (.rsl 1 hs false), .sp [.rsl 1 hs false, intA k] (.tup [intA m2, .agg [intA a2, intA b2]]), .sp [intA (mx m1 0)] (p2A (mx m1 0, 1)), .sp [intA (mx m2 0)] (p2A (mx m2 0, 1)), .sp [.rsl 4 es false, fnV 126] (boolA o)]] =
    (.need (([.rsl 4 es false] : List AV) = ([.rsl 4 es false] : List AV) ∧ (Cx.spec (CS V6) 59 ([.rsl 4 es false] : List AV)) = (some (AV.v (.int .i64 e)))) (bif firstM [e, cntM k, whenM (decide (Int.ofNat es.length < k)) 16] != 0 then (.done (some (.tup [.agg [.v (.int .i64 0), .v (.int .i64 0), .v (.int .i64 0), .v (.int .i64 0), .v (.bool false)], .v (.int .i64 (firstM [e, cntM k, whenM (decide (Int.ofNat es.length < k)) 16]))]))) else (.need (([.rsl 4 es false, .fn (Fn.func 127) [] []] : List AV) = ([.rsl 4 es false, .fn (Fn.func 127) [] []] : List AV) ∧ (Cx.spec (CS V6) 123 ([.rsl 4 es false, .fn (Fn.func 127) [] []] : List AV)) = (some (AV.rsl 1 zs false))) (.need (([.rsl 1 zs false, .v (.int .i64 k)] : List AV) = ([.rsl 1 zs false, .v (.int .i64 k)] : List AV) ∧ (Cx.spec (CS V6) 108 ([.rsl 1 zs false, .v (.int .i64 k)] : List AV)) = (some (AV.tup [.v (.int .i64 m1), .agg [.v (.int .i64 a1), .v (.int .i64 b1)]]))) (.need (([.rsl 4 es false, .fn (Fn.func 125) [] []] : List AV) = ([.rsl 4 es false, .fn (Fn.func 125) [] []] : List AV) ∧ (Cx.spec (CS V6) 123 ([.rsl 4 es false, .fn (Fn.func 125) [] []] : List AV)) = (some (AV.rsl 1 hs false))) (.need (([.rsl 1 hs false, .v (.int .i64 k)] : List AV) = ([.rsl 1 hs false, .v (.int .i64 k)] : List AV) ∧ (Cx.spec (CS V6) 108 ([.rsl 1 hs false, .v (.int .i64 k)] : List AV)) = (some (AV.tup [.v (.int .i64 m2), .agg [.v (.int .i64 a2), .v (.int .i64 b2)]]))) (.need (([.v (.int .i64 (if m1 > 0 then m1 else 0))] : List AV) = ([.v (.int .i64 (mx m1 0))] : List AV) ∧ (Cx.spec (CS V6) 128 ([.v (.int .i64 (mx m1 0))] : List AV)) = (some (AV.agg [.v (.int .i64 (mx m1 0)), .v (.int .i64 1)]))) (.need (([.v (.int .i64 (if m2 > 0 then m2 else 0))] : List AV) = ([.v (.int .i64 (mx m2 0))] : List AV) ∧ (Cx.spec (CS V6) 128 ([.v (.int .i64 (mx m2 0))] : List AV)) = (some (AV.agg [.v (.int .i64 (mx m2 0)), .v (.int .i64 1)]))) (.need (([.rsl 4 es false, .fn (Fn.func 126) [] []] : List AV) = ([.rsl 4 es false, .fn (Fn.func 126) [] []] : List AV) ∧ (Cx.spec (CS V6) 121 ([.rsl 4 es false, .fn (Fn.func 126) [] []] : List AV)) = (some (AV.v (.bool o)))) (.done (some (.tup [.agg [.v (.int .i64 (mx m1 0)), .v (.int .i64 1), .v (.int .i64 (mx m2 0)), .v (.int .i64 1), .v (.bool o)], .v (.int .i64 0)])))))))))))) := by kernel_rfl
set_option maxRecDepth 100000 in
theorem r572 (es ls : List AV) (lo hi : Int) (u x r : P2) (i n q : Nat) (w : Bool) : roundD (CS V6) 60 4 57 0 73 73 false (loopOf (CS V6) 57 2) [0, 3, 4, 7, 9, 10, 11] [3, 4, 7, 9] [0, 3, 4, 7, 9, 10, 11] [3, 4, 7, 9] [0, 3, 4, 7, 9, 10] [3, 4, 7, 9] [.rsl 4 es false, .ptr 3 0 0, .ptr 4 1 0, .ptr 7 2 0, .ptr 9 3 0, intA (Int.ofNat i), intA (Int.ofNat n)] [(false, .box [intA lo, intA hi]), (false, .box [intA 0, intA 0, intA 0, intA 0, boolA false]), (false, .box [intA u.1, intA u.2]), (false, .box [intA x.1, intA x.2])] [.br [.ar (intA (Int.ofNat q)), .sp [.rsl 4 es false] (.rsl 1 ls false), .sp [.rsl 1 ls false, .agg [intA (Int.ofNat i), intA (Int.ofNat q)]] (p2A r), .sp [.rsl 4 es false, .agg [intA (Int.ofNat i), intA (Int.ofNat q)]] (boolA w)] []] =
    (bif decide (Int.ofNat n ≤ hi) then (bif decide (IntKind.i64.wrap (Int.ofNat i + Int.ofNat n) ≤ Int.ofNat es.length) then (.need ((abin (CS V6) BinOp.add 3 (Operand.tmp 49) (Operand.tmp 50) (AV.v (.int .i64 (Int.ofNat i))) (AV.v (.int .i64 (Int.ofNat n)))) = (some (AV.v (.int .i64 (Int.ofNat q))))) (.need (([.rsl 4 es false] : List AV) = ([.rsl 4 es false] : List AV) ∧ (Cx.spec (CS V6) 130 ([.rsl 4 es false] : List AV)) = (some (AV.rsl 1 ls false))) (.need (([.rsl 1 ls false, .agg [.v (.int .i64 (Int.ofNat i)), .v (.int .i64 (Int.ofNat q))]] : List AV) = ([.rsl 1 ls false, .agg [.v (.int .i64 (Int.ofNat i)), .v (.int .i64 (Int.ofNat q))]] : List AV) ∧ (Cx.spec (CS V6) 27 ([.rsl 1 ls false, .agg [.v (.int .i64 (Int.ofNat i)), .v (.int .i64 (Int.ofNat q))]] : List AV)) = (some (AV.agg [.v (.int .i64 r.fst), .v (.int .i64 r.snd)]))) (.need (([.rsl 4 es false, .agg [.v (.int .i64 (Int.ofNat i)), .v (.int .i64 (Int.ofNat q))]] : List AV) = ([.rsl 4 es false, .agg [.v (.int .i64 (Int.ofNat i)), .v (.int .i64 (Int.ofNat q))]] : List AV) ∧ (Cx.spec (CS V6) 131 ([.rsl 4 es false, .agg [.v (.int .i64 (Int.ofNat i)), .v (.int .i64 (Int.ofNat q))]] : List AV)) = (some (AV.v (.bool w)))) (bif !w then (bif decide (cmpW r x > 0) then (.need (EntClosed [(false, .box [.v (.int .i64 lo), .v (.int .i64 hi)]), (false, .box [.v (.int .i64 0), .v (.int .i64 0), .v (.int .i64 0), .v (.int .i64 0), .v (.bool false)]), (false, .box [.v (.int .i64 u.fst), .v (.int .i64 u.snd)]), (false, .box [.v (.int .i64 r.fst), .v (.int .i64 r.snd)])]) (.done (some ((.nrm, [.rsl 4 es false, .ptr 3 0 0, .ptr 4 1 0, .ptr 7 2 0, .ptr 9 3 0, .v (.int .i64 (Int.ofNat i)), .v (.int .i64 (IntKind.i64.wrap (Int.ofNat n + 1)))], [(false, .box [.v (.int .i64 lo), .v (.int .i64 hi)]), (false, .box [.v (.int .i64 0), .v (.int .i64 0), .v (.int .i64 0), .v (.int .i64 0), .v (.bool false)]), (false, .box [.v (.int .i64 u.fst), .v (.int .i64 u.snd)]), (false, .box [.v (.int .i64 r.fst), .v (.int .i64 r.snd)])]))))) else (.need (EntClosed [(false, .box [.v (.int .i64 lo), .v (.int .i64 hi)]), (false, .box [.v (.int .i64 0), .v (.int .i64 0), .v (.int .i64 0), .v (.int .i64 0), .v (.bool false)]), (false, .box [.v (.int .i64 u.fst), .v (.int .i64 u.snd)]), (false, .box [.v (.int .i64 x.fst), .v (.int .i64 x.snd)])]) (.done (some ((.nrm, [.rsl 4 es false, .ptr 3 0 0, .ptr 4 1 0, .ptr 7 2 0, .ptr 9 3 0, .v (.int .i64 (Int.ofNat i)), .v (.int .i64 (IntKind.i64.wrap (Int.ofNat n + 1)))], [(false, .box [.v (.int .i64 lo), .v (.int .i64 hi)]), (false, .box [.v (.int .i64 0), .v (.int .i64 0), .v (.int .i64 0), .v (.int .i64 0), .v (.bool false)]), (false, .box [.v (.int .i64 u.fst), .v (.int .i64 u.snd)]), (false, .box [.v (.int .i64 x.fst), .v (.int .i64 x.snd)])])))))) else (.need (EntClosed [(false, .box [.v (.int .i64 lo), .v (.int .i64 hi)]), (false, .box [.v (.int .i64 0), .v (.int .i64 0), .v (.int .i64 0), .v (.int .i64 0), .v (.bool false)]), (false, .box [.v (.int .i64 u.fst), .v (.int .i64 u.snd)]), (false, .box [.v (.int .i64 x.fst), .v (.int .i64 x.snd)])]) (.done (some ((.nrm, [.rsl 4 es false, .ptr 3 0 0, .ptr 4 1 0, .ptr 7 2 0, .ptr 9 3 0, .v (.int .i64 (Int.ofNat i)), .v (.int .i64 (IntKind.i64.wrap (Int.ofNat n + 1)))], [(false, .box [.v (.int .i64 lo), .v (.int .i64 hi)]), (false, .box [.v (.int .i64 0), .v (.int .i64 0), .v (.int .i64 0), .v (.int .i64 0), .v (.bool false)]), (false, .box [.v (.int .i64 u.fst), .v (.int .i64 u.snd)]), (false, .box [.v (.int .i64 x.fst), .v (.int .i64 x.snd)])])))))))))) else (.need (EntClosed [(false, .box [.v (.int .i64 lo), .v (.int .i64 hi)]), (false, .box [.v (.int .i64 0), .v (.int .i64 0), .v (.int .i64 0), .v (.int .i64 0), .v (.bool false)]), (false, .box [.v (.int .i64 u.fst), .v (.int .i64 u.snd)]), (false, .box [.v (.int .i64 x.fst), .v (.int .i64 x.snd)])]) (.done (some (((.exit 2), [.rsl 4 es false, .ptr 3 0 0, .ptr 4 1 0, .ptr 7 2 0, .ptr 9 3 0, .v (.int .i64 (Int.ofNat i))], [(false, .box [.v (.int .i64 lo), .v (.int .i64 hi)]), (false, .box [.v (.int .i64 0), .v (.int .i64 0), .v (.int .i64 0), .v (.int .i64 0), .v (.bool false)]), (false, .box [.v (.int .i64 u.fst), .v (.int .i64 u.snd)]), (false, .box [.v (.int .i64 x.fst), .v (.int .i64 x.snd)])])))))) else (.need (EntClosed [(false, .box [.v (.int .i64 lo), .v (.int .i64 hi)]), (false, .box [.v (.int .i64 0), .v (.int .i64 0), .v (.int .i64 0), .v (.int .i64 0), .v (.bool false)]), (false, .box [.v (.int .i64 u.fst), .v (.int .i64 u.snd)]), (false, .box [.v (.int .i64 x.fst), .v (.int .i64 x.snd)])]) (.done (some (((.exit 2), [.rsl 4 es false, .ptr 3 0 0, .ptr 4 1 0, .ptr 7 2 0, .ptr 9 3 0, .v (.int .i64 (Int.ofNat i))], [(false, .box [.v (.int .i64 lo), .v (.int .i64 hi)]), (false, .box [.v (.int .i64 0), .v (.int .i64 0), .v (.int .i64 0), .v (.int .i64 0), .v (.bool false)]), (false, .box [.v (.int .i64 u.fst), .v (.int .i64 u.snd)]), (false, .box [.v (.int .i64 x.fst), .v (.int .i64 x.snd)])])))))) := by kernel_rfl
set_option maxRecDepth 100000 in
theorem r570 (es : List AV) (lo hi : Int) (u x y : P2) (i : Nat) : roundD (CS V6) 60 0 57 0 73 73 false (loopOf (CS V6) 57 0) [0, 3, 4, 7, 9, 10] [3, 4, 7, 9] [0, 3, 4, 7, 9, 10] [3, 4, 7, 9] [0, 4, 7, 9] [4, 7, 9] [.rsl 4 es false, .ptr 3 0 0, .ptr 4 1 0, .ptr 7 2 0, .ptr 9 3 0, intA (Int.ofNat i)] [(false, .box [intA lo, intA hi]), (false, .box [intA 0, intA 0, intA 0, intA 0, boolA false]), (false, .box [intA u.1, intA u.2]), (false, .box [intA x.1, intA x.2])] [.br [.loop 4 [0, 3, 4, 7, 9, 10, 11] [3, 4, 7, 9] [0, 3, 4, 7, 9, 10] [3, 4, 7, 9] (.exit 2) [.rsl 4 es false, .ptr 3 0 0, .ptr 4 1 0, .ptr 7 2 0, .ptr 9 3 0, intA (Int.ofNat i)] [(false, .box [intA lo, intA hi]), (false, .box [intA 0, intA 0, intA 0, intA 0, boolA false]), (false, .box [intA u.1, intA u.2]), (false, .box [intA y.1, intA y.2])]] []] =
    (bif decide (Int.ofNat i < Int.ofNat es.length) then (.need (EntClosed [(false, .box [.v (.int .i64 lo), .v (.int .i64 hi)]), (false, .box [.v (.int .i64 0), .v (.int .i64 0), .v (.int .i64 0), .v (.int .i64 0), .v (.bool false)]), (false, .box [.v (.int .i64 u.fst), .v (.int .i64 u.snd)]), (false, .box [.v (.int .i64 x.fst), .v (.int .i64 x.snd)])] ∧ EntClosed [(false, .box [.v (.int .i64 lo), .v (.int .i64 hi)]), (false, .box [.v (.int .i64 0), .v (.int .i64 0), .v (.int .i64 0), .v (.int .i64 0), .v (.bool false)]), (false, .box [.v (.int .i64 u.fst), .v (.int .i64 u.snd)]), (false, .box [.v (.int .i64 y.fst), .v (.int .i64 y.snd)])] ∧ Says (CS V6) 4 73 false (.loop (loopOf (CS V6) 57 2)) (mkSt [0, 3, 4, 7, 9, 10, 11] [3, 4, 7, 9] 73 [.rsl 4 es false, .ptr 3 0 0, .ptr 4 1 0, .ptr 7 2 0, .ptr 9 3 0, .v (.int .i64 (Int.ofNat i)), .v (.int .i64 lo)] [(false, .box [.v (.int .i64 lo), .v (.int .i64 hi)]), (false, .box [.v (.int .i64 0), .v (.int .i64 0), .v (.int .i64 0), .v (.int .i64 0), .v (.bool false)]), (false, .box [.v (.int .i64 u.fst), .v (.int .i64 u.snd)]), (false, .box [.v (.int .i64 x.fst), .v (.int .i64 x.snd)])]) (.exit 2) (mkSt [0, 3, 4, 7, 9, 10] [3, 4, 7, 9] 73 [.rsl 4 es false, .ptr 3 0 0, .ptr 4 1 0, .ptr 7 2 0, .ptr 9 3 0, .v (.int .i64 (Int.ofNat i))] [(false, .box [.v (.int .i64 lo), .v (.int .i64 hi)]), (false, .box [.v (.int .i64 0), .v (.int .i64 0), .v (.int .i64 0), .v (.int .i64 0), .v (.bool false)]), (false, .box [.v (.int .i64 u.fst), .v (.int .i64 u.snd)]), (false, .box [.v (.int .i64 y.fst), .v (.int .i64 y.snd)])])) (.need (EntClosed [(false, .box [.v (.int .i64 lo), .v (.int .i64 hi)]), (false, .box [.v (.int .i64 0), .v (.int .i64 0), .v (.int .i64 0), .v (.int .i64 0), .v (.bool false)]), (false, .box [.v (.int .i64 u.fst), .v (.int .i64 u.snd)]), (false, .box [.v (.int .i64 y.fst), .v (.int .i64 y.snd)])]) (.done (some ((.nrm, [.rsl 4 es false, .ptr 3 0 0, .ptr 4 1 0, .ptr 7 2 0, .ptr 9 3 0, .v (.int .i64 (IntKind.i64.wrap (Int.ofNat i + 1)))], [(false, .box [.v (.int .i64 lo), .v (.int .i64 hi)]), (false, .box [.v (.int .i64 0), .v (.int .i64 0), .v (.int .i64 0), .v (.int .i64 0), .v (.bool false)]), (false, .box [.v (.int .i64 u.fst), .v (.int .i64 u.snd)]), (false, .box [.v (.int .i64 y.fst), .v (.int .i64 y.snd)])])))))) else (.need (EntClosed [(false, .box [.v (.int .i64 0), .v (.int .i64 0), .v (.int .i64 0), .v (.int .i64 0), .v (.bool false)]), (false, .box [.v (.int .i64 u.fst), .v (.int .i64 u.snd)]), (false, .box [.v (.int .i64 x.fst), .v (.int .i64 x.snd)])]) (.done (some (((.exit 0), [.rsl 4 es false, .ptr 4 0 0, .ptr 7 1 0, .ptr 9 2 0], [(false, .box [.v (.int .i64 0), .v (.int .i64 0), .v (.int .i64 0), .v (.int .i64 0), .v (.bool false)]), (false, .box [.v (.int .i64 u.fst), .v (.int .i64 u.snd)]), (false, .box [.v (.int .i64 x.fst), .v (.int .i64 x.snd)])])))))) := by kernel_rfl
set_option maxRecDepth 100000 in
theorem t57 (es hs : List AV) (lo hi : Int) (s u x : P2) (o ov : Bool) : evTreeD (CS V6) 60 57 [.rsl 4 es false, .agg [intA lo, intA hi]] [.sp [.rsl 4 es false] (.rsl 1 hs false), .sp [.rsl 1 hs false, .agg [intA lo, intA hi]] (.tup [p2A s, p2A u, boolA o]), .br [] [.loop 0 [0, 3, 4, 7, 9, 10] [3, 4, 7, 9] [0, 4, 7, 9] [4, 7, 9] (.exit 0) [.rsl 4 es false, .ptr 4 0 0, .ptr 7 1 0, .ptr 9 2 0] [(false, .box [intA 0, intA 0, intA 0, intA 0, boolA false]), (false, .box [intA u.1, intA u.2]), (false, .box [intA x.1, intA x.2])], .sp [.rsl 4 es false] (boolA ov)]] =
    (.need (([.rsl 4 es false] : List AV) = ([.rsl 4 es false] : List AV) ∧ (Cx.spec (CS V6) 129 ([.rsl 4 es false] : List AV)) = (some (AV.rsl 1 hs false))) (.need (([.rsl 1 hs false, .agg [.v (.int .i64 lo), .v (.int .i64 hi)]] : List AV) = ([.rsl 1 hs false, .agg [.v (.int .i64 lo), .v (.int .i64 hi)]] : List AV) ∧ (Cx.spec (CS V6) 28 ([.rsl 1 hs false, .agg [.v (.int .i64 lo), .v (.int .i64 hi)]] : List AV)) = (some (AV.tup [.agg [.v (.int .i64 s.fst), .v (.int .i64 s.snd)], .agg [.v (.int .i64 u.fst), .v (.int .i64 u.snd)], .v (.bool o)]))) (bif !o then (.done (some (.tup [.agg [.v (.int .i64 0), .v (.int .i64 0), .v (.int .i64 0), .v (.int .i64 0), .v (.bool false)], .v (.bool false)]))) else (.need (EntClosed [(false, .box [.v (.int .i64 lo), .v (.int .i64 hi)]), (false, .box [.v (.int .i64 0), .v (.int .i64 0), .v (.int .i64 0), .v (.int .i64 0), .v (.bool false)]), (false, .box [.v (.int .i64 u.fst), .v (.int .i64 u.snd)]), (false, .box [.v (.int .i64 0), .v (.int .i64 1)])] ∧ EntClosed [(false, .box [.v (.int .i64 0), .v (.int .i64 0), .v (.int .i64 0), .v (.int .i64 0), .v (.bool false)]), (false, .box [.v (.int .i64 u.fst), .v (.int .i64 u.snd)]), (false, .box [.v (.int .i64 x.fst), .v (.int .i64 x.snd)])] ∧ Says (CS V6) 0 73 false (.loop (loopOf (CS V6) 57 0)) (mkSt [0, 3, 4, 7, 9, 10] [3, 4, 7, 9] 73 [.rsl 4 es false, .ptr 3 0 0, .ptr 4 1 0, .ptr 7 2 0, .ptr 9 3 0, .v (.int .i64 0)] [(false, .box [.v (.int .i64 lo), .v (.int .i64 hi)]), (false, .box [.v (.int .i64 0), .v (.int .i64 0), .v (.int .i64 0), .v (.int .i64 0), .v (.bool false)]), (false, .box [.v (.int .i64 u.fst), .v (.int .i64 u.snd)]), (false, .box [.v (.int .i64 0), .v (.int .i64 1)])]) (.exit 0) (mkSt [0, 4, 7, 9] [4, 7, 9] 73 [.rsl 4 es false, .ptr 4 0 0, .ptr 7 1 0, .ptr 9 2 0] [(false, .box [.v (.int .i64 0), .v (.int .i64 0), .v (.int .i64 0), .v (.int .i64 0), .v (.bool false)]), (false, .box [.v (.int .i64 u.fst), .v (.int .i64 u.snd)]), (false, .box [.v (.int .i64 x.fst), .v (.int .i64 x.snd)])])) (.need (([.rsl 4 es false] : List AV) = ([.rsl 4 es false] : List AV) ∧ (Cx.spec (CS V6) 132 ([.rsl 4 es false] : List AV)) = (some (AV.v (.bool ov)))) (.done (some (.tup [.agg [.v (.int .i64 x.fst), .v (.int .i64 x.snd), .v (.int .i64 u.fst), .v (.int .i64 u.snd), .v (.bool ov)], .v (.bool true)])))))))) := by kernel_rfl
set_option maxRecDepth 100000 in
theorem r58 (es ls : List AV) (k m x a b c : Int) (i q : Nat) (w : Bool) : roundD (CS V6) 60 0 58 0 57 57 false (loopOf (CS V6) 58 0) [0, 1, 4, 5, 7, 8] [4] [0, 1, 4, 5, 7, 8] [4] [0, 4, 5, 7] [4] [.rsl 4 es false, intA k, .ptr 4 0 0, intA m, intA x, intA (Int.ofNat i)] [(false, .box [intA 0, intA 0, intA 0, intA 0, boolA false])] [.br [.sp [.rsl 4 es false] (.rsl 1 ls false), .ar (intA (Int.ofNat q)), .chk [], .sp [.rsl 1 ((ls.drop i).take (q - i)) false, intA k] (.tup [intA a, .agg [intA b, intA c]]), .ar (intA (Int.ofNat q)), .sp [.rsl 4 es false, .agg [intA (Int.ofNat i), intA (Int.ofNat q)]] (boolA w)] []] =
    (bif decide (IntKind.i64.wrap (Int.ofNat i + k) ≤ Int.ofNat es.length) then (.need (([.rsl 4 es false] : List AV) = ([.rsl 4 es false] : List AV) ∧ (Cx.spec (CS V6) 130 ([.rsl 4 es false] : List AV)) = (some (AV.rsl 1 ls false))) (.need ((abin (CS V6) BinOp.add 3 (Operand.tmp 30) (Operand.tmp 31) (AV.v (.int .i64 (Int.ofNat i))) (AV.v (.int .i64 k))) = (some (AV.v (.int .i64 (Int.ofNat q))))) (.need (i ≤ q ∧ q ≤ ls.length) (.need (([.rsl 1 (List.take (q - i) (List.drop i ls)) false, .v (.int .i64 k)] : List AV) = ([.rsl 1 (List.take (q - i) (List.drop i ls)) false, .v (.int .i64 k)] : List AV) ∧ (Cx.spec (CS V6) 37 ([.rsl 1 (List.take (q - i) (List.drop i ls)) false, .v (.int .i64 k)] : List AV)) = (some (AV.tup [.v (.int .i64 a), .agg [.v (.int .i64 b), .v (.int .i64 c)]]))) (.need ((abin (CS V6) BinOp.add 3 (Operand.tmp 40) (Operand.tmp 41) (AV.v (.int .i64 (Int.ofNat i))) (AV.v (.int .i64 k))) = (some (AV.v (.int .i64 (Int.ofNat q))))) (.need (([.rsl 4 es false, .agg [.v (.int .i64 (Int.ofNat i)), .v (.int .i64 (Int.ofNat q))]] : List AV) = ([.rsl 4 es false, .agg [.v (.int .i64 (Int.ofNat i)), .v (.int .i64 (Int.ofNat q))]] : List AV) ∧ (Cx.spec (CS V6) 131 ([.rsl 4 es false, .agg [.v (.int .i64 (Int.ofNat i)), .v (.int .i64 (Int.ofNat q))]] : List AV)) = (some (AV.v (.bool w)))) (bif !w then (.need (EntClosed [(false, .box [.v (.int .i64 0), .v (.int .i64 0), .v (.int .i64 0), .v (.int .i64 0), .v (.bool false)])]) (.done (some ((.nrm, [.rsl 4 es false, .v (.int .i64 k), .ptr 4 0 0, .v (.int .i64 m), .v (.int .i64 (if a > x then a else x)), .v (.int .i64 (IntKind.i64.wrap (Int.ofNat i + 1)))], [(false, .box [.v (.int .i64 0), .v (.int .i64 0), .v (.int .i64 0), .v (.int .i64 0), .v (.bool false)])]))))) else (.need (EntClosed [(false, .box [.v (.int .i64 0), .v (.int .i64 0), .v (.int .i64 0), .v (.int .i64 0), .v (.bool false)])]) (.done (some ((.nrm, [.rsl 4 es false, .v (.int .i64 k), .ptr 4 0 0, .v (.int .i64 m), .v (.int .i64 x), .v (.int .i64 (IntKind.i64.wrap (Int.ofNat i + 1)))], [(false, .box [.v (.int .i64 0), .v (.int .i64 0), .v (.int .i64 0), .v (.int .i64 0), .v (.bool false)])])))))))))))) else (.need (EntClosed [(false, .box [.v (.int .i64 0), .v (.int .i64 0), .v (.int .i64 0), .v (.int .i64 0), .v (.bool false)])]) (.done (some (((.exit 0), [.rsl 4 es false, .ptr 4 0 0, .v (.int .i64 m), .v (.int .i64 x)], [(false, .box [.v (.int .i64 0), .v (.int .i64 0), .v (.int .i64 0), .v (.int .i64 0), .v (.bool false)])])))))) := by kernel_rfl
set_option maxRecDepth 100000 in
theorem t58 (es hs : List AV) (k m x a b : Int) (ov : Bool) : evTreeD (CS V6) 60 58 [.rsl 4 es false, intA k] [.sp [.rsl 4 es false] (.rsl 1 hs false), .sp [.rsl 1 hs false, intA k] (.tup [intA m, .agg [intA a, intA b]]), .loop 0 [0, 1, 4, 5, 7, 8] [4] [0, 4, 5, 7] [4] (.exit 0) [.rsl 4 es false, .ptr 4 0 0, intA m, intA x] [(false, .box [intA 0, intA 0, intA 0, intA 0, boolA false])], .sp [intA x] (p2A (x, 1)), .sp [intA (mx m 0)] (p2A (mx m 0, 1)), .sp [.rsl 4 es false] (boolA ov)] =
    (.need (([.rsl 4 es false] : List AV) = ([.rsl 4 es false] : List AV) ∧ (Cx.spec (CS V6) 129 ([.rsl 4 es false] : List AV)) = (some (AV.rsl 1 hs false))) (.need (([.rsl 1 hs false, .v (.int .i64 k)] : List AV) = ([.rsl 1 hs false, .v (.int .i64 k)] : List AV) ∧ (Cx.spec (CS V6) 37 ([.rsl 1 hs false, .v (.int .i64 k)] : List AV)) = (some (AV.tup [.v (.int .i64 m), .agg [.v (.int .i64 a), .v (.int .i64 b)]]))) (.need (EntClosed [(false, .box [.v (.int .i64 0), .v (.int .i64 0), .v (.int .i64 0), .v (.int .i64 0), .v (.bool false)])] ∧ EntClosed [(false, .box [.v (.int .i64 0), .v (.int .i64 0), .v (.int .i64 0), .v (.int .i64 0), .v (.bool false)])] ∧ Says (CS V6) 0 57 false (.loop (loopOf (CS V6) 58 0)) (mkSt [0, 1, 4, 5, 7, 8] [4] 57 [.rsl 4 es false, .v (.int .i64 k), .ptr 4 0 0, .v (.int .i64 m), .v (.int .i64 0), .v (.int .i64 0)] [(false, .box [.v (.int .i64 0), .v (.int .i64 0), .v (.int .i64 0), .v (.int .i64 0), .v (.bool false)])]) (.exit 0) (mkSt [0, 4, 5, 7] [4] 57 [.rsl 4 es false, .ptr 4 0 0, .v (.int .i64 m), .v (.int .i64 x)] [(false, .box [.v (.int .i64 0), .v (.int .i64 0), .v (.int .i64 0), .v (.int .i64 0), .v (.bool false)])])) (.need (([.v (.int .i64 x)] : List AV) = ([.v (.int .i64 x)] : List AV) ∧ (Cx.spec (CS V6) 105 ([.v (.int .i64 x)] : List AV)) = (some (AV.agg [.v (.int .i64 x), .v (.int .i64 1)]))) (.need (([.v (.int .i64 (if m > 0 then m else 0))] : List AV) = ([.v (.int .i64 (mx m 0))] : List AV) ∧ (Cx.spec (CS V6) 105 ([.v (.int .i64 (mx m 0))] : List AV)) = (some (AV.agg [.v (.int .i64 (mx m 0)), .v (.int .i64 1)]))) (.need (([.rsl 4 es false] : List AV) = ([.rsl 4 es false] : List AV) ∧ (Cx.spec (CS V6) 132 ([.rsl 4 es false] : List AV)) = (some (AV.v (.bool ov)))) (.done (some (.agg [.v (.int .i64 x), .v (.int .i64 1), .v (.int .i64 (mx m 0)), .v (.int .i64 1), .v (.bool ov)]))))))))) := by kernel_rfl
theorem serF {l : List Va} {g : Va → Int} (h : Trc l) (hg : ∀ v ∈ l, -16384 ≤ g v ∧ g v ≤ 16384) : Ser (l.map g) := by
  refine ⟨by rw [List.length_map]; exact h.1, by rw [List.length_map]; exact h.2.1, fun x hx => ?_⟩
  rw [List.mem_map] at hx
  obtain ⟨v, hv, rfl⟩ := hx
  exact hg v hv
theorem serLow {l : List Va} (h : Trc l) : Ser (l.map lowV) := serF h fun v hv => (h.2.2 v hv).1
theorem serHigh {l : List Va} (h : Trc l) : Ser (l.map highV) := serF h fun v hv => (h.2.2 v hv).2.1
theorem serAdj {l : List Va} (h : Trc l) : Ser (l.map adjV) := serF h fun v hv => by
  have := (h.2.2 v hv).1
  unfold adjV
  cases underV v with
  | true => exact ⟨by simp, by simp⟩
  | false => exact this
theorem bwOf {l : List Int} {k : P2} (h : Ser l) (hk : lenM k = 0) : bwOk l k = true := by
  unfold bwOk
  rw [seriesZ.2 h, hk]; rfl
theorem orB {l : List Int} {k : P2} (h : bwOk l k = true) : orG bestG bestCG [slA intC 1 l, p2A k, fnV 100] = some (bwA (bestB l k)) := or_l (specBest h)
theorem orC {l : List Int} {k : P2} {tr : List Va} (h : bwOk l k = true) (ht : tr.length = l.length) : orG bestG bestCG [slA intC 1 l, p2A k, clA (tr.map vaC.enc)] = some (bwA (bestM (isU tr) l (natOf k.1) (natOf k.2))) := by
  refine or_r ?_ (specAt3 (A := intsC) (B := p2C) (D := clC) (b := fun l k tr => bwOk l k && tr.length == l.length) (F := fun l k tr => bwA (bestM (isU tr) l (natOf k.1) (natOf k.2))) l k tr (by rw [h, ht, beq_self_eq_true]; rfl))
  have hd : (fnC 100).dec (clA (tr.map vaC.enc)) = none := rfl
  simp only [bestG, sp3, hd]
  cases intsC.dec (slA intC 1 l) <;> cases p2C.dec (p2A k) <;> rfl
def tErr (l : List Va) (k : P2) : Int := firstM [trcM l, lenM k, whenM (decide (Int.ofNat l.length < k.1)) 16]
def bbM (l : List Va) (k : P2) : Bd5 := (lowOf (bestM (isU l) (l.map lowV) (natOf k.1) (natOf k.2)), (bestB (l.map highV) k).2.2, anyO l)
def pbbM (l : List Va) (k : P2) : AV := .tup [bdA (bif tErr l k == 0 then bbM l k else zB), intA (tErr l k)]
def pbbG : List AV → Option AV := sp2 vasC p2C fun l k => bif Nat.ble l.length lim then some (pbbM l k) else none
theorem h53 : Holds 53 pbbG := holds2 fun l k r hr => by
  cases hb : Nat.ble l.length lim with
  | false => simp [hb] at hr
  | true =>
    simp only [hb, cond_true, Option.some.injEq] at hr; subst hr
    have ht := t53 (l.map vaC.enc) ((l.map lowV).map intA) ((l.map highV).map intA) k.1 k.2 (trcM l) (bestM (isU l) (l.map lowV) (natOf k.1) (natOf k.2)) (bestB (l.map highV) k) (anyO l)
    rw [e_len', show firstM [trcM l, lenM (k.1, k.2), whenM (decide (Int.ofNat l.length < k.1)) 16] = tErr l k from rfl, bnz] at ht
    unfold pbbM
    cases hq : tErr l k == 0 with
    | false => rw [hq] at ht; exact V6_ok.tr ht ⟨⟨rfl, specTrc hb⟩, rfl⟩
    | true =>
      rw [hq] at ht
      have h0 : tErr l k = 0 := by simpa using hq
      rw [h0]
      unfold tErr at h0
      rw [firstZ, firstZ] at h0
      have htr := trcZ h0.1
      refine V6_ok.tr ht ⟨⟨rfl, specTrc hb⟩, ⟨rfl, s124 hb⟩, ⟨rfl, orC (bwOf (serLow htr) h0.2.1) (by rw [List.length_map])⟩, ⟨rfl, s125 hb⟩, ⟨rfl, orB (bwOf (serHigh htr) h0.2.1)⟩, ?_⟩
      unfold bbM
      generalize bestM (isU l) (l.map lowV) (natOf k.1) (natOf k.2) = st
      obtain ⟨o, sp, ra⟩ := st
      cases o with
      | true => exact ⟨⟨rfl, c126 hb⟩, rfl⟩
      | false => exact ⟨⟨rfl, c126 hb⟩, rfl⟩
/-! ### Held bounds -/
def hbErr (l : List Va) (k : Int) : Int := firstM [trcM l, cntM k, whenM (decide (Int.ofNat l.length < k)) 16]
def hbM (l : List Va) (k : Int) : Bd5 := ((mx (heldP (l.map adjV) (natOf k)).1 0, 1), (mx (heldP (l.map highV) (natOf k)).1 0, 1), anyO l)
def phbM (l : List Va) (k : Int) : AV := .tup [bdA (bif hbErr l k == 0 then hbM l k else zB), intA (hbErr l k)]
def phbG : List AV → Option AV := sp2 vasC intC fun l k => bif Nat.ble l.length lim then some (phbM l k) else none
theorem heldOf {l : List Va} {g : Va → Int} {k : Int} (h : Ser (l.map g)) (hk : cntM k = 0) (hl : whenM (decide (Int.ofNat l.length < k)) 16 = 0) : heldOk (l.map g) k = true := by
  unfold cntM at hk
  rw [within_zero] at hk
  have := whenZ (by omega) hl
  simp only [decide_eq_false_iff_not, Int.ofNat_eq_natCast] at this
  unfold heldOk
  rw [seriesZ.2 h, List.length_map]
  simp; omega
theorem h55 : Holds 55 phbG := holds2 fun l k r hr => by
  cases hb : Nat.ble l.length lim with
  | false => simp [hb] at hr
  | true =>
    simp only [hb, cond_true, Option.some.injEq] at hr; subst hr
    have ht := t55 (l.map vaC.enc) ((l.map adjV).map intA) ((l.map highV).map intA) k (trcM l) (heldP (l.map adjV) (natOf k)).1 (heldP (l.map highV) (natOf k)).1 (heldP (l.map adjV) (natOf k)).2 ((heldP (l.map adjV) (natOf k)).2 + k) (heldP (l.map highV) (natOf k)).2 ((heldP (l.map highV) (natOf k)).2 + k) (anyO l)
    rw [e_len', show firstM [trcM l, cntM k, whenM (decide (Int.ofNat l.length < k)) 16] = hbErr l k from rfl, bnz] at ht
    unfold phbM
    cases hq : hbErr l k == 0 with
    | false => rw [hq] at ht; exact V6_ok.tr ht ⟨⟨rfl, specTrc hb⟩, rfl⟩
    | true =>
      rw [hq] at ht
      have h0 : hbErr l k = 0 := by simpa using hq
      rw [h0]
      unfold hbErr at h0
      rw [firstZ, firstZ, firstZ] at h0
      have htr := trcZ h0.1
      have fw : ∀ n : Int, wholeG [intA n] = some (p2A (n, 1)) := fun n => sp1_at (A := intC) (F := fun n => some (p2A (n, 1))) n
      exact V6_ok.tr ht ⟨⟨rfl, specTrc hb⟩, ⟨rfl, s127 hb⟩, ⟨rfl, specHeld (heldOf (serAdj htr) h0.2.1 h0.2.2.1)⟩, ⟨rfl, s125 hb⟩, ⟨rfl, specHeld (heldOf (serHigh htr) h0.2.1 h0.2.2.1)⟩, ⟨rfl, fw _⟩, ⟨rfl, fw _⟩, ⟨rfl, c126 hb⟩, rfl⟩
/-! ### The reference's bounds -/
abbrev vbV (l : List Va) (i : Nat) : List AV := [.rsl 4 (l.map vaC.enc) false, .ptr 3 0 0, .ptr 4 1 0, .ptr 7 2 0, .ptr 9 3 0, intA (Int.ofNat i)]
abbrev vbB (lo hi : Int) (u x : P2) : List (Bool × Blk) := [(false, .box [intA lo, intA hi]), (false, .box [intA 0, intA 0, intA 0, intA 0, boolA false]), (false, .box [intA u.1, intA u.2]), (false, .box [intA x.1, intA x.2])]
abbrev lwS (l : List Va) (f n : Nat) (st : Ra) : Ra := lowStep (isU l f n) (winM (l.map lowV) f n).2 st
theorem lwS_bd {l : List Va} (h : Trc l) {f n : Nat} {st : Ra} (hn : 1 ≤ n) (hf : f + n ≤ l.length) (hs : RaB st) : RaB (lwS l f n st) := by
  unfold lwS lowStep
  cases isU l f n && decide (cmpM (winM (l.map lowV) f n).2 st > 0) with
  | true =>
    rw [win_wth]
    exact worth_bd (sumW (serLow h) ⟨by omega, by rw [List.length_map]; exact hf⟩)
  | false => exact hs
theorem specUn {l : List Va} (hb : Nat.ble l.length lim = true) {a b : Nat} (hab : a < b ∧ b ≤ l.length) : unG [slA vaC 4 l, p2A (Int.ofNat a, Int.ofNat b)] = some (boolA (unW l a b)) :=
  specAt2 (A := vasC) (B := p2C) (b := fun l s => unOk l s) (F := fun l s => boolA (unW l (natOf s.1) (natOf s.2))) l (Int.ofNat a, Int.ofNat b) (by unfold unOk; rw [hb, winW hab]; rfl)
theorem specFld {g : Va → Int} {l : List Va} (h : Nat.ble l.length lim = true) : fldG g [slA vaC 4 l] = some (slA intC 1 (l.map g)) := by
  have h1 := sp1_at (A := vasC) (F := fun l => bif Nat.ble l.length lim then some (slA intC 1 (l.map g)) else none) l
  rw [h] at h1; exact h1
theorem low_in (l : List Va) (h : Trc l) (lo hi i : Nat) (u : P2) (hlo : 1 ≤ lo) (hi1 : hi ≤ 128) (hil : i < l.length) (st : Ra) (hst : RaB st) :
    LoopRun (CS V6) 4 73 false (loopOf (CS V6) 57 2) (mkSt [0, 3, 4, 7, 9, 10, 11] [3, 4, 7, 9] 73 (vbV l i ++ [intA (Int.ofNat lo)]) (vbB (Int.ofNat lo) (Int.ofNat hi) u st)) (.exit 2)
      (mkSt [0, 3, 4, 7, 9, 10] [3, 4, 7, 9] 73 (vbV l i) (vbB (Int.ofNat lo) (Int.ofNat hi) u ((List.range' lo (min hi (l.length - i) + 1 - lo)).foldl (fun st n => lwS l i n st) st)))
    ∧ RaB ((List.range' lo (min hi (l.length - i) + 1 - lo)).foldl (fun st n => lwS l i n st) st) := by
  have hl2 := h.2.1
  have hb : Nat.ble l.length lim = true := Nat.ble_eq_true_of_le (by unfold lim; omega)
  have e := e_len' vaC l
  have hlen : (l.map lowV).length = l.length := List.length_map lowV
  have hh := LoopRun.list (C := CS V6) (p := 4) (nt := 73) (rd := false) (c := loopOf (CS V6) 57 2) (step := fun _ n st => (.inl (lwS l i n st) : Ra ⊕ Ra)) (fin := id)
    (enc := fun k st => mkSt [0, 3, 4, 7, 9, 10, 11] [3, 4, 7, 9] 73 (vbV l i ++ [intA (Int.ofNat (lo + k))]) (vbB (Int.ofNat lo) (Int.ofNat hi) u st))
    (ex := fun _ => .exit 2) (out := fun st => mkSt [0, 3, 4, 7, 9, 10] [3, 4, 7, 9] 73 (vbV l i) (vbB (Int.ofNat lo) (Int.ofNat hi) u st)) (l := List.range' lo (min hi (l.length - i) + 1 - lo)) (fun _ st => RaB st)
    (fun k n st hx hst => by
      obtain ⟨rfl, hk⟩ := range'_get hx
      have hw : i < i + (lo + k) ∧ i + (lo + k) ≤ l.length := ⟨by omega, by omega⟩
      have hw2 : i < i + (lo + k) ∧ i + (lo + k) ≤ (l.map lowV).length := ⟨by omega, by omega⟩
      have hr := r572 (l.map vaC.enc) ((l.map lowV).map intA) (Int.ofNat lo) (Int.ofNat hi) u st (wthM (l.map lowV) i (i + (lo + k))) i (lo + k) (i + (lo + k)) (unW l i (i + (lo + k)))
      have h1 : decide (Int.ofNat (lo + k) ≤ Int.ofNat hi) = true := by simp only [decide_eq_true_eq, Int.ofNat_eq_natCast]; omega
      have h2 : decide (Int.ofNat (i + (lo + k)) ≤ Int.ofNat l.length) = true := by simp only [decide_eq_true_eq, Int.ofNat_eq_natCast]; omega
      have hadd := add_ok V6 (.tmp 49) (.tmp 50) (Int.ofNat i) (Int.ofNat (lo + k))
      rw [add_nat (by unfold two63; omega)] at hadd
      have hwb : RaB (wthM (l.map lowV) i (i + (lo + k))) := worth_bd (sumW (serLow h) hw2)
      rw [h1, add_nat (by unfold two63; omega), e, h2, cmpB hwb hst, wrap_ix (show lo + k < 300 by omega) (by unfold two63; omega)] at hr
      refine ⟨?_, lwS_bd h (by omega) (by omega) hst⟩
      have f1 := specFld (g := lowV) hb
      have f2 := specWth (serLow h) hw2
      have f3 := specUn hb hw
      unfold lwS lowStep isU
      rw [win_wth]
      simp only
      cases hW : unW l i (i + (lo + k)) with
      | true =>
        rw [hW] at hr f3
        exact V6_ok.rndN hr ⟨hadd, ⟨rfl, f1⟩, ⟨rfl, f2⟩, ⟨rfl, f3⟩, trivial, rfl⟩
      | false =>
        rw [hW] at hr f3
        cases hg : decide (cmpM (wthM (l.map lowV) i (i + (lo + k))) st > 0) with
        | true =>
          rw [hg] at hr
          exact V6_ok.rndN hr ⟨hadd, ⟨rfl, f1⟩, ⟨rfl, f2⟩, ⟨rfl, f3⟩, trivial, rfl⟩
        | false =>
          rw [hg] at hr
          exact V6_ok.rndN hr ⟨hadd, ⟨rfl, f1⟩, ⟨rfl, f2⟩, ⟨rfl, f3⟩, trivial, rfl⟩)
    (fun st hst => by
      refine ⟨V6_ok.rndX (r572 (l.map vaC.enc) [] (Int.ofNat lo) (Int.ofNat hi) u st (0, 0) i (lo + (List.range' lo (min hi (l.length - i) + 1 - lo)).length) 0 false) ?_, by simp⟩
      rw [List.length_range']
      cases h1 : decide (Int.ofNat (lo + (min hi (l.length - i) + 1 - lo)) ≤ Int.ofNat hi) with
      | false => exact ⟨trivial, rfl⟩
      | true =>
        simp only [decide_eq_true_eq, Int.ofNat_eq_natCast] at h1
        have h2 : decide (Int.ofNat (i + (lo + (min hi (l.length - i) + 1 - lo))) ≤ Int.ofNat l.length) = false := by simp only [decide_eq_false_iff_not, Int.ofNat_eq_natCast]; omega
        rw [add_nat (by unfold two63; omega), e, h2]
        exact ⟨trivial, rfl⟩)
    (List.range' lo (min hi (l.length - i) + 1 - lo)) [] st rfl hst
  rw [show ([] : List Nat).length = 0 from rfl, goL_fold (fun _ st n => lwS l i n st) id _ _ _ (fun _ _ _ _ => rfl)] at hh
  refine ⟨hh, ?_⟩
  refine foldl_P (fun st : Ra => RaB st) _ _ _ hst (fun st n hn hs => ?_)
  rw [List.mem_range'_1] at hn
  exact lwS_bd h (by omega) (by omega) hs
def rbOk (l : List Va) (k : P2) : Bool := trcM l == 0 && lenM k == 0
def rbbM (l : List Va) (k : P2) : AV := .tup [bdA (bif (bestB (l.map highV) k).1 then bbM l k else zB), boolA (bestB (l.map highV) k).1]
def rbbG : List AV → Option AV := sp2 vasC p2C fun l k => bif rbOk l k then some (rbbM l k) else none
theorem specAnyO {l : List Va} (h : Nat.ble l.length lim = true) : anyOG [slA vaC 4 l] = some (boolA (anyO l)) := by
  have h1 := sp1_at (A := vasC) (F := fun l => bif Nat.ble l.length lim then some (boolA (anyO l)) else none) l
  rw [h] at h1; exact h1
theorem h57 : Holds 57 rbbG := holds2 fun l k r hr => by
  cases hb : rbOk l k with
  | false => simp [hb] at hr
  | true =>
    simp only [hb, cond_true, Option.some.injEq] at hr; subst hr
    unfold rbOk at hb
    simp only [Bool.and_eq_true, beq_iff_eq] at hb
    have h := trcZ hb.1
    have hk := hb.2
    obtain ⟨lo, hi, rfl, h1, h2, h3⟩ := lenZ hb.2
    have hl2 := h.2.1
    have hbl : Nat.ble l.length lim = true := Nat.ble_eq_true_of_le (by unfold lim; omega)
    have e := e_len' vaC l
    have f28 : rbestG [slA intC 1 (l.map highV), p2A (Int.ofNat lo, Int.ofNat hi)] = some (rbwA (bestB (l.map highV) (Int.ofNat lo, Int.ofNat hi))) := specAt2 (A := intsC) (B := p2C) (b := fun l k => bwOk l k) (F := fun l k => rbwA (bestB l k)) (l.map highV) (Int.ofNat lo, Int.ofNat hi) (bwOf (serHigh h) hk)
    have hh := LoopRun.list (C := CS V6) (p := 0) (nt := 73) (rd := false) (c := loopOf (CS V6) 57 0) (step := fun _ f st => (.inl ((List.range' lo (min hi (l.length - f) + 1 - lo)).foldl (fun st n => lwS l f n st) st) : Ra ⊕ Ra)) (fin := id)
      (enc := fun i st => mkSt [0, 3, 4, 7, 9, 10] [3, 4, 7, 9] 73 (vbV l i) (vbB (Int.ofNat lo) (Int.ofNat hi) (bestB (l.map highV) (Int.ofNat lo, Int.ofNat hi)).2.2 st))
      (ex := fun _ => .exit 0) (out := fun st => mkSt [0, 4, 7, 9] [4, 7, 9] 73 [.rsl 4 (l.map vaC.enc) false, .ptr 4 0 0, .ptr 7 1 0, .ptr 9 2 0] [(false, .box [intA 0, intA 0, intA 0, intA 0, boolA false]), (false, .box [intA (bestB (l.map highV) (Int.ofNat lo, Int.ofNat hi)).2.2.1, intA (bestB (l.map highV) (Int.ofNat lo, Int.ofNat hi)).2.2.2]), (false, .box [intA st.1, intA st.2])]) (l := List.range l.length) (fun _ st => RaB st)
      (fun i f st hx hst => by
        obtain ⟨rfl, hif⟩ := range_get hx
        obtain ⟨g1, g2⟩ := low_in l h lo hi f (bestB (l.map highV) (Int.ofNat lo, Int.ofNat hi)).2.2 h1 h3 hif st hst
        have hr := r570 (l.map vaC.enc) (Int.ofNat lo) (Int.ofNat hi) (bestB (l.map highV) (Int.ofNat lo, Int.ofNat hi)).2.2 st ((List.range' lo (min hi (l.length - f) + 1 - lo)).foldl (fun st n => lwS l f n st) st) f
        rw [e, lt_of hif, wrap_ix hif (by unfold two63; omega)] at hr
        exact ⟨V6_ok.rndN hr ⟨⟨trivial, trivial, g1.says⟩, trivial, rfl⟩, g2⟩)
      (fun st _ => ⟨V6_ok.rndX (r570 (l.map vaC.enc) (Int.ofNat lo) (Int.ofNat hi) (bestB (l.map highV) (Int.ofNat lo, Int.ofNat hi)).2.2 st st (List.range l.length).length) (by rw [e, List.length_range, lt_self]; exact ⟨trivial, rfl⟩), by simp⟩)
      (List.range l.length) [] (0, 1) rfl ⟨⟨by simp, by simp⟩, by simp, by simp⟩
    rw [show ([] : List Nat).length = 0 from rfl, goL_nat (fun st f => (List.range' lo (min hi (l.length - f) + 1 - lo)).foldl (fun st n => lwS l f n st) st) id] at hh
    have eL : (List.range l.length).foldl (fun st f => (List.range' lo (min hi (l.length - f) + 1 - lo)).foldl (fun st n => lwS l f n st) st) (0, 1) = lowOf (bestM (isU l) (l.map lowV) lo hi) := by
      rw [low_eq (isU l) (l.map lowV) lo hi h1]
      unfold lowR
      rw [List.length_map]
    rw [eL] at hh
    have ht := t57 (l.map vaC.enc) ((l.map highV).map intA) (Int.ofNat lo) (Int.ofNat hi) (bestB (l.map highV) (Int.ofNat lo, Int.ofNat hi)).2.1 (bestB (l.map highV) (Int.ofNat lo, Int.ofNat hi)).2.2 (lowOf (bestM (isU l) (l.map lowV) lo hi)) (bestB (l.map highV) (Int.ofNat lo, Int.ofNat hi)).1 (anyO l)
    unfold rbbM
    cases hq : (bestB (l.map highV) (Int.ofNat lo, Int.ofNat hi)).1 with
    | false =>
      unfold rbwA at f28
      rw [hq] at ht f28
      exact V6_ok.tr ht ⟨⟨rfl, specFld hbl⟩, ⟨rfl, f28⟩, rfl⟩
    | true =>
      unfold rbwA at f28
      rw [hq] at ht f28
      exact V6_ok.tr ht ⟨⟨rfl, specFld hbl⟩, ⟨rfl, f28⟩, ⟨trivial, trivial, hh.says⟩, ⟨rfl, specAnyO hbl⟩, rfl⟩
/-! ### The reference's held bounds -/
def hdS (l : List Va) (n : Nat) (st : Int) (f : Nat) : Int := bif !((l.drop f).take n).any underV then max st (minW (l.map lowV) f n) else st
theorem holdR_eq (l : List Va) (n : Nat) : holdR l n = (List.range (l.length - n + 1)).foldl (hdS l n) 0 := rfl
theorem mx_max (a x : Int) : (if a > x then a else x) = max x a := by split <;> omega
theorem heldW {l : List Int} (h : Ser l) {f n : Nat} (hn : 1 ≤ n) (hf : f + n ≤ l.length) : heldOk ((l.drop f).take n) (Int.ofNat n) = true ∧ hlrM ((l.drop f).take n) (Int.ofNat n) = .tup [intA (minW l f n), p2A (0, Int.ofNat n)] := by
  have hl : ((l.drop f).take n).length = n := by simp; omega
  have hs : Ser ((l.drop f).take n) := ⟨by omega, by have := h.2.1; omega, fun x hx => h.2.2 x (List.mem_of_mem_drop (List.mem_of_mem_take hx))⟩
  have he : minW ((l.drop f).take n) 0 n = minW l f n := by
    unfold minW
    rw [List.drop_zero, List.take_take, Nat.min_self]
  have hg := minW_ge (l := l) (f := f) (n := n) (-16384) (by omega) (fun x hx => (h.2.2 x hx).1)
  refine ⟨?_, ?_⟩
  · unfold heldOk
    rw [seriesZ.2 hs, hl]
    simp; omega
  · unfold hlrM
    have e1 : heldR ((l.drop f).take n) (natOf (Int.ofNat n)) = (minW l f n, (0, Int.ofNat n)) := by
      rw [heldR_eq]
      show (List.range (((l.drop f).take n).length - n + 1)).foldl (hrS ((l.drop f).take n) n) (-16385, (0, 0)) = _
      rw [hl, Nat.sub_self]
      show hrS ((l.drop f).take n) n (-16385, (0, 0)) 0 = _
      unfold hrS
      rw [he]
      have : decide (minW l f n > (-16385, ((0 : Int), (0 : Int))).1) = true := by simp; omega
      rw [this, cond_true, Nat.zero_add]
      rfl
    rw [e1]
def rhOk (l : List Va) (k : Int) : Bool := trcM l == 0 && (decide (1 ≤ k) && decide (k ≤ Int.ofNat l.length))
def rhbG : List AV → Option AV := sp2 vasC intC fun l k => bif rhOk l k then some (bdA (hbM l k)) else none
theorem mxHold (l : List Va) (n : Nat) : mx (heldP (l.map adjV) n).1 0 = holdR l n := by
  rw [← hold_eq]
  unfold mx
  split <;> omega
theorem h58 : Holds 58 rhbG := holds2 fun l k r hr => by
  cases hb : rhOk l k with
  | false => simp [hb] at hr
  | true =>
    simp only [hb, cond_true, Option.some.injEq] at hr; subst hr
    unfold rhOk at hb
    simp only [Bool.and_eq_true, beq_iff_eq, decide_eq_true_eq] at hb
    have h := trcZ hb.1
    obtain ⟨n, rfl, hn1, hn2⟩ : ∃ n : Nat, k = Int.ofNat n ∧ 1 ≤ n ∧ n ≤ l.length := by
      cases k with
      | negSucc k => exact absurd hb.2.1 (by omega)
      | ofNat k => exact ⟨k, rfl, by have := hb.2.1; simp only [Int.ofNat_eq_natCast] at this; omega, by have := hb.2.2; simp only [Int.ofNat_eq_natCast] at this; omega⟩
    have hl2 := h.2.1
    have hbl : Nat.ble l.length lim = true := Nat.ble_eq_true_of_le (by unfold lim; omega)
    have e := e_len' vaC l
    have hlen : (l.map lowV).length = l.length := List.length_map lowV
    have hho : heldOk (l.map highV) (Int.ofNat n) = true := by
      unfold heldOk
      rw [seriesZ.2 (serHigh h), List.length_map]
      simp; omega
    have f37 := specHlr hho
    have eH : (heldR (l.map highV) n).1 = (heldP (l.map highV) n).1 := by rw [held_eq (l.map highV) n (fun x hx => ((serHigh h).2.2 x hx).1)]
    have hh := LoopRun.list (C := CS V6) (p := 0) (nt := 57) (rd := false) (c := loopOf (CS V6) 58 0) (step := fun _ f st => (.inl (hdS l n st f) : Int ⊕ Int)) (fin := id)
      (enc := fun i st => mkSt [0, 1, 4, 5, 7, 8] [4] 57 [.rsl 4 (l.map vaC.enc) false, intA (Int.ofNat n), .ptr 4 0 0, intA (heldR (l.map highV) n).1, intA st, intA (Int.ofNat i)] [(false, .box [intA 0, intA 0, intA 0, intA 0, boolA false])])
      (ex := fun _ => .exit 0) (out := fun st => mkSt [0, 4, 5, 7] [4] 57 [.rsl 4 (l.map vaC.enc) false, .ptr 4 0 0, intA (heldR (l.map highV) n).1, intA st] [(false, .box [intA 0, intA 0, intA 0, intA 0, boolA false])]) (l := List.range (l.length - n + 1)) (fun _ _ => True)
      (fun i f st hx _ => by
        obtain ⟨rfl, hi⟩ := range_get hx
        obtain ⟨w1, w2⟩ := heldW (serLow h) (f := f) hn1 (by rw [hlen]; omega)
        have g37 := specHlr w1
        rw [w2] at g37
        have hw : f < f + n ∧ f + n ≤ l.length := ⟨by omega, by omega⟩
        have hr := r58 (l.map vaC.enc) ((l.map lowV).map intA) (Int.ofNat n) (heldR (l.map highV) n).1 st (minW (l.map lowV) f n) 0 (Int.ofNat n) f (f + n) (unW l f (f + n))
        have hle : decide (Int.ofNat (f + n) ≤ Int.ofNat l.length) = true := by simp only [decide_eq_true_eq, Int.ofNat_eq_natCast]; omega
        have a1 := add_ok V6 (.tmp 30) (.tmp 31) (Int.ofNat f) (Int.ofNat n)
        have a2 := add_ok V6 (.tmp 40) (.tmp 41) (Int.ofNat f) (Int.ofNat n)
        rw [add_nat (by unfold two63; omega)] at a1 a2
        have ew : (((l.map lowV).map intA).drop f).take (f + n - f) = (((l.map lowV).drop f).take n).map intA := by rw [show f + n - f = n by omega, List.map_take, List.map_drop]
        rw [add_nat (by unfold two63; omega), e, hle, wrap_ix (show f < l.length by omega) (by unfold two63; omega), ew, mx_max] at hr
        have f3 := specUn hbl hw
        have eU : unW l f (f + n) = ((l.drop f).take n).any underV := by unfold unW; rw [show f + n - f = n by omega]
        refine ⟨?_, trivial⟩
        unfold hdS
        rw [← eU]
        cases hU : unW l f (f + n) with
        | true => rw [hU] at hr f3; exact V6_ok.rndN hr ⟨⟨rfl, specFld hbl⟩, a1, ⟨by omega, by simp; omega⟩, ⟨rfl, g37⟩, a2, ⟨rfl, f3⟩, trivial, rfl⟩
        | false => rw [hU] at hr f3; exact V6_ok.rndN hr ⟨⟨rfl, specFld hbl⟩, a1, ⟨by omega, by simp; omega⟩, ⟨rfl, g37⟩, a2, ⟨rfl, f3⟩, trivial, rfl⟩)
      (fun st _ => by
        have hle : decide (Int.ofNat (l.length - n + 1 + n) ≤ Int.ofNat l.length) = false := by simp only [decide_eq_false_iff_not, Int.ofNat_eq_natCast]; omega
        exact ⟨V6_ok.rndX (r58 (l.map vaC.enc) [] (Int.ofNat n) (heldR (l.map highV) n).1 st 0 0 0 (List.range (l.length - n + 1)).length 0 false) (by rw [List.length_range, add_nat (by unfold two63; omega), e, hle]; exact ⟨trivial, rfl⟩), by simp⟩)
      (List.range (l.length - n + 1)) [] 0 rfl trivial
    rw [show ([] : List Nat).length = 0 from rfl, goL_nat (hdS l n) id] at hh
    have hM : hbM l (Int.ofNat n) = ((holdR l n, 1), (mx (heldR (l.map highV) n).1 0, 1), anyO l) := by
      unfold hbM
      rw [eH]
      show ((mx (heldP (l.map adjV) n).1 0, 1), _, _) = _
      rw [mxHold]; rfl
    rw [hM]
    have fw : ∀ n : Int, wholeG [intA n] = some (p2A (n, 1)) := fun n => sp1_at (A := intC) (F := fun n => some (p2A (n, 1))) n
    have ht := t58 (l.map vaC.enc) ((l.map highV).map intA) (Int.ofNat n) (heldR (l.map highV) n).1 (holdR l n) (heldR (l.map highV) n).2.1 (heldR (l.map highV) n).2.2 (anyO l)
    exact V6_ok.tr ht ⟨⟨rfl, specFld hbl⟩, ⟨rfl, f37⟩, ⟨trivial, trivial, hh.says⟩, ⟨rfl, fw _⟩, ⟨rfl, fw _⟩, ⟨rfl, specAnyO hbl⟩, rfl⟩
def V8 : Specs := (((V6.set 53 pbbG).set 55 phbG).set 57 rbbG).set 58 rhbG
theorem V8_ok : Ok V8 := (((V6_ok.set h53).set h55).set h57).set h58
end Go.Vm.S6
