/- The reference's search; Best, CheckBest. -/
import Derived.Test.YtbplbhcgcicgfaaGreatDoorS6Best
namespace Go.Vm.S6
open Go.Proofs Go.RowKit
set_option maxRecDepth 100000 in
theorem r282 (es : List AV) (lo hi : Int) (st : BW) (i n q : Nat) (r : P2) : roundD (CS B1) 60 5 28 0 59 59 false (loopOf (CS B1) 28 2) [0, 3, 4, 5, 7, 8, 9, 10, 11] [3, 4, 5, 7, 8] [0, 3, 4, 5, 7, 8, 9, 10, 11] [3, 4, 5, 7, 8] [0, 3, 4, 5, 7, 8, 9, 10] [3, 4, 5, 7, 8] [.rsl 1 es false, .ptr 3 0 0, .ptr 4 1 0, .ptr 5 2 0, .ptr 7 3 0, .ptr 8 4 0, boolA st.1, intA (Int.ofNat i), intA (Int.ofNat n)] [(false, .box [intA lo, intA hi]), (false, .box [intA 0, intA 0]), (false, .box [intA 0, intA 0]), (false, .box [intA st.2.1.1, intA st.2.1.2]), (false, .box [intA st.2.2.1, intA st.2.2.2])] [.br [.ar (intA (Int.ofNat q)), .sp [.rsl 1 es false, .agg [intA (Int.ofNat i), intA (Int.ofNat q)]] (p2A r)] []] =
    (bif decide (Int.ofNat n ≤ hi) then (bif decide (IntKind.i64.wrap (Int.ofNat i + Int.ofNat n) ≤ Int.ofNat es.length) then (.need ((abin (CS B1) BinOp.add 3 (Operand.tmp 39) (Operand.tmp 40) (AV.v (.int .i64 (Int.ofNat i))) (AV.v (.int .i64 (Int.ofNat n)))) = (some (AV.v (.int .i64 (Int.ofNat q))))) (.need (([.rsl 1 es false, .agg [.v (.int .i64 (Int.ofNat i)), .v (.int .i64 (Int.ofNat q))]] : List AV) = ([.rsl 1 es false, .agg [.v (.int .i64 (Int.ofNat i)), .v (.int .i64 (Int.ofNat q))]] : List AV) ∧ (Cx.spec (CS B1) 27 ([.rsl 1 es false, .agg [.v (.int .i64 (Int.ofNat i)), .v (.int .i64 (Int.ofNat q))]] : List AV)) = (some (AV.agg [.v (.int .i64 r.fst), .v (.int .i64 r.snd)]))) (bif !st.fst then (.need (EntClosed [(false, .box [.v (.int .i64 lo), .v (.int .i64 hi)]), (false, .box [.v (.int .i64 0), .v (.int .i64 0)]), (false, .box [.v (.int .i64 0), .v (.int .i64 0)]), (false, .box [.v (.int .i64 (Int.ofNat i)), .v (.int .i64 (Int.ofNat q))]), (false, .box [.v (.int .i64 r.fst), .v (.int .i64 r.snd)])]) (.done (some ((.nrm, [.rsl 1 es false, .ptr 3 0 0, .ptr 4 1 0, .ptr 5 2 0, .ptr 7 3 0, .ptr 8 4 0, .v (.bool true), .v (.int .i64 (Int.ofNat i)), .v (.int .i64 (IntKind.i64.wrap (Int.ofNat n + 1)))], [(false, .box [.v (.int .i64 lo), .v (.int .i64 hi)]), (false, .box [.v (.int .i64 0), .v (.int .i64 0)]), (false, .box [.v (.int .i64 0), .v (.int .i64 0)]), (false, .box [.v (.int .i64 (Int.ofNat i)), .v (.int .i64 (Int.ofNat q))]), (false, .box [.v (.int .i64 r.fst), .v (.int .i64 r.snd)])]))))) else (bif decide (cmpW r st.snd.snd > 0) then (.need (EntClosed [(false, .box [.v (.int .i64 lo), .v (.int .i64 hi)]), (false, .box [.v (.int .i64 0), .v (.int .i64 0)]), (false, .box [.v (.int .i64 0), .v (.int .i64 0)]), (false, .box [.v (.int .i64 (Int.ofNat i)), .v (.int .i64 (Int.ofNat q))]), (false, .box [.v (.int .i64 r.fst), .v (.int .i64 r.snd)])]) (.done (some ((.nrm, [.rsl 1 es false, .ptr 3 0 0, .ptr 4 1 0, .ptr 5 2 0, .ptr 7 3 0, .ptr 8 4 0, .v (.bool true), .v (.int .i64 (Int.ofNat i)), .v (.int .i64 (IntKind.i64.wrap (Int.ofNat n + 1)))], [(false, .box [.v (.int .i64 lo), .v (.int .i64 hi)]), (false, .box [.v (.int .i64 0), .v (.int .i64 0)]), (false, .box [.v (.int .i64 0), .v (.int .i64 0)]), (false, .box [.v (.int .i64 (Int.ofNat i)), .v (.int .i64 (Int.ofNat q))]), (false, .box [.v (.int .i64 r.fst), .v (.int .i64 r.snd)])]))))) else (.need (EntClosed [(false, .box [.v (.int .i64 lo), .v (.int .i64 hi)]), (false, .box [.v (.int .i64 0), .v (.int .i64 0)]), (false, .box [.v (.int .i64 0), .v (.int .i64 0)]), (false, .box [.v (.int .i64 st.snd.fst.fst), .v (.int .i64 st.snd.fst.snd)]), (false, .box [.v (.int .i64 st.snd.snd.fst), .v (.int .i64 st.snd.snd.snd)])]) (.done (some ((.nrm, [.rsl 1 es false, .ptr 3 0 0, .ptr 4 1 0, .ptr 5 2 0, .ptr 7 3 0, .ptr 8 4 0, .v (.bool st.fst), .v (.int .i64 (Int.ofNat i)), .v (.int .i64 (IntKind.i64.wrap (Int.ofNat n + 1)))], [(false, .box [.v (.int .i64 lo), .v (.int .i64 hi)]), (false, .box [.v (.int .i64 0), .v (.int .i64 0)]), (false, .box [.v (.int .i64 0), .v (.int .i64 0)]), (false, .box [.v (.int .i64 st.snd.fst.fst), .v (.int .i64 st.snd.fst.snd)]), (false, .box [.v (.int .i64 st.snd.snd.fst), .v (.int .i64 st.snd.snd.snd)])]))))))))) else (.need (EntClosed [(false, .box [.v (.int .i64 lo), .v (.int .i64 hi)]), (false, .box [.v (.int .i64 0), .v (.int .i64 0)]), (false, .box [.v (.int .i64 0), .v (.int .i64 0)]), (false, .box [.v (.int .i64 st.snd.fst.fst), .v (.int .i64 st.snd.fst.snd)]), (false, .box [.v (.int .i64 st.snd.snd.fst), .v (.int .i64 st.snd.snd.snd)])]) (.done (some (((.exit 2), [.rsl 1 es false, .ptr 3 0 0, .ptr 4 1 0, .ptr 5 2 0, .ptr 7 3 0, .ptr 8 4 0, .v (.bool st.fst), .v (.int .i64 (Int.ofNat i))], [(false, .box [.v (.int .i64 lo), .v (.int .i64 hi)]), (false, .box [.v (.int .i64 0), .v (.int .i64 0)]), (false, .box [.v (.int .i64 0), .v (.int .i64 0)]), (false, .box [.v (.int .i64 st.snd.fst.fst), .v (.int .i64 st.snd.fst.snd)]), (false, .box [.v (.int .i64 st.snd.snd.fst), .v (.int .i64 st.snd.snd.snd)])])))))) else (.need (EntClosed [(false, .box [.v (.int .i64 lo), .v (.int .i64 hi)]), (false, .box [.v (.int .i64 0), .v (.int .i64 0)]), (false, .box [.v (.int .i64 0), .v (.int .i64 0)]), (false, .box [.v (.int .i64 st.snd.fst.fst), .v (.int .i64 st.snd.fst.snd)]), (false, .box [.v (.int .i64 st.snd.snd.fst), .v (.int .i64 st.snd.snd.snd)])]) (.done (some (((.exit 2), [.rsl 1 es false, .ptr 3 0 0, .ptr 4 1 0, .ptr 5 2 0, .ptr 7 3 0, .ptr 8 4 0, .v (.bool st.fst), .v (.int .i64 (Int.ofNat i))], [(false, .box [.v (.int .i64 lo), .v (.int .i64 hi)]), (false, .box [.v (.int .i64 0), .v (.int .i64 0)]), (false, .box [.v (.int .i64 0), .v (.int .i64 0)]), (false, .box [.v (.int .i64 st.snd.fst.fst), .v (.int .i64 st.snd.fst.snd)]), (false, .box [.v (.int .i64 st.snd.snd.fst), .v (.int .i64 st.snd.snd.snd)])])))))) := by kernel_rfl
set_option maxRecDepth 100000 in
theorem r280 (es : List AV) (lo hi : Int) (st st2 : BW) (i : Nat) : roundD (CS B1) 60 0 28 0 59 59 false (loopOf (CS B1) 28 0) [0, 3, 4, 5, 7, 8, 9, 10] [3, 4, 5, 7, 8] [0, 3, 4, 5, 7, 8, 9, 10] [3, 4, 5, 7, 8] [4, 5, 7, 8, 9] [4, 5, 7, 8] [.rsl 1 es false, .ptr 3 0 0, .ptr 4 1 0, .ptr 5 2 0, .ptr 7 3 0, .ptr 8 4 0, boolA st.1, intA (Int.ofNat i)] [(false, .box [intA lo, intA hi]), (false, .box [intA 0, intA 0]), (false, .box [intA 0, intA 0]), (false, .box [intA st.2.1.1, intA st.2.1.2]), (false, .box [intA st.2.2.1, intA st.2.2.2])] [.br [.loop 5 [0, 3, 4, 5, 7, 8, 9, 10, 11] [3, 4, 5, 7, 8] [0, 3, 4, 5, 7, 8, 9, 10] [3, 4, 5, 7, 8] (.exit 2) [.rsl 1 es false, .ptr 3 0 0, .ptr 4 1 0, .ptr 5 2 0, .ptr 7 3 0, .ptr 8 4 0, boolA st2.1, intA (Int.ofNat i)] [(false, .box [intA lo, intA hi]), (false, .box [intA 0, intA 0]), (false, .box [intA 0, intA 0]), (false, .box [intA st2.2.1.1, intA st2.2.1.2]), (false, .box [intA st2.2.2.1, intA st2.2.2.2])]] []] =
    (bif decide (Int.ofNat i < Int.ofNat es.length) then (.need (EntClosed [(false, .box [.v (.int .i64 lo), .v (.int .i64 hi)]), (false, .box [.v (.int .i64 0), .v (.int .i64 0)]), (false, .box [.v (.int .i64 0), .v (.int .i64 0)]), (false, .box [.v (.int .i64 st.snd.fst.fst), .v (.int .i64 st.snd.fst.snd)]), (false, .box [.v (.int .i64 st.snd.snd.fst), .v (.int .i64 st.snd.snd.snd)])] ∧ EntClosed [(false, .box [.v (.int .i64 lo), .v (.int .i64 hi)]), (false, .box [.v (.int .i64 0), .v (.int .i64 0)]), (false, .box [.v (.int .i64 0), .v (.int .i64 0)]), (false, .box [.v (.int .i64 st2.snd.fst.fst), .v (.int .i64 st2.snd.fst.snd)]), (false, .box [.v (.int .i64 st2.snd.snd.fst), .v (.int .i64 st2.snd.snd.snd)])] ∧ Says (CS B1) 5 59 false (.loop (loopOf (CS B1) 28 2)) (mkSt [0, 3, 4, 5, 7, 8, 9, 10, 11] [3, 4, 5, 7, 8] 59 [.rsl 1 es false, .ptr 3 0 0, .ptr 4 1 0, .ptr 5 2 0, .ptr 7 3 0, .ptr 8 4 0, .v (.bool st.fst), .v (.int .i64 (Int.ofNat i)), .v (.int .i64 lo)] [(false, .box [.v (.int .i64 lo), .v (.int .i64 hi)]), (false, .box [.v (.int .i64 0), .v (.int .i64 0)]), (false, .box [.v (.int .i64 0), .v (.int .i64 0)]), (false, .box [.v (.int .i64 st.snd.fst.fst), .v (.int .i64 st.snd.fst.snd)]), (false, .box [.v (.int .i64 st.snd.snd.fst), .v (.int .i64 st.snd.snd.snd)])]) (.exit 2) (mkSt [0, 3, 4, 5, 7, 8, 9, 10] [3, 4, 5, 7, 8] 59 [.rsl 1 es false, .ptr 3 0 0, .ptr 4 1 0, .ptr 5 2 0, .ptr 7 3 0, .ptr 8 4 0, .v (.bool st2.fst), .v (.int .i64 (Int.ofNat i))] [(false, .box [.v (.int .i64 lo), .v (.int .i64 hi)]), (false, .box [.v (.int .i64 0), .v (.int .i64 0)]), (false, .box [.v (.int .i64 0), .v (.int .i64 0)]), (false, .box [.v (.int .i64 st2.snd.fst.fst), .v (.int .i64 st2.snd.fst.snd)]), (false, .box [.v (.int .i64 st2.snd.snd.fst), .v (.int .i64 st2.snd.snd.snd)])])) (.need (EntClosed [(false, .box [.v (.int .i64 lo), .v (.int .i64 hi)]), (false, .box [.v (.int .i64 0), .v (.int .i64 0)]), (false, .box [.v (.int .i64 0), .v (.int .i64 0)]), (false, .box [.v (.int .i64 st2.snd.fst.fst), .v (.int .i64 st2.snd.fst.snd)]), (false, .box [.v (.int .i64 st2.snd.snd.fst), .v (.int .i64 st2.snd.snd.snd)])]) (.done (some ((.nrm, [.rsl 1 es false, .ptr 3 0 0, .ptr 4 1 0, .ptr 5 2 0, .ptr 7 3 0, .ptr 8 4 0, .v (.bool st2.fst), .v (.int .i64 (IntKind.i64.wrap (Int.ofNat i + 1)))], [(false, .box [.v (.int .i64 lo), .v (.int .i64 hi)]), (false, .box [.v (.int .i64 0), .v (.int .i64 0)]), (false, .box [.v (.int .i64 0), .v (.int .i64 0)]), (false, .box [.v (.int .i64 st2.snd.fst.fst), .v (.int .i64 st2.snd.fst.snd)]), (false, .box [.v (.int .i64 st2.snd.snd.fst), .v (.int .i64 st2.snd.snd.snd)])])))))) else (.need (EntClosed [(false, .box [.v (.int .i64 0), .v (.int .i64 0)]), (false, .box [.v (.int .i64 0), .v (.int .i64 0)]), (false, .box [.v (.int .i64 st.snd.fst.fst), .v (.int .i64 st.snd.fst.snd)]), (false, .box [.v (.int .i64 st.snd.snd.fst), .v (.int .i64 st.snd.snd.snd)])]) (.done (some (((.exit 0), [.ptr 4 0 0, .ptr 5 1 0, .ptr 7 2 0, .ptr 8 3 0, .v (.bool st.fst)], [(false, .box [.v (.int .i64 0), .v (.int .i64 0)]), (false, .box [.v (.int .i64 0), .v (.int .i64 0)]), (false, .box [.v (.int .i64 st.snd.fst.fst), .v (.int .i64 st.snd.fst.snd)]), (false, .box [.v (.int .i64 st.snd.snd.fst), .v (.int .i64 st.snd.snd.snd)])])))))) := by kernel_rfl
set_option maxRecDepth 100000 in
theorem t28 (es : List AV) (lo hi : Int) (st : BW) : evTreeD (CS B1) 60 28 [.rsl 1 es false, .agg [intA lo, intA hi]] [.loop 0 [0, 3, 4, 5, 7, 8, 9, 10] [3, 4, 5, 7, 8] [4, 5, 7, 8, 9] [4, 5, 7, 8] (.exit 0) [.ptr 4 0 0, .ptr 5 1 0, .ptr 7 2 0, .ptr 8 3 0, boolA st.1] [(false, .box [intA 0, intA 0]), (false, .box [intA 0, intA 0]), (false, .box [intA st.2.1.1, intA st.2.1.2]), (false, .box [intA st.2.2.1, intA st.2.2.2])]] =
    (.need (EntClosed [(false, .box [.v (.int .i64 lo), .v (.int .i64 hi)]), (false, .box [.v (.int .i64 0), .v (.int .i64 0)]), (false, .box [.v (.int .i64 0), .v (.int .i64 0)]), (false, .box [.v (.int .i64 0), .v (.int .i64 0)]), (false, .box [.v (.int .i64 0), .v (.int .i64 0)])] ∧ EntClosed [(false, .box [.v (.int .i64 0), .v (.int .i64 0)]), (false, .box [.v (.int .i64 0), .v (.int .i64 0)]), (false, .box [.v (.int .i64 st.snd.fst.fst), .v (.int .i64 st.snd.fst.snd)]), (false, .box [.v (.int .i64 st.snd.snd.fst), .v (.int .i64 st.snd.snd.snd)])] ∧ Says (CS B1) 0 59 false (.loop (loopOf (CS B1) 28 0)) (mkSt [0, 3, 4, 5, 7, 8, 9, 10] [3, 4, 5, 7, 8] 59 [.rsl 1 es false, .ptr 3 0 0, .ptr 4 1 0, .ptr 5 2 0, .ptr 7 3 0, .ptr 8 4 0, .v (.bool false), .v (.int .i64 0)] [(false, .box [.v (.int .i64 lo), .v (.int .i64 hi)]), (false, .box [.v (.int .i64 0), .v (.int .i64 0)]), (false, .box [.v (.int .i64 0), .v (.int .i64 0)]), (false, .box [.v (.int .i64 0), .v (.int .i64 0)]), (false, .box [.v (.int .i64 0), .v (.int .i64 0)])]) (.exit 0) (mkSt [4, 5, 7, 8, 9] [4, 5, 7, 8] 59 [.ptr 4 0 0, .ptr 5 1 0, .ptr 7 2 0, .ptr 8 3 0, .v (.bool st.fst)] [(false, .box [.v (.int .i64 0), .v (.int .i64 0)]), (false, .box [.v (.int .i64 0), .v (.int .i64 0)]), (false, .box [.v (.int .i64 st.snd.fst.fst), .v (.int .i64 st.snd.fst.snd)]), (false, .box [.v (.int .i64 st.snd.snd.fst), .v (.int .i64 st.snd.snd.snd)])])) (.done (some (.tup [.agg [.v (.int .i64 st.snd.fst.fst), .v (.int .i64 st.snd.fst.snd)], .agg [.v (.int .i64 st.snd.snd.fst), .v (.int .i64 st.snd.snd.snd)], .v (.bool st.fst)])))) := by kernel_rfl
set_option maxRecDepth 100000 in
theorem t20 (es : List AV) (lo hi e : Int) (st : BW) : evTreeD (CS B1) 60 20 [.rsl 1 es false, .agg [intA lo, intA hi]] [.sp [.rsl 1 es false] (intA e), .br [] [.sp [.rsl 1 es false, .agg [intA lo, intA hi], fnV 100] (bwA st)]] =
    (.need (([.rsl 1 es false] : List AV) = ([.rsl 1 es false] : List AV) ∧ (Cx.spec (CS B1) 38 ([.rsl 1 es false] : List AV)) = (some (AV.v (.int .i64 e)))) (bif firstM [e, lenM (lo, hi)] != 0 then (.done (some (.tup [.agg [.v (.int .i64 0), .v (.int .i64 0)], .agg [.v (.int .i64 0), .v (.int .i64 0)], .v (.int .i64 (firstM [e, lenM (lo, hi)]))]))) else (.need (([.rsl 1 es false, .agg [.v (.int .i64 lo), .v (.int .i64 hi)], .fn (Fn.func 100) [] []] : List AV) = ([.rsl 1 es false, .agg [.v (.int .i64 lo), .v (.int .i64 hi)], .fn (Fn.func 100) [] []] : List AV) ∧ (Cx.spec (CS B1) 99 ([.rsl 1 es false, .agg [.v (.int .i64 lo), .v (.int .i64 hi)], .fn (Fn.func 100) [] []] : List AV)) = (some (AV.tup [.agg [.v (.int .i64 st.snd.fst.fst), .v (.int .i64 st.snd.fst.snd), .v (.int .i64 st.snd.snd.fst), .v (.int .i64 st.snd.snd.snd)], .v (.bool st.fst)]))) (.done (some (.tup [.agg [.v (.int .i64 st.snd.fst.fst), .v (.int .i64 st.snd.fst.snd)], .agg [.v (.int .i64 st.snd.snd.fst), .v (.int .i64 st.snd.snd.snd)], .v (.int .i64 (whenM (!st.fst) 16))])))))) := by kernel_rfl
set_option maxRecDepth 100000 in
theorem t21 (es : List AV) (lo hi a b x y e w : Int) (st : BW) (q : Bool) : evTreeD (CS B1) 60 21 [.rsl 1 es false, .agg [intA lo, intA hi], .agg [intA a, intA b], .agg [intA x, intA y]] [.sp [.rsl 1 es false] (intA e), .sp [.agg [intA lo, intA hi]] (intA (lenM (lo, hi))), .sp [.rsl 1 es false, .agg [intA a, intA b]] (intA w), .br [] [.sp [.rsl 1 es false, .agg [intA lo, intA hi], fnV 100] (bwA st), .eq (boolA q)]] =
    (.need (([.rsl 1 es false] : List AV) = ([.rsl 1 es false] : List AV) ∧ (Cx.spec (CS B1) 38 ([.rsl 1 es false] : List AV)) = (some (AV.v (.int .i64 e)))) (.need (([.agg [.v (.int .i64 lo), .v (.int .i64 hi)]] : List AV) = ([.agg [.v (.int .i64 lo), .v (.int .i64 hi)]] : List AV) ∧ (Cx.spec (CS B1) 98 ([.agg [.v (.int .i64 lo), .v (.int .i64 hi)]] : List AV)) = (some (AV.v (.int .i64 (lenM (lo, hi)))))) (.need (([.rsl 1 es false, .agg [.v (.int .i64 a), .v (.int .i64 b)]] : List AV) = ([.rsl 1 es false, .agg [.v (.int .i64 a), .v (.int .i64 b)]] : List AV) ∧ (Cx.spec (CS B1) 96 ([.rsl 1 es false, .agg [.v (.int .i64 a), .v (.int .i64 b)]] : List AV)) = (some (AV.v (.int .i64 w)))) (bif firstM [e, lenM (lo, hi), w, ratErr (x, y)] != 0 then (.done (some (.v (.int .i64 (firstM [e, lenM (lo, hi), w, ratErr (x, y)]))))) else (.need (([.rsl 1 es false, .agg [.v (.int .i64 lo), .v (.int .i64 hi)], .fn (Fn.func 100) [] []] : List AV) = ([.rsl 1 es false, .agg [.v (.int .i64 lo), .v (.int .i64 hi)], .fn (Fn.func 100) [] []] : List AV) ∧ (Cx.spec (CS B1) 99 ([.rsl 1 es false, .agg [.v (.int .i64 lo), .v (.int .i64 hi)], .fn (Fn.func 100) [] []] : List AV)) = (some (AV.tup [.agg [.v (.int .i64 st.snd.fst.fst), .v (.int .i64 st.snd.fst.snd), .v (.int .i64 st.snd.snd.fst), .v (.int .i64 st.snd.snd.snd)], .v (.bool st.fst)]))) (bif st.snd.fst.fst != a then (.done (some (.v (.int .i64 (firstM [whenM (!st.fst) 16, whenM true 19]))))) else (bif st.snd.fst.snd != b then (.done (some (.v (.int .i64 (firstM [whenM (!st.fst) 16, whenM true 19]))))) else (.need ((abin (CS B1) BinOp.neq 28 (Operand.tmp 51) (Operand.tmp 52) (AV.agg [.v (.int .i64 st.snd.snd.fst), .v (.int .i64 st.snd.snd.snd)]) (AV.agg [.v (.int .i64 x), .v (.int .i64 y)])) = (some (AV.v (.bool q)))) (.done (some (.v (.int .i64 (firstM [whenM (!st.fst) 16, whenM q 19]))))))))))))) := by kernel_rfl
/-! ### The reference's search -/
abbrev bvV (l : List Int) (st : BW) (i : Nat) : List AV := [.rsl 1 (l.map intA) false, .ptr 3 0 0, .ptr 4 1 0, .ptr 5 2 0, .ptr 7 3 0, .ptr 8 4 0, boolA st.1, intA (Int.ofNat i)]
abbrev bvB (lo hi : Int) (st : BW) : List (Bool × Blk) := [(false, .box [intA lo, intA hi]), (false, .box [intA 0, intA 0]), (false, .box [intA 0, intA 0]), (false, .box [intA st.2.1.1, intA st.2.1.2]), (false, .box [intA st.2.2.1, intA st.2.2.2])]
theorem specWth {l : List Int} (h : Ser l) {a b : Nat} (hab : a < b ∧ b ≤ l.length) : wthG [slA intC 1 l, p2A (Int.ofNat a, Int.ofNat b)] = some (p2A (wthM l a b)) := by
  have := specAt2 (A := intsC) (B := p2C) (b := fun l s => wthOk l s) (F := fun l s => p2A (wthM l (natOf s.1) (natOf s.2))) l (Int.ofNat a, Int.ofNat b) (by
    unfold wthOk
    rw [seriesZ.2 h, winW hab]; rfl)
  exact this
theorem range'_get {lo K k n : Nat} (h : (List.range' lo K)[k]? = some n) : n = lo + k ∧ k < K := by
  have hk := lt_len h
  rw [List.length_range'] at hk
  rw [List.getElem?_range' hk] at h
  simp only [Option.some.injEq] at h
  exact ⟨by omega, hk⟩
theorem pick_bd {l : List Int} (h : Ser l) {f n : Nat} {st : BW} (hn : 1 ≤ n) (hf : f + n ≤ l.length) (hs : RaB st.2.2) : RaB (pickM true (winM l f n) st).2.2 := by
  have := bwF_bd h (lo := 0) hn hf hs
  exact this
theorem win_wth (l : List Int) (f n : Nat) : winM l f n = ((Int.ofNat f, Int.ofNat (f + n)), wthM l f (f + n)) := by
  unfold winM wthM winI
  rw [show f + n - f = n by omega]
theorem ref_in (l : List Int) (h : Ser l) (lo hi i : Nat) (hlo : 1 ≤ lo) (hi1 : hi ≤ 128) (hil : i < l.length) (st : BW) (hst : RaB st.2.2) :
    LoopRun (CS B1) 5 59 false (loopOf (CS B1) 28 2) (mkSt [0, 3, 4, 5, 7, 8, 9, 10, 11] [3, 4, 5, 7, 8] 59 (bvV l st i ++ [intA (Int.ofNat lo)]) (bvB (Int.ofNat lo) (Int.ofNat hi) st)) (.exit 2)
      (mkSt [0, 3, 4, 5, 7, 8, 9, 10] [3, 4, 5, 7, 8] 59 (bvV l ((List.range' lo (min hi (l.length - i) + 1 - lo)).foldl (fun st n => pickM true (winM l i n) st) st) i) (bvB (Int.ofNat lo) (Int.ofNat hi) ((List.range' lo (min hi (l.length - i) + 1 - lo)).foldl (fun st n => pickM true (winM l i n) st) st)))
    ∧ RaB ((List.range' lo (min hi (l.length - i) + 1 - lo)).foldl (fun st n => pickM true (winM l i n) st) st).2.2 := by
  have hl2 := h.2.1
  have e := e_len intA l
  have hh := LoopRun.list (C := CS B1) (p := 5) (nt := 59) (rd := false) (c := loopOf (CS B1) 28 2) (step := fun _ n st => (.inl (pickM true (winM l i n) st) : BW ⊕ BW)) (fin := id)
    (enc := fun k st => mkSt [0, 3, 4, 5, 7, 8, 9, 10, 11] [3, 4, 5, 7, 8] 59 (bvV l st i ++ [intA (Int.ofNat (lo + k))]) (bvB (Int.ofNat lo) (Int.ofNat hi) st))
    (ex := fun _ => .exit 2) (out := fun st => mkSt [0, 3, 4, 5, 7, 8, 9, 10] [3, 4, 5, 7, 8] 59 (bvV l st i) (bvB (Int.ofNat lo) (Int.ofNat hi) st)) (l := List.range' lo (min hi (l.length - i) + 1 - lo)) (fun _ st => RaB st.2.2)
    (fun k n st hx hst => by
      obtain ⟨rfl, hk⟩ := range'_get hx
      have hr := r282 (l.map intA) (Int.ofNat lo) (Int.ofNat hi) st i (lo + k) (i + (lo + k)) (wthM l i (i + (lo + k)))
      have h1 : decide (Int.ofNat (lo + k) ≤ Int.ofNat hi) = true := by simp only [decide_eq_true_eq, Int.ofNat_eq_natCast]; omega
      have h2 : decide (Int.ofNat (i + (lo + k)) ≤ Int.ofNat l.length) = true := by simp only [decide_eq_true_eq, Int.ofNat_eq_natCast]; omega
      have hadd := add_ok B1 (.tmp 39) (.tmp 40) (Int.ofNat i) (Int.ofNat (lo + k))
      rw [add_nat (by unfold two63; omega)] at hadd
      have hw : i < i + (lo + k) ∧ i + (lo + k) ≤ l.length := ⟨by omega, by omega⟩
      have hwb : RaB (wthM l i (i + (lo + k))) := worth_bd (sumW h hw)
      rw [h1, add_nat (by unfold two63; omega), e, h2, cmpB hwb hst, wrap_ix (show lo + k < 300 by omega) (by unfold two63; omega)] at hr
      refine ⟨?_, pick_bd h (by omega) (by omega) hst⟩
      have eP : pickM true (winM l i (lo + k)) st = bif !st.1 || decide (cmpM (wthM l i (i + (lo + k))) st.2.2 > 0) then (true, (Int.ofNat i, Int.ofNat (i + (lo + k))), wthM l i (i + (lo + k))) else st := by
        rw [win_wth]; rfl
      rw [eP]
      obtain ⟨o, sp, ra⟩ := st
      cases o with
      | false => exact B1_ok.rndN hr ⟨hadd, ⟨rfl, specWth h hw⟩, trivial, rfl⟩
      | true =>
        rw [show (!(true, sp, ra).1) = false from rfl] at hr
        cases hg : decide (cmpM (wthM l i (i + (lo + k))) ra > 0) with
        | true =>
          rw [show decide (cmpM (wthM l i (i + (lo + k))) (true, sp, ra).2.2 > 0) = true from hg] at hr
          exact B1_ok.rndN hr ⟨hadd, ⟨rfl, specWth h hw⟩, trivial, rfl⟩
        | false =>
          rw [show decide (cmpM (wthM l i (i + (lo + k))) (true, sp, ra).2.2 > 0) = false from hg] at hr
          exact B1_ok.rndN hr ⟨hadd, ⟨rfl, specWth h hw⟩, trivial, rfl⟩)
    (fun st hst => by
      refine ⟨B1_ok.rndX (r282 (l.map intA) (Int.ofNat lo) (Int.ofNat hi) st i (lo + (List.range' lo (min hi (l.length - i) + 1 - lo)).length) 0 (0, 0)) ?_, by simp⟩
      rw [List.length_range']
      cases h1 : decide (Int.ofNat (lo + (min hi (l.length - i) + 1 - lo)) ≤ Int.ofNat hi) with
      | false => exact ⟨trivial, rfl⟩
      | true =>
        simp only [decide_eq_true_eq, Int.ofNat_eq_natCast] at h1
        have h2 : decide (Int.ofNat (i + (lo + (min hi (l.length - i) + 1 - lo))) ≤ Int.ofNat l.length) = false := by simp only [decide_eq_false_iff_not, Int.ofNat_eq_natCast]; omega
        rw [add_nat (by unfold two63; omega), e, h2]
        exact ⟨trivial, rfl⟩)
    (List.range' lo (min hi (l.length - i) + 1 - lo)) [] st rfl hst
  rw [show ([] : List Nat).length = 0 from rfl, goL_fold (fun _ st n => pickM true (winM l i n) st) id _ _ _ (fun _ _ _ _ => rfl)] at hh
  refine ⟨hh, ?_⟩
  refine foldl_P (fun st : BW => RaB st.2.2) _ _ _ hst (fun st n hn hs => ?_)
  rw [List.mem_range'_1] at hn
  exact pick_bd h (by omega) (by omega) hs
def rbwA (st : BW) : AV := .tup [p2A st.2.1, p2A st.2.2, boolA st.1]
def rbestG : List AV → Option AV := sp2 intsC p2C fun l k => bif bwOk l k then some (rbwA (bestB l k)) else none
theorem h28 : Holds 28 rbestG := holds2 fun l k r hr => by
  cases hb : bwOk l k with
  | false => simp [hb] at hr
  | true =>
    simp only [hb, cond_true, Option.some.injEq] at hr; subst hr
    unfold bwOk at hb
    simp only [Bool.and_eq_true, beq_iff_eq] at hb
    have h := seriesZ.1 hb.1
    obtain ⟨lo, hi, rfl, h1, h2, h3⟩ := lenZ hb.2
    have hl2 := h.2.1
    have e := e_len intA l
    have hh := LoopRun.list (C := CS B1) (p := 0) (nt := 59) (rd := false) (c := loopOf (CS B1) 28 0) (step := fun _ f st => (.inl ((List.range' lo (min hi (l.length - f) + 1 - lo)).foldl (fun st n => pickM true (winM l f n) st) st) : BW ⊕ BW)) (fin := id)
      (enc := fun i st => mkSt [0, 3, 4, 5, 7, 8, 9, 10] [3, 4, 5, 7, 8] 59 (bvV l st i) (bvB (Int.ofNat lo) (Int.ofNat hi) st))
      (ex := fun _ => .exit 0) (out := fun st => mkSt [4, 5, 7, 8, 9] [4, 5, 7, 8] 59 [.ptr 4 0 0, .ptr 5 1 0, .ptr 7 2 0, .ptr 8 3 0, boolA st.1] [(false, .box [intA 0, intA 0]), (false, .box [intA 0, intA 0]), (false, .box [intA st.2.1.1, intA st.2.1.2]), (false, .box [intA st.2.2.1, intA st.2.2.2])]) (l := List.range l.length) (fun _ st => RaB st.2.2)
      (fun i f st hx hst => by
        obtain ⟨rfl, hif⟩ := range_get hx
        obtain ⟨g1, g2⟩ := ref_in l h lo hi f h1 h3 hif st hst
        have hr := r280 (l.map intA) (Int.ofNat lo) (Int.ofNat hi) st ((List.range' lo (min hi (l.length - f) + 1 - lo)).foldl (fun st n => pickM true (winM l f n) st) st) f
        rw [e, lt_of hif, wrap_ix hif (by unfold two63; omega)] at hr
        exact ⟨B1_ok.rndN hr ⟨⟨trivial, trivial, g1.says⟩, trivial, rfl⟩, g2⟩)
      (fun st _ => ⟨B1_ok.rndX (r280 (l.map intA) (Int.ofNat lo) (Int.ofNat hi) st st (List.range l.length).length) (by rw [e, List.length_range, lt_self]; exact ⟨trivial, rfl⟩), by simp⟩)
      (List.range l.length) [] bw0 rfl ⟨⟨by simp [bw0], by simp [bw0]⟩, by simp [bw0], by simp [bw0]⟩
    rw [show ([] : List Nat).length = 0 from rfl, goL_nat (fun st f => (List.range' lo (min hi (l.length - f) + 1 - lo)).foldl (fun st n => pickM true (winM l f n) st) st) id] at hh
    have eB : bestB l (Int.ofNat lo, Int.ofNat hi) = bestR l lo hi := best_eq l lo hi h1
    rw [eB]
    exact B1_ok.tr (t28 (l.map intA) (Int.ofNat lo) (Int.ofNat hi) (bestR l lo hi)) ⟨⟨trivial, trivial, hh.says⟩, rfl⟩
/-! ### The program's two questions -/
theorem specBest {l : List Int} {k : P2} (h : bwOk l k = true) : bestG [slA intC 1 l, p2A k, fnV 100] = some (bwA (bestB l k)) := specAt3 (A := intsC) (B := p2C) (D := fnC 100) (b := fun l k _ => bwOk l k) (F := fun l k _ => bwA (bestB l k)) l k () h
def bErr (l : List Int) (k : P2) : Int := firstM [seriesM l, lenM k]
theorem bErrZ {l : List Int} {k : P2} (h : bErr l k = 0) : bwOk l k = true := by
  unfold bErr at h
  rw [firstZ, firstZ] at h
  unfold bwOk
  rw [h.1, h.2.1]; rfl
def pbeM (l : List Int) (k : P2) : AV := .tup [p2A (bif bErr l k == 0 then (bestB l k).2.1 else (0, 0)), p2A (bif bErr l k == 0 then (bestB l k).2.2 else (0, 0)), intA (bif bErr l k == 0 then whenM (!(bestB l k).1) 16 else bErr l k)]
def pbeG : List AV → Option AV := sp2 intsC p2C fun l k => bif Nat.ble l.length lim then some (pbeM l k) else none
theorem h20 : Holds 20 pbeG := holds2 fun l k r hr => by
  cases hb : Nat.ble l.length lim with
  | false => simp [hb] at hr
  | true =>
    simp only [hb, cond_true, Option.some.injEq] at hr; subst hr
    have ht := t20 (l.map intA) k.1 k.2 (seriesM l) (bestB l k)
    rw [show firstM [seriesM l, lenM (k.1, k.2)] = bErr l k from rfl, bnz] at ht
    unfold pbeM
    cases hq : bErr l k == 0 with
    | false => rw [hq] at ht; exact B1_ok.tr ht ⟨⟨rfl, specSer hb⟩, rfl⟩
    | true => rw [hq] at ht; exact B1_ok.tr ht ⟨⟨rfl, specSer hb⟩, ⟨rfl, specBest (bErrZ (by simpa using hq))⟩, rfl⟩
def cbErr (l : List Int) (k s x : P2) : Int := firstM [seriesM l, lenM k, winErr (Int.ofNat l.length) s, ratErr x]
def offB (st : BW) (s x : P2) : Bool := st.2.1.1 != s.1 || (st.2.1.2 != s.2 || !(st.2.2.1 == x.1 && (st.2.2.2 == x.2 && true)))
def pcbM (l : List Int) (k s x : P2) : Int := bif cbErr l k s x == 0 then firstM [whenM (!(bestB l k).1) 16, whenM (offB (bestB l k) s x) 19] else cbErr l k s x
def pcbG : List AV → Option AV := sp4 intsC p2C p2C p2C fun l k s x => bif Nat.ble l.length lim then some (intA (pcbM l k s x)) else none
theorem h21 : Holds 21 pcbG := holds4 fun l k s x r hr => by
  cases hb : Nat.ble l.length lim with
  | false => simp [hb] at hr
  | true =>
    simp only [hb, cond_true, Option.some.injEq] at hr; subst hr
    have ht := t21 (l.map intA) k.1 k.2 s.1 s.2 x.1 x.2 (seriesM l) (winErr (Int.ofNat l.length) s) (bestB l k) (!((bestB l k).2.2.1 == x.1 && ((bestB l k).2.2.2 == x.2 && true)))
    have fl : lenG [p2A k] = some (intA (lenM k)) := sp1_at (A := p2C) (F := fun x => some (intA (lenM x))) k
    rw [show firstM [seriesM l, lenM (k.1, k.2), winErr (Int.ofNat l.length) s, ratErr (x.1, x.2)] = cbErr l k s x from rfl, bnz] at ht
    unfold pcbM
    cases hq : cbErr l k s x == 0 with
    | false => rw [hq] at ht; exact B1_ok.tr ht ⟨⟨rfl, specSer hb⟩, ⟨rfl, fl⟩, ⟨rfl, specWin l s⟩, rfl⟩
    | true =>
      rw [hq] at ht
      have h0 : cbErr l k s x = 0 := by simpa using hq
      unfold cbErr at h0
      rw [firstZ, firstZ] at h0
      have hbw : bwOk l k = true := by unfold bwOk; rw [h0.1, h0.2.1]; rfl
      refine B1_ok.tr ht ⟨⟨rfl, specSer hb⟩, ⟨rfl, fl⟩, ⟨rfl, specWin l s⟩, ⟨rfl, specBest hbw⟩, ?_⟩
      unfold offB
      cases h1 : (bestB l k).2.1.1 != s.1 with
      | true => rfl
      | false =>
        cases h2 : (bestB l k).2.1.2 != s.2 with
        | true => rfl
        | false => exact ⟨(eqRa B1 _ _ _ _ _ _).2, rfl⟩
def B2 : Specs := ((B1.set 28 rbestG).set 20 pbeG).set 21 pcbG
theorem B2_ok : Ok B2 := ((B1_ok.set h28).set h20).set h21
end Go.Vm.S6
