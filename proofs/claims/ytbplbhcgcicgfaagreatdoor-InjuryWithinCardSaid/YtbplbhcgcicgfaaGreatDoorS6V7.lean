/- The search that asks the closure. -/
import Derived.Test.YtbplbhcgcicgfaaGreatDoorS6VB
namespace Go.Vm.S6
open Go.Proofs Go.RowKit
set_option maxRecDepth 100000 in
theorem r177c (es fs ks vs ks2 vs2 : List AV) (lo hi s x s2 : Int) (st : BW) (i n m q j len : Nat) (r : P2) (w : Bool) : roundD (CS V5) 60 7 177 40 60 100 false (loopOf (CS V5) 177 2) [0, 1, 2, 4, 5, 6, 8, 9] [5, 6, 8, 9, 14, 36, 37, 52] [0, 1, 2, 4, 5, 6, 8, 9] [5, 6, 8, 9, 14, 36, 37, 52] [0, 1, 2, 8, 9] [5, 6, 8, 9, 14, 36, 37] [.yld 14 4, .ptr 36 5 0, .ptr 37 6 0, intA (Int.ofNat i), .mp 52 7, intA (Int.ofNat n), intA (Int.ofNat len), intA (Int.ofNat i)] (bbL (CS V5) (clA fs) es lo hi st ++ [(false, .map ks vs)]) [.br [.ar (intA (Int.ofNat m)), .chk [intA s], .ar (intA (Int.ofNat q)), .ar (intA (Int.ofNat j)), .chk [intA x], .mu ks2 vs2, .br [] [.chk [intA s2], .sp [intA s2, intA (Int.ofNat n)] (p2A r), .sp [.agg [intA (Int.ofNat i), intA (IntKind.i64.wrap (Int.ofNat i + Int.ofNat n))], .rptr [.rsl 4 fs false]] (boolA w)]] []] =
    (bif decide (Int.ofNat n ≤ hi) then (bif decide (IntKind.i64.wrap (Int.ofNat i + Int.ofNat n) ≤ Int.ofNat es.length) then (.need ((abin (CS V5) BinOp.sub 3 (Operand.tmp 30) (Operand.const (Value.int IntKind.i64 1)) (AV.v (.int .i64 (Int.ofNat n))) (AV.v (.int .i64 1))) = (some (AV.v (.int .i64 (Int.ofNat m))))) (.need ((alookup (CS V5) Tr.leaf 245 (AV.rmp ks vs) (AV.v (.int .i64 (Int.ofNat m))) false) = (some (AV.v (.int .i64 s)))) (.need ((abin (CS V5) BinOp.add 3 (Operand.tmp 34) (Operand.tmp 35) (AV.v (.int .i64 (Int.ofNat i))) (AV.v (.int .i64 (Int.ofNat n)))) = (some (AV.v (.int .i64 (Int.ofNat q))))) (.need ((abin (CS V5) BinOp.sub 3 (Operand.tmp 36) (Operand.const (Value.int IntKind.i64 1)) (AV.v (.int .i64 (Int.ofNat q))) (AV.v (.int .i64 1))) = (some (AV.v (.int .i64 (Int.ofNat j))))) (.need (es[j]? = (some (AV.v (.int .i64 x)))) (.need ((mapUpd (CS V5) 245 ks vs (AV.v (.int .i64 (Int.ofNat n))) (AV.v (.int .i64 (IntKind.i64.wrap (s + x))))) = (some (ks2, vs2))) (bif decide (Int.ofNat n < lo) then (.need (EntClosed [(false, .box [.fn (Fn.func 120) [] [.rptr [.rsl 4 fs false]]]), (false, .box [intA 0, intA 0, intA 0, intA 0]), (false, .box [intA st.snd.fst.fst, intA st.snd.fst.snd, intA st.snd.snd.fst, intA st.snd.snd.snd]), (false, .box [boolA st.fst]), (false, .loop 99 0 34 (mkT [5, 6, 8, 9] [.ptr 5 0 0, .ptr 6 1 0, .ptr 8 2 0, .ptr 9 3 0] .leaf) [14] (rangeOf (CS V5) 99 14).1 (rangeOf (CS V5) 99 14).2 none), (false, .box [.rsl 1 es false]), (false, .box [intA lo, intA hi]), (false, .map ks2 vs2)]) (.done (some ((.nrm, [.yld 14 4, .ptr 36 5 0, .ptr 37 6 0, intA (Int.ofNat i), .mp 52 7, intA (IntKind.i64.wrap (Int.ofNat n + 1)), intA (Int.ofNat len), intA (Int.ofNat i)], [(false, .box [.fn (Fn.func 120) [] [.rptr [.rsl 4 fs false]]]), (false, .box [intA 0, intA 0, intA 0, intA 0]), (false, .box [intA st.snd.fst.fst, intA st.snd.fst.snd, intA st.snd.snd.fst, intA st.snd.snd.snd]), (false, .box [boolA st.fst]), (false, .loop 99 0 34 (mkT [5, 6, 8, 9] [.ptr 5 0 0, .ptr 6 1 0, .ptr 8 2 0, .ptr 9 3 0] .leaf) [14] (rangeOf (CS V5) 99 14).1 (rangeOf (CS V5) 99 14).2 none), (false, .box [.rsl 1 es false]), (false, .box [intA lo, intA hi]), (false, .map ks2 vs2)]))))) else (.need ((alookup (CS V5) Tr.leaf 245 (AV.rmp ks2 vs2) (AV.v (.int .i64 (Int.ofNat n))) false) = (some (AV.v (.int .i64 s2)))) (.need (([intA s2, intA (Int.ofNat n)] : List AV) = ([intA s2, intA (Int.ofNat n)] : List AV) ∧ (Cx.spec (CS V5) 97 ([intA s2, intA (Int.ofNat n)] : List AV)) = (some (AV.agg [intA r.fst, intA r.snd]))) (.need (([.agg [intA (Int.ofNat i), intA (IntKind.i64.wrap (Int.ofNat i + Int.ofNat n))], .rptr [.rsl 4 fs false]] : List AV) = ([.agg [intA (Int.ofNat i), intA (IntKind.i64.wrap (Int.ofNat i + Int.ofNat n))], .rptr [.rsl 4 fs false]] : List AV) ∧ (Cx.spec (CS V5) 120 ([.agg [intA (Int.ofNat i), intA (IntKind.i64.wrap (Int.ofNat i + Int.ofNat n))], .rptr [.rsl 4 fs false]] : List AV)) = (some (AV.v (.bool w)))) (bif w then (bif !st.fst then (.need (EntClosed [(false, .box [.fn (Fn.func 120) [] [.rptr [.rsl 4 fs false]]]), (false, .box [intA 0, intA 0, intA 0, intA 0]), (false, .box [intA (Int.ofNat i), intA (IntKind.i64.wrap (Int.ofNat i + Int.ofNat n)), intA r.fst, intA r.snd]), (false, .box [boolA true]), (false, .loop 99 0 34 (mkT [5, 6, 8, 9] [.ptr 5 0 0, .ptr 6 1 0, .ptr 8 2 0, .ptr 9 3 0] .leaf) [14] (rangeOf (CS V5) 99 14).1 (rangeOf (CS V5) 99 14).2 none), (false, .box [.rsl 1 es false]), (false, .box [intA lo, intA hi]), (false, .map ks2 vs2)]) (.done (some ((.nrm, [.yld 14 4, .ptr 36 5 0, .ptr 37 6 0, intA (Int.ofNat i), .mp 52 7, intA (IntKind.i64.wrap (Int.ofNat n + 1)), intA (Int.ofNat len), intA (Int.ofNat i)], [(false, .box [.fn (Fn.func 120) [] [.rptr [.rsl 4 fs false]]]), (false, .box [intA 0, intA 0, intA 0, intA 0]), (false, .box [intA (Int.ofNat i), intA (IntKind.i64.wrap (Int.ofNat i + Int.ofNat n)), intA r.fst, intA r.snd]), (false, .box [boolA true]), (false, .loop 99 0 34 (mkT [5, 6, 8, 9] [.ptr 5 0 0, .ptr 6 1 0, .ptr 8 2 0, .ptr 9 3 0] .leaf) [14] (rangeOf (CS V5) 99 14).1 (rangeOf (CS V5) 99 14).2 none), (false, .box [.rsl 1 es false]), (false, .box [intA lo, intA hi]), (false, .map ks2 vs2)]))))) else (bif decide (cmpW r st.snd.snd > 0) then (.need (EntClosed [(false, .box [.fn (Fn.func 120) [] [.rptr [.rsl 4 fs false]]]), (false, .box [intA 0, intA 0, intA 0, intA 0]), (false, .box [intA (Int.ofNat i), intA (IntKind.i64.wrap (Int.ofNat i + Int.ofNat n)), intA r.fst, intA r.snd]), (false, .box [boolA true]), (false, .loop 99 0 34 (mkT [5, 6, 8, 9] [.ptr 5 0 0, .ptr 6 1 0, .ptr 8 2 0, .ptr 9 3 0] .leaf) [14] (rangeOf (CS V5) 99 14).1 (rangeOf (CS V5) 99 14).2 none), (false, .box [.rsl 1 es false]), (false, .box [intA lo, intA hi]), (false, .map ks2 vs2)]) (.done (some ((.nrm, [.yld 14 4, .ptr 36 5 0, .ptr 37 6 0, intA (Int.ofNat i), .mp 52 7, intA (IntKind.i64.wrap (Int.ofNat n + 1)), intA (Int.ofNat len), intA (Int.ofNat i)], [(false, .box [.fn (Fn.func 120) [] [.rptr [.rsl 4 fs false]]]), (false, .box [intA 0, intA 0, intA 0, intA 0]), (false, .box [intA (Int.ofNat i), intA (IntKind.i64.wrap (Int.ofNat i + Int.ofNat n)), intA r.fst, intA r.snd]), (false, .box [boolA true]), (false, .loop 99 0 34 (mkT [5, 6, 8, 9] [.ptr 5 0 0, .ptr 6 1 0, .ptr 8 2 0, .ptr 9 3 0] .leaf) [14] (rangeOf (CS V5) 99 14).1 (rangeOf (CS V5) 99 14).2 none), (false, .box [.rsl 1 es false]), (false, .box [intA lo, intA hi]), (false, .map ks2 vs2)]))))) else (.need (EntClosed [(false, .box [.fn (Fn.func 120) [] [.rptr [.rsl 4 fs false]]]), (false, .box [intA 0, intA 0, intA 0, intA 0]), (false, .box [intA st.snd.fst.fst, intA st.snd.fst.snd, intA st.snd.snd.fst, intA st.snd.snd.snd]), (false, .box [boolA st.fst]), (false, .loop 99 0 34 (mkT [5, 6, 8, 9] [.ptr 5 0 0, .ptr 6 1 0, .ptr 8 2 0, .ptr 9 3 0] .leaf) [14] (rangeOf (CS V5) 99 14).1 (rangeOf (CS V5) 99 14).2 none), (false, .box [.rsl 1 es false]), (false, .box [intA lo, intA hi]), (false, .map ks2 vs2)]) (.done (some ((.nrm, [.yld 14 4, .ptr 36 5 0, .ptr 37 6 0, intA (Int.ofNat i), .mp 52 7, intA (IntKind.i64.wrap (Int.ofNat n + 1)), intA (Int.ofNat len), intA (Int.ofNat i)], [(false, .box [.fn (Fn.func 120) [] [.rptr [.rsl 4 fs false]]]), (false, .box [intA 0, intA 0, intA 0, intA 0]), (false, .box [intA st.snd.fst.fst, intA st.snd.fst.snd, intA st.snd.snd.fst, intA st.snd.snd.snd]), (false, .box [boolA st.fst]), (false, .loop 99 0 34 (mkT [5, 6, 8, 9] [.ptr 5 0 0, .ptr 6 1 0, .ptr 8 2 0, .ptr 9 3 0] .leaf) [14] (rangeOf (CS V5) 99 14).1 (rangeOf (CS V5) 99 14).2 none), (false, .box [.rsl 1 es false]), (false, .box [intA lo, intA hi]), (false, .map ks2 vs2)]))))))) else (.need (EntClosed [(false, .box [.fn (Fn.func 120) [] [.rptr [.rsl 4 fs false]]]), (false, .box [intA 0, intA 0, intA 0, intA 0]), (false, .box [intA st.snd.fst.fst, intA st.snd.fst.snd, intA st.snd.snd.fst, intA st.snd.snd.snd]), (false, .box [boolA st.fst]), (false, .loop 99 0 34 (mkT [5, 6, 8, 9] [.ptr 5 0 0, .ptr 6 1 0, .ptr 8 2 0, .ptr 9 3 0] .leaf) [14] (rangeOf (CS V5) 99 14).1 (rangeOf (CS V5) 99 14).2 none), (false, .box [.rsl 1 es false]), (false, .box [intA lo, intA hi]), (false, .map ks2 vs2)]) (.done (some ((.nrm, [.yld 14 4, .ptr 36 5 0, .ptr 37 6 0, intA (Int.ofNat i), .mp 52 7, intA (IntKind.i64.wrap (Int.ofNat n + 1)), intA (Int.ofNat len), intA (Int.ofNat i)], [(false, .box [.fn (Fn.func 120) [] [.rptr [.rsl 4 fs false]]]), (false, .box [intA 0, intA 0, intA 0, intA 0]), (false, .box [intA st.snd.fst.fst, intA st.snd.fst.snd, intA st.snd.snd.fst, intA st.snd.snd.snd]), (false, .box [boolA st.fst]), (false, .loop 99 0 34 (mkT [5, 6, 8, 9] [.ptr 5 0 0, .ptr 6 1 0, .ptr 8 2 0, .ptr 9 3 0] .leaf) [14] (rangeOf (CS V5) 99 14).1 (rangeOf (CS V5) 99 14).2 none), (false, .box [.rsl 1 es false]), (false, .box [intA lo, intA hi]), (false, .map ks2 vs2)])))))))))))))))) else (.need (EntClosed [(false, .box [.fn (Fn.func 120) [] [.rptr [.rsl 4 fs false]]]), (false, .box [intA 0, intA 0, intA 0, intA 0]), (false, .box [intA st.snd.fst.fst, intA st.snd.fst.snd, intA st.snd.snd.fst, intA st.snd.snd.snd]), (false, .box [boolA st.fst]), (false, .loop 99 0 34 (mkT [5, 6, 8, 9] [.ptr 5 0 0, .ptr 6 1 0, .ptr 8 2 0, .ptr 9 3 0] .leaf) [14] (rangeOf (CS V5) 99 14).1 (rangeOf (CS V5) 99 14).2 none), (false, .box [.rsl 1 es false]), (false, .box [intA lo, intA hi])]) (.done (some (((.exit 2), [.yld 14 4, .ptr 36 5 0, .ptr 37 6 0, intA (Int.ofNat len), intA (Int.ofNat i)], [(false, .box [.fn (Fn.func 120) [] [.rptr [.rsl 4 fs false]]]), (false, .box [intA 0, intA 0, intA 0, intA 0]), (false, .box [intA st.snd.fst.fst, intA st.snd.fst.snd, intA st.snd.snd.fst, intA st.snd.snd.snd]), (false, .box [boolA st.fst]), (false, .loop 99 0 34 (mkT [5, 6, 8, 9] [.ptr 5 0 0, .ptr 6 1 0, .ptr 8 2 0, .ptr 9 3 0] .leaf) [14] (rangeOf (CS V5) 99 14).1 (rangeOf (CS V5) 99 14).2 none), (false, .box [.rsl 1 es false]), (false, .box [intA lo, intA hi])])))))) else (.need (EntClosed [(false, .box [.fn (Fn.func 120) [] [.rptr [.rsl 4 fs false]]]), (false, .box [intA 0, intA 0, intA 0, intA 0]), (false, .box [intA st.snd.fst.fst, intA st.snd.fst.snd, intA st.snd.snd.fst, intA st.snd.snd.snd]), (false, .box [boolA st.fst]), (false, .loop 99 0 34 (mkT [5, 6, 8, 9] [.ptr 5 0 0, .ptr 6 1 0, .ptr 8 2 0, .ptr 9 3 0] .leaf) [14] (rangeOf (CS V5) 99 14).1 (rangeOf (CS V5) 99 14).2 none), (false, .box [.rsl 1 es false]), (false, .box [intA lo, intA hi])]) (.done (some (((.exit 2), [.yld 14 4, .ptr 36 5 0, .ptr 37 6 0, intA (Int.ofNat len), intA (Int.ofNat i)], [(false, .box [.fn (Fn.func 120) [] [.rptr [.rsl 4 fs false]]]), (false, .box [intA 0, intA 0, intA 0, intA 0]), (false, .box [intA st.snd.fst.fst, intA st.snd.fst.snd, intA st.snd.snd.fst, intA st.snd.snd.snd]), (false, .box [boolA st.fst]), (false, .loop 99 0 34 (mkT [5, 6, 8, 9] [.ptr 5 0 0, .ptr 6 1 0, .ptr 8 2 0, .ptr 9 3 0] .leaf) [14] (rangeOf (CS V5) 99 14).1 (rangeOf (CS V5) 99 14).2 none), (false, .box [.rsl 1 es false]), (false, .box [intA lo, intA hi])])))))) := by kernel_rfl
set_option maxRecDepth 100000 in
theorem r177p (es fs : List AV) (lo hi : Int) (st st2 : BW) (i len : Nat) : roundD (CS V5) 60 7 177 40 60 100 false (loopOf (CS V5) 177 0) [0, 1, 2, 8, 9] [5, 6, 8, 9, 14, 36, 37] [0, 1, 2, 8, 9] [5, 6, 8, 9, 14, 36, 37] [0, 1, 2] [5, 6, 8, 9, 14, 36, 37] [.yld 14 4, .ptr 36 5 0, .ptr 37 6 0, intA (Int.ofNat len), intA (Int.ofNat i)] (bbL (CS V5) (clA fs) es lo hi st) [.br [.loop 7 [0, 1, 2, 4, 5, 6, 8, 9] [5, 6, 8, 9, 14, 36, 37, 52] [0, 1, 2, 8, 9] [5, 6, 8, 9, 14, 36, 37] (.exit 2) [.yld 14 4, .ptr 36 5 0, .ptr 37 6 0, intA (Int.ofNat len), intA (Int.ofNat i)] (bbL (CS V5) (clA fs) es lo hi st2)] []] =
    (bif decide (Int.ofNat i < Int.ofNat len) then (.need (EntClosed [(false, .box [.fn (Fn.func 120) [] [.rptr [.rsl 4 fs false]]]), (false, .box [intA 0, intA 0, intA 0, intA 0]), (false, .box [intA st.snd.fst.fst, intA st.snd.fst.snd, intA st.snd.snd.fst, intA st.snd.snd.snd]), (false, .box [boolA st.fst]), (false, .loop 99 0 34 (mkT [5, 6, 8, 9] [.ptr 5 0 0, .ptr 6 1 0, .ptr 8 2 0, .ptr 9 3 0] .leaf) [14] (rangeOf (CS V5) 99 14).1 (rangeOf (CS V5) 99 14).2 none), (false, .box [.rsl 1 es false]), (false, .box [intA lo, intA hi]), (false, .map [] [])] ∧ EntClosed [(false, .box [.fn (Fn.func 120) [] [.rptr [.rsl 4 fs false]]]), (false, .box [intA 0, intA 0, intA 0, intA 0]), (false, .box [intA st2.snd.fst.fst, intA st2.snd.fst.snd, intA st2.snd.snd.fst, intA st2.snd.snd.snd]), (false, .box [boolA st2.fst]), (false, .loop 99 0 34 (mkT [5, 6, 8, 9] [.ptr 5 0 0, .ptr 6 1 0, .ptr 8 2 0, .ptr 9 3 0] .leaf) [14] (rangeOf (CS V5) 99 14).1 (rangeOf (CS V5) 99 14).2 none), (false, .box [.rsl 1 es false]), (false, .box [intA lo, intA hi])] ∧ Says (CS V5) 7 60 false (.loop (loopOf (CS V5) 177 2)) (mkSt [0, 1, 2, 4, 5, 6, 8, 9] [5, 6, 8, 9, 14, 36, 37, 52] 100 [.yld 14 4, .ptr 36 5 0, .ptr 37 6 0, intA (Int.ofNat i), .mp 52 7, intA 1, intA (Int.ofNat len), intA (Int.ofNat i)] [(false, .box [.fn (Fn.func 120) [] [.rptr [.rsl 4 fs false]]]), (false, .box [intA 0, intA 0, intA 0, intA 0]), (false, .box [intA st.snd.fst.fst, intA st.snd.fst.snd, intA st.snd.snd.fst, intA st.snd.snd.snd]), (false, .box [boolA st.fst]), (false, .loop 99 0 34 (mkT [5, 6, 8, 9] [.ptr 5 0 0, .ptr 6 1 0, .ptr 8 2 0, .ptr 9 3 0] .leaf) [14] (rangeOf (CS V5) 99 14).1 (rangeOf (CS V5) 99 14).2 none), (false, .box [.rsl 1 es false]), (false, .box [intA lo, intA hi]), (false, .map [] [])]) (.exit 2) (mkSt [0, 1, 2, 8, 9] [5, 6, 8, 9, 14, 36, 37] 100 [.yld 14 4, .ptr 36 5 0, .ptr 37 6 0, intA (Int.ofNat len), intA (Int.ofNat i)] [(false, .box [.fn (Fn.func 120) [] [.rptr [.rsl 4 fs false]]]), (false, .box [intA 0, intA 0, intA 0, intA 0]), (false, .box [intA st2.snd.fst.fst, intA st2.snd.fst.snd, intA st2.snd.snd.fst, intA st2.snd.snd.snd]), (false, .box [boolA st2.fst]), (false, .loop 99 0 34 (mkT [5, 6, 8, 9] [.ptr 5 0 0, .ptr 6 1 0, .ptr 8 2 0, .ptr 9 3 0] .leaf) [14] (rangeOf (CS V5) 99 14).1 (rangeOf (CS V5) 99 14).2 none), (false, .box [.rsl 1 es false]), (false, .box [intA lo, intA hi])])) (.need (EntClosed [(false, .box [.fn (Fn.func 120) [] [.rptr [.rsl 4 fs false]]]), (false, .box [intA 0, intA 0, intA 0, intA 0]), (false, .box [intA st2.snd.fst.fst, intA st2.snd.fst.snd, intA st2.snd.snd.fst, intA st2.snd.snd.snd]), (false, .box [boolA st2.fst]), (false, .loop 99 0 34 (mkT [5, 6, 8, 9] [.ptr 5 0 0, .ptr 6 1 0, .ptr 8 2 0, .ptr 9 3 0] .leaf) [14] (rangeOf (CS V5) 99 14).1 (rangeOf (CS V5) 99 14).2 none), (false, .box [.rsl 1 es false]), (false, .box [intA lo, intA hi])]) (.done (some ((.nrm, [.yld 14 4, .ptr 36 5 0, .ptr 37 6 0, intA (Int.ofNat len), intA (IntKind.i64.wrap (Int.ofNat i + 1))], [(false, .box [.fn (Fn.func 120) [] [.rptr [.rsl 4 fs false]]]), (false, .box [intA 0, intA 0, intA 0, intA 0]), (false, .box [intA st2.snd.fst.fst, intA st2.snd.fst.snd, intA st2.snd.snd.fst, intA st2.snd.snd.snd]), (false, .box [boolA st2.fst]), (false, .loop 99 0 34 (mkT [5, 6, 8, 9] [.ptr 5 0 0, .ptr 6 1 0, .ptr 8 2 0, .ptr 9 3 0] .leaf) [14] (rangeOf (CS V5) 99 14).1 (rangeOf (CS V5) 99 14).2 none), (false, .box [.rsl 1 es false]), (false, .box [intA lo, intA hi])])))))) else (.need (EntClosed [(false, .box [.fn (Fn.func 120) [] [.rptr [.rsl 4 fs false]]]), (false, .box [intA 0, intA 0, intA 0, intA 0]), (false, .box [intA st.snd.fst.fst, intA st.snd.fst.snd, intA st.snd.snd.fst, intA st.snd.snd.snd]), (false, .box [boolA st.fst]), (false, .loop 99 0 34 (mkT [5, 6, 8, 9] [.ptr 5 0 0, .ptr 6 1 0, .ptr 8 2 0, .ptr 9 3 0] .leaf) [14] (rangeOf (CS V5) 99 14).1 (rangeOf (CS V5) 99 14).2 none), (false, .box [.rsl 1 es false]), (false, .box [intA lo, intA hi])]) (.done (some (((.exit 0), [.yld 14 4, .ptr 36 5 0, .ptr 37 6 0], [(false, .box [.fn (Fn.func 120) [] [.rptr [.rsl 4 fs false]]]), (false, .box [intA 0, intA 0, intA 0, intA 0]), (false, .box [intA st.snd.fst.fst, intA st.snd.fst.snd, intA st.snd.snd.fst, intA st.snd.snd.snd]), (false, .box [boolA st.fst]), (false, .loop 99 0 34 (mkT [5, 6, 8, 9] [.ptr 5 0 0, .ptr 6 1 0, .ptr 8 2 0, .ptr 9 3 0] .leaf) [14] (rangeOf (CS V5) 99 14).1 (rangeOf (CS V5) 99 14).2 none), (false, .box [.rsl 1 es false]), (false, .box [intA lo, intA hi])])))))) := by kernel_rfl
set_option maxRecDepth 100000 in
theorem t99c (es fs : List AV) (lo hi : Int) (st : BW) : evTreeD (CS V5) 60 99 [.rsl 1 es false, .agg [intA lo, intA hi], clA fs] [.loop 7 [0, 1, 2, 8, 9] [5, 6, 8, 9, 14, 36, 37] [0, 1, 2] [5, 6, 8, 9, 14, 36, 37] (.exit 0) [.yld 14 4, .ptr 36 5 0, .ptr 37 6 0] (bbL (CS V5) (clA fs) es lo hi st)] =
    (.need (EntClosed [(false, .box [.fn (Fn.func 120) [] [.rptr [.rsl 4 fs false]]]), (false, .box [intA 0, intA 0, intA 0, intA 0]), (false, .box [intA 0, intA 0, intA 0, intA 0]), (false, .box [boolA false]), (false, .loop 99 0 34 (mkT [5, 6, 8, 9] [.ptr 5 0 0, .ptr 6 1 0, .ptr 8 2 0, .ptr 9 3 0] .leaf) [14] (rangeOf (CS V5) 99 14).1 (rangeOf (CS V5) 99 14).2 none), (false, .box [.rsl 1 es false]), (false, .box [intA lo, intA hi])] ∧ EntClosed [(false, .box [.fn (Fn.func 120) [] [.rptr [.rsl 4 fs false]]]), (false, .box [intA 0, intA 0, intA 0, intA 0]), (false, .box [intA st.snd.fst.fst, intA st.snd.fst.snd, intA st.snd.snd.fst, intA st.snd.snd.snd]), (false, .box [boolA st.fst]), (false, .loop 99 0 34 (mkT [5, 6, 8, 9] [.ptr 5 0 0, .ptr 6 1 0, .ptr 8 2 0, .ptr 9 3 0] .leaf) [14] (rangeOf (CS V5) 99 14).1 (rangeOf (CS V5) 99 14).2 none), (false, .box [.rsl 1 es false]), (false, .box [intA lo, intA hi])] ∧ Says (CS V5) 7 60 false (.loop (loopOf (CS V5) 177 0)) (mkSt [0, 1, 2, 8, 9] [5, 6, 8, 9, 14, 36, 37] 100 [.yld 14 4, .ptr 36 5 0, .ptr 37 6 0, intA (Int.ofNat es.length), intA 0] [(false, .box [.fn (Fn.func 120) [] [.rptr [.rsl 4 fs false]]]), (false, .box [intA 0, intA 0, intA 0, intA 0]), (false, .box [intA 0, intA 0, intA 0, intA 0]), (false, .box [boolA false]), (false, .loop 99 0 34 (mkT [5, 6, 8, 9] [.ptr 5 0 0, .ptr 6 1 0, .ptr 8 2 0, .ptr 9 3 0] .leaf) [14] (rangeOf (CS V5) 99 14).1 (rangeOf (CS V5) 99 14).2 none), (false, .box [.rsl 1 es false]), (false, .box [intA lo, intA hi])]) (.exit 0) (mkSt [0, 1, 2] [5, 6, 8, 9, 14, 36, 37] 100 [.yld 14 4, .ptr 36 5 0, .ptr 37 6 0] [(false, .box [.fn (Fn.func 120) [] [.rptr [.rsl 4 fs false]]]), (false, .box [intA 0, intA 0, intA 0, intA 0]), (false, .box [intA st.snd.fst.fst, intA st.snd.fst.snd, intA st.snd.snd.fst, intA st.snd.snd.snd]), (false, .box [boolA st.fst]), (false, .loop 99 0 34 (mkT [5, 6, 8, 9] [.ptr 5 0 0, .ptr 6 1 0, .ptr 8 2 0, .ptr 9 3 0] .leaf) [14] (rangeOf (CS V5) 99 14).1 (rangeOf (CS V5) 99 14).2 none), (false, .box [.rsl 1 es false]), (false, .box [intA lo, intA hi])])) (.done (some (.tup [.agg [intA st.snd.fst.fst, intA st.snd.fst.snd, intA st.snd.snd.fst, intA st.snd.snd.snd], boolA st.fst])))) := by kernel_rfl
theorem map245V : IntMap (CS V5) 245 (.int .i64 0) := intMap_of isZero_eq (kt := 3) (et := 3) (by kernel_rfl)
def isU (tr : List Va) (f n : Nat) : Bool := !(unW tr f (f + n))
abbrev bwC (tr : List Va) (l : List Int) (lo f : Nat) (n : Nat) (st : BW) : BW := bif decide (n < lo) then st else pickM (isU tr f n) (winM l f n) st
theorem bwC_bd {tr : List Va} {l : List Int} (h : Ser l) {lo f n : Nat} {st : BW} (hn : 1 ≤ n) (hf : f + n ≤ l.length) (hs : RaB st.2.2) : RaB (bwC tr l lo f n st).2.2 := by
  unfold bwC
  cases decide (n < lo) with
  | true => exact hs
  | false =>
    show RaB (pickM (isU tr f n) (winM l f n) st).2.2
    unfold pickM
    cases isU tr f n && (!st.1 || decide (cmpM (winM l f n).2 st.2.2 > 0)) with
    | true =>
      have := sumW h (a := f) (b := f + n) ⟨by omega, hf⟩
      unfold winI at this
      rw [show f + n - f = n by omega] at this
      exact worth_bd this
    | false => exact hs
theorem win_inC (tr : List Va) (l : List Int) (htr : tr.length = l.length) (h : Ser l) (lo hi i : Nat) (hi1 : hi ≤ 128) (hil : i < l.length) (st : BW) (hst : RaB st.2.2) :
    LoopRun (CS V5) 7 60 false (loopOf (CS V5) 177 2) (mkSt [0, 1, 2, 4, 5, 6, 8, 9] [5, 6, 8, 9, 14, 36, 37, 52] 100 [.yld 14 4, .ptr 36 5 0, .ptr 37 6 0, intA (Int.ofNat i), .mp 52 7, intA 1, intA (Int.ofNat l.length), intA (Int.ofNat i)] (bbL (CS V5) (clA (tr.map vaC.enc)) (l.map intA) (Int.ofNat lo) (Int.ofNat hi) st ++ [(false, .map [] [])])) (.exit 2)
      (mkSt [0, 1, 2, 8, 9] [5, 6, 8, 9, 14, 36, 37] 100 [.yld 14 4, .ptr 36 5 0, .ptr 37 6 0, intA (Int.ofNat l.length), intA (Int.ofNat i)] (bbL (CS V5) (clA (tr.map vaC.enc)) (l.map intA) (Int.ofNat lo) (Int.ofNat hi) ((List.range' 1 (min hi (l.length - i))).foldl (fun st n => bwC tr l lo i n st) st)))
    ∧ RaB ((List.range' 1 (min hi (l.length - i))).foldl (fun st n => bwC tr l lo i n st) st).2.2 := by
  have hl2 := h.2.1
  have e := e_len intA l
  have hLl : ((l.drop i).take hi).length = min hi (l.length - i) := by rw [List.length_take, List.length_drop]
  have hLb : ∀ x ∈ (l.drop i).take hi, -16384 ≤ x ∧ x ≤ 16384 := fun x hx => h.2.2 x (List.mem_of_mem_drop (List.mem_of_mem_take hx))
  have hh := LoopRun.list (C := CS V5) (p := 7) (nt := 60) (rd := false) (c := loopOf (CS V5) 177 2) (step := fun k (_ : Int) st => (.inl (bwC tr l lo i (k + 1) st) : BW ⊕ BW)) (fin := id)
    (enc := fun k st => mkSt [0, 1, 2, 4, 5, 6, 8, 9] [5, 6, 8, 9, 14, 36, 37, 52] 100 [.yld 14 4, .ptr 36 5 0, .ptr 37 6 0, intA (Int.ofNat i), .mp 52 7, intA (Int.ofNat (k + 1)), intA (Int.ofNat l.length), intA (Int.ofNat i)] (bbL (CS V5) (clA (tr.map vaC.enc)) (l.map intA) (Int.ofNat lo) (Int.ofNat hi) st ++ [(false, .map ((upto k).map intA) (sumsV ((l.drop i).take hi) k))]))
    (ex := fun _ => .exit 2) (out := fun st => mkSt [0, 1, 2, 8, 9] [5, 6, 8, 9, 14, 36, 37] 100 [.yld 14 4, .ptr 36 5 0, .ptr 37 6 0, intA (Int.ofNat l.length), intA (Int.ofNat i)] (bbL (CS V5) (clA (tr.map vaC.enc)) (l.map intA) (Int.ofNat lo) (Int.ofNat hi) st)) (l := (l.drop i).take hi) (fun _ st => RaB st.2.2)
    (fun k x st hx hst => by
      have hk := lt_len hx
      have hkL := hk
      rw [hLl] at hk
      have hx1 : l[i + k]? = some x := by
        rw [List.getElem?_take, if_pos (by omega), List.getElem?_drop] at hx; exact hx
      have hbx := hLb x (List.mem_of_getElem? hx)
      have hsb := sum_tb hLb k (by rw [hLl]; omega)
      have hsb2 := sum_tb hLb (k + 1) (by rw [hLl]; omega)
      have hst2 := sum_take hx
      have htk : ((l.drop i).take hi).take (k + 1) = (l.drop i).take (k + 1) := by rw [List.take_take]; congr 1; omega
      have hwo : worOk (sumM (((l.drop i).take hi).take (k + 1))) (Int.ofNat (k + 1)) = true := by rw [worOk_iff]; simp only [Int.ofNat_eq_natCast]; omega
      have hwb := worth_bd hwo
      have ewin : (winM l i (k + 1)).2 = worthM (sumM (((l.drop i).take hi).take (k + 1))) (Int.ofNat (k + 1)) := by unfold winM; rw [htk]
      have hr := r177c (l.map intA) (tr.map vaC.enc) ((upto k).map intA) (sumsV ((l.drop i).take hi) k) ((upto (k + 1)).map intA) (sumsV ((l.drop i).take hi) (k + 1)) (Int.ofNat lo) (Int.ofNat hi) (sumM (((l.drop i).take hi).take k)) x (sumM (((l.drop i).take hi).take (k + 1))) st i (k + 1) k (i + (k + 1)) (i + k) l.length (worthM (sumM (((l.drop i).take hi).take (k + 1))) (Int.ofNat (k + 1))) (isU tr i (k + 1))
      have h1 : decide (Int.ofNat (k + 1) ≤ Int.ofNat hi) = true := by simp only [decide_eq_true_eq, Int.ofNat_eq_natCast]; omega
      have h2 : decide (Int.ofNat (i + (k + 1)) ≤ Int.ofNat l.length) = true := by simp only [decide_eq_true_eq, Int.ofNat_eq_natCast]; omega
      have h3 : decide (Int.ofNat (k + 1) < Int.ofNat lo) = decide (k + 1 < lo) := decide_eq_decide.2 (by simp only [Int.ofNat_eq_natCast]; omega)
      have hsub := sub_ok V5 (.tmp 30) (.const (.int .i64 1)) (Int.ofNat (k + 1)) 1
      rw [subN1 (by unfold two63; omega)] at hsub
      have hadd := add_ok V5 (.tmp 34) (.tmp 35) (Int.ofNat i) (Int.ofNat (k + 1))
      rw [add_nat (by unfold two63; omega)] at hadd
      have hsub2 := sub_ok V5 (.tmp 36) (.const (.int .i64 1)) (Int.ofNat (i + (k + 1))) 1
      rw [show i + (k + 1) = (i + k) + 1 by omega, subN1 (by unfold two63; omega)] at hsub2
      have hlook : alookup (CS V5) Tr.leaf 245 (AV.rmp ((upto k).map intA) (sumsV ((l.drop i).take hi) k)) (intA (Int.ofNat k)) false = some (intA (sumM (((l.drop i).take hi).take k))) := by
        cases k with
        | zero => exact map245V.none0 _ 0 _ false
        | succ k => exact map245V.last _ k _ false (sumsV_at _ k)
      have hupd : mapUpd (CS V5) 245 ((upto k).map intA) (sumsV ((l.drop i).take hi) k) (intA (Int.ofNat (k + 1))) (intA (IntKind.i64.wrap (sumM (((l.drop i).take hi).take k) + x))) = some ((upto (k + 1)).map intA, sumsV ((l.drop i).take hi) (k + 1)) := by
        rw [wrap_in (by omega) (by omega), ← hst2, sumsV_succ]
        exact map245V.grow k _ _
      have hlook2 := map245V.last Tr.leaf k _ false (sumsV_at ((l.drop i).take hi) k)
      rw [h1, add_nat (by unfold two63; omega), e, h2, h3, wrap_ix (show k + 1 < 129 + 1 by omega) (by unfold two63; omega), cmpB hwb hst] at hr
      refine ⟨?_, bwC_bd h (by omega) (by omega) hst⟩
      unfold bwC
      cases hlo : decide (k + 1 < lo) with
      | true =>
        rw [hlo] at hr
        exact V5_ok.rndN hr ⟨hsub, hlook, hadd, hsub2, get_map _ hx1, hupd, ⟨⟨closedInt _, sumsV_closed _ _⟩, trivial⟩, rfl⟩
      | false =>
        rw [hlo] at hr
        have eP : (bif false then st else pickM (isU tr i (k + 1)) (winM l i (k + 1)) st) = bif isU tr i (k + 1) && (!st.1 || decide (cmpM (worthM (sumM (((l.drop i).take hi).take (k + 1))) (Int.ofNat (k + 1))) st.2.2 > 0)) then (true, (Int.ofNat i, Int.ofNat (i + (k + 1))), worthM (sumM (((l.drop i).take hi).take (k + 1))) (Int.ofNat (k + 1))) else st := by
          show pickM (isU tr i (k + 1)) (winM l i (k + 1)) st = _
          unfold pickM
          rw [ewin]
          unfold winM
          rw [htk]
        rw [eP]
        have hun : und120G [p2A (Int.ofNat i, Int.ofNat (i + (k + 1))), .rptr [slA vaC 4 tr]] = some (boolA (isU tr i (k + 1))) := specUnd (s := (Int.ofNat i, Int.ofNat (i + (k + 1)))) (by
          unfold unOk
          rw [winW ⟨by omega, by omega⟩, Nat.ble_eq_true_of_le (by unfold lim; omega)]; rfl)
        cases hW : isU tr i (k + 1) with
        | false =>
          rw [hW] at hr hun
          exact V5_ok.rndN hr ⟨hsub, hlook, hadd, hsub2, get_map _ hx1, hupd, hlook2, ⟨rfl, specWorth hwo⟩, ⟨rfl, hun⟩, ⟨⟨closedInt _, sumsV_closed _ _⟩, trivial⟩, rfl⟩
        | true =>
          rw [hW] at hr hun
          obtain ⟨o, sp, ra⟩ := st
          cases o with
          | false => exact V5_ok.rndN hr ⟨hsub, hlook, hadd, hsub2, get_map _ hx1, hupd, hlook2, ⟨rfl, specWorth hwo⟩, ⟨rfl, hun⟩, ⟨⟨closedInt _, sumsV_closed _ _⟩, trivial⟩, rfl⟩
          | true =>
            rw [show (!(true, sp, ra).1) = false from rfl] at hr
            cases hg : decide (cmpM (worthM (sumM (((l.drop i).take hi).take (k + 1))) (Int.ofNat (k + 1))) ra > 0) with
            | true =>
              rw [show decide (cmpM (worthM (sumM (((l.drop i).take hi).take (k + 1))) (Int.ofNat (k + 1))) (true, sp, ra).2.2 > 0) = true from hg] at hr
              exact V5_ok.rndN hr ⟨hsub, hlook, hadd, hsub2, get_map _ hx1, hupd, hlook2, ⟨rfl, specWorth hwo⟩, ⟨rfl, hun⟩, ⟨⟨closedInt _, sumsV_closed _ _⟩, trivial⟩, rfl⟩
            | false =>
              rw [show decide (cmpM (worthM (sumM (((l.drop i).take hi).take (k + 1))) (Int.ofNat (k + 1))) (true, sp, ra).2.2 > 0) = false from hg] at hr
              exact V5_ok.rndN hr ⟨hsub, hlook, hadd, hsub2, get_map _ hx1, hupd, hlook2, ⟨rfl, specWorth hwo⟩, ⟨rfl, hun⟩, ⟨⟨closedInt _, sumsV_closed _ _⟩, trivial⟩, rfl⟩)
    (fun st hst => by
      have hr := r177c (l.map intA) (tr.map vaC.enc) ((upto ((l.drop i).take hi).length).map intA) (sumsV ((l.drop i).take hi) ((l.drop i).take hi).length) [] [] (Int.ofNat lo) (Int.ofNat hi) 0 0 0 st i (((l.drop i).take hi).length + 1) 0 0 0 l.length (0, 0) false
      refine ⟨V5_ok.rndX hr ?_, by simp⟩
      cases h1 : decide (Int.ofNat (((l.drop i).take hi).length + 1) ≤ Int.ofNat hi) with
      | false => exact ⟨trivial, rfl⟩
      | true =>
        simp only [decide_eq_true_eq, Int.ofNat_eq_natCast] at h1
        have h2 : decide (Int.ofNat (i + (((l.drop i).take hi).length + 1)) ≤ Int.ofNat l.length) = false := by simp only [decide_eq_false_iff_not, Int.ofNat_eq_natCast]; omega
        rw [add_nat (by unfold two63; omega), e, h2]
        exact ⟨trivial, rfl⟩)
    ((l.drop i).take hi) [] st rfl hst
  rw [show ([] : List Int).length = 0 from rfl, goL_ix (fun n st => bwC tr l lo i n st), hLl] at hh
  refine ⟨hh, ?_⟩
  refine foldl_P (fun st : BW => RaB st.2.2) _ _ _ hst (fun st n hn hs => ?_)
  rw [List.mem_range'_1] at hn
  exact bwC_bd h (by omega) (by omega) hs
def bestCG : List AV → Option AV := sp3 intsC p2C clC fun l k tr => bif bwOk l k && tr.length == l.length then some (bwA (bestM (isU tr) l (natOf k.1) (natOf k.2))) else none
theorem h99c : Holds 99 bestCG := holds3 fun l k tr r hr => by
  cases hb : bwOk l k && tr.length == l.length with
  | false => simp [hb] at hr
  | true =>
    simp only [hb, cond_true, Option.some.injEq] at hr; subst hr
    unfold bwOk at hb
    simp only [Bool.and_eq_true, beq_iff_eq] at hb
    have htr := hb.2
    have h := seriesZ.1 hb.1.1
    obtain ⟨lo, hi, rfl, h1, h2, h3⟩ := lenZ hb.1.2
    have hl2 := h.2.1
    have e := e_len intA l
    have hh := LoopRun.list (C := CS V5) (p := 7) (nt := 60) (rd := false) (c := loopOf (CS V5) 177 0) (step := fun _ f st => (.inl ((List.range' 1 (min hi (l.length - f))).foldl (fun st n => bwC tr l lo f n st) st) : BW ⊕ BW)) (fin := id)
      (enc := fun i st => mkSt [0, 1, 2, 8, 9] [5, 6, 8, 9, 14, 36, 37] 100 [.yld 14 4, .ptr 36 5 0, .ptr 37 6 0, intA (Int.ofNat l.length), intA (Int.ofNat i)] (bbL (CS V5) (clA (tr.map vaC.enc)) (l.map intA) (Int.ofNat lo) (Int.ofNat hi) st))
      (ex := fun _ => .exit 0) (out := fun st => mkSt [0, 1, 2] [5, 6, 8, 9, 14, 36, 37] 100 [.yld 14 4, .ptr 36 5 0, .ptr 37 6 0] (bbL (CS V5) (clA (tr.map vaC.enc)) (l.map intA) (Int.ofNat lo) (Int.ofNat hi) st)) (l := List.range l.length) (fun _ st => RaB st.2.2)
      (fun i f st hx hst => by
        obtain ⟨rfl, hif⟩ := range_get hx
        obtain ⟨g1, g2⟩ := win_inC tr l htr h lo hi f h3 hif st hst
        have hr := r177p (l.map intA) (tr.map vaC.enc) (Int.ofNat lo) (Int.ofNat hi) st ((List.range' 1 (min hi (l.length - f))).foldl (fun st n => bwC tr l lo f n st) st) f l.length
        rw [lt_of hif, wrap_ix hif (by unfold two63; omega)] at hr
        exact ⟨V5_ok.rndN hr ⟨⟨⟨⟨closedInt [], closedInt []⟩, trivial⟩, trivial, g1.says⟩, trivial, rfl⟩, g2⟩)
      (fun st _ => ⟨V5_ok.rndX (r177p (l.map intA) (tr.map vaC.enc) (Int.ofNat lo) (Int.ofNat hi) st st (List.range l.length).length l.length) (by rw [List.length_range, lt_self]; exact ⟨trivial, rfl⟩), by simp⟩)
      (List.range l.length) [] bw0 rfl ⟨⟨by simp [bw0], by simp [bw0]⟩, by simp [bw0], by simp [bw0]⟩
    rw [show ([] : List Nat).length = 0 from rfl, goL_nat (fun st f => (List.range' 1 (min hi (l.length - f))).foldl (fun st n => bwC tr l lo f n st) st) id] at hh
    refine V5_ok.tr (t99c (l.map intA) (tr.map vaC.enc) (Int.ofNat lo) (Int.ofNat hi) (bestM (isU tr) l lo hi)) ⟨⟨trivial, trivial, ?_⟩, rfl⟩
    rw [e]
    exact hh.says
theorem h99o : Holds 99 (orG bestG bestCG) := holds_or h99 h99c
def V6 : Specs := (V5.set 99 (orG bestG bestCG))
theorem V6_ok : Ok V6 := (V5_ok.set h99o)
end Go.Vm.S6
