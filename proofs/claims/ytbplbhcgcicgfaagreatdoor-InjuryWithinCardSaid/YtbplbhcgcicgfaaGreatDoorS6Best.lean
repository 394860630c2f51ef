/- The program's search over windows. -/
import Derived.Test.YtbplbhcgcicgfaaGreatDoorS6Best0
namespace Go.Vm.S6
open Go.Proofs Go.RowKit
set_option maxRecDepth 100000 in
theorem r177 (es ks vs ks2 vs2 : List AV) (lo hi s x s2 : Int) (st : BW) (i n m q j len : Nat) (r : P2) : roundD (CS T8) 60 7 177 40 60 100 false (loopOf (CS T8) 177 2) [0, 1, 2, 4, 5, 6, 8, 9] [5, 6, 8, 9, 14, 36, 37, 52] [0, 1, 2, 4, 5, 6, 8, 9] [5, 6, 8, 9, 14, 36, 37, 52] [0, 1, 2, 8, 9] [5, 6, 8, 9, 14, 36, 37] [.yld 14 4, .ptr 36 5 0, .ptr 37 6 0, intA (Int.ofNat i), .mp 52 7, intA (Int.ofNat n), intA (Int.ofNat len), intA (Int.ofNat i)] (bbL (CS T8) (fnV 100) es lo hi st ++ [(false, .map ks vs)]) [.br [.ar (intA (Int.ofNat m)), .chk [intA s], .ar (intA (Int.ofNat q)), .ar (intA (Int.ofNat j)), .chk [intA x], .mu ks2 vs2, .br [] [.chk [intA s2], .sp [intA s2, intA (Int.ofNat n)] (p2A r)]] []] =
    (bif decide (Int.ofNat n ≤ hi) then (bif decide (IntKind.i64.wrap (Int.ofNat i + Int.ofNat n) ≤ Int.ofNat es.length) then (.need ((abin (CS T8) BinOp.sub 3 (Operand.tmp 30) (Operand.const (Value.int IntKind.i64 1)) (AV.v (.int .i64 (Int.ofNat n))) (AV.v (.int .i64 1))) = (some (AV.v (.int .i64 (Int.ofNat m))))) (.need ((alookup (CS T8) Tr.leaf 245 (AV.rmp ks vs) (AV.v (.int .i64 (Int.ofNat m))) false) = (some (AV.v (.int .i64 s)))) (.need ((abin (CS T8) BinOp.add 3 (Operand.tmp 34) (Operand.tmp 35) (AV.v (.int .i64 (Int.ofNat i))) (AV.v (.int .i64 (Int.ofNat n)))) = (some (AV.v (.int .i64 (Int.ofNat q))))) (.need ((abin (CS T8) BinOp.sub 3 (Operand.tmp 36) (Operand.const (Value.int IntKind.i64 1)) (AV.v (.int .i64 (Int.ofNat q))) (AV.v (.int .i64 1))) = (some (AV.v (.int .i64 (Int.ofNat j))))) (.need (es[j]? = (some (AV.v (.int .i64 x)))) (.need ((mapUpd (CS T8) 245 ks vs (AV.v (.int .i64 (Int.ofNat n))) (AV.v (.int .i64 (IntKind.i64.wrap (s + x))))) = (some (ks2, vs2))) (bif decide (Int.ofNat n < lo) then (.need (EntClosed [(false, .box [.fn (Fn.func 100) [] []]), (false, .box [intA 0, intA 0, intA 0, intA 0]), (false, .box [intA st.snd.fst.fst, intA st.snd.fst.snd, intA st.snd.snd.fst, intA st.snd.snd.snd]), (false, .box [boolA st.fst]), (false, .loop 99 0 34 (mkT [5, 6, 8, 9] [.ptr 5 0 0, .ptr 6 1 0, .ptr 8 2 0, .ptr 9 3 0] .leaf) [14] (rangeOf (CS T8) 99 14).1 (rangeOf (CS T8) 99 14).2 none), (false, .box [.rsl 1 es false]), (false, .box [intA lo, intA hi]), (false, .map ks2 vs2)]) (.done (some ((.nrm, [.yld 14 4, .ptr 36 5 0, .ptr 37 6 0, intA (Int.ofNat i), .mp 52 7, intA (IntKind.i64.wrap (Int.ofNat n + 1)), intA (Int.ofNat len), intA (Int.ofNat i)], [(false, .box [.fn (Fn.func 100) [] []]), (false, .box [intA 0, intA 0, intA 0, intA 0]), (false, .box [intA st.snd.fst.fst, intA st.snd.fst.snd, intA st.snd.snd.fst, intA st.snd.snd.snd]), (false, .box [boolA st.fst]), (false, .loop 99 0 34 (mkT [5, 6, 8, 9] [.ptr 5 0 0, .ptr 6 1 0, .ptr 8 2 0, .ptr 9 3 0] .leaf) [14] (rangeOf (CS T8) 99 14).1 (rangeOf (CS T8) 99 14).2 none), (false, .box [.rsl 1 es false]), (false, .box [intA lo, intA hi]), (false, .map ks2 vs2)]))))) else (.need ((alookup (CS T8) Tr.leaf 245 (AV.rmp ks2 vs2) (AV.v (.int .i64 (Int.ofNat n))) false) = (some (AV.v (.int .i64 s2)))) (.need (([intA s2, intA (Int.ofNat n)] : List AV) = ([intA s2, intA (Int.ofNat n)] : List AV) ∧ (Cx.spec (CS T8) 97 ([intA s2, intA (Int.ofNat n)] : List AV)) = (some (AV.agg [intA r.fst, intA r.snd]))) (bif !st.fst then (.need (EntClosed [(false, .box [.fn (Fn.func 100) [] []]), (false, .box [intA 0, intA 0, intA 0, intA 0]), (false, .box [intA (Int.ofNat i), intA (IntKind.i64.wrap (Int.ofNat i + Int.ofNat n)), intA r.fst, intA r.snd]), (false, .box [boolA true]), (false, .loop 99 0 34 (mkT [5, 6, 8, 9] [.ptr 5 0 0, .ptr 6 1 0, .ptr 8 2 0, .ptr 9 3 0] .leaf) [14] (rangeOf (CS T8) 99 14).1 (rangeOf (CS T8) 99 14).2 none), (false, .box [.rsl 1 es false]), (false, .box [intA lo, intA hi]), (false, .map ks2 vs2)]) (.done (some ((.nrm, [.yld 14 4, .ptr 36 5 0, .ptr 37 6 0, intA (Int.ofNat i), .mp 52 7, intA (IntKind.i64.wrap (Int.ofNat n + 1)), intA (Int.ofNat len), intA (Int.ofNat i)], [(false, .box [.fn (Fn.func 100) [] []]), (false, .box [intA 0, intA 0, intA 0, intA 0]), (false, .box [intA (Int.ofNat i), intA (IntKind.i64.wrap (Int.ofNat i + Int.ofNat n)), intA r.fst, intA r.snd]), (false, .box [boolA true]), (false, .loop 99 0 34 (mkT [5, 6, 8, 9] [.ptr 5 0 0, .ptr 6 1 0, .ptr 8 2 0, .ptr 9 3 0] .leaf) [14] (rangeOf (CS T8) 99 14).1 (rangeOf (CS T8) 99 14).2 none), (false, .box [.rsl 1 es false]), (false, .box [intA lo, intA hi]), (false, .map ks2 vs2)]))))) else (bif decide (cmpW r st.snd.snd > 0) then (.need (EntClosed [(false, .box [.fn (Fn.func 100) [] []]), (false, .box [intA 0, intA 0, intA 0, intA 0]), (false, .box [intA (Int.ofNat i), intA (IntKind.i64.wrap (Int.ofNat i + Int.ofNat n)), intA r.fst, intA r.snd]), (false, .box [boolA true]), (false, .loop 99 0 34 (mkT [5, 6, 8, 9] [.ptr 5 0 0, .ptr 6 1 0, .ptr 8 2 0, .ptr 9 3 0] .leaf) [14] (rangeOf (CS T8) 99 14).1 (rangeOf (CS T8) 99 14).2 none), (false, .box [.rsl 1 es false]), (false, .box [intA lo, intA hi]), (false, .map ks2 vs2)]) (.done (some ((.nrm, [.yld 14 4, .ptr 36 5 0, .ptr 37 6 0, intA (Int.ofNat i), .mp 52 7, intA (IntKind.i64.wrap (Int.ofNat n + 1)), intA (Int.ofNat len), intA (Int.ofNat i)], [(false, .box [.fn (Fn.func 100) [] []]), (false, .box [intA 0, intA 0, intA 0, intA 0]), (false, .box [intA (Int.ofNat i), intA (IntKind.i64.wrap (Int.ofNat i + Int.ofNat n)), intA r.fst, intA r.snd]), (false, .box [boolA true]), (false, .loop 99 0 34 (mkT [5, 6, 8, 9] [.ptr 5 0 0, .ptr 6 1 0, .ptr 8 2 0, .ptr 9 3 0] .leaf) [14] (rangeOf (CS T8) 99 14).1 (rangeOf (CS T8) 99 14).2 none), (false, .box [.rsl 1 es false]), (false, .box [intA lo, intA hi]), (false, .map ks2 vs2)]))))) else (.need (EntClosed [(false, .box [.fn (Fn.func 100) [] []]), (false, .box [intA 0, intA 0, intA 0, intA 0]), (false, .box [intA st.snd.fst.fst, intA st.snd.fst.snd, intA st.snd.snd.fst, intA st.snd.snd.snd]), (false, .box [boolA st.fst]), (false, .loop 99 0 34 (mkT [5, 6, 8, 9] [.ptr 5 0 0, .ptr 6 1 0, .ptr 8 2 0, .ptr 9 3 0] .leaf) [14] (rangeOf (CS T8) 99 14).1 (rangeOf (CS T8) 99 14).2 none), (false, .box [.rsl 1 es false]), (false, .box [intA lo, intA hi]), (false, .map ks2 vs2)]) (.done (some ((.nrm, [.yld 14 4, .ptr 36 5 0, .ptr 37 6 0, intA (Int.ofNat i), .mp 52 7, intA (IntKind.i64.wrap (Int.ofNat n + 1)), intA (Int.ofNat len), intA (Int.ofNat i)], [(false, .box [.fn (Fn.func 100) [] []]), (false, .box [intA 0, intA 0, intA 0, intA 0]), (false, .box [intA st.snd.fst.fst, intA st.snd.fst.snd, intA st.snd.snd.fst, intA st.snd.snd.snd]), (false, .box [boolA st.fst]), (false, .loop 99 0 34 (mkT [5, 6, 8, 9] [.ptr 5 0 0, .ptr 6 1 0, .ptr 8 2 0, .ptr 9 3 0] .leaf) [14] (rangeOf (CS T8) 99 14).1 (rangeOf (CS T8) 99 14).2 none), (false, .box [.rsl 1 es false]), (false, .box [intA lo, intA hi]), (false, .map ks2 vs2)])))))))))))))))) else (.need (EntClosed [(false, .box [.fn (Fn.func 100) [] []]), (false, .box [intA 0, intA 0, intA 0, intA 0]), (false, .box [intA st.snd.fst.fst, intA st.snd.fst.snd, intA st.snd.snd.fst, intA st.snd.snd.snd]), (false, .box [boolA st.fst]), (false, .loop 99 0 34 (mkT [5, 6, 8, 9] [.ptr 5 0 0, .ptr 6 1 0, .ptr 8 2 0, .ptr 9 3 0] .leaf) [14] (rangeOf (CS T8) 99 14).1 (rangeOf (CS T8) 99 14).2 none), (false, .box [.rsl 1 es false]), (false, .box [intA lo, intA hi])]) (.done (some (((.exit 2), [.yld 14 4, .ptr 36 5 0, .ptr 37 6 0, intA (Int.ofNat len), intA (Int.ofNat i)], [(false, .box [.fn (Fn.func 100) [] []]), (false, .box [intA 0, intA 0, intA 0, intA 0]), (false, .box [intA st.snd.fst.fst, intA st.snd.fst.snd, intA st.snd.snd.fst, intA st.snd.snd.snd]), (false, .box [boolA st.fst]), (false, .loop 99 0 34 (mkT [5, 6, 8, 9] [.ptr 5 0 0, .ptr 6 1 0, .ptr 8 2 0, .ptr 9 3 0] .leaf) [14] (rangeOf (CS T8) 99 14).1 (rangeOf (CS T8) 99 14).2 none), (false, .box [.rsl 1 es false]), (false, .box [intA lo, intA hi])])))))) else (.need (EntClosed [(false, .box [.fn (Fn.func 100) [] []]), (false, .box [intA 0, intA 0, intA 0, intA 0]), (false, .box [intA st.snd.fst.fst, intA st.snd.fst.snd, intA st.snd.snd.fst, intA st.snd.snd.snd]), (false, .box [boolA st.fst]), (false, .loop 99 0 34 (mkT [5, 6, 8, 9] [.ptr 5 0 0, .ptr 6 1 0, .ptr 8 2 0, .ptr 9 3 0] .leaf) [14] (rangeOf (CS T8) 99 14).1 (rangeOf (CS T8) 99 14).2 none), (false, .box [.rsl 1 es false]), (false, .box [intA lo, intA hi])]) (.done (some (((.exit 2), [.yld 14 4, .ptr 36 5 0, .ptr 37 6 0, intA (Int.ofNat len), intA (Int.ofNat i)], [(false, .box [.fn (Fn.func 100) [] []]), (false, .box [intA 0, intA 0, intA 0, intA 0]), (false, .box [intA st.snd.fst.fst, intA st.snd.fst.snd, intA st.snd.snd.fst, intA st.snd.snd.snd]), (false, .box [boolA st.fst]), (false, .loop 99 0 34 (mkT [5, 6, 8, 9] [.ptr 5 0 0, .ptr 6 1 0, .ptr 8 2 0, .ptr 9 3 0] .leaf) [14] (rangeOf (CS T8) 99 14).1 (rangeOf (CS T8) 99 14).2 none), (false, .box [.rsl 1 es false]), (false, .box [intA lo, intA hi])])))))) := by kernel_rfl
set_option maxRecDepth 100000 in
theorem r177o (es : List AV) (lo hi : Int) (st st2 : BW) (i len : Nat) : roundD (CS T8) 60 7 177 40 60 100 false (loopOf (CS T8) 177 0) [0, 1, 2, 8, 9] [5, 6, 8, 9, 14, 36, 37] [0, 1, 2, 8, 9] [5, 6, 8, 9, 14, 36, 37] [0, 1, 2] [5, 6, 8, 9, 14, 36, 37] [.yld 14 4, .ptr 36 5 0, .ptr 37 6 0, intA (Int.ofNat len), intA (Int.ofNat i)] (bbL (CS T8) (fnV 100) es lo hi st) [.br [.loop 7 [0, 1, 2, 4, 5, 6, 8, 9] [5, 6, 8, 9, 14, 36, 37, 52] [0, 1, 2, 8, 9] [5, 6, 8, 9, 14, 36, 37] (.exit 2) [.yld 14 4, .ptr 36 5 0, .ptr 37 6 0, intA (Int.ofNat len), intA (Int.ofNat i)] (bbL (CS T8) (fnV 100) es lo hi st2)] []] =
    (bif decide (Int.ofNat i < Int.ofNat len) then (.need (EntClosed [(false, .box [.fn (Fn.func 100) [] []]), (false, .box [intA 0, intA 0, intA 0, intA 0]), (false, .box [intA st.snd.fst.fst, intA st.snd.fst.snd, intA st.snd.snd.fst, intA st.snd.snd.snd]), (false, .box [boolA st.fst]), (false, .loop 99 0 34 (mkT [5, 6, 8, 9] [.ptr 5 0 0, .ptr 6 1 0, .ptr 8 2 0, .ptr 9 3 0] .leaf) [14] (rangeOf (CS T8) 99 14).1 (rangeOf (CS T8) 99 14).2 none), (false, .box [.rsl 1 es false]), (false, .box [intA lo, intA hi]), (false, .map [] [])] ∧ EntClosed [(false, .box [.fn (Fn.func 100) [] []]), (false, .box [intA 0, intA 0, intA 0, intA 0]), (false, .box [intA st2.snd.fst.fst, intA st2.snd.fst.snd, intA st2.snd.snd.fst, intA st2.snd.snd.snd]), (false, .box [boolA st2.fst]), (false, .loop 99 0 34 (mkT [5, 6, 8, 9] [.ptr 5 0 0, .ptr 6 1 0, .ptr 8 2 0, .ptr 9 3 0] .leaf) [14] (rangeOf (CS T8) 99 14).1 (rangeOf (CS T8) 99 14).2 none), (false, .box [.rsl 1 es false]), (false, .box [intA lo, intA hi])] ∧ Says (CS T8) 7 60 false (.loop (loopOf (CS T8) 177 2)) (mkSt [0, 1, 2, 4, 5, 6, 8, 9] [5, 6, 8, 9, 14, 36, 37, 52] 100 [.yld 14 4, .ptr 36 5 0, .ptr 37 6 0, intA (Int.ofNat i), .mp 52 7, intA 1, intA (Int.ofNat len), intA (Int.ofNat i)] [(false, .box [.fn (Fn.func 100) [] []]), (false, .box [intA 0, intA 0, intA 0, intA 0]), (false, .box [intA st.snd.fst.fst, intA st.snd.fst.snd, intA st.snd.snd.fst, intA st.snd.snd.snd]), (false, .box [boolA st.fst]), (false, .loop 99 0 34 (mkT [5, 6, 8, 9] [.ptr 5 0 0, .ptr 6 1 0, .ptr 8 2 0, .ptr 9 3 0] .leaf) [14] (rangeOf (CS T8) 99 14).1 (rangeOf (CS T8) 99 14).2 none), (false, .box [.rsl 1 es false]), (false, .box [intA lo, intA hi]), (false, .map [] [])]) (.exit 2) (mkSt [0, 1, 2, 8, 9] [5, 6, 8, 9, 14, 36, 37] 100 [.yld 14 4, .ptr 36 5 0, .ptr 37 6 0, intA (Int.ofNat len), intA (Int.ofNat i)] [(false, .box [.fn (Fn.func 100) [] []]), (false, .box [intA 0, intA 0, intA 0, intA 0]), (false, .box [intA st2.snd.fst.fst, intA st2.snd.fst.snd, intA st2.snd.snd.fst, intA st2.snd.snd.snd]), (false, .box [boolA st2.fst]), (false, .loop 99 0 34 (mkT [5, 6, 8, 9] [.ptr 5 0 0, .ptr 6 1 0, .ptr 8 2 0, .ptr 9 3 0] .leaf) [14] (rangeOf (CS T8) 99 14).1 (rangeOf (CS T8) 99 14).2 none), (false, .box [.rsl 1 es false]), (false, .box [intA lo, intA hi])])) (.need (EntClosed [(false, .box [.fn (Fn.func 100) [] []]), (false, .box [intA 0, intA 0, intA 0, intA 0]), (false, .box [intA st2.snd.fst.fst, intA st2.snd.fst.snd, intA st2.snd.snd.fst, intA st2.snd.snd.snd]), (false, .box [boolA st2.fst]), (false, .loop 99 0 34 (mkT [5, 6, 8, 9] [.ptr 5 0 0, .ptr 6 1 0, .ptr 8 2 0, .ptr 9 3 0] .leaf) [14] (rangeOf (CS T8) 99 14).1 (rangeOf (CS T8) 99 14).2 none), (false, .box [.rsl 1 es false]), (false, .box [intA lo, intA hi])]) (.done (some ((.nrm, [.yld 14 4, .ptr 36 5 0, .ptr 37 6 0, intA (Int.ofNat len), intA (IntKind.i64.wrap (Int.ofNat i + 1))], [(false, .box [.fn (Fn.func 100) [] []]), (false, .box [intA 0, intA 0, intA 0, intA 0]), (false, .box [intA st2.snd.fst.fst, intA st2.snd.fst.snd, intA st2.snd.snd.fst, intA st2.snd.snd.snd]), (false, .box [boolA st2.fst]), (false, .loop 99 0 34 (mkT [5, 6, 8, 9] [.ptr 5 0 0, .ptr 6 1 0, .ptr 8 2 0, .ptr 9 3 0] .leaf) [14] (rangeOf (CS T8) 99 14).1 (rangeOf (CS T8) 99 14).2 none), (false, .box [.rsl 1 es false]), (false, .box [intA lo, intA hi])])))))) else (.need (EntClosed [(false, .box [.fn (Fn.func 100) [] []]), (false, .box [intA 0, intA 0, intA 0, intA 0]), (false, .box [intA st.snd.fst.fst, intA st.snd.fst.snd, intA st.snd.snd.fst, intA st.snd.snd.snd]), (false, .box [boolA st.fst]), (false, .loop 99 0 34 (mkT [5, 6, 8, 9] [.ptr 5 0 0, .ptr 6 1 0, .ptr 8 2 0, .ptr 9 3 0] .leaf) [14] (rangeOf (CS T8) 99 14).1 (rangeOf (CS T8) 99 14).2 none), (false, .box [.rsl 1 es false]), (false, .box [intA lo, intA hi])]) (.done (some (((.exit 0), [.yld 14 4, .ptr 36 5 0, .ptr 37 6 0], [(false, .box [.fn (Fn.func 100) [] []]), (false, .box [intA 0, intA 0, intA 0, intA 0]), (false, .box [intA st.snd.fst.fst, intA st.snd.fst.snd, intA st.snd.snd.fst, intA st.snd.snd.snd]), (false, .box [boolA st.fst]), (false, .loop 99 0 34 (mkT [5, 6, 8, 9] [.ptr 5 0 0, .ptr 6 1 0, .ptr 8 2 0, .ptr 9 3 0] .leaf) [14] (rangeOf (CS T8) 99 14).1 (rangeOf (CS T8) 99 14).2 none), (false, .box [.rsl 1 es false]), (false, .box [intA lo, intA hi])])))))) := by kernel_rfl
set_option maxRecDepth 100000 in
theorem t99 (es : List AV) (lo hi : Int) (st : BW) : evTreeD (CS T8) 60 99 [.rsl 1 es false, .agg [intA lo, intA hi], fnV 100] [.loop 7 [0, 1, 2, 8, 9] [5, 6, 8, 9, 14, 36, 37] [0, 1, 2] [5, 6, 8, 9, 14, 36, 37] (.exit 0) [.yld 14 4, .ptr 36 5 0, .ptr 37 6 0] (bbL (CS T8) (fnV 100) es lo hi st)] =
    (.need (EntClosed [(false, .box [.fn (Fn.func 100) [] []]), (false, .box [intA 0, intA 0, intA 0, intA 0]), (false, .box [intA 0, intA 0, intA 0, intA 0]), (false, .box [boolA false]), (false, .loop 99 0 34 (mkT [5, 6, 8, 9] [.ptr 5 0 0, .ptr 6 1 0, .ptr 8 2 0, .ptr 9 3 0] .leaf) [14] (rangeOf (CS T8) 99 14).1 (rangeOf (CS T8) 99 14).2 none), (false, .box [.rsl 1 es false]), (false, .box [intA lo, intA hi])] ∧ EntClosed [(false, .box [.fn (Fn.func 100) [] []]), (false, .box [intA 0, intA 0, intA 0, intA 0]), (false, .box [intA st.snd.fst.fst, intA st.snd.fst.snd, intA st.snd.snd.fst, intA st.snd.snd.snd]), (false, .box [boolA st.fst]), (false, .loop 99 0 34 (mkT [5, 6, 8, 9] [.ptr 5 0 0, .ptr 6 1 0, .ptr 8 2 0, .ptr 9 3 0] .leaf) [14] (rangeOf (CS T8) 99 14).1 (rangeOf (CS T8) 99 14).2 none), (false, .box [.rsl 1 es false]), (false, .box [intA lo, intA hi])] ∧ Says (CS T8) 7 60 false (.loop (loopOf (CS T8) 177 0)) (mkSt [0, 1, 2, 8, 9] [5, 6, 8, 9, 14, 36, 37] 100 [.yld 14 4, .ptr 36 5 0, .ptr 37 6 0, intA (Int.ofNat es.length), intA 0] [(false, .box [.fn (Fn.func 100) [] []]), (false, .box [intA 0, intA 0, intA 0, intA 0]), (false, .box [intA 0, intA 0, intA 0, intA 0]), (false, .box [boolA false]), (false, .loop 99 0 34 (mkT [5, 6, 8, 9] [.ptr 5 0 0, .ptr 6 1 0, .ptr 8 2 0, .ptr 9 3 0] .leaf) [14] (rangeOf (CS T8) 99 14).1 (rangeOf (CS T8) 99 14).2 none), (false, .box [.rsl 1 es false]), (false, .box [intA lo, intA hi])]) (.exit 0) (mkSt [0, 1, 2] [5, 6, 8, 9, 14, 36, 37] 100 [.yld 14 4, .ptr 36 5 0, .ptr 37 6 0] [(false, .box [.fn (Fn.func 100) [] []]), (false, .box [intA 0, intA 0, intA 0, intA 0]), (false, .box [intA st.snd.fst.fst, intA st.snd.fst.snd, intA st.snd.snd.fst, intA st.snd.snd.snd]), (false, .box [boolA st.fst]), (false, .loop 99 0 34 (mkT [5, 6, 8, 9] [.ptr 5 0 0, .ptr 6 1 0, .ptr 8 2 0, .ptr 9 3 0] .leaf) [14] (rangeOf (CS T8) 99 14).1 (rangeOf (CS T8) 99 14).2 none), (false, .box [.rsl 1 es false]), (false, .box [intA lo, intA hi])])) (.done (some (.tup [.agg [intA st.snd.fst.fst, intA st.snd.fst.snd, intA st.snd.snd.fst, intA st.snd.snd.snd], boolA st.fst])))) := by kernel_rfl
theorem subN1 {j : Nat} (h : j + 1 < two63) : IntKind.i64.wrap (Int.ofNat (j + 1) - 1) = Int.ofNat j := by
  have : Int.ofNat (j + 1) - 1 = Int.ofNat j := by simp only [Int.ofNat_eq_natCast]; omega
  rw [this]; exact wrap_in (by simp only [Int.ofNat_eq_natCast]; omega) (by unfold two63 at h; simp only [Int.ofNat_eq_natCast]; omega)
theorem map245 : IntMap (CS T8) 245 (.int .i64 0) := intMap_of isZero_eq (kt := 3) (et := 3) (by kernel_rfl)
theorem goL_ix {α σ : Type} (F : Nat → σ → σ) : ∀ (r : List α) (k : Nat) (st : σ), goL (fun i _ st => (.inl (F (i + 1) st) : σ ⊕ σ)) id k r st = (List.range' (k + 1) r.length).foldl (fun st n => F n st) st
  | [], _, _ => rfl
  | x :: r, k, st => by
    rw [goL_cons, List.length_cons, List.range'_succ, List.foldl_cons]
    exact goL_ix F r (k + 1) _
/-- Sums of what a window begins with. -/
def sumsV (L : List Int) (k : Nat) : List AV := (List.range k).map fun j => intA (sumM (L.take (j + 1)))
theorem sumsV_succ (L : List Int) (k : Nat) : sumsV L (k + 1) = sumsV L k ++ [intA (sumM (L.take (k + 1)))] := by unfold sumsV; rw [List.range_succ, List.map_append]; rfl
theorem sumsV_at (L : List Int) (k : Nat) : (sumsV L (k + 1))[k]? = some (intA (sumM (L.take (k + 1)))) := by
  unfold sumsV
  rw [List.getElem?_map, List.getElem?_range (by omega)]
  rfl
theorem sumsV_closed (L : List Int) (k : Nat) : ClosedL (sumsV L k) := by
  unfold sumsV
  exact ClosedL.map fun _ => rfl
theorem sum_take {L : List Int} {k : Nat} {x : Int} (h : L[k]? = some x) : sumM (L.take (k + 1)) = sumM (L.take k) + x := by
  unfold sumM
  rw [List.take_add_one, h]
  simp
theorem sum_tb {L : List Int} (h : ∀ x ∈ L, -16384 ≤ x ∧ x ≤ 16384) (k : Nat) (hl : L.length ≤ 128) : -2097152 ≤ sumM (L.take k) ∧ sumM (L.take k) ≤ 2097152 := by
  have h1 := sum_bd (w := L.take k) (s := 0) (i := 0) (fun x hx => h x (List.mem_of_mem_take hx)) (by omega)
  have h2 : (L.take k).length ≤ 128 := by rw [List.length_take]; omega
  unfold sumM
  omega
def RaB (r : Ra) : Prop := (0 ≤ r.1 ∧ r.1 ≤ 9000000000000) ∧ 0 ≤ r.2 ∧ r.2 ≤ 1000000
theorem worth_bd {s n : Int} (h : worOk s n = true) : RaB (worthM s n) := by
  rw [worOk_iff] at h
  unfold worthM
  cases decide (s ≤ 0) with
  | true => exact ⟨⟨by simp, by simp⟩, by simp, by simp⟩
  | false => exact lowM_bd (sq_bd h.1) h.2
theorem cmpB {x y : Ra} (hx : RaB x) (hy : RaB y) : cmpW x y = cmpM x y := cmpW_eq hx hy (by omega)
abbrev bwF (l : List Int) (lo f : Nat) (n : Nat) (st : BW) : BW := bif decide (n < lo) then st else pickM true (winM l f n) st
theorem bwF_bd {l : List Int} (h : Ser l) {lo f n : Nat} {st : BW} (hn : 1 ≤ n) (hf : f + n ≤ l.length) (hs : RaB st.2.2) : RaB (bwF l lo f n st).2.2 := by
  unfold bwF
  cases decide (n < lo) with
  | true => exact hs
  | false =>
    show RaB (pickM true (winM l f n) st).2.2
    unfold pickM
    cases true && (!st.1 || decide (cmpM (winM l f n).2 st.2.2 > 0)) with
    | true =>
      have := sumW h (a := f) (b := f + n) ⟨by omega, hf⟩
      unfold winI at this
      rw [show f + n - f = n by omega] at this
      exact worth_bd this
    | false => exact hs
theorem win_in (l : List Int) (h : Ser l) (lo hi i : Nat) (hi1 : hi ≤ 128) (hil : i < l.length) (st : BW) (hst : RaB st.2.2) :
    LoopRun (CS T8) 7 60 false (loopOf (CS T8) 177 2) (mkSt [0, 1, 2, 4, 5, 6, 8, 9] [5, 6, 8, 9, 14, 36, 37, 52] 100 [.yld 14 4, .ptr 36 5 0, .ptr 37 6 0, intA (Int.ofNat i), .mp 52 7, intA 1, intA (Int.ofNat l.length), intA (Int.ofNat i)] (bbL (CS T8) (fnV 100) (l.map intA) (Int.ofNat lo) (Int.ofNat hi) st ++ [(false, .map [] [])])) (.exit 2)
      (mkSt [0, 1, 2, 8, 9] [5, 6, 8, 9, 14, 36, 37] 100 [.yld 14 4, .ptr 36 5 0, .ptr 37 6 0, intA (Int.ofNat l.length), intA (Int.ofNat i)] (bbL (CS T8) (fnV 100) (l.map intA) (Int.ofNat lo) (Int.ofNat hi) ((List.range' 1 (min hi (l.length - i))).foldl (fun st n => bwF l lo i n st) st)))
    ∧ RaB ((List.range' 1 (min hi (l.length - i))).foldl (fun st n => bwF l lo i n st) st).2.2 := by
  have hl2 := h.2.1
  have e := e_len intA l
  have hLl : ((l.drop i).take hi).length = min hi (l.length - i) := by rw [List.length_take, List.length_drop]
  have hLb : ∀ x ∈ (l.drop i).take hi, -16384 ≤ x ∧ x ≤ 16384 := fun x hx => h.2.2 x (List.mem_of_mem_drop (List.mem_of_mem_take hx))
  have hh := LoopRun.list (C := CS T8) (p := 7) (nt := 60) (rd := false) (c := loopOf (CS T8) 177 2) (step := fun k (_ : Int) st => (.inl (bwF l lo i (k + 1) st) : BW ⊕ BW)) (fin := id)
    (enc := fun k st => mkSt [0, 1, 2, 4, 5, 6, 8, 9] [5, 6, 8, 9, 14, 36, 37, 52] 100 [.yld 14 4, .ptr 36 5 0, .ptr 37 6 0, intA (Int.ofNat i), .mp 52 7, intA (Int.ofNat (k + 1)), intA (Int.ofNat l.length), intA (Int.ofNat i)] (bbL (CS T8) (fnV 100) (l.map intA) (Int.ofNat lo) (Int.ofNat hi) st ++ [(false, .map ((upto k).map intA) (sumsV ((l.drop i).take hi) k))]))
    (ex := fun _ => .exit 2) (out := fun st => mkSt [0, 1, 2, 8, 9] [5, 6, 8, 9, 14, 36, 37] 100 [.yld 14 4, .ptr 36 5 0, .ptr 37 6 0, intA (Int.ofNat l.length), intA (Int.ofNat i)] (bbL (CS T8) (fnV 100) (l.map intA) (Int.ofNat lo) (Int.ofNat hi) st)) (l := (l.drop i).take hi) (fun _ st => RaB st.2.2)
    (fun k x st hx hst => by
      have hk := lt_len hx
      have hkL := hk
      rw [hLl] at hk
      have hx1 : l[i + k]? = some x := by
        rw [List.getElem?_take, if_pos (by omega), List.getElem?_drop] at hx; exact hx
      have hbx := hLb x (List.mem_of_getElem? hx)
      have hsb := sum_tb hLb k (by rw [hLl]; omega)
      have hsb2 := sum_tb hLb (k + 1) (by rw [hLl]; omega)
      have hst2 := sum_take hx
      have htk : ((l.drop i).take hi).take (k + 1) = (l.drop i).take (k + 1) := by rw [List.take_take]; congr 1; omega
      have hwo : worOk (sumM (((l.drop i).take hi).take (k + 1))) (Int.ofNat (k + 1)) = true := by rw [worOk_iff]; simp only [Int.ofNat_eq_natCast]; omega
      have hwb := worth_bd hwo
      have ewin : (winM l i (k + 1)).2 = worthM (sumM (((l.drop i).take hi).take (k + 1))) (Int.ofNat (k + 1)) := by unfold winM; rw [htk]
      have hr := r177 (l.map intA) ((upto k).map intA) (sumsV ((l.drop i).take hi) k) ((upto (k + 1)).map intA) (sumsV ((l.drop i).take hi) (k + 1)) (Int.ofNat lo) (Int.ofNat hi) (sumM (((l.drop i).take hi).take k)) x (sumM (((l.drop i).take hi).take (k + 1))) st i (k + 1) k (i + (k + 1)) (i + k) l.length (worthM (sumM (((l.drop i).take hi).take (k + 1))) (Int.ofNat (k + 1)))
      have h1 : decide (Int.ofNat (k + 1) ≤ Int.ofNat hi) = true := by simp only [decide_eq_true_eq, Int.ofNat_eq_natCast]; omega
      have h2 : decide (Int.ofNat (i + (k + 1)) ≤ Int.ofNat l.length) = true := by simp only [decide_eq_true_eq, Int.ofNat_eq_natCast]; omega
      have h3 : decide (Int.ofNat (k + 1) < Int.ofNat lo) = decide (k + 1 < lo) := decide_eq_decide.2 (by simp only [Int.ofNat_eq_natCast]; omega)
      have hsub := sub_ok T8 (.tmp 30) (.const (.int .i64 1)) (Int.ofNat (k + 1)) 1
      rw [subN1 (by unfold two63; omega)] at hsub
      have hadd := add_ok T8 (.tmp 34) (.tmp 35) (Int.ofNat i) (Int.ofNat (k + 1))
      rw [add_nat (by unfold two63; omega)] at hadd
      have hsub2 := sub_ok T8 (.tmp 36) (.const (.int .i64 1)) (Int.ofNat (i + (k + 1))) 1
      rw [show i + (k + 1) = (i + k) + 1 by omega, subN1 (by unfold two63; omega)] at hsub2
      have hlook : alookup (CS T8) Tr.leaf 245 (AV.rmp ((upto k).map intA) (sumsV ((l.drop i).take hi) k)) (intA (Int.ofNat k)) false = some (intA (sumM (((l.drop i).take hi).take k))) := by
        cases k with
        | zero => exact map245.none0 _ 0 _ false
        | succ k => exact map245.last _ k _ false (sumsV_at _ k)
      have hupd : mapUpd (CS T8) 245 ((upto k).map intA) (sumsV ((l.drop i).take hi) k) (intA (Int.ofNat (k + 1))) (intA (IntKind.i64.wrap (sumM (((l.drop i).take hi).take k) + x))) = some ((upto (k + 1)).map intA, sumsV ((l.drop i).take hi) (k + 1)) := by
        rw [wrap_in (by omega) (by omega), ← hst2, sumsV_succ]
        exact map245.grow k _ _
      have hlook2 := map245.last Tr.leaf k _ false (sumsV_at ((l.drop i).take hi) k)
      rw [h1, add_nat (by unfold two63; omega), e, h2, h3, wrap_ix (show k + 1 < 129 + 1 by omega) (by unfold two63; omega), cmpB hwb hst] at hr
      refine ⟨?_, bwF_bd h (by omega) (by omega) hst⟩
      unfold bwF
      cases hlo : decide (k + 1 < lo) with
      | true =>
        rw [hlo] at hr
        exact T8_ok.rndN hr ⟨hsub, hlook, hadd, hsub2, get_map _ hx1, hupd, ⟨⟨closedInt _, sumsV_closed _ _⟩, trivial⟩, rfl⟩
      | false =>
        rw [hlo] at hr
        have eP : (bif false then st else pickM true (winM l i (k + 1)) st) = bif !st.1 || decide (cmpM (worthM (sumM (((l.drop i).take hi).take (k + 1))) (Int.ofNat (k + 1))) st.2.2 > 0) then (true, (Int.ofNat i, Int.ofNat (i + (k + 1))), worthM (sumM (((l.drop i).take hi).take (k + 1))) (Int.ofNat (k + 1))) else st := by
          show pickM true (winM l i (k + 1)) st = _
          unfold pickM
          rw [ewin, Bool.true_and]
          unfold winM
          rw [htk]
        rw [eP]
        cases ho : st.1 with
        | false =>
          rw [ho] at hr
          exact T8_ok.rndN hr ⟨hsub, hlook, hadd, hsub2, get_map _ hx1, hupd, hlook2, ⟨rfl, specWorth hwo⟩, ⟨⟨closedInt _, sumsV_closed _ _⟩, trivial⟩, rfl⟩
        | true =>
          obtain ⟨o, sp, ra⟩ := st
          obtain rfl : o = true := ho
          rw [show (!(true, sp, ra).1) = false from rfl] at hr
          cases hg : decide (cmpM (worthM (sumM (((l.drop i).take hi).take (k + 1))) (Int.ofNat (k + 1))) ra > 0) with
          | true =>
            rw [show decide (cmpM (worthM (sumM (((l.drop i).take hi).take (k + 1))) (Int.ofNat (k + 1))) (true, sp, ra).2.2 > 0) = true from hg] at hr
            exact T8_ok.rndN hr ⟨hsub, hlook, hadd, hsub2, get_map _ hx1, hupd, hlook2, ⟨rfl, specWorth hwo⟩, ⟨⟨closedInt _, sumsV_closed _ _⟩, trivial⟩, rfl⟩
          | false =>
            rw [show decide (cmpM (worthM (sumM (((l.drop i).take hi).take (k + 1))) (Int.ofNat (k + 1))) (true, sp, ra).2.2 > 0) = false from hg] at hr
            exact T8_ok.rndN hr ⟨hsub, hlook, hadd, hsub2, get_map _ hx1, hupd, hlook2, ⟨rfl, specWorth hwo⟩, ⟨⟨closedInt _, sumsV_closed _ _⟩, trivial⟩, rfl⟩)
    (fun st hst => by
      have hr := r177 (l.map intA) ((upto ((l.drop i).take hi).length).map intA) (sumsV ((l.drop i).take hi) ((l.drop i).take hi).length) [] [] (Int.ofNat lo) (Int.ofNat hi) 0 0 0 st i (((l.drop i).take hi).length + 1) 0 0 0 l.length (0, 0)
      refine ⟨T8_ok.rndX hr ?_, by simp⟩
      cases h1 : decide (Int.ofNat (((l.drop i).take hi).length + 1) ≤ Int.ofNat hi) with
      | false => exact ⟨trivial, rfl⟩
      | true =>
        simp only [decide_eq_true_eq, Int.ofNat_eq_natCast] at h1
        have h2 : decide (Int.ofNat (i + (((l.drop i).take hi).length + 1)) ≤ Int.ofNat l.length) = false := by simp only [decide_eq_false_iff_not, Int.ofNat_eq_natCast]; omega
        rw [add_nat (by unfold two63; omega), e, h2]
        exact ⟨trivial, rfl⟩)
    ((l.drop i).take hi) [] st rfl hst
  rw [show ([] : List Int).length = 0 from rfl, goL_ix (fun n st => bwF l lo i n st), hLl] at hh
  refine ⟨hh, ?_⟩
  refine foldl_P (fun st : BW => RaB st.2.2) _ _ _ hst (fun st n hn hs => ?_)
  rw [List.mem_range'_1] at hn
  exact bwF_bd h (by omega) (by omega) hs
def bwOk (l : List Int) (k : P2) : Bool := seriesM l == 0 && lenM k == 0
abbrev bestB (l : List Int) (k : P2) : BW := bestM (fun _ _ => true) l (natOf k.1) (natOf k.2)
def bwA (st : BW) : AV := .tup [.agg [intA st.2.1.1, intA st.2.1.2, intA st.2.2.1, intA st.2.2.2], boolA st.1]
def bestG : List AV → Option AV := sp3 intsC p2C (fnC 100) fun l k _ => bif bwOk l k then some (bwA (bestB l k)) else none
theorem lenZ {k : P2} (h : lenM k = 0) : ∃ a b : Nat, k = (Int.ofNat a, Int.ofNat b) ∧ 1 ≤ a ∧ a ≤ b ∧ b ≤ 128 := by
  unfold lenM at h
  rw [firstZ, firstZ, firstZ, within_zero, within_zero] at h
  have h1 := whenZ (by omega) h.2.2.1
  simp only [decide_eq_false_iff_not] at h1
  obtain ⟨a, b⟩ := k
  simp only at h h1
  refine ⟨a.toNat, b.toNat, ?_, by omega, by omega, by omega⟩
  simp only [Int.ofNat_eq_natCast, Prod.mk.injEq]
  omega
theorem h99 : Holds 99 bestG := holds3 fun l k _ r hr => by
  cases hb : bwOk l k with
  | false => simp [hb] at hr
  | true =>
    simp only [hb, cond_true, Option.some.injEq] at hr; subst hr
    unfold bwOk at hb
    simp only [Bool.and_eq_true, beq_iff_eq] at hb
    have h := seriesZ.1 hb.1
    obtain ⟨lo, hi, rfl, h1, h2, h3⟩ := lenZ hb.2
    have hl2 := h.2.1
    have e := e_len intA l
    have hh := LoopRun.list (C := CS T8) (p := 7) (nt := 60) (rd := false) (c := loopOf (CS T8) 177 0) (step := fun _ f st => (.inl ((List.range' 1 (min hi (l.length - f))).foldl (fun st n => bwF l lo f n st) st) : BW ⊕ BW)) (fin := id)
      (enc := fun i st => mkSt [0, 1, 2, 8, 9] [5, 6, 8, 9, 14, 36, 37] 100 [.yld 14 4, .ptr 36 5 0, .ptr 37 6 0, intA (Int.ofNat l.length), intA (Int.ofNat i)] (bbL (CS T8) (fnV 100) (l.map intA) (Int.ofNat lo) (Int.ofNat hi) st))
      (ex := fun _ => .exit 0) (out := fun st => mkSt [0, 1, 2] [5, 6, 8, 9, 14, 36, 37] 100 [.yld 14 4, .ptr 36 5 0, .ptr 37 6 0] (bbL (CS T8) (fnV 100) (l.map intA) (Int.ofNat lo) (Int.ofNat hi) st)) (l := List.range l.length) (fun _ st => RaB st.2.2)
      (fun i f st hx hst => by
        obtain ⟨rfl, hif⟩ := range_get hx
        obtain ⟨g1, g2⟩ := win_in l h lo hi f h3 hif st hst
        have hr := r177o (l.map intA) (Int.ofNat lo) (Int.ofNat hi) st ((List.range' 1 (min hi (l.length - f))).foldl (fun st n => bwF l lo f n st) st) f l.length
        rw [lt_of hif, wrap_ix hif (by unfold two63; omega)] at hr
        exact ⟨T8_ok.rndN hr ⟨⟨⟨⟨closedInt [], closedInt []⟩, trivial⟩, trivial, g1.says⟩, trivial, rfl⟩, g2⟩)
      (fun st _ => ⟨T8_ok.rndX (r177o (l.map intA) (Int.ofNat lo) (Int.ofNat hi) st st (List.range l.length).length l.length) (by rw [List.length_range, lt_self]; exact ⟨trivial, rfl⟩), by simp⟩)
      (List.range l.length) [] bw0 rfl ⟨⟨by simp [bw0], by simp [bw0]⟩, by simp [bw0], by simp [bw0]⟩
    rw [show ([] : List Nat).length = 0 from rfl, goL_nat (fun st f => (List.range' 1 (min hi (l.length - f))).foldl (fun st n => bwF l lo f n st) st) id] at hh
    refine T8_ok.tr (t99 (l.map intA) (Int.ofNat lo) (Int.ofNat hi) (bestM (fun _ _ => true) l lo hi)) ⟨⟨trivial, trivial, ?_⟩, rfl⟩
    rw [e]
    exact hh.says
def B1 : Specs := (T8.set 99 bestG)
theorem B1_ok : Ok B1 := (T8_ok.set h99)
end Go.Vm.S6
