/- Ranks: the program's ranks. -/
import Derived.Test.YtbplbhcgcicgfaaGreatDoorS6K2
namespace Go.Vm.S6
open Go.Proofs Go.RowKit
set_option maxRecDepth 100000 in
theorem r75a (es : List AV) (n i : Nat) : roundD (CS K2) 60 0 75 0 26 26 false (loopOf (CS K2) 75 0) [1, 5, 13, 14] [1] [1, 5, 13, 14] [1, 20] [1, 5] [1] [.ptr 1 0 0, nilS, intA (Int.ofNat n), intA (Int.ofNat i)] [(false, .box [.rsl 2 es false])] [.as 15 true] =
    (.need ((decide (Int.ofNat i < Int.ofNat n)) = true) (.need (EntClosed [(false, .box [.rsl 2 es false]), (false, .arr 1 [.v (.int .i64 (Int.ofNat i))] false)]) (.done (some ((.nrm, [.ptr 1 0 0, .sl 20 1 1 0 1, .v (.int .i64 (Int.ofNat n)), .v (.int .i64 (IntKind.i64.wrap (Int.ofNat i + 1)))], [(false, .box [.rsl 2 es false]), (false, .arr 1 [.v (.int .i64 (Int.ofNat i))] false)])))))) := by kernel_rfl
set_option maxRecDepth 100000 in
theorem r75b (es rs : List AV) (n i k : Nat) : roundD (CS K2) 60 0 75 0 26 26 false (loopOf (CS K2) 75 0) [1, 5, 13, 14] [1, 20] [1, 5, 13, 14] [1, 20] [1, 5] [1, 20] [.ptr 1 0 0, .sl 20 1 1 0 k, intA (Int.ofNat n), intA (Int.ofNat i)] [(false, .box [.rsl 2 es false]), (false, .arr 1 rs false)] [.as 15 true, .chk rs] =
    (.need ((decide (Int.ofNat i < Int.ofNat n)) = true) (.need (k = rs.length ∧ true = true ∧ 1 = 1 ∧ (rs ++ ([.v (.int .i64 (Int.ofNat i))] : List AV)).length * 8 ≤ 35184372088832 ∧ (rs ++ ([.v (.int .i64 (Int.ofNat i))] : List AV)).length ≤ 35184372088832 ∧ 8 ≠ 0) (.need (EntClosed [(false, .box [.rsl 2 es false]), (false, .arr 1 (rs ++ ([.v (.int .i64 (Int.ofNat i))] : List AV)) false)]) (.done (some ((.nrm, [.ptr 1 0 0, .sl 20 1 1 0 ((rs ++ ([.v (.int .i64 (Int.ofNat i))] : List AV)).length), .v (.int .i64 (Int.ofNat n)), .v (.int .i64 (IntKind.i64.wrap (Int.ofNat i + 1)))], [(false, .box [.rsl 2 es false]), (false, .arr 1 (rs ++ ([.v (.int .i64 (Int.ofNat i))] : List AV)) false)]))))))) := by kernel_rfl
set_option maxRecDepth 100000 in
theorem r75x (es rs : List AV) (n i k : Nat) : roundD (CS K2) 60 0 75 0 26 26 false (loopOf (CS K2) 75 0) [1, 5, 13, 14] [1, 20] [1, 5, 13, 14] [1, 20] [1, 5] [1, 20] [.ptr 1 0 0, .sl 20 1 1 0 k, intA (Int.ofNat n), intA (Int.ofNat i)] [(false, .box [.rsl 2 es false]), (false, .arr 1 rs false)] [.as 15 false] =
    (.need ((decide (Int.ofNat i < Int.ofNat n)) = false) (.need (EntClosed [(false, .box [.rsl 2 es false]), (false, .arr 1 rs false)]) (.done (some (((.exit 0), [.ptr 1 0 0, .sl 20 1 1 0 k], [(false, .box [.rsl 2 es false]), (false, .arr 1 rs false)])))))) := by kernel_rfl
set_option maxRecDepth 100000 in
theorem r189A (es rs : List AV) (n i m j k : Nat) (x y : Nat) (c : Int) : roundD (CS K2) 60 2 189 98 53 151 false (loopOf (CS K2) 189 2) [0, 1, 2, 3, 8, 9] [1, 20] [0, 1, 2, 3, 8, 9] [1, 20] [0, 1, 2, 3, 8] [1, 20] [.sl 20 1 1 0 k, intA 0, intA (Int.ofNat n), .fn (.func 147) [] [.ptr 1 0 0], intA (Int.ofNat i), intA (Int.ofNat m)] [(false, .box [.rsl 2 es false]), (false, .arr 1 rs false)] [.as 21 true, .chk ([] : List AV), .ld (intA (Int.ofNat x)), .ar (intA (Int.ofNat j)), .chk ([] : List AV), .ld (intA (Int.ofNat y)), .sp [intA (Int.ofNat x), intA (Int.ofNat y), .rptr [.rsl 2 es false]] (intA c), .as 34 true, .ar (intA (Int.ofNat j)), .ar (intA (Int.ofNat j)), .chk ([] : List AV), .ld (intA (Int.ofNat y)), .chk ([] : List AV), .ld (intA (Int.ofNat x)), .chk ([] : List AV), .st (intA (Int.ofNat x)), .chk ([] : List AV), .st (intA (Int.ofNat y)), .ar (intA (Int.ofNat j))] =
    (.need ((decide (Int.ofNat m > 0)) = true) (.need (m < k) (.need (rs[(0 + m)]? = (some (AV.v (.int .i64 (Int.ofNat x))))) (.need ((abin (CS K2) BinOp.sub 3 (Operand.tmp 28) (Operand.const (Value.int IntKind.i64 1)) (AV.v (.int .i64 (Int.ofNat m))) (AV.v (.int .i64 1))) = (some (AV.v (.int .i64 (Int.ofNat j))))) (.need (j < k) (.need (rs[(0 + j)]? = (some (AV.v (.int .i64 (Int.ofNat y))))) (.need (([.v (.int .i64 (Int.ofNat x)), .v (.int .i64 (Int.ofNat y)), .rptr [.rsl 2 es false]] : List AV) = ([.v (.int .i64 (Int.ofNat x)), .v (.int .i64 (Int.ofNat y)), .rptr [.rsl 2 es false]] : List AV) ∧ (Cx.spec (CS K2) 147 ([.v (.int .i64 (Int.ofNat x)), .v (.int .i64 (Int.ofNat y)), .rptr [.rsl 2 es false]] : List AV)) = (some (AV.v (.int .i64 c)))) (.need ((decide (c < 0)) = true) (.need ((abin (CS K2) BinOp.sub 3 (Operand.tmp 40) (Operand.const (Value.int IntKind.i64 1)) (AV.v (.int .i64 (Int.ofNat m))) (AV.v (.int .i64 1))) = (some (AV.v (.int .i64 (Int.ofNat j))))) (.need ((abin (CS K2) BinOp.sub 3 (Operand.tmp 43) (Operand.const (Value.int IntKind.i64 1)) (AV.v (.int .i64 (Int.ofNat m))) (AV.v (.int .i64 1))) = (some (AV.v (.int .i64 (Int.ofNat j))))) (.need (j < k) (.need (rs[(0 + j)]? = (some (AV.v (.int .i64 (Int.ofNat y))))) (.need (m < k) (.need (rs[(0 + m)]? = (some (AV.v (.int .i64 (Int.ofNat x))))) (.need (m < k) (.need (rs[(0 + m)]? = (some (AV.v (.int .i64 (Int.ofNat x))))) (.need (j < k) (.need ((rs.set ((0 + m)) (.v (.int .i64 (Int.ofNat y))))[(0 + j)]? = (some (AV.v (.int .i64 (Int.ofNat y))))) (.need ((abin (CS K2) BinOp.sub 3 (Operand.tmp 35) (Operand.const (Value.int IntKind.i64 1)) (AV.v (.int .i64 (Int.ofNat m))) (AV.v (.int .i64 1))) = (some (AV.v (.int .i64 (Int.ofNat j))))) (.need (EntClosed [(false, .box [.rsl 2 es false]), (false, .arr 1 ((rs.set ((0 + m)) (.v (.int .i64 (Int.ofNat y)))).set ((0 + j)) (.v (.int .i64 (Int.ofNat x)))) false)]) (.done (some ((.nrm, [.sl 20 1 1 0 k, .v (.int .i64 0), .v (.int .i64 (Int.ofNat n)), .fn (Fn.func 147) [] [.ptr 1 0 0], .v (.int .i64 (Int.ofNat i)), .v (.int .i64 (Int.ofNat j))], [(false, .box [.rsl 2 es false]), (false, .arr 1 ((rs.set ((0 + m)) (.v (.int .i64 (Int.ofNat y)))).set ((0 + j)) (.v (.int .i64 (Int.ofNat x)))) false)])))))))))))))))))))))))) := by kernel_rfl
set_option maxRecDepth 100000 in
theorem r189B (es rs : List AV) (n i m j k : Nat) (x y : Nat) (c : Int) : roundD (CS K2) 60 2 189 98 53 151 false (loopOf (CS K2) 189 2) [0, 1, 2, 3, 8, 9] [1, 20] [0, 1, 2, 3, 8, 9] [1, 20] [0, 1, 2, 3, 8] [1, 20] [.sl 20 1 1 0 k, intA 0, intA (Int.ofNat n), .fn (.func 147) [] [.ptr 1 0 0], intA (Int.ofNat i), intA (Int.ofNat m)] [(false, .box [.rsl 2 es false]), (false, .arr 1 rs false)] [.as 21 true, .chk ([] : List AV), .ld (intA (Int.ofNat x)), .ar (intA (Int.ofNat j)), .chk ([] : List AV), .ld (intA (Int.ofNat y)), .sp [intA (Int.ofNat x), intA (Int.ofNat y), .rptr [.rsl 2 es false]] (intA c), .as 34 false] =
    (.need ((decide (Int.ofNat m > 0)) = true) (.need (m < k) (.need (rs[(0 + m)]? = (some (AV.v (.int .i64 (Int.ofNat x))))) (.need ((abin (CS K2) BinOp.sub 3 (Operand.tmp 28) (Operand.const (Value.int IntKind.i64 1)) (AV.v (.int .i64 (Int.ofNat m))) (AV.v (.int .i64 1))) = (some (AV.v (.int .i64 (Int.ofNat j))))) (.need (j < k) (.need (rs[(0 + j)]? = (some (AV.v (.int .i64 (Int.ofNat y))))) (.need (([.v (.int .i64 (Int.ofNat x)), .v (.int .i64 (Int.ofNat y)), .rptr [.rsl 2 es false]] : List AV) = ([.v (.int .i64 (Int.ofNat x)), .v (.int .i64 (Int.ofNat y)), .rptr [.rsl 2 es false]] : List AV) ∧ (Cx.spec (CS K2) 147 ([.v (.int .i64 (Int.ofNat x)), .v (.int .i64 (Int.ofNat y)), .rptr [.rsl 2 es false]] : List AV)) = (some (AV.v (.int .i64 c)))) (.need ((decide (c < 0)) = false) (.need (EntClosed [(false, .box [.rsl 2 es false]), (false, .arr 1 rs false)]) (.done (some (((.exit 2), [.sl 20 1 1 0 k, .v (.int .i64 0), .v (.int .i64 (Int.ofNat n)), .fn (Fn.func 147) [] [.ptr 1 0 0], .v (.int .i64 (Int.ofNat i))], [(false, .box [.rsl 2 es false]), (false, .arr 1 rs false)]))))))))))))) := by kernel_rfl
set_option maxRecDepth 100000 in
theorem r189C (es rs : List AV) (n i m k : Nat) : roundD (CS K2) 60 2 189 98 53 151 false (loopOf (CS K2) 189 2) [0, 1, 2, 3, 8, 9] [1, 20] [0, 1, 2, 3, 8, 9] [1, 20] [0, 1, 2, 3, 8] [1, 20] [.sl 20 1 1 0 k, intA 0, intA (Int.ofNat n), .fn (.func 147) [] [.ptr 1 0 0], intA (Int.ofNat i), intA (Int.ofNat m)] [(false, .box [.rsl 2 es false]), (false, .arr 1 rs false)] [.as 21 false] =
    (.need ((decide (Int.ofNat m > 0)) = false) (.need (EntClosed [(false, .box [.rsl 2 es false]), (false, .arr 1 rs false)]) (.done (some (((.exit 2), [.sl 20 1 1 0 k, .v (.int .i64 0), .v (.int .i64 (Int.ofNat n)), .fn (Fn.func 147) [] [.ptr 1 0 0], .v (.int .i64 (Int.ofNat i))], [(false, .box [.rsl 2 es false]), (false, .arr 1 rs false)])))))) := by kernel_rfl
set_option maxRecDepth 100000 in
theorem r189 (es rs qs : List AV) (n i k : Nat) : roundD (CS K2) 60 2 189 98 53 151 false (loopOf (CS K2) 189 0) [0, 1, 2, 3, 8] [1, 20] [0, 1, 2, 3, 8] [1, 20] [] [1, 20] [.sl 20 1 1 0 k, intA 0, intA (Int.ofNat n), .fn (.func 147) [] [.ptr 1 0 0], intA (Int.ofNat i)] [(false, .box [.rsl 2 es false]), (false, .arr 1 rs false)] [.as 14 true, .loop 2 [0, 1, 2, 3, 8, 9] [1, 20] [0, 1, 2, 3, 8] [1, 20] (.exit 2) [.sl 20 1 1 0 k, intA 0, intA (Int.ofNat n), .fn (.func 147) [] [.ptr 1 0 0], intA (Int.ofNat i)] [(false, .box [.rsl 2 es false]), (false, .arr 1 qs false)]] =
    (.need ((decide (Int.ofNat i < Int.ofNat n)) = true) (.need (EntClosed [(false, .box [.rsl 2 es false]), (false, .arr 1 rs false)] ∧ EntClosed [(false, .box [.rsl 2 es false]), (false, .arr 1 qs false)] ∧ Says (CS K2) 2 53 false (.loop (loopOf (CS K2) 189 2)) (mkSt [0, 1, 2, 3, 8, 9] [1, 20] 151 [.sl 20 1 1 0 k, .v (.int .i64 0), .v (.int .i64 (Int.ofNat n)), .fn (Fn.func 147) [] [.ptr 1 0 0], .v (.int .i64 (Int.ofNat i)), .v (.int .i64 (Int.ofNat i))] [(false, .box [.rsl 2 es false]), (false, .arr 1 rs false)]) (.exit 2) (mkSt [0, 1, 2, 3, 8] [1, 20] 151 [.sl 20 1 1 0 k, .v (.int .i64 0), .v (.int .i64 (Int.ofNat n)), .fn (Fn.func 147) [] [.ptr 1 0 0], .v (.int .i64 (Int.ofNat i))] [(false, .box [.rsl 2 es false]), (false, .arr 1 qs false)])) (.need (EntClosed [(false, .box [.rsl 2 es false]), (false, .arr 1 qs false)]) (.done (some ((.nrm, [.sl 20 1 1 0 k, .v (.int .i64 0), .v (.int .i64 (Int.ofNat n)), .fn (Fn.func 147) [] [.ptr 1 0 0], .v (.int .i64 (IntKind.i64.wrap (Int.ofNat i + 1)))], [(false, .box [.rsl 2 es false]), (false, .arr 1 qs false)]))))))) := by kernel_rfl
set_option maxRecDepth 100000 in
theorem r189x (es rs : List AV) (n i k : Nat) : roundD (CS K2) 60 2 189 98 53 151 false (loopOf (CS K2) 189 0) [0, 1, 2, 3, 8] [1, 20] [0, 1, 2, 3, 8] [1, 20] [] [1, 20] [.sl 20 1 1 0 k, intA 0, intA (Int.ofNat n), .fn (.func 147) [] [.ptr 1 0 0], intA (Int.ofNat i)] [(false, .box [.rsl 2 es false]), (false, .arr 1 rs false)] [.as 14 false] =
    (.need ((decide (Int.ofNat i < Int.ofNat n)) = false) (.need (EntClosed [(false, .box [.rsl 2 es false]), (false, .arr 1 rs false)]) (.done (some (((.exit 0), [], [(false, .box [.rsl 2 es false]), (false, .arr 1 rs false)])))))) := by kernel_rfl
set_option maxRecDepth 100000 in
theorem t75e (es : List AV) (e : Int) : evTreeD (CS K2) 60 75 [.rsl 2 es false] [.sp [.rsl 2 es false] (intA e), .as 10 true] =
    (.need (([.rsl 2 es false] : List AV) = ([.rsl 2 es false] : List AV) ∧ (Cx.spec (CS K2) 143 ([.rsl 2 es false] : List AV)) = (some (AV.v (.int .i64 e)))) (.need ((e != 0) = true) (.done (some (.tup [.v (.slice none 0 0), .v (.int .i64 e)]))))) := by kernel_rfl
set_option maxRecDepth 100000 in
theorem t75 (es rs qs : List AV) (e : Int) (k : Nat) : evTreeD (CS K2) 60 75 [.rsl 2 es false] [.sp [.rsl 2 es false] (intA e), .as 10 false, .loop 0 [1, 5, 13, 14] [1] [1, 5] [1, 20] (.exit 0) [.ptr 1 0 0, .sl 20 1 1 0 k] [(false, .box [.rsl 2 es false]), (false, .arr 1 rs false)], .as 13 false, .loop 2 [0, 1, 2, 3, 8] [1, 20] [] [1, 20] (.exit 0) [] [(false, .box [.rsl 2 es false]), (false, .arr 1 qs false)], .as 30 false, .fz 5] =
    (.need (([.rsl 2 es false] : List AV) = ([.rsl 2 es false] : List AV) ∧ (Cx.spec (CS K2) 143 ([.rsl 2 es false] : List AV)) = (some (AV.v (.int .i64 e)))) (.need ((e != 0) = false) (.need (EntClosed [(false, .box [.rsl 2 es false])] ∧ EntClosed [(false, .box [.rsl 2 es false]), (false, .arr 1 rs false)] ∧ Says (CS K2) 0 26 false (.loop (loopOf (CS K2) 75 0)) (mkSt [1, 5, 13, 14] [1] 26 [.ptr 1 0 0, .v (.slice none 0 0), .v (.int .i64 (Int.ofNat es.length)), .v (.int .i64 0)] [(false, .box [.rsl 2 es false])]) (.exit 0) (mkSt [1, 5] [1, 20] 26 [.ptr 1 0 0, .sl 20 1 1 0 k] [(false, .box [.rsl 2 es false]), (false, .arr 1 rs false)])) (.need ((decide (20 ≤ Int.ofNat k)) = false) (.need (EntClosed [(false, .box [.rsl 2 es false]), (false, .arr 1 rs false)] ∧ EntClosed [(false, .box [.rsl 2 es false]), (false, .arr 1 qs false)] ∧ Says (CS K2) 2 53 false (.loop (loopOf (CS K2) 189 0)) (mkSt [0, 1, 2, 3, 8] [1, 20] 151 [.sl 20 1 1 0 k, .v (.int .i64 0), .v (.int .i64 (Int.ofNat k)), .fn (Fn.func 147) [] [.ptr 1 0 0], .v (.int .i64 (IntKind.i64.wrap (0 + 1)))] [(false, .box [.rsl 2 es false]), (false, .arr 1 rs false)]) (.exit 0) (mkSt [] [1, 20] 151 [] [(false, .box [.rsl 2 es false]), (false, .arr 1 qs false)])) (.need ((decide (20 < Int.ofNat k)) = false) (.need (ClosedL qs ∧ k = qs.length) (.done (some (.tup [.rsl 1 qs false, .v (.int .i64 0)])))))))))) := by kernel_rfl
set_option maxRecDepth 100000 in
theorem t73e (es : List AV) (e : Int) : evTreeD (CS K2) 60 73 [.rsl 2 es false] [.sp [.rsl 2 es false] (intA e), .as 9 true] =
    (.need (([.rsl 2 es false] : List AV) = ([.rsl 2 es false] : List AV) ∧ (Cx.spec (CS K2) 143 ([.rsl 2 es false] : List AV)) = (some (AV.v (.int .i64 e)))) (.need ((e != 0) = true) (.done (some (.tup [.agg [.v (.int .i64 0), .v (.int .i64 0)], .v (.int .i64 e)]))))) := by kernel_rfl
set_option maxRecDepth 100000 in
theorem t73 (x0 : P2) (es qs : List AV) (i j : Nat) (e a b : Int) : evTreeD (CS K2) 60 73 [.rsl 2 (p2A x0 :: es) false] [.sp [.rsl 2 (p2A x0 :: es) false] (intA e), .as 9 false, .chk ([] : List AV), .ef qs, .ar (intA (Int.ofNat i)), .dv (intA (Int.ofNat j)), .chk ([] : List AV), .ld (.agg [intA a, intA b])] =
    (.need (([.rsl 2 (.agg [.v (.int .i64 x0.fst), .v (.int .i64 x0.snd)] :: es) false] : List AV) = ([.rsl 2 (.agg [.v (.int .i64 x0.fst), .v (.int .i64 x0.snd)] :: es) false] : List AV) ∧ (Cx.spec (CS K2) 143 ([.rsl 2 (.agg [.v (.int .i64 x0.fst), .v (.int .i64 x0.snd)] :: es) false] : List AV)) = (some (AV.v (.int .i64 e)))) (.need ((e != 0) = false) (.need ((allSz 2 (.agg [.v (.int .i64 x0.fst), .v (.int .i64 x0.snd)] :: es)) = true ∧ 2 = 2 ∧ (([] : List AV) ++ (.agg [.v (.int .i64 x0.fst), .v (.int .i64 x0.snd)] :: es)).length * 16 ≤ 35184372088832 ∧ (([] : List AV) ++ (.agg [.v (.int .i64 x0.fst), .v (.int .i64 x0.snd)] :: es)).length ≤ 35184372088832 ∧ 16 ≠ 0) (.need ((([] : List AV) ++ (.agg [.v (.int .i64 x0.fst), .v (.int .i64 x0.snd)] :: es)).length = (([] : List AV) ++ (.agg [.v (.int .i64 x0.fst), .v (.int .i64 x0.snd)] :: es)).length ∧ WrOk (CS K2) 145 2 (([] : List AV) ++ (.agg [.v (.int .i64 x0.fst), .v (.int .i64 x0.snd)] :: es)) ([.fn (Fn.func 119) [] []] : List AV) qs) (.need ((abin (CS K2) BinOp.sub 3 (Operand.tmp 18) (Operand.const (Value.int IntKind.i64 1)) (AV.v (.int .i64 (Int.ofNat (List.replicate 0 (ofV (Value.agg #[Value.int IntKind.i64 0, Value.int IntKind.i64 0])) ++ p2A x0 :: es).length))) (AV.v (.int .i64 1))) = (some (AV.v (.int .i64 (Int.ofNat i))))) (.need ((abin (CS K2) BinOp.quo 3 (Operand.tmp 19) (Operand.const (Value.int IntKind.i64 2)) (AV.v (.int .i64 (Int.ofNat i))) (AV.v (.int .i64 2))) = (some (AV.v (.int .i64 (Int.ofNat j))))) (.need (j < (([] : List AV) ++ (.agg [.v (.int .i64 x0.fst), .v (.int .i64 x0.snd)] :: es)).length) (.need (qs[(0 + j)]? = (some (AV.agg [.v (.int .i64 a), .v (.int .i64 b)]))) (.done (some (.tup [.agg [.v (.int .i64 a), .v (.int .i64 b)], .v (.int .i64 0)]))))))))))) := by kernel_rfl
/-! ### The insertion sort -/
def rndI (lt : Nat → Nat → Bool) : Nat × List Nat → (Nat × List Nat) ⊕ List Nat
  | (0, d) => .inr d
  | (j + 1, d) => match d[j + 1]?, d[j]? with
    | some x, some y => bif lt x y then .inl (j, (d.set (j + 1) y).set j x) else .inr d
    | _, _ => .inr d
theorem rndI_at {lt : Nat → Nat → Bool} {j x y : Nat} {d : List Nat} (h1 : d[j + 1]? = some x) (h2 : d[j]? = some y) : rndI lt (j + 1, d) = bif lt x y then .inl (j, (d.set (j + 1) y).set j x) else .inr d := by
  simp only [rndI, h1, h2]
theorem rndI_no {lt : Nat → Nat → Bool} {j : Nat} {d : List Nat} (h : (match d[j + 1]?, d[j]? with | some _, some _ => false | _, _ => true) = true) : rndI lt (j + 1, d) = .inr d := by
  cases h1 : d[j + 1]? with
  | none => simp only [rndI, h1]
  | some x =>
    cases h2 : d[j]? with
    | none => simp only [rndI, h1, h2]
    | some y => rw [h1, h2] at h; cases h
theorem rndI_run (lt : Nat → Nat → Bool) : ∀ (j : Nat) (d : List Nat), goW (rndI lt) (j + 1) (j, d) = some (innM lt j d)
  | 0, d => rfl
  | j + 1, d => by
    rw [goW]
    cases h1 : d[j + 1]? with
    | none => rw [rndI_no (by rw [h1])]; unfold innM; rw [h1]
    | some x =>
      cases h2 : d[j]? with
      | none => rw [rndI_no (by rw [h1, h2])]; unfold innM; rw [h1, h2]
      | some y =>
        rw [rndI_at h1 h2]
        unfold innM
        rw [h1, h2]
        simp only
        cases hl : lt x y with
        | true => rw [cond_true, cond_true]; exact rndI_run lt j _
        | false => rfl
def insD (lt : Nat → Nat → Bool) (n : Nat) : Nat → List Nat
  | 0 => List.range n
  | i + 1 => innM lt (i + 1) (insD lt n i)
theorem sortM_snoc (lt : Nat → Nat → Bool) (x : Nat) : ∀ (t acc : List Nat), sortM lt acc (t ++ [x]) = insR lt x (sortM lt acc t)
  | [], _ => rfl
  | y :: t, acc => sortM_snoc lt x t (insR lt y acc)
theorem insD_eq (lt : Nat → Nat → Bool) (n : Nat) : ∀ i, i + 1 ≤ n → insD lt n i = (sortM lt [] (List.range' 0 (i + 1))).reverse ++ List.range' (i + 1) (n - (i + 1))
  | 0, h => by
    obtain ⟨m, rfl⟩ : ∃ m, n = m + 1 := ⟨n - 1, by omega⟩
    show List.range (m + 1) = _
    rw [List.range_eq_range', List.range'_succ]; rfl
  | i + 1, h => by
    have ih := insD_eq lt n i (by omega)
    have hlen : (sortM lt [] (List.range' 0 (i + 1))).length = i + 1 := by
      rw [(sortM_perm lt (List.range' 0 (i + 1)) []).length_eq]; simp
    show innM lt (i + 1) (insD lt n i) = _
    rw [ih, show List.range' (i + 1) (n - (i + 1)) = (i + 1) :: List.range' (i + 1 + 1) (n - (i + 1 + 1)) by rw [show n - (i + 1) = (n - (i + 1 + 1)) + 1 by omega, List.range'_succ]]
    have := innM_app lt (i + 1) (sortM lt [] (List.range' 0 (i + 1))) (List.range' (i + 1 + 1) (n - (i + 1 + 1)))
    rw [hlen] at this
    have e : List.range' 0 (i + 1 + 1) = List.range' 0 (i + 1) ++ [i + 1] := by rw [List.range'_concat]; simp
    rw [this, e, sortM_snoc]
theorem insD_mem {lt : Nat → Nat → Bool} {n i : Nat} (h : i + 1 ≤ n) : (insD lt n i).length = n ∧ ∀ x ∈ insD lt n i, x < n := by
  rw [insD_eq lt n i h]
  have hp := sortM_perm lt (List.range' 0 (i + 1)) []
  constructor
  · rw [List.length_append, List.length_reverse, hp.length_eq]; simp; omega
  · intro x hx
    rw [List.mem_append, List.mem_reverse, hp.mem_iff] at hx
    simp only [List.nil_append, List.mem_range'_1] at hx
    omega
theorem insD_last (lt : Nat → Nat → Bool) {n : Nat} (h : 1 ≤ n) : insD lt n (n - 1) = rankP lt n := by
  rw [insD_eq lt n (n - 1) (by omega)]
  unfold rankP
  rw [show n - 1 + 1 = n by omega, Nat.sub_self]; simp
def stI (ts : List Tmp) (l : List P2) (n : Nat) (more : List AV) (d : List Nat) : St := mkSt ts [1, 20] 151 ([.sl 20 1 1 0 n, intA 0, natA n, .fn (.func 147) [] [.ptr 1 0 0]] ++ more) [(false, .box [.rsl 2 (l.map p2C.enc) false]), (false, .arr 1 (d.map natA) false)]
theorem spClo {l : List P2} {x y : Nat} (hx : x < l.length) (hy : y < l.length) : cloG [natA x, natA y, .rptr [slA p2C 2 l]] = some (intA (cmpW (atR l x) (atR l y))) := by
  have h : ∀ z, z < l.length → ixOk l (Int.ofNat z) = true := fun z hz => by
    unfold ixOk
    rw [Bool.and_eq_true, decide_eq_true_eq]
    exact ⟨by simp only [Int.ofNat_eq_natCast]; omega, Nat.ble_eq_true_of_le hz⟩
  have := sp3_at (A := intC) (B := intC) (D := bxC ratsC) (F := fun i j l => bif ixOk l i && ixOk l j then some (intA (cmpW (atR l i.toNat) (atR l j.toNat))) else none) (Int.ofNat x) (Int.ofNat y) l
  rw [h x hx, h y hy] at this
  exact this
theorem setMap (d : List Nat) (i x : Nat) : (d.map natA).set (0 + i) (AV.v (.int .i64 (Int.ofNat x))) = (d.set i x).map natA := by
  rw [Nat.zero_add, List.map_set]
theorem inner189 (l : List P2) (i j : Nat) (d : List Nat) (hn : l.length < two63) (hd : d.length = l.length) (hx : ∀ x ∈ d, x < l.length) (hj : j < d.length) :
    Says (CS K2) 2 53 false (.loop (loopOf (CS K2) 189 2)) (stI [0, 1, 2, 3, 8, 9] l l.length [natA i, natA j] d) (.exit 2) (stI [0, 1, 2, 3, 8] l l.length [natA i] (innM (ltI l) j d)) := by
  have h := LoopRun.rounds (C := CS K2) (p := 2) (nt := 53) (rd := false) (c := loopOf (CS K2) 189 2) (rnd := rndI (ltI l)) (enc := fun s => stI [0, 1, 2, 3, 8, 9] l l.length [natA i, natA s.1] s.2) (ex := fun _ => .exit 2)
    (out := fun d => stI [0, 1, 2, 3, 8] l l.length [natA i] d) (fun s => s.2.length = l.length ∧ (∀ x ∈ s.2, x < l.length) ∧ s.1 < s.2.length)
    (fun s hs => by
      obtain ⟨j, d⟩ := s
      obtain ⟨h1, h2, h3⟩ := hs
      simp only at h1 h2 h3
      have cl : ∀ d : List Nat, EntClosed [(false, .box [.rsl 2 (l.map p2C.enc) false]), (false, .arr 1 (d.map natA) false)] := fun d => ⟨natCl d, trivial⟩
      cases j with
      | zero => exact ⟨K2_ok.rndX (r189C (l.map p2C.enc) (d.map natA) l.length i 0 l.length) ⟨rfl, cl d, rfl⟩, by simp⟩
      | succ j =>
        have e1 : d[j + 1]? = some (d[j + 1]'h3) := List.getElem?_eq_getElem h3
        have e2 : d[j]? = some (d[j]'(by omega)) := List.getElem?_eq_getElem (by omega)
        generalize d[j + 1]'h3 = x at e1
        generalize d[j]'(by omega) = y at e2
        have hx1 := h2 x (List.mem_of_getElem? e1)
        have hy1 := h2 y (List.mem_of_getElem? e2)
        rw [rndI_at e1 e2]
        have g0 : decide (Int.ofNat (j + 1) > 0) = true := by simp only [decide_eq_true_eq, Int.ofNat_eq_natCast]; omega
        have g1 : (d.map natA)[0 + (j + 1)]? = some (AV.v (.int .i64 (Int.ofNat x))) := by rw [Nat.zero_add]; exact get_map natA e1
        have g2 : (d.map natA)[0 + j]? = some (AV.v (.int .i64 (Int.ofNat y))) := by rw [Nat.zero_add]; exact get_map natA e2
        have hs := spClo hx1 hy1
        have ha : ∀ t, abin (CS K2) BinOp.sub 3 (Operand.tmp t) (Operand.const (Value.int IntKind.i64 1)) (AV.v (.int .i64 (Int.ofNat (j + 1)))) (AV.v (.int .i64 1)) = some (AV.v (.int .i64 (Int.ofNat j))) := fun t => abSub1 (by omega)
        cases hc : ltI l x y with
        | true =>
          have hc' : decide (cmpW (atR l x) (atR l y) < 0) = true := hc
          rw [cond_true]
          have hr := r189A (l.map p2C.enc) (d.map natA) l.length i (j + 1) j l.length x y (cmpW (atR l x) (atR l y))
          have g3 : ((d.set (j + 1) y).map natA)[0 + j]? = some (AV.v (.int .i64 (Int.ofNat y))) := by
            rw [Nat.zero_add]
            refine get_map natA ?_
            rw [List.getElem?_set_ne (by omega)]; exact e2
          rw [setMap, setMap] at hr
          refine ⟨K2_ok.rndN hr ⟨g0, by omega, g1, ha _, by omega, g2, ⟨rfl, hs⟩, hc', ha _, ha _, by omega, g2, by omega, g1, by omega, g1, by omega, g3, ha _, cl _, rfl⟩, ?_, ?_, ?_⟩
          · simp only [List.length_set]; exact h1
          · intro z hz
            rcases List.mem_or_eq_of_mem_set hz with hz | rfl
            · rcases List.mem_or_eq_of_mem_set hz with hz | rfl
              · exact h2 z hz
              · exact hy1
            · exact hx1
          · simp only [List.length_set]; omega
        | false =>
          have hc' : decide (cmpW (atR l x) (atR l y) < 0) = false := hc
          rw [cond_false]
          exact ⟨K2_ok.rndX (r189B (l.map p2C.enc) (d.map natA) l.length i (j + 1) j l.length x y (cmpW (atR l x) (atR l y))) ⟨g0, by omega, g1, ha _, by omega, g2, ⟨rfl, hs⟩, hc', cl d, rfl⟩, by simp⟩)
    (j + 1) (j, d) (innM (ltI l) j d) ⟨hd, hx, hj⟩ (rndI_run (ltI l) j d)
  exact h.says
theorem outer189 (l : List P2) (hn : 1 ≤ l.length ∧ l.length < two63) :
    Says (CS K2) 2 53 false (.loop (loopOf (CS K2) 189 0)) (stI [0, 1, 2, 3, 8] l l.length [intA 1] (List.range l.length)) (.exit 0) (mkSt [] [1, 20] 151 [] [(false, .box [.rsl 2 (l.map p2C.enc) false]), (false, .arr 1 ((rankP (ltI l) l.length).map natA) false)]) := by
  have h := LoopRun.idx (C := CS K2) (p := 2) (nt := 53) (rd := false) (c := loopOf (CS K2) 189 0)
    (fun i => stI [0, 1, 2, 3, 8] l l.length [natA (i + 1)] (insD (ltI l) l.length i)) (.exit 0)
    (mkSt [] [1, 20] 151 [] [(false, .box [.rsl 2 (l.map p2C.enc) false]), (false, .arr 1 ((rankP (ltI l) l.length).map natA) false)]) (List.range (l.length - 1)) (by simp)
    (fun i x hx => by
      have hi := lt_len hx
      rw [List.length_range] at hi
      obtain ⟨m1, m2⟩ := insD_mem (lt := ltI l) (n := l.length) (i := i) (by omega)
      have hin := inner189 l (i + 1) (i + 1) (insD (ltI l) l.length i) hn.2 m1 m2 (by omega)
      have hr := r189 (l.map p2C.enc) ((insD (ltI l) l.length i).map natA) ((insD (ltI l) l.length (i + 1)).map natA) l.length (i + 1) l.length
      rw [wrap_ix (show i + 1 < l.length by omega) hn.2] at hr
      exact K2_ok.rndN hr ⟨lt_of (by omega), ⟨⟨natCl _, trivial⟩, ⟨natCl _, trivial⟩, hin⟩, ⟨natCl _, trivial⟩, rfl⟩)
    (by
      rw [List.length_range, ← insD_last _ hn.1]
      refine K2_ok.rndX (r189x (l.map p2C.enc) ((insD (ltI l) l.length (l.length - 1)).map natA) l.length (l.length - 1 + 1) l.length) ⟨?_, ⟨natCl _, trivial⟩, rfl⟩
      rw [show l.length - 1 + 1 = l.length by omega]; exact lt_self _)
  exact h.says
/-! ### The ranks -/
def st75 (l : List P2) : Nat → St
  | 0 => mkSt [1, 5, 13, 14] [1] 26 [.ptr 1 0 0, nilS, natA l.length, natA 0] [(false, .box [.rsl 2 (l.map p2C.enc) false])]
  | i + 1 => mkSt [1, 5, 13, 14] [1, 20] 26 [.ptr 1 0 0, .sl 20 1 1 0 (i + 1), natA l.length, natA (i + 1)] [(false, .box [.rsl 2 (l.map p2C.enc) false]), (false, .arr 1 ((List.range (i + 1)).map natA) false)]
theorem loop75 (l : List P2) (hn : 1 ≤ l.length ∧ l.length ≤ 15) :
    Says (CS K2) 0 26 false (.loop (loopOf (CS K2) 75 0)) (st75 l 0) (.exit 0) (mkSt [1, 5] [1, 20] 26 [.ptr 1 0 0, .sl 20 1 1 0 l.length] [(false, .box [.rsl 2 (l.map p2C.enc) false]), (false, .arr 1 ((List.range l.length).map natA) false)]) := by
  have hl : l.length < two63 := by unfold two63; omega
  have h := LoopRun.idx (C := CS K2) (p := 0) (nt := 26) (rd := false) (c := loopOf (CS K2) 75 0) (st75 l) (.exit 0)
    (mkSt [1, 5] [1, 20] 26 [.ptr 1 0 0, .sl 20 1 1 0 l.length] [(false, .box [.rsl 2 (l.map p2C.enc) false]), (false, .arr 1 ((List.range l.length).map natA) false)]) l (by simp)
    (fun i x hx => by
      have hi := lt_len hx
      cases i with
      | zero =>
        have hr := r75a (l.map p2C.enc) l.length 0
        rw [wrap_ix hi hl] at hr
        exact K2_ok.rndN hr ⟨lt_of hi, ⟨natCl [0], trivial⟩, rfl⟩
      | succ i =>
        have hr := r75b (l.map p2C.enc) ((List.range (i + 1)).map natA) l.length (i + 1) (i + 1)
        have hlen : ((List.range (i + 1)).map natA ++ [AV.v (.int .i64 (Int.ofNat (i + 1)))]).length = i + 1 + 1 := by simp
        have hr2 : (List.range (i + 1)).map natA ++ [AV.v (.int .i64 (Int.ofNat (i + 1)))] = (List.range (i + 1 + 1)).map natA := by rw [List.range_succ (n := i + 1), List.map_append]; rfl
        rw [wrap_ix hi hl, hlen, hr2] at hr
        exact K2_ok.rndN hr ⟨lt_of hi, ⟨by simp, rfl, rfl, by omega, by omega, by decide⟩, ⟨natCl _, trivial⟩, rfl⟩)
    (by
      obtain ⟨n, e⟩ : ∃ n, l.length = n + 1 := ⟨l.length - 1, by omega⟩
      rw [e]
      unfold st75
      simp only
      rw [e]
      exact K2_ok.rndX (r75x (l.map p2C.enc) ((List.range (n + 1)).map natA) (n + 1) (n + 1) (n + 1)) ⟨lt_self _, ⟨natCl _, trivial⟩, rfl⟩)
  exact h.says
def rnkT (l : List P2) : AV := bif csErr l == 0 then .tup [.rsl 1 ((rankR (ltI l) l.length l.length).map natA) false, intA 0] else .tup [nilS, intA (csErr l)]
def rnkG : List AV → Option AV := sp1 ratsC fun l => bif Nat.ble l.length lim then some (rnkT l) else none
theorem h75 : Holds 75 rnkG := holds1 fun l r hr => by
  cases hb : Nat.ble l.length lim with
  | false => simp [hb] at hr
  | true =>
    simp only [hb, cond_true, Option.some.injEq] at hr; subst hr
    have hs := spCs hb
    unfold rnkT
    cases hc : csErr l == 0 with
    | false => exact K2_ok.tr (t75e (l.map p2C.enc) (csErr l)) ⟨⟨rfl, hs⟩, by rw [bne, hc]; rfl, rfl⟩
    | true =>
      have h0 : csErr l = 0 := by simpa using hc
      obtain ⟨⟨h1, h2⟩, hv⟩ := csZ.1 h0
      rw [cond_true, ← rank_eq (swoR hv)]
      have hl75 := loop75 l ⟨h1, h2⟩
      have ho := outer189 l ⟨h1, by unfold two63; omega⟩
      refine K2_ok.tr (t75 (l.map p2C.enc) ((List.range l.length).map natA) ((rankP (ltI l) l.length).map natA) (csErr l) l.length) ?_
      rw [e_len']
      refine ⟨⟨rfl, hs⟩, by rw [bne, hc]; rfl, ⟨trivial, ⟨natCl _, trivial⟩, hl75⟩, ?_, ⟨⟨natCl _, trivial⟩, ⟨natCl _, trivial⟩, ho⟩, ?_, ⟨natCl _, ?_⟩, rfl⟩
      · simp only [decide_eq_false_iff_not, Int.ofNat_eq_natCast]; omega
      · simp only [decide_eq_false_iff_not, Int.ofNat_eq_natCast]; omega
      · rw [List.length_map, (rankP_perm (ltI l) l.length).length_eq, List.length_range]
end Go.Vm.S6
