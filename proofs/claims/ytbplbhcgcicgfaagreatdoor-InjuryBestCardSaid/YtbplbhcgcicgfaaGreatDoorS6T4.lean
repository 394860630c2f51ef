/- Longest, above, worth. -/
import Derived.Test.YtbplbhcgcicgfaaGreatDoorS6T3
namespace Go.Vm.S6
open Go.Proofs Go.RowKit
set_option maxRecDepth 100000 in
theorem r31b (es : List AV) (c k x : Int) (n i : Nat) : roundD (CS T3) 60 0 31 0 32 32 false (loopOf (CS T3) 31 0) [1, 7, 19, 20, 21] [] [1, 7, 19, 20, 21] [] [7] [] [intA c, intA k, .rsl 1 es false, intA (Int.ofNat n), intA (Int.ofNat i)] [] [.br [.chk [intA x]] []] =
    (bif decide (Int.ofNat i < Int.ofNat n) then (.need (es[i]? = (some (AV.v (.int .i64 x)))) (bif decide (x ≥ c) then (.need (EntClosed []) (.done (some ((.nrm, [.v (.int .i64 c), .v (.int .i64 (IntKind.i64.wrap (k + 1))), .rsl 1 es false, .v (.int .i64 (Int.ofNat n)), .v (.int .i64 (IntKind.i64.wrap (Int.ofNat i + 1)))], []))))) else (.need (EntClosed []) (.done (some ((.nrm, [.v (.int .i64 c), .v (.int .i64 k), .rsl 1 es false, .v (.int .i64 (Int.ofNat n)), .v (.int .i64 (IntKind.i64.wrap (Int.ofNat i + 1)))], []))))))) else (.need (EntClosed []) (.done (some (((.exit 0), [.v (.int .i64 k)], [])))))) := by kernel_rfl
set_option maxRecDepth 100000 in
theorem t31 (es : List AV) (c k e : Int) : evTreeD (CS T3) 60 31 [.rsl 1 es false, intA c] [.sp [.rsl 1 es false] (intA e), .br [] [.loop 0 [1, 7, 19, 20, 21] [] [7] [] (.exit 0) [intA k] []]] =
    (.need (([.rsl 1 es false] : List AV) = ([.rsl 1 es false] : List AV) ∧ (Cx.spec (CS T3) 38 ([.rsl 1 es false] : List AV)) = (some (AV.v (.int .i64 e)))) (bif firstM [e, unitM c] != 0 then (.done (some (.tup [.v (.int .i64 0), .v (.int .i64 (firstM [e, unitM c]))]))) else (.need (EntClosed [] ∧ EntClosed [] ∧ Says (CS T3) 0 32 false (.loop (loopOf (CS T3) 31 0)) (mkSt [1, 7, 19, 20, 21] [] 32 [.v (.int .i64 c), .v (.int .i64 0), .rsl 1 es false, .v (.int .i64 (Int.ofNat es.length)), .v (.int .i64 0)] []) (.exit 0) (mkSt [7] [] 32 [.v (.int .i64 k)] [])) (.done (some (.tup [.v (.int .i64 k), .v (.int .i64 0)])))))) := by kernel_rfl
set_option maxRecDepth 100000 in
theorem r302 (es : List AV) (c a b x : Int) (n i f j : Nat) : roundD (CS T3) 60 2 30 0 54 54 false (loopOf (CS T3) 30 2) [0, 1, 4, 7, 8, 9, 21, 22] [4, 7] [0, 1, 4, 7, 8, 9, 21, 22] [4, 7] [0, 1, 4, 7, 21, 22] [4, 7] [.rsl 1 es false, intA c, .ptr 4 0 0, .ptr 7 1 0, intA (Int.ofNat f), intA (Int.ofNat j), intA (Int.ofNat n), intA (Int.ofNat i)] [(false, .box [intA 0, intA 0]), (false, .box [intA a, intA b])] [.br [.chk [intA x], .br [] [.br [] []]] []] =
    (bif decide (Int.ofNat j < Int.ofNat es.length) then (.need (es[j]? = (some (AV.v (.int .i64 x)))) (bif decide (x < c) then (.need (EntClosed [(false, .box [.v (.int .i64 0), .v (.int .i64 0)]), (false, .box [.v (.int .i64 a), .v (.int .i64 b)])]) (.done (some (((.exit 1), [.rsl 1 es false, .v (.int .i64 c), .ptr 4 0 0, .ptr 7 1 0, .v (.int .i64 (Int.ofNat n)), .v (.int .i64 (Int.ofNat i))], [(false, .box [.v (.int .i64 0), .v (.int .i64 0)]), (false, .box [.v (.int .i64 a), .v (.int .i64 b)])]))))) else (bif decide (IntKind.i64.wrap (IntKind.i64.wrap (Int.ofNat j + 1) - Int.ofNat f) > IntKind.i64.wrap (b - a)) then (.need (EntClosed [(false, .box [.v (.int .i64 0), .v (.int .i64 0)]), (false, .box [.v (.int .i64 (Int.ofNat f)), .v (.int .i64 (IntKind.i64.wrap (Int.ofNat j + 1)))])]) (.done (some ((.nrm, [.rsl 1 es false, .v (.int .i64 c), .ptr 4 0 0, .ptr 7 1 0, .v (.int .i64 (Int.ofNat f)), .v (.int .i64 (IntKind.i64.wrap (Int.ofNat j + 1))), .v (.int .i64 (Int.ofNat n)), .v (.int .i64 (Int.ofNat i))], [(false, .box [.v (.int .i64 0), .v (.int .i64 0)]), (false, .box [.v (.int .i64 (Int.ofNat f)), .v (.int .i64 (IntKind.i64.wrap (Int.ofNat j + 1)))])]))))) else (.need (EntClosed [(false, .box [.v (.int .i64 0), .v (.int .i64 0)]), (false, .box [.v (.int .i64 a), .v (.int .i64 b)])]) (.done (some ((.nrm, [.rsl 1 es false, .v (.int .i64 c), .ptr 4 0 0, .ptr 7 1 0, .v (.int .i64 (Int.ofNat f)), .v (.int .i64 (IntKind.i64.wrap (Int.ofNat j + 1))), .v (.int .i64 (Int.ofNat n)), .v (.int .i64 (Int.ofNat i))], [(false, .box [.v (.int .i64 0), .v (.int .i64 0)]), (false, .box [.v (.int .i64 a), .v (.int .i64 b)])])))))))) else (.need (EntClosed [(false, .box [.v (.int .i64 0), .v (.int .i64 0)]), (false, .box [.v (.int .i64 a), .v (.int .i64 b)])]) (.done (some (((.exit 2), [.rsl 1 es false, .v (.int .i64 c), .ptr 4 0 0, .ptr 7 1 0, .v (.int .i64 (Int.ofNat n)), .v (.int .i64 (Int.ofNat i))], [(false, .box [.v (.int .i64 0), .v (.int .i64 0)]), (false, .box [.v (.int .i64 a), .v (.int .i64 b)])])))))) := by kernel_rfl
set_option maxRecDepth 100000 in
theorem r30a (es : List AV) (c a b a2 b2 : Int) (n i : Nat) : roundD (CS T3) 60 0 30 0 54 54 false (loopOf (CS T3) 30 0) [0, 1, 4, 7, 21, 22] [4, 7] [0, 1, 4, 7, 21, 22] [4, 7] [4, 7] [4, 7] [.rsl 1 es false, intA c, .ptr 4 0 0, .ptr 7 1 0, intA (Int.ofNat n), intA (Int.ofNat i)] [(false, .box [intA 0, intA 0]), (false, .box [intA a, intA b])] [.br [.loop 2 [0, 1, 4, 7, 8, 9, 21, 22] [4, 7] [0, 1, 4, 7, 21, 22] [4, 7] (.exit 1) [.rsl 1 es false, intA c, .ptr 4 0 0, .ptr 7 1 0, intA (Int.ofNat n), intA (Int.ofNat i)] [(false, .box [intA 0, intA 0]), (false, .box [intA a2, intA b2])]] []] =
    (bif decide (Int.ofNat i < Int.ofNat n) then (.need (EntClosed [(false, .box [.v (.int .i64 0), .v (.int .i64 0)]), (false, .box [.v (.int .i64 a), .v (.int .i64 b)])] ∧ EntClosed [(false, .box [.v (.int .i64 0), .v (.int .i64 0)]), (false, .box [.v (.int .i64 a2), .v (.int .i64 b2)])] ∧ Says (CS T3) 2 54 false (.loop (loopOf (CS T3) 30 2)) (mkSt [0, 1, 4, 7, 8, 9, 21, 22] [4, 7] 54 [.rsl 1 es false, .v (.int .i64 c), .ptr 4 0 0, .ptr 7 1 0, .v (.int .i64 (Int.ofNat i)), .v (.int .i64 (Int.ofNat i)), .v (.int .i64 (Int.ofNat n)), .v (.int .i64 (Int.ofNat i))] [(false, .box [.v (.int .i64 0), .v (.int .i64 0)]), (false, .box [.v (.int .i64 a), .v (.int .i64 b)])]) (.exit 1) (mkSt [0, 1, 4, 7, 21, 22] [4, 7] 54 [.rsl 1 es false, .v (.int .i64 c), .ptr 4 0 0, .ptr 7 1 0, .v (.int .i64 (Int.ofNat n)), .v (.int .i64 (Int.ofNat i))] [(false, .box [.v (.int .i64 0), .v (.int .i64 0)]), (false, .box [.v (.int .i64 a2), .v (.int .i64 b2)])])) (.need (EntClosed [(false, .box [.v (.int .i64 0), .v (.int .i64 0)]), (false, .box [.v (.int .i64 a2), .v (.int .i64 b2)])]) (.done (some ((.nrm, [.rsl 1 es false, .v (.int .i64 c), .ptr 4 0 0, .ptr 7 1 0, .v (.int .i64 (Int.ofNat n)), .v (.int .i64 (IntKind.i64.wrap (Int.ofNat i + 1)))], [(false, .box [.v (.int .i64 0), .v (.int .i64 0)]), (false, .box [.v (.int .i64 a2), .v (.int .i64 b2)])])))))) else (.need (EntClosed [(false, .box [.v (.int .i64 0), .v (.int .i64 0)]), (false, .box [.v (.int .i64 a), .v (.int .i64 b)])]) (.done (some (((.exit 0), [.ptr 4 0 0, .ptr 7 1 0], [(false, .box [.v (.int .i64 0), .v (.int .i64 0)]), (false, .box [.v (.int .i64 a), .v (.int .i64 b)])])))))) := by kernel_rfl
set_option maxRecDepth 100000 in
theorem r30b (es : List AV) (c a b a2 b2 : Int) (n i : Nat) : roundD (CS T3) 60 0 30 0 54 54 false (loopOf (CS T3) 30 0) [0, 1, 4, 7, 21, 22] [4, 7] [0, 1, 4, 7, 21, 22] [4, 7] [4, 7] [4, 7] [.rsl 1 es false, intA c, .ptr 4 0 0, .ptr 7 1 0, intA (Int.ofNat n), intA (Int.ofNat i)] [(false, .box [intA 0, intA 0]), (false, .box [intA a, intA b])] [.br [.loop 2 [0, 1, 4, 7, 8, 9, 21, 22] [4, 7] [0, 1, 4, 7, 21, 22] [4, 7] (.exit 2) [.rsl 1 es false, intA c, .ptr 4 0 0, .ptr 7 1 0, intA (Int.ofNat n), intA (Int.ofNat i)] [(false, .box [intA 0, intA 0]), (false, .box [intA a2, intA b2])]] []] =
    (bif decide (Int.ofNat i < Int.ofNat n) then (.need (EntClosed [(false, .box [.v (.int .i64 0), .v (.int .i64 0)]), (false, .box [.v (.int .i64 a), .v (.int .i64 b)])] ∧ EntClosed [(false, .box [.v (.int .i64 0), .v (.int .i64 0)]), (false, .box [.v (.int .i64 a2), .v (.int .i64 b2)])] ∧ Says (CS T3) 2 54 false (.loop (loopOf (CS T3) 30 2)) (mkSt [0, 1, 4, 7, 8, 9, 21, 22] [4, 7] 54 [.rsl 1 es false, .v (.int .i64 c), .ptr 4 0 0, .ptr 7 1 0, .v (.int .i64 (Int.ofNat i)), .v (.int .i64 (Int.ofNat i)), .v (.int .i64 (Int.ofNat n)), .v (.int .i64 (Int.ofNat i))] [(false, .box [.v (.int .i64 0), .v (.int .i64 0)]), (false, .box [.v (.int .i64 a), .v (.int .i64 b)])]) (.exit 2) (mkSt [0, 1, 4, 7, 21, 22] [4, 7] 54 [.rsl 1 es false, .v (.int .i64 c), .ptr 4 0 0, .ptr 7 1 0, .v (.int .i64 (Int.ofNat n)), .v (.int .i64 (Int.ofNat i))] [(false, .box [.v (.int .i64 0), .v (.int .i64 0)]), (false, .box [.v (.int .i64 a2), .v (.int .i64 b2)])])) (.need (EntClosed [(false, .box [.v (.int .i64 0), .v (.int .i64 0)]), (false, .box [.v (.int .i64 a2), .v (.int .i64 b2)])]) (.done (some ((.nrm, [.rsl 1 es false, .v (.int .i64 c), .ptr 4 0 0, .ptr 7 1 0, .v (.int .i64 (Int.ofNat n)), .v (.int .i64 (IntKind.i64.wrap (Int.ofNat i + 1)))], [(false, .box [.v (.int .i64 0), .v (.int .i64 0)]), (false, .box [.v (.int .i64 a2), .v (.int .i64 b2)])])))))) else (.need (EntClosed [(false, .box [.v (.int .i64 0), .v (.int .i64 0)]), (false, .box [.v (.int .i64 a), .v (.int .i64 b)])]) (.done (some (((.exit 0), [.ptr 4 0 0, .ptr 7 1 0], [(false, .box [.v (.int .i64 0), .v (.int .i64 0)]), (false, .box [.v (.int .i64 a), .v (.int .i64 b)])])))))) := by kernel_rfl
set_option maxRecDepth 100000 in
theorem t30 (es : List AV) (c e a b : Int) : evTreeD (CS T3) 60 30 [.rsl 1 es false, intA c] [.sp [.rsl 1 es false] (intA e), .br [] [.loop 0 [0, 1, 4, 7, 21, 22] [4, 7] [4, 7] [4, 7] (.exit 0) [.ptr 4 0 0, .ptr 7 1 0] [(false, .box [intA 0, intA 0]), (false, .box [intA a, intA b])]]] =
    (.need (([.rsl 1 es false] : List AV) = ([.rsl 1 es false] : List AV) ∧ (Cx.spec (CS T3) 38 ([.rsl 1 es false] : List AV)) = (some (AV.v (.int .i64 e)))) (bif firstM [e, unitM c] != 0 then (.done (some (.tup [.agg [.v (.int .i64 0), .v (.int .i64 0)], .v (.int .i64 (firstM [e, unitM c]))]))) else (.need (EntClosed [(false, .box [.v (.int .i64 0), .v (.int .i64 0)]), (false, .box [.v (.int .i64 0), .v (.int .i64 0)])] ∧ EntClosed [(false, .box [.v (.int .i64 0), .v (.int .i64 0)]), (false, .box [.v (.int .i64 a), .v (.int .i64 b)])] ∧ Says (CS T3) 0 54 false (.loop (loopOf (CS T3) 30 0)) (mkSt [0, 1, 4, 7, 21, 22] [4, 7] 54 [.rsl 1 es false, .v (.int .i64 c), .ptr 4 0 0, .ptr 7 1 0, .v (.int .i64 (Int.ofNat es.length)), .v (.int .i64 0)] [(false, .box [.v (.int .i64 0), .v (.int .i64 0)]), (false, .box [.v (.int .i64 0), .v (.int .i64 0)])]) (.exit 0) (mkSt [4, 7] [4, 7] 54 [.ptr 4 0 0, .ptr 7 1 0] [(false, .box [.v (.int .i64 0), .v (.int .i64 0)]), (false, .box [.v (.int .i64 a), .v (.int .i64 b)])])) (.done (some (.tup [.agg [.v (.int .i64 a), .v (.int .i64 b)], .v (.int .i64 0)])))))) := by kernel_rfl
set_option maxRecDepth 100000 in
theorem r352 (es : List AV) (c a b x : Int) (i j : Nat) : roundD (CS T3) 60 2 35 0 43 43 false (loopOf (CS T3) 35 2) [0, 1, 4, 5, 6, 7] [4, 5] [0, 1, 4, 5, 6, 7] [4, 5] [0, 1, 4, 5, 6, 7] [4, 5] [.rsl 1 es false, intA c, .ptr 4 0 0, .ptr 5 1 0, intA (Int.ofNat i), intA (Int.ofNat j)] [(false, .box [intA 0, intA 0]), (false, .box [intA a, intA b])] [.chk [intA x]] =
    (bif decide (Int.ofNat j < Int.ofNat es.length) then (.need (es[j]? = (some (AV.v (.int .i64 x)))) (bif decide (x ≥ c) then (.need (EntClosed [(false, .box [.v (.int .i64 0), .v (.int .i64 0)]), (false, .box [.v (.int .i64 a), .v (.int .i64 b)])]) (.done (some ((.nrm, [.rsl 1 es false, .v (.int .i64 c), .ptr 4 0 0, .ptr 5 1 0, .v (.int .i64 (Int.ofNat i)), .v (.int .i64 (IntKind.i64.wrap (Int.ofNat j + 1)))], [(false, .box [.v (.int .i64 0), .v (.int .i64 0)]), (false, .box [.v (.int .i64 a), .v (.int .i64 b)])]))))) else (.need (EntClosed [(false, .box [.v (.int .i64 0), .v (.int .i64 0)]), (false, .box [.v (.int .i64 a), .v (.int .i64 b)])]) (.done (some (((.exit 2), [.rsl 1 es false, .v (.int .i64 c), .ptr 4 0 0, .ptr 5 1 0, .v (.int .i64 (Int.ofNat i)), .v (.int .i64 (Int.ofNat j))], [(false, .box [.v (.int .i64 0), .v (.int .i64 0)]), (false, .box [.v (.int .i64 a), .v (.int .i64 b)])]))))))) else (.need (EntClosed [(false, .box [.v (.int .i64 0), .v (.int .i64 0)]), (false, .box [.v (.int .i64 a), .v (.int .i64 b)])]) (.done (some (((.exit 2), [.rsl 1 es false, .v (.int .i64 c), .ptr 4 0 0, .ptr 5 1 0, .v (.int .i64 (Int.ofNat i)), .v (.int .i64 (Int.ofNat j))], [(false, .box [.v (.int .i64 0), .v (.int .i64 0)]), (false, .box [.v (.int .i64 a), .v (.int .i64 b)])])))))) := by kernel_rfl
set_option maxRecDepth 100000 in
theorem r350 (es : List AV) (c a b : Int) (i j : Nat) : roundD (CS T3) 60 0 35 0 43 43 false (loopOf (CS T3) 35 0) [0, 1, 4, 5, 6] [4, 5] [0, 1, 4, 5, 6] [4, 5] [4, 5] [4, 5] [.rsl 1 es false, intA c, .ptr 4 0 0, .ptr 5 1 0, intA (Int.ofNat i)] [(false, .box [intA 0, intA 0]), (false, .box [intA a, intA b])] [.br [.loop 2 [0, 1, 4, 5, 6, 7] [4, 5] [0, 1, 4, 5, 6, 7] [4, 5] (.exit 2) [.rsl 1 es false, intA c, .ptr 4 0 0, .ptr 5 1 0, intA (Int.ofNat i), intA (Int.ofNat j)] [(false, .box [intA 0, intA 0]), (false, .box [intA a, intA b])]] []] =
    (bif decide (Int.ofNat i < Int.ofNat es.length) then (.need (EntClosed [(false, .box [.v (.int .i64 0), .v (.int .i64 0)]), (false, .box [.v (.int .i64 a), .v (.int .i64 b)])] ∧ EntClosed [(false, .box [.v (.int .i64 0), .v (.int .i64 0)]), (false, .box [.v (.int .i64 a), .v (.int .i64 b)])] ∧ Says (CS T3) 2 43 false (.loop (loopOf (CS T3) 35 2)) (mkSt [0, 1, 4, 5, 6, 7] [4, 5] 43 [.rsl 1 es false, .v (.int .i64 c), .ptr 4 0 0, .ptr 5 1 0, .v (.int .i64 (Int.ofNat i)), .v (.int .i64 (Int.ofNat i))] [(false, .box [.v (.int .i64 0), .v (.int .i64 0)]), (false, .box [.v (.int .i64 a), .v (.int .i64 b)])]) (.exit 2) (mkSt [0, 1, 4, 5, 6, 7] [4, 5] 43 [.rsl 1 es false, .v (.int .i64 c), .ptr 4 0 0, .ptr 5 1 0, .v (.int .i64 (Int.ofNat i)), .v (.int .i64 (Int.ofNat j))] [(false, .box [.v (.int .i64 0), .v (.int .i64 0)]), (false, .box [.v (.int .i64 a), .v (.int .i64 b)])])) (bif decide (IntKind.i64.wrap (Int.ofNat j - Int.ofNat i) > IntKind.i64.wrap (b - a)) then (.need (EntClosed [(false, .box [.v (.int .i64 0), .v (.int .i64 0)]), (false, .box [.v (.int .i64 (Int.ofNat i)), .v (.int .i64 (Int.ofNat j))])]) (.done (some ((.nrm, [.rsl 1 es false, .v (.int .i64 c), .ptr 4 0 0, .ptr 5 1 0, .v (.int .i64 (IntKind.i64.wrap (Int.ofNat i + 1)))], [(false, .box [.v (.int .i64 0), .v (.int .i64 0)]), (false, .box [.v (.int .i64 (Int.ofNat i)), .v (.int .i64 (Int.ofNat j))])]))))) else (.need (EntClosed [(false, .box [.v (.int .i64 0), .v (.int .i64 0)]), (false, .box [.v (.int .i64 a), .v (.int .i64 b)])]) (.done (some ((.nrm, [.rsl 1 es false, .v (.int .i64 c), .ptr 4 0 0, .ptr 5 1 0, .v (.int .i64 (IntKind.i64.wrap (Int.ofNat i + 1)))], [(false, .box [.v (.int .i64 0), .v (.int .i64 0)]), (false, .box [.v (.int .i64 a), .v (.int .i64 b)])]))))))) else (.need (EntClosed [(false, .box [.v (.int .i64 0), .v (.int .i64 0)]), (false, .box [.v (.int .i64 a), .v (.int .i64 b)])]) (.done (some (((.exit 0), [.ptr 4 0 0, .ptr 5 1 0], [(false, .box [.v (.int .i64 0), .v (.int .i64 0)]), (false, .box [.v (.int .i64 a), .v (.int .i64 b)])])))))) := by kernel_rfl
set_option maxRecDepth 100000 in
theorem t35 (es : List AV) (c a b : Int) : evTreeD (CS T3) 60 35 [.rsl 1 es false, intA c] [.loop 0 [0, 1, 4, 5, 6] [4, 5] [4, 5] [4, 5] (.exit 0) [.ptr 4 0 0, .ptr 5 1 0] [(false, .box [intA 0, intA 0]), (false, .box [intA a, intA b])]] =
    (.need (EntClosed [(false, .box [.v (.int .i64 0), .v (.int .i64 0)]), (false, .box [.v (.int .i64 0), .v (.int .i64 0)])] ∧ EntClosed [(false, .box [.v (.int .i64 0), .v (.int .i64 0)]), (false, .box [.v (.int .i64 a), .v (.int .i64 b)])] ∧ Says (CS T3) 0 43 false (.loop (loopOf (CS T3) 35 0)) (mkSt [0, 1, 4, 5, 6] [4, 5] 43 [.rsl 1 es false, .v (.int .i64 c), .ptr 4 0 0, .ptr 5 1 0, .v (.int .i64 0)] [(false, .box [.v (.int .i64 0), .v (.int .i64 0)]), (false, .box [.v (.int .i64 0), .v (.int .i64 0)])]) (.exit 0) (mkSt [4, 5] [4, 5] 43 [.ptr 4 0 0, .ptr 5 1 0] [(false, .box [.v (.int .i64 0), .v (.int .i64 0)]), (false, .box [.v (.int .i64 a), .v (.int .i64 b)])])) (.done (some (.agg [.v (.int .i64 a), .v (.int .i64 b)])))) := by kernel_rfl
set_option maxRecDepth 100000 in
theorem r18b (es : List AV) (a b s x : Int) (n i : Nat) : roundD (CS T3) 60 0 18 0 43 43 false (loopOf (CS T3) 18 0) [3, 4, 7, 26, 27, 28] [3, 4] [3, 4, 7, 26, 27, 28] [3, 4] [3, 4, 7] [3, 4] [.ptr 3 0 0, .ptr 4 1 0, intA s, .rsl 1 es false, intA (Int.ofNat n), intA (Int.ofNat i)] [(false, .box [intA a, intA b]), (false, .box [intA 0, intA 0])] [.br [.chk [intA x]] []] =
    (bif decide (Int.ofNat i < Int.ofNat n) then (.need (es[i]? = (some (AV.v (.int .i64 x)))) (.need (EntClosed [(false, .box [.v (.int .i64 a), .v (.int .i64 b)]), (false, .box [.v (.int .i64 0), .v (.int .i64 0)])]) (.done (some ((.nrm, [.ptr 3 0 0, .ptr 4 1 0, .v (.int .i64 (IntKind.i64.wrap (s + x))), .rsl 1 es false, .v (.int .i64 (Int.ofNat n)), .v (.int .i64 (IntKind.i64.wrap (Int.ofNat i + 1)))], [(false, .box [.v (.int .i64 a), .v (.int .i64 b)]), (false, .box [.v (.int .i64 0), .v (.int .i64 0)])])))))) else (.need (EntClosed [(false, .box [.v (.int .i64 a), .v (.int .i64 b)]), (false, .box [.v (.int .i64 0), .v (.int .i64 0)])]) (.done (some (((.exit 0), [.ptr 3 0 0, .ptr 4 1 0, .v (.int .i64 s)], [(false, .box [.v (.int .i64 a), .v (.int .i64 b)]), (false, .box [.v (.int .i64 0), .v (.int .i64 0)])])))))) := by kernel_rfl
set_option maxRecDepth 100000 in
theorem t18 (es : List AV) (a b : Nat) (e w s : Int) (r : P2) : evTreeD (CS T3) 60 18 [.rsl 1 es false, .agg [intA (Int.ofNat a), intA (Int.ofNat b)]] [.sp [.rsl 1 es false] (intA e), .sp [.rsl 1 es false, .agg [intA (Int.ofNat a), intA (Int.ofNat b)]] (intA w), .br [] [.chk [], .loop 0 [3, 4, 7, 26, 27, 28] [3, 4] [3, 4, 7] [3, 4] (.exit 0) [.ptr 3 0 0, .ptr 4 1 0, intA s] [(false, .box [intA (Int.ofNat a), intA (Int.ofNat b)]), (false, .box [intA 0, intA 0])], .sp [intA s, intA (IntKind.i64.wrap (Int.ofNat b - Int.ofNat a))] (p2A r)]] =
    (.need (([.rsl 1 es false] : List AV) = ([.rsl 1 es false] : List AV) ∧ (Cx.spec (CS T3) 38 ([.rsl 1 es false] : List AV)) = (some (AV.v (.int .i64 e)))) (.need (([.rsl 1 es false, .agg [.v (.int .i64 (Int.ofNat a)), .v (.int .i64 (Int.ofNat b))]] : List AV) = ([.rsl 1 es false, .agg [.v (.int .i64 (Int.ofNat a)), .v (.int .i64 (Int.ofNat b))]] : List AV) ∧ (Cx.spec (CS T3) 96 ([.rsl 1 es false, .agg [.v (.int .i64 (Int.ofNat a)), .v (.int .i64 (Int.ofNat b))]] : List AV)) = (some (AV.v (.int .i64 w)))) (bif firstM [e, w] != 0 then (.done (some (.tup [.agg [.v (.int .i64 0), .v (.int .i64 0)], .v (.int .i64 (firstM [e, w]))]))) else (.need (a ≤ b ∧ b ≤ es.length) (.need (EntClosed [(false, .box [.v (.int .i64 (Int.ofNat a)), .v (.int .i64 (Int.ofNat b))]), (false, .box [.v (.int .i64 0), .v (.int .i64 0)])] ∧ EntClosed [(false, .box [.v (.int .i64 (Int.ofNat a)), .v (.int .i64 (Int.ofNat b))]), (false, .box [.v (.int .i64 0), .v (.int .i64 0)])] ∧ Says (CS T3) 0 43 false (.loop (loopOf (CS T3) 18 0)) (mkSt [3, 4, 7, 26, 27, 28] [3, 4] 43 [.ptr 3 0 0, .ptr 4 1 0, .v (.int .i64 0), .rsl 1 (List.take (b - a) (List.drop a es)) false, .v (.int .i64 (Int.ofNat (List.take (b - a) (List.drop a es)).length)), .v (.int .i64 0)] [(false, .box [.v (.int .i64 (Int.ofNat a)), .v (.int .i64 (Int.ofNat b))]), (false, .box [.v (.int .i64 0), .v (.int .i64 0)])]) (.exit 0) (mkSt [3, 4, 7] [3, 4] 43 [.ptr 3 0 0, .ptr 4 1 0, .v (.int .i64 s)] [(false, .box [.v (.int .i64 (Int.ofNat a)), .v (.int .i64 (Int.ofNat b))]), (false, .box [.v (.int .i64 0), .v (.int .i64 0)])])) (.need (([.v (.int .i64 s), .v (.int .i64 (IntKind.i64.wrap (Int.ofNat b - Int.ofNat a)))] : List AV) = ([.v (.int .i64 s), .v (.int .i64 (IntKind.i64.wrap (Int.ofNat b - Int.ofNat a)))] : List AV) ∧ (Cx.spec (CS T3) 97 ([.v (.int .i64 s), .v (.int .i64 (IntKind.i64.wrap (Int.ofNat b - Int.ofNat a)))] : List AV)) = (some (AV.agg [.v (.int .i64 r.fst), .v (.int .i64 r.snd)]))) (.done (some (.tup [.agg [.v (.int .i64 r.fst), .v (.int .i64 r.snd)], .v (.int .i64 0)]))))))))) := by kernel_rfl
set_option maxRecDepth 100000 in
theorem t18e (es : List AV) (a b e w : Int) : evTreeD (CS T3) 60 18 [.rsl 1 es false, .agg [intA a, intA b]] [.sp [.rsl 1 es false] (intA e), .sp [.rsl 1 es false, .agg [intA a, intA b]] (intA w), .br [] [.sp [] (intA 0)]] =
    (.need (([.rsl 1 es false] : List AV) = ([.rsl 1 es false] : List AV) ∧ (Cx.spec (CS T3) 38 ([.rsl 1 es false] : List AV)) = (some (AV.v (.int .i64 e)))) (.need (([.rsl 1 es false, .agg [.v (.int .i64 a), .v (.int .i64 b)]] : List AV) = ([.rsl 1 es false, .agg [.v (.int .i64 a), .v (.int .i64 b)]] : List AV) ∧ (Cx.spec (CS T3) 96 ([.rsl 1 es false, .agg [.v (.int .i64 a), .v (.int .i64 b)]] : List AV)) = (some (AV.v (.int .i64 w)))) (bif firstM [e, w] != 0 then (.done (some (.tup [.agg [.v (.int .i64 0), .v (.int .i64 0)], .v (.int .i64 (firstM [e, w]))]))) else (.done none)))) := by kernel_rfl
theorem specSer {l : List Int} (h : Nat.ble l.length lim = true) : seriesG [slA intC 1 l] = some (intA (seriesM l)) := by
  have h1 := sp1_at (A := listC intC 1) (F := fun l => bif Nat.ble l.length lim then some (intA (seriesM l)) else none) l
  rw [h] at h1; exact h1
def lvErr (l : List Int) (c : Int) : Int := firstM [seriesM l, unitM c]
theorem lvSer {l : List Int} {c : Int} (h : lvErr l c = 0) : Ser l ∧ -16384 ≤ c ∧ c ≤ 16384 := by
  unfold lvErr unitM at h
  rw [firstZ, firstZ, within_zero, seriesZ] at h
  exact ⟨h.1, h.2.1⟩
def tabM (l : List Int) (c : Int) : AV := bif lvErr l c != 0 then .tup [intA 0, intA (lvErr l c)] else .tup [intA (abvM l c), intA 0]
def tabG : List AV → Option AV := sp2 intsC intC fun l c => bif Nat.ble l.length lim then some (tabM l c) else none
theorem h31 : Holds 31 tabG := holds2 fun l c r hr => by
  cases hb : Nat.ble l.length lim with
  | false => simp [hb] at hr
  | true =>
    simp only [hb, cond_true, Option.some.injEq] at hr; subst hr
    have hl := limTwo (Nat.le_of_ble_eq_true hb)
    have e := e_len intA l
    have h := LoopRun.list (C := CS T3) (p := 0) (nt := 32) (rd := false) (c := loopOf (CS T3) 31 0) (step := fun _ x k => (.inl (abvS c k x) : Nat ⊕ Nat)) (fin := id)
      (enc := fun i k => mkSt [1, 7, 19, 20, 21] [] 32 [intA c, intA (Int.ofNat k), .rsl 1 (l.map intA) false, intA (Int.ofNat l.length), intA (Int.ofNat i)] []) (ex := fun _ => .exit 0) (out := fun k => mkSt [7] [] 32 [intA (Int.ofNat k)] []) (l := l) (fun i k => k ≤ i)
      (fun i x k hx hk => by
        have hi := lt_len hx
        refine ⟨T3_ok.rndN (r31b (l.map intA) c (Int.ofNat k) x l.length i) ?_, abvS_le c k x hk⟩
        rw [lt_of hi, wrap_ix hi hl, abvS_wrap (c := c) hk (by omega)]
        refine ⟨get_map _ hx, ?_⟩
        unfold abvS
        cases decide (x ≥ c) with
        | true => exact ⟨trivial, rfl⟩
        | false => exact ⟨trivial, rfl⟩)
      (fun k _ => ⟨T3_ok.rndX (r31b (l.map intA) c (Int.ofNat k) 0 l.length l.length) (by rw [lt_self]; exact ⟨trivial, rfl⟩), by simp⟩) l [] 0 rfl (Nat.le_refl 0)
    rw [goL_fold (fun _ k x => abvS c k x) id l _ 0 (fun _ _ _ _ => rfl)] at h
    refine T3_ok.tr (t31 (l.map intA) c (abvM l c) (seriesM l)) ⟨⟨rfl, specSer hb⟩, ?_⟩
    unfold tabM
    show (bif lvErr l c != 0 then _ else _ : Dt AV).ok _
    cases hq : lvErr l c != 0 with
    | true => rfl
    | false => rw [e]; exact ⟨⟨trivial, trivial, h.says⟩, rfl⟩
/-! ### The longest run -/
def longS2 (level : Int) (f : Nat) (i : Nat) (x : Int) (out : Sp) : Sp ⊕ (Bool × Sp) :=
  bif decide (x < level) then .inr (true, out) else .inl (bif decide (Int.ofNat (i + 1) > lenS out) then (Int.ofNat f, Int.ofNat (f + (i + 1))) else out)
theorem longS2_eq (level : Int) (f : Nat) : ∀ (r : List Int) (i : Nat) (out : Sp), (goL (longS2 level f) (fun s => (false, s)) i r out).2 = goL (longStep level f) id i r out
  | [], _, _ => rfl
  | x :: r, i, out => by
    rw [goL_cons, goL_cons]
    unfold longS2 longStep
    cases decide (x < level) with
    | true => rfl
    | false => exact longS2_eq level f r (i + 1) _
def SpIn (n : Nat) (s : Sp) : Prop := 0 ≤ s.1 ∧ s.1 ≤ s.2 ∧ s.2 ≤ Int.ofNat n
theorem SpIn.lenW {n : Nat} {s : Sp} (h : SpIn n s) (hn : n < two63) : IntKind.i64.wrap (s.2 - s.1) = lenS s := by
  obtain ⟨h1, h2, h3⟩ := h
  unfold two63 at hn
  simp only [Int.ofNat_eq_natCast] at h3
  exact wrap_in (by omega) (by omega)
theorem goL_inv {α σ τ : Type} {step : Nat → α → σ → σ ⊕ τ} {fin : σ → τ} (P : Nat → σ → Prop) (Q : τ → Prop) : ∀ (r : List α) (i : Nat) (s : σ), P i s →
    (∀ j x s, r[j]? = some x → P (i + j) s → match step (i + j) x s with | .inl s' => P (i + j + 1) s' | .inr t => Q t) → (∀ s, P (i + r.length) s → Q (fin s)) → Q (goL step fin i r s)
  | [], i, s, h, _, hf => hf s h
  | x :: r, i, s, h, hs, hf => by
    rw [goL_cons]
    have h0 := hs 0 x s rfl h
    cases hq : step i x s with
    | inr t => rw [show i + 0 = i from rfl, hq] at h0; exact h0
    | inl s' =>
      rw [show i + 0 = i from rfl, hq] at h0
      refine goL_inv P Q r (i + 1) s' h0 (fun j y s hy hp => ?_) (fun s hp => hf s ?_)
      · have := hs (j + 1) y s (by simpa using hy) (by rw [show i + (j + 1) = i + 1 + j by omega]; exact hp)
        rw [show i + (j + 1) = i + 1 + j by omega] at this
        exact this
      · rw [List.length_cons, show i + (r.length + 1) = i + 1 + r.length by omega]; exact hp
theorem longS2_in {level : Int} {n f : Nat} {r : List Int} {s : Sp} (h : SpIn n s) (hr : f + r.length ≤ n) : SpIn n (goL (longS2 level f) (fun s => (false, s)) 0 r s).2 := by
  refine goL_inv (fun _ (s : Sp) => SpIn n s) (fun (t : Bool × Sp) => SpIn n t.2) r 0 s h (fun j x s hj hp => ?_) (fun s hp => hp)
  have hlt := lt_len hj
  unfold longS2
  cases decide (x < level) with
  | true => exact hp
  | false =>
    show SpIn n (bif _ then _ else _)
    cases decide (Int.ofNat (0 + j + 1) > lenS s) with
    | true => exact ⟨by simp, by simp; omega, by simp; omega⟩
    | false => exact hp
theorem drop_get {α : Type} {l : List α} {f i : Nat} {x : α} (h : (l.drop f)[i]? = some x) : l[f + i]? = some x := by rwa [List.getElem?_drop] at h
theorem range_get {n i x : Nat} (h : (List.range n)[i]? = some x) : x = i ∧ i < n := by
  have hi := lt_len h
  rw [List.length_range] at hi
  rw [List.getElem?_range hi, Option.some.injEq] at h
  exact ⟨h.symm, hi⟩
abbrev lvVs (l : List Int) (c : Int) : List AV := [.rsl 1 (l.map intA) false, intA c, .ptr 4 0 0, .ptr 7 1 0]
abbrev lvBs (s : Sp) : List (Bool × Blk) := [(false, .box [intA 0, intA 0]), (false, .box [intA s.1, intA s.2])]
theorem long_in30 (l : List Int) (c : Int) (f : Nat) (hf : f < l.length) (hl : l.length < two63) (s : Sp) (hs : SpIn l.length s) :
    LoopRun (CS T3) 2 54 false (loopOf (CS T3) 30 2) (mkSt [0, 1, 4, 7, 8, 9, 21, 22] [4, 7] 54 (lvVs l c ++ [intA (Int.ofNat f), intA (Int.ofNat f), intA (Int.ofNat l.length), intA (Int.ofNat f)]) (lvBs s))
      (bif (goL (longS2 c f) (fun s => (false, s)) 0 (l.drop f) s).1 then .exit 1 else .exit 2)
      (mkSt [0, 1, 4, 7, 21, 22] [4, 7] 54 (lvVs l c ++ [intA (Int.ofNat l.length), intA (Int.ofNat f)]) (lvBs (goL (longS2 c f) (fun s => (false, s)) 0 (l.drop f) s).2)) := by
  have e := e_len intA l
  refine LoopRun.list (C := CS T3) (p := 2) (nt := 54) (rd := false) (c := loopOf (CS T3) 30 2) (step := longS2 c f) (fin := fun s => (false, s))
    (enc := fun i s => mkSt [0, 1, 4, 7, 8, 9, 21, 22] [4, 7] 54 (lvVs l c ++ [intA (Int.ofNat f), intA (Int.ofNat (f + i)), intA (Int.ofNat l.length), intA (Int.ofNat f)]) (lvBs s))
    (ex := fun t => bif t.1 then .exit 1 else .exit 2) (out := fun t => mkSt [0, 1, 4, 7, 21, 22] [4, 7] 54 (lvVs l c ++ [intA (Int.ofNat l.length), intA (Int.ofNat f)]) (lvBs t.2)) (l := l.drop f) (fun _ s => SpIn l.length s) ?_ ?_ (l.drop f) [] s rfl hs
  · intro i x s hx hs
    have h1 := drop_get hx
    have hi := lt_len h1
    have hw : IntKind.i64.wrap (Int.ofNat (f + i + 1) - Int.ofNat f) = Int.ofNat (i + 1) := by
      rw [sub_nat (by omega) (by omega)]; congr 1; omega
    have hr := r302 (l.map intA) c s.1 s.2 x l.length f f (f + i)
    rw [e, lt_of hi, wrap_ix hi hl, hw, hs.lenW hl] at hr
    unfold longS2
    cases hx1 : decide (x < c) with
    | true =>
      refine ⟨T3_ok.rndX hr ?_, by simp⟩
      rw [hx1]
      exact ⟨get_map _ h1, trivial, rfl⟩
    | false =>
      rw [hx1] at hr
      cases hg : decide (Int.ofNat (i + 1) > lenS s) with
      | true =>
        rw [hg] at hr
        exact ⟨T3_ok.rndN hr ⟨get_map _ h1, trivial, rfl⟩, by simp, by simp; omega, by simp; omega⟩
      | false =>
        rw [hg] at hr
        exact ⟨T3_ok.rndN hr ⟨get_map _ h1, trivial, rfl⟩, hs⟩
  · intro s hs
    have : f + (l.drop f).length = l.length := by simp; omega
    exact ⟨T3_ok.rndX (r302 (l.map intA) c s.1 s.2 0 l.length f f (f + (l.drop f).length)) (by rw [e, this, lt_self]; exact ⟨trivial, rfl⟩), by simp⟩
def lngM (l : List Int) (c : Int) : AV := bif lvErr l c != 0 then .tup [p2A (0, 0), intA (lvErr l c)] else .tup [p2A (longP l c), intA 0]
def lngG : List AV → Option AV := sp2 intsC intC fun l c => bif Nat.ble l.length lim then some (lngM l c) else none
theorem h30 : Holds 30 lngG := holds2 fun l c r hr => by
  cases hb : Nat.ble l.length lim with
  | false => simp [hb] at hr
  | true =>
    simp only [hb, cond_true, Option.some.injEq] at hr; subst hr
    have hl := limTwo (Nat.le_of_ble_eq_true hb)
    have e := e_len intA l
    have h := LoopRun.list (C := CS T3) (p := 0) (nt := 54) (rd := false) (c := loopOf (CS T3) 30 0) (step := fun _ f s => (.inl (goL (longS2 c f) (fun s => (false, s)) 0 (l.drop f) s).2 : Sp ⊕ Sp)) (fin := id)
      (enc := fun i s => mkSt [0, 1, 4, 7, 21, 22] [4, 7] 54 (lvVs l c ++ [intA (Int.ofNat l.length), intA (Int.ofNat i)]) (lvBs s)) (ex := fun _ => .exit 0) (out := fun s => mkSt [4, 7] [4, 7] 54 [.ptr 4 0 0, .ptr 7 1 0] (lvBs s)) (l := List.range l.length) (fun _ s => SpIn l.length s)
      (fun i f s hx hs => by
        obtain ⟨rfl, hi⟩ := range_get hx
        have hin := long_in30 l c f hi hl s hs
        refine ⟨?_, longS2_in hs (by simp; omega)⟩
        cases hq : (goL (longS2 c f) (fun s => (false, s)) 0 (l.drop f) s).1 with
        | true =>
          rw [hq] at hin
          refine T3_ok.rndN (r30a (l.map intA) c s.1 s.2 (goL (longS2 c f) (fun s => (false, s)) 0 (l.drop f) s).2.1 (goL (longS2 c f) (fun s => (false, s)) 0 (l.drop f) s).2.2 l.length f) ?_
          rw [lt_of hi, wrap_ix hi hl]
          exact ⟨⟨trivial, trivial, hin.says⟩, trivial, rfl⟩
        | false =>
          rw [hq] at hin
          refine T3_ok.rndN (r30b (l.map intA) c s.1 s.2 (goL (longS2 c f) (fun s => (false, s)) 0 (l.drop f) s).2.1 (goL (longS2 c f) (fun s => (false, s)) 0 (l.drop f) s).2.2 l.length f) ?_
          rw [lt_of hi, wrap_ix hi hl]
          exact ⟨⟨trivial, trivial, hin.says⟩, trivial, rfl⟩)
      (fun s _ => ⟨T3_ok.rndX (r30a (l.map intA) c s.1 s.2 0 0 l.length (List.range l.length).length) (by rw [List.length_range, lt_self]; exact ⟨trivial, rfl⟩), by simp⟩)
      (List.range l.length) [] (0, 0) rfl ⟨by simp, by simp, by simp⟩
    rw [goL_fold (fun _ s f => (goL (longS2 c f) (fun s => (false, s)) 0 (l.drop f) s).2) id _ _ _ (fun _ _ _ _ => rfl)] at h
    have hlp : (List.range l.length).foldl (fun s f => (goL (longS2 c f) (fun s => (false, s)) 0 (l.drop f) s).2) (0, 0) = longP l c := by
      unfold longP
      congr 1
      funext s f
      exact longS2_eq c f _ _ _
    rw [hlp] at h
    refine T3_ok.tr (t30 (l.map intA) c (seriesM l) (longP l c).1 (longP l c).2) ⟨⟨rfl, specSer hb⟩, ?_⟩
    unfold lngM
    show (bif lvErr l c != 0 then _ else _ : Dt AV).ok _
    cases hq : lvErr l c != 0 with
    | true => rfl
    | false => rw [e]; exact ⟨⟨trivial, trivial, h.says⟩, rfl⟩
/-! ### The reference's longest run -/
def runS (c : Int) (_ : Nat) (x : Int) (k : Nat) : Nat ⊕ Nat := bif decide (x ≥ c) then .inl (k + 1) else .inr k
theorem runS_eq (c : Int) : ∀ (r : List Int) (i k : Nat), goL (runS c) id i r k = k + runL c r
  | [], _, k => rfl
  | x :: r, i, k => by
    rw [goL_cons]
    unfold runS runL
    cases decide (x ≥ c) with
    | true => show goL (runS c) id (i + 1) r (k + 1) = _; rw [runS_eq c r]; simp only [cond_true]; omega
    | false => rfl
theorem runL_le (c : Int) : ∀ r : List Int, runL c r ≤ r.length
  | [] => Nat.le_refl 0
  | x :: r => by
    unfold runL
    have := runL_le c r
    cases decide (x ≥ c) with
    | true => simp; omega
    | false => simp
abbrev lrVs (l : List Int) (c : Int) : List AV := [.rsl 1 (l.map intA) false, intA c, .ptr 4 0 0, .ptr 5 1 0]
theorem long_in35 (l : List Int) (c : Int) (f : Nat) (hf : f < l.length) (hl : l.length < two63) (s : Sp) :
    LoopRun (CS T3) 2 43 false (loopOf (CS T3) 35 2) (mkSt [0, 1, 4, 5, 6, 7] [4, 5] 43 (lrVs l c ++ [intA (Int.ofNat f), intA (Int.ofNat f)]) (lvBs s)) (.exit 2)
      (mkSt [0, 1, 4, 5, 6, 7] [4, 5] 43 (lrVs l c ++ [intA (Int.ofNat f), intA (Int.ofNat (f + runL c (l.drop f)))]) (lvBs s)) := by
  have e := e_len intA l
  have h := LoopRun.list (C := CS T3) (p := 2) (nt := 43) (rd := false) (c := loopOf (CS T3) 35 2) (step := runS c) (fin := id)
    (enc := fun i k => mkSt [0, 1, 4, 5, 6, 7] [4, 5] 43 (lrVs l c ++ [intA (Int.ofNat f), intA (Int.ofNat (f + k))]) (lvBs s))
    (ex := fun _ => .exit 2) (out := fun k => mkSt [0, 1, 4, 5, 6, 7] [4, 5] 43 (lrVs l c ++ [intA (Int.ofNat f), intA (Int.ofNat (f + k))]) (lvBs s)) (l := l.drop f) (fun i k => k = i)
    (fun i x k hx hk => by
      subst hk
      have h1 := drop_get hx
      have hi := lt_len h1
      have hr := r352 (l.map intA) c s.1 s.2 x f (f + k)
      rw [e, lt_of hi, wrap_ix hi hl] at hr
      unfold runS
      cases hx1 : decide (x ≥ c) with
      | true =>
        rw [hx1] at hr
        exact ⟨T3_ok.rndN hr ⟨get_map _ h1, trivial, rfl⟩, rfl⟩
      | false =>
        rw [hx1] at hr
        exact ⟨T3_ok.rndX hr ⟨get_map _ h1, trivial, rfl⟩, by simp⟩)
    (fun k hk => by
      subst hk
      have : f + (l.drop f).length = l.length := by simp; omega
      exact ⟨T3_ok.rndX (r352 (l.map intA) c s.1 s.2 0 f (f + (l.drop f).length)) (by rw [e, show decide (Int.ofNat (f + (l.drop f).length) < Int.ofNat l.length) = false by rw [this]; exact lt_self _]; exact ⟨trivial, rfl⟩), by simp⟩)
    (l.drop f) [] 0 rfl rfl
  rw [runS_eq, Nat.zero_add] at h
  exact h
def lrnG : List AV → Option AV := sp2 intsC intC fun l c => bif Nat.ble l.length lim then some (p2A (longR l c)) else none
theorem h35 : Holds 35 lrnG := holds2 fun l c r hr => by
  cases hb : Nat.ble l.length lim with
  | false => simp [hb] at hr
  | true =>
    simp only [hb, cond_true, Option.some.injEq] at hr; subst hr
    have hl := limTwo (Nat.le_of_ble_eq_true hb)
    have e := e_len intA l
    have h := LoopRun.list (C := CS T3) (p := 0) (nt := 43) (rd := false) (c := loopOf (CS T3) 35 0) (step := fun _ f s => (.inl (bif decide (Int.ofNat (runL c (l.drop f)) > lenS s) then (Int.ofNat f, Int.ofNat (f + runL c (l.drop f))) else s) : Sp ⊕ Sp)) (fin := id)
      (enc := fun i s => mkSt [0, 1, 4, 5, 6] [4, 5] 43 (lrVs l c ++ [intA (Int.ofNat i)]) (lvBs s)) (ex := fun _ => .exit 0) (out := fun s => mkSt [4, 5] [4, 5] 43 [.ptr 4 0 0, .ptr 5 1 0] (lvBs s)) (l := List.range l.length) (fun _ s => SpIn l.length s)
      (fun i f s hx hs => by
        obtain ⟨rfl, hi⟩ := range_get hx
        have hin := long_in35 l c f hi hl s
        have hle := runL_le c (l.drop f)
        rw [List.length_drop] at hle
        have hr := r350 (l.map intA) c s.1 s.2 f (f + runL c (l.drop f))
        rw [e, lt_of hi, wrap_ix hi hl, sub_nat (by omega) (by omega), hs.lenW hl, show f + runL c (l.drop f) - f = runL c (l.drop f) by omega] at hr
        cases hg : decide (Int.ofNat (runL c (l.drop f)) > lenS s) with
        | true =>
          rw [hg] at hr
          exact ⟨T3_ok.rndN hr ⟨⟨trivial, trivial, hin.says⟩, trivial, rfl⟩, by simp, by simp; omega, by simp; omega⟩
        | false =>
          rw [hg] at hr
          exact ⟨T3_ok.rndN hr ⟨⟨trivial, trivial, hin.says⟩, trivial, rfl⟩, hs⟩)
      (fun s _ => ⟨T3_ok.rndX (r350 (l.map intA) c s.1 s.2 (List.range l.length).length 0) (by rw [e, List.length_range, lt_self]; exact ⟨trivial, rfl⟩), by simp⟩)
      (List.range l.length) [] (0, 0) rfl ⟨by simp, by simp, by simp⟩
    rw [goL_fold (fun _ s f => bif decide (Int.ofNat (runL c (l.drop f)) > lenS s) then (Int.ofNat f, Int.ofNat (f + runL c (l.drop f))) else s) id _ _ _ (fun _ _ _ _ => rfl)] at h
    exact T3_ok.tr (t35 (l.map intA) c (longR l c).1 (longR l c).2) ⟨⟨trivial, trivial, h.says⟩, rfl⟩
/-! ### The program's worth of a window -/
def pwtM (l : List Int) (s : P2) : AV := bif firstM [seriesM l, winErr (Int.ofNat l.length) s] != 0 then .tup [p2A (0, 0), intA (firstM [seriesM l, winErr (Int.ofNat l.length) s])] else .tup [p2A (wthM l (natOf s.1) (natOf s.2)), intA 0]
def pwtG : List AV → Option AV := sp2 intsC p2C fun l s => bif Nat.ble l.length lim then some (pwtM l s) else none
theorem specWin (l : List Int) (s : P2) : win96G [slA intC 1 l, p2A s] = some (intA (winErr (Int.ofNat l.length) s)) := sp2_at (A := intsC) (B := p2C) (F := fun l s => some (intA (winErr (Int.ofNat l.length) s))) l s
theorem specWorth {s n : Int} (h : worOk s n = true) : worthG [intA s, intA n] = some (p2A (worthM s n)) := by
  have h1 := sp2_at (A := intC) (B := intC) (F := fun s n => bif worOk s n then some (p2A (worthM s n)) else none) s n
  rw [h] at h1; exact h1
theorem h18 : Holds 18 pwtG := holds2 fun l s r hr => by
  cases hb : Nat.ble l.length lim with
  | false => simp [hb] at hr
  | true =>
    simp only [hb, cond_true, Option.some.injEq] at hr; subst hr
    unfold pwtM
    cases hq : firstM [seriesM l, winErr (Int.ofNat l.length) s] != 0 with
    | true => exact T3_ok.tr (t18e (l.map intA) s.1 s.2 (seriesM l) (winErr (Int.ofNat l.length) s)) ⟨⟨rfl, specSer hb⟩, ⟨rfl, specWin l s⟩, by rw [hq]; rfl⟩
    | false =>
      have h0 : firstM [seriesM l, winErr (Int.ofNat l.length) s] = 0 := by simpa using hq
      rw [firstZ, firstZ] at h0
      have hser := seriesZ.1 h0.1
      obtain ⟨a, b, rfl, hab⟩ := winZ h0.2.1
      have hl := hser.two
      have ew : ((l.map intA).drop a).take (b - a) = (winI l a b).map intA := by unfold winI; rw [List.map_take, List.map_drop]
      have h := LoopRun.list (C := CS T3) (p := 0) (nt := 43) (rd := false) (c := loopOf (CS T3) 18 0) (step := fun _ x s => (.inl (s + x) : Int ⊕ Int)) (fin := id)
        (enc := fun i s => mkSt [3, 4, 7, 26, 27, 28] [3, 4] 43 [.ptr 3 0 0, .ptr 4 1 0, intA s, .rsl 1 ((winI l a b).map intA) false, intA (Int.ofNat (winI l a b).length), intA (Int.ofNat i)] [(false, .box [intA (Int.ofNat a), intA (Int.ofNat b)]), (false, .box [intA 0, intA 0])])
        (ex := fun _ => .exit 0) (out := fun s => mkSt [3, 4, 7] [3, 4] 43 [.ptr 3 0 0, .ptr 4 1 0, intA s] [(false, .box [intA (Int.ofNat a), intA (Int.ofNat b)]), (false, .box [intA 0, intA 0])]) (l := winI l a b) (fun i s => -(16384 * (i : Int)) ≤ s ∧ s ≤ 16384 * (i : Int))
        (fun i x s hx hs => by
          obtain ⟨h1, h2⟩ := winI_get hx
          have hi := lt_len hx
          have h3 := hser.2.2 x (List.mem_of_getElem? h1)
          have h4 := hser.2.1
          have hlw := winI_len hab
          refine ⟨T3_ok.rndN (r18b ((winI l a b).map intA) (Int.ofNat a) (Int.ofNat b) s x (winI l a b).length i) ?_, by constructor <;> omega⟩
          rw [lt_of hi, wrap_ix hi (by omega), wrap_in (by omega) (by omega)]
          exact ⟨get_map _ hx, trivial, rfl⟩)
        (fun s _ => ⟨T3_ok.rndX (r18b ((winI l a b).map intA) (Int.ofNat a) (Int.ofNat b) s 0 (winI l a b).length (winI l a b).length) (by rw [lt_self]; exact ⟨trivial, rfl⟩), by simp⟩)
        (winI l a b) [] 0 rfl (by simp)
      rw [goL_fold (fun _ s x => s + x) id _ _ 0 (fun _ _ _ _ => rfl)] at h
      refine T3_ok.tr (t18 (l.map intA) a b (seriesM l) (winErr (Int.ofNat l.length) (Int.ofNat a, Int.ofNat b)) (sumM (winI l a b)) (wthM l a b)) ⟨⟨rfl, specSer hb⟩, ⟨rfl, specWin l (Int.ofNat a, Int.ofNat b)⟩, ?_⟩
      rw [hq, ew, e_len]
      refine ⟨⟨by omega, by simp; omega⟩, ⟨trivial, trivial, h.says⟩, ?_⟩
      rw [sub_nat (by omega) (by omega)]
      exact ⟨⟨rfl, specWorth (sumW hser hab)⟩, rfl⟩
def T4 : Specs := ((((T3.set 31 tabG).set 30 lngG).set 35 lrnG).set 18 pwtG)
theorem T4_ok : Ok T4 := ((((T3_ok.set h31).set h30).set h35).set h18)
end Go.Vm.S6
