/- Two series together. -/
import Derived.Test.YtbplbhcgcicgfaaGreatDoorS6T5
namespace Go.Vm.S6
open Go.Proofs Go.RowKit
set_option maxRecDepth 100000 in
theorem t32 (es : List AV) (k e m a b : Int) : evTreeD (CS T5) 60 32 [.rsl 1 es false, intA k] [.sp [.rsl 1 es false] (intA e), .br [] [.sp [.rsl 1 es false, intA k] (.tup [intA m, .agg [intA a, intA b]])]] =
    (.need (([.rsl 1 es false] : List AV) = ([.rsl 1 es false] : List AV) ∧ (Cx.spec (CS T5) 38 ([.rsl 1 es false] : List AV)) = (some (AV.v (.int .i64 e)))) (bif firstM [e, cntM k, whenM (decide (Int.ofNat es.length < k)) 16] != 0 then (.done (some (.tup [.v (.int .i64 0), .agg [.v (.int .i64 0), .v (.int .i64 0)], .v (.int .i64 (firstM [e, cntM k, whenM (decide (Int.ofNat es.length < k)) 16]))]))) else (.need (([.rsl 1 es false, .v (.int .i64 k)] : List AV) = ([.rsl 1 es false, .v (.int .i64 k)] : List AV) ∧ (Cx.spec (CS T5) 108 ([.rsl 1 es false, .v (.int .i64 k)] : List AV)) = (some (AV.tup [.v (.int .i64 m), .agg [.v (.int .i64 a), .v (.int .i64 b)]]))) (.done (some (.tup [.v (.int .i64 m), .agg [.v (.int .i64 a), .v (.int .i64 b)], .v (.int .i64 0)])))))) := by kernel_rfl
set_option maxRecDepth 100000 in
theorem r112 (es fs : List AV) (a b m f x y : Int) (n i : Nat) : roundD (CS T5) 60 0 112 0 46 46 false (loopOf (CS T5) 112 0) [0, 1, 5, 6, 8, 9, 13, 14] [5, 6] [0, 1, 5, 6, 8, 9, 13, 14] [5, 6] [5, 6, 8, 9] [5, 6] [.rsl 1 es false, .rsl 1 fs false, .ptr 5 0 0, .ptr 6 1 0, intA m, intA f, intA (Int.ofNat n), intA (Int.ofNat i)] [(false, .box [intA a, intA b]), (false, .box [intA 0, intA 0])] [.br [.chk [intA x], .skip, .chk [intA y], .skip] []] =
    (bif decide (Int.ofNat i < Int.ofNat n) then (.need (es[i]? = (some (AV.v (.int .i64 x)))) (.need (fs[i]? = (some (AV.v (.int .i64 y)))) (bif decide (IntKind.i64.wrap (IntKind.i64.wrap (x * b) + IntKind.i64.wrap (y * a)) > m) then (.need (EntClosed [(false, .box [.v (.int .i64 a), .v (.int .i64 b)]), (false, .box [.v (.int .i64 0), .v (.int .i64 0)])]) (.done (some ((.nrm, [.rsl 1 es false, .rsl 1 fs false, .ptr 5 0 0, .ptr 6 1 0, .v (.int .i64 (IntKind.i64.wrap (IntKind.i64.wrap (x * b) + IntKind.i64.wrap (y * a)))), .v (.int .i64 (Int.ofNat i)), .v (.int .i64 (Int.ofNat n)), .v (.int .i64 (IntKind.i64.wrap (Int.ofNat i + 1)))], [(false, .box [.v (.int .i64 a), .v (.int .i64 b)]), (false, .box [.v (.int .i64 0), .v (.int .i64 0)])]))))) else (.need (EntClosed [(false, .box [.v (.int .i64 a), .v (.int .i64 b)]), (false, .box [.v (.int .i64 0), .v (.int .i64 0)])]) (.done (some ((.nrm, [.rsl 1 es false, .rsl 1 fs false, .ptr 5 0 0, .ptr 6 1 0, .v (.int .i64 m), .v (.int .i64 f), .v (.int .i64 (Int.ofNat n)), .v (.int .i64 (IntKind.i64.wrap (Int.ofNat i + 1)))], [(false, .box [.v (.int .i64 a), .v (.int .i64 b)]), (false, .box [.v (.int .i64 0), .v (.int .i64 0)])])))))))) else (.need (EntClosed [(false, .box [.v (.int .i64 a), .v (.int .i64 b)]), (false, .box [.v (.int .i64 0), .v (.int .i64 0)])]) (.done (some (((.exit 0), [.ptr 5 0 0, .ptr 6 1 0, .v (.int .i64 m), .v (.int .i64 f)], [(false, .box [.v (.int .i64 a), .v (.int .i64 b)]), (false, .box [.v (.int .i64 0), .v (.int .i64 0)])])))))) := by kernel_rfl
set_option maxRecDepth 100000 in
theorem t112 (es fs : List AV) (a b m f : Int) (r : P2) : evTreeD (CS T5) 60 112 [.rsl 1 es false, .rsl 1 fs false, .agg [intA a, intA b]] [.loop 0 [0, 1, 5, 6, 8, 9, 13, 14] [5, 6] [5, 6, 8, 9] [5, 6] (.exit 0) [.ptr 5 0 0, .ptr 6 1 0, intA m, intA f] [(false, .box [intA a, intA b]), (false, .box [intA 0, intA 0])], .skip, .skip, .sp [intA m, intA (IntKind.i64.wrap (a * b))] (p2A r)] =
    (.need (EntClosed [(false, .box [.v (.int .i64 a), .v (.int .i64 b)]), (false, .box [.v (.int .i64 0), .v (.int .i64 0)])] ∧ EntClosed [(false, .box [.v (.int .i64 a), .v (.int .i64 b)]), (false, .box [.v (.int .i64 0), .v (.int .i64 0)])] ∧ Says (CS T5) 0 46 false (.loop (loopOf (CS T5) 112 0)) (mkSt [0, 1, 5, 6, 8, 9, 13, 14] [5, 6] 46 [.rsl 1 es false, .rsl 1 fs false, .ptr 5 0 0, .ptr 6 1 0, .v (.int .i64 (-1)), .v (.int .i64 0), .v (.int .i64 (Int.ofNat es.length)), .v (.int .i64 0)] [(false, .box [.v (.int .i64 a), .v (.int .i64 b)]), (false, .box [.v (.int .i64 0), .v (.int .i64 0)])]) (.exit 0) (mkSt [5, 6, 8, 9] [5, 6] 46 [.ptr 5 0 0, .ptr 6 1 0, .v (.int .i64 m), .v (.int .i64 f)] [(false, .box [.v (.int .i64 a), .v (.int .i64 b)]), (false, .box [.v (.int .i64 0), .v (.int .i64 0)])])) (.need (([.v (.int .i64 m), .v (.int .i64 (IntKind.i64.wrap (a * b)))] : List AV) = ([.v (.int .i64 m), .v (.int .i64 (IntKind.i64.wrap (a * b)))] : List AV) ∧ (Cx.spec (CS T5) 157 ([.v (.int .i64 m), .v (.int .i64 (IntKind.i64.wrap (a * b)))] : List AV)) = (some (AV.agg [.v (.int .i64 r.fst), .v (.int .i64 r.snd)]))) (.done (some (.tup [.agg [.v (.int .i64 r.fst), .v (.int .i64 r.snd)], .v (.int .i64 f)]))))) := by kernel_rfl
set_option maxRecDepth 100000 in
theorem r43 (es fs : List AV) (a b c d f x y : Int) (i : Nat) (r : P2) : roundD (CS T5) 60 0 43 0 43 43 false (loopOf (CS T5) 43 0) [0, 1, 5, 6, 8, 9, 10] [5, 6, 8] [0, 1, 5, 6, 8, 9, 10] [5, 6, 8] [6, 8, 9] [6, 8] [.rsl 1 es false, .rsl 1 fs false, .ptr 5 0 0, .ptr 6 1 0, .ptr 8 2 0, intA f, intA (Int.ofNat i)] [(false, .box [intA a, intA b]), (false, .box [intA 0, intA 0]), (false, .box [intA c, intA d])] [.br [.chk [intA x], .sp [intA x] (intA (absW x)), .chk [intA y], .sp [intA y] (intA (absW y)), .sp [intA (absW x), intA (absW y), .agg [intA a, intA b]] (p2A r)] []] =
    (bif decide (Int.ofNat i < Int.ofNat es.length) then (.need (es[i]? = (some (AV.v (.int .i64 x)))) (.need (([.v (.int .i64 x)] : List AV) = ([.v (.int .i64 x)] : List AV) ∧ (Cx.spec (CS T5) 117 ([.v (.int .i64 x)] : List AV)) = (some (AV.v (.int .i64 (absW x))))) (.need (fs[i]? = (some (AV.v (.int .i64 y)))) (.need (([.v (.int .i64 y)] : List AV) = ([.v (.int .i64 y)] : List AV) ∧ (Cx.spec (CS T5) 117 ([.v (.int .i64 y)] : List AV)) = (some (AV.v (.int .i64 (absW y))))) (.need (([.v (.int .i64 (absW x)), .v (.int .i64 (absW y)), .agg [.v (.int .i64 a), .v (.int .i64 b)]] : List AV) = ([.v (.int .i64 (absW x)), .v (.int .i64 (absW y)), .agg [.v (.int .i64 a), .v (.int .i64 b)]] : List AV) ∧ (Cx.spec (CS T5) 116 ([.v (.int .i64 (absW x)), .v (.int .i64 (absW y)), .agg [.v (.int .i64 a), .v (.int .i64 b)]] : List AV)) = (some (AV.agg [.v (.int .i64 r.fst), .v (.int .i64 r.snd)]))) (bif Int.ofNat i == 0 then (.need (EntClosed [(false, .box [.v (.int .i64 a), .v (.int .i64 b)]), (false, .box [.v (.int .i64 0), .v (.int .i64 0)]), (false, .box [.v (.int .i64 r.fst), .v (.int .i64 r.snd)])]) (.done (some ((.nrm, [.rsl 1 es false, .rsl 1 fs false, .ptr 5 0 0, .ptr 6 1 0, .ptr 8 2 0, .v (.int .i64 (Int.ofNat i)), .v (.int .i64 (IntKind.i64.wrap (Int.ofNat i + 1)))], [(false, .box [.v (.int .i64 a), .v (.int .i64 b)]), (false, .box [.v (.int .i64 0), .v (.int .i64 0)]), (false, .box [.v (.int .i64 r.fst), .v (.int .i64 r.snd)])]))))) else (bif decide (cmpW r (c, d) > 0) then (.need (EntClosed [(false, .box [.v (.int .i64 a), .v (.int .i64 b)]), (false, .box [.v (.int .i64 0), .v (.int .i64 0)]), (false, .box [.v (.int .i64 r.fst), .v (.int .i64 r.snd)])]) (.done (some ((.nrm, [.rsl 1 es false, .rsl 1 fs false, .ptr 5 0 0, .ptr 6 1 0, .ptr 8 2 0, .v (.int .i64 (Int.ofNat i)), .v (.int .i64 (IntKind.i64.wrap (Int.ofNat i + 1)))], [(false, .box [.v (.int .i64 a), .v (.int .i64 b)]), (false, .box [.v (.int .i64 0), .v (.int .i64 0)]), (false, .box [.v (.int .i64 r.fst), .v (.int .i64 r.snd)])]))))) else (.need (EntClosed [(false, .box [.v (.int .i64 a), .v (.int .i64 b)]), (false, .box [.v (.int .i64 0), .v (.int .i64 0)]), (false, .box [.v (.int .i64 c), .v (.int .i64 d)])]) (.done (some ((.nrm, [.rsl 1 es false, .rsl 1 fs false, .ptr 5 0 0, .ptr 6 1 0, .ptr 8 2 0, .v (.int .i64 f), .v (.int .i64 (IntKind.i64.wrap (Int.ofNat i + 1)))], [(false, .box [.v (.int .i64 a), .v (.int .i64 b)]), (false, .box [.v (.int .i64 0), .v (.int .i64 0)]), (false, .box [.v (.int .i64 c), .v (.int .i64 d)])])))))))))))) else (.need (EntClosed [(false, .box [.v (.int .i64 0), .v (.int .i64 0)]), (false, .box [.v (.int .i64 c), .v (.int .i64 d)])]) (.done (some (((.exit 0), [.ptr 6 0 0, .ptr 8 1 0, .v (.int .i64 f)], [(false, .box [.v (.int .i64 0), .v (.int .i64 0)]), (false, .box [.v (.int .i64 c), .v (.int .i64 d)])])))))) := by kernel_rfl
set_option maxRecDepth 100000 in
theorem t43 (es fs : List AV) (a b c d f : Int) : evTreeD (CS T5) 60 43 [.rsl 1 es false, .rsl 1 fs false, .agg [intA a, intA b]] [.loop 0 [0, 1, 5, 6, 8, 9, 10] [5, 6, 8] [6, 8, 9] [6, 8] (.exit 0) [.ptr 6 0 0, .ptr 8 1 0, intA f] [(false, .box [intA 0, intA 0]), (false, .box [intA c, intA d])]] =
    (.need (EntClosed [(false, .box [.v (.int .i64 a), .v (.int .i64 b)]), (false, .box [.v (.int .i64 0), .v (.int .i64 0)]), (false, .box [.v (.int .i64 0), .v (.int .i64 0)])] ∧ EntClosed [(false, .box [.v (.int .i64 0), .v (.int .i64 0)]), (false, .box [.v (.int .i64 c), .v (.int .i64 d)])] ∧ Says (CS T5) 0 43 false (.loop (loopOf (CS T5) 43 0)) (mkSt [0, 1, 5, 6, 8, 9, 10] [5, 6, 8] 43 [.rsl 1 es false, .rsl 1 fs false, .ptr 5 0 0, .ptr 6 1 0, .ptr 8 2 0, .v (.int .i64 0), .v (.int .i64 0)] [(false, .box [.v (.int .i64 a), .v (.int .i64 b)]), (false, .box [.v (.int .i64 0), .v (.int .i64 0)]), (false, .box [.v (.int .i64 0), .v (.int .i64 0)])]) (.exit 0) (mkSt [6, 8, 9] [6, 8] 43 [.ptr 6 0 0, .ptr 8 1 0, .v (.int .i64 f)] [(false, .box [.v (.int .i64 0), .v (.int .i64 0)]), (false, .box [.v (.int .i64 c), .v (.int .i64 d)])])) (.done (some (.tup [.agg [.v (.int .i64 c), .v (.int .i64 d)], .v (.int .i64 f)])))) := by kernel_rfl
set_option maxRecDepth 100000 in
theorem r44a (es fs : List AV) (k x y : Int) (i : Nat) : roundD (CS T5) 60 0 44 0 30 30 false (loopOf (CS T5) 44 0) [0, 1, 2, 7, 8] [] [0, 1, 2, 7, 8] [28] [7] [] [.rsl 1 es false, .rsl 1 fs false, intA k, nilS, intA (Int.ofNat i)] [] [.br [.chk [intA x], .chk [intA y]] []] =
    (bif decide (Int.ofNat i < Int.ofNat es.length) then (.need (es[i]? = (some (AV.v (.int .i64 x)))) (.need (fs[i]? = (some (AV.v (.int .i64 y)))) (.need (EntClosed [(false, .arr 1 [.v (.int .i64 (IntKind.i64.wrap (x - IntKind.i64.wrap (k * y))))] false)]) (.done (some ((.nrm, [.rsl 1 es false, .rsl 1 fs false, .v (.int .i64 k), .sl 28 0 1 0 1, .v (.int .i64 (IntKind.i64.wrap (Int.ofNat i + 1)))], [(false, .arr 1 [.v (.int .i64 (IntKind.i64.wrap (x - IntKind.i64.wrap (k * y))))] false)]))))))) else (.need (EntClosed []) (.done (some (((.exit 0), [.v (.slice none 0 0)], [])))))) := by kernel_rfl
set_option maxRecDepth 100000 in
theorem r44b (es fs rs : List AV) (k x y : Int) (i n : Nat) : roundD (CS T5) 60 0 44 0 30 30 false (loopOf (CS T5) 44 0) [0, 1, 2, 7, 8] [28] [0, 1, 2, 7, 8] [28] [7] [28] [.rsl 1 es false, .rsl 1 fs false, intA k, .sl 28 0 1 0 n, intA (Int.ofNat i)] [(false, .arr 1 rs false)] [.br [.chk [intA x], .chk [intA y], .ap rs] []] =
    (bif decide (Int.ofNat i < Int.ofNat es.length) then (.need (es[i]? = (some (AV.v (.int .i64 x)))) (.need (fs[i]? = (some (AV.v (.int .i64 y)))) (.need (n = rs.length ∧ true = true ∧ 1 = 1 ∧ (rs ++ ([.v (.int .i64 (IntKind.i64.wrap (x - IntKind.i64.wrap (k * y))))] : List AV)).length * 8 ≤ 35184372088832 ∧ (rs ++ ([.v (.int .i64 (IntKind.i64.wrap (x - IntKind.i64.wrap (k * y))))] : List AV)).length ≤ 35184372088832 ∧ 8 ≠ 0) (.need (EntClosed [(false, .arr 1 (rs ++ ([.v (.int .i64 (IntKind.i64.wrap (x - IntKind.i64.wrap (k * y))))] : List AV)) false)]) (.done (some ((.nrm, [.rsl 1 es false, .rsl 1 fs false, .v (.int .i64 k), .sl 28 0 1 0 ((rs ++ ([.v (.int .i64 (IntKind.i64.wrap (x - IntKind.i64.wrap (k * y))))] : List AV)).length), .v (.int .i64 (IntKind.i64.wrap (Int.ofNat i + 1)))], [(false, .arr 1 (rs ++ ([.v (.int .i64 (IntKind.i64.wrap (x - IntKind.i64.wrap (k * y))))] : List AV)) false)])))))))) else (.need (EntClosed [(false, .arr 1 rs false)]) (.done (some (((.exit 0), [.sl 28 0 1 0 n], [(false, .arr 1 rs false)])))))) := by kernel_rfl
set_option maxRecDepth 100000 in
theorem t44 (es fs rs : List AV) (k : Int) : evTreeD (CS T5) 60 44 [.rsl 1 es false, .rsl 1 fs false, intA k] [.loop 0 [0, 1, 2, 7, 8] [] [7] [] (.exit 0) [.rsl 1 rs false] []] =
    (.need (EntClosed [] ∧ EntClosed [] ∧ Says (CS T5) 0 30 false (.loop (loopOf (CS T5) 44 0)) (mkSt [0, 1, 2, 7, 8] [] 30 [.rsl 1 es false, .rsl 1 fs false, .v (.int .i64 k), .v (.slice none 0 0), .v (.int .i64 0)] []) (.exit 0) (mkSt [7] [] 30 [.rsl 1 rs false] [])) (.done (some (.rsl 1 rs false)))) := by kernel_rfl
set_option maxRecDepth 100000 in
theorem r40 (es rs : List AV) (k x y : Int) (i n : Nat) : roundD (CS T5) 60 0 40 0 53 53 false (loopOf (CS T5) 40 0) [1, 2, 9, 35, 36] [30] [1, 2, 9, 35, 36] [30] [9] [30] [.rsl 1 es false, intA k, .sl 30 0 1 0 n, intA (Int.ofNat n), intA (Int.ofNat i)] [(false, .arr 1 rs true)] [.br [.chk [], .ld (intA x), .chk [intA y], .chk [], .st (intA x)] []] =
    (bif decide (Int.ofNat i < Int.ofNat n) then (.need (i < n) (.need ((rs[0 + i]?) = (some (AV.v (.int .i64 x)))) (.need (es[i]? = (some (AV.v (.int .i64 y)))) (.need (i < n) (.need ((rs[0 + i]?) = (some (AV.v (.int .i64 x)))) (.need (EntClosed [(false, .arr 1 (rs.set ((0 + i)) (.v (.int .i64 (IntKind.i64.wrap (x - IntKind.i64.wrap (k * y)))))) true)]) (.done (some ((.nrm, [.rsl 1 es false, .v (.int .i64 k), .sl 30 0 1 0 n, .v (.int .i64 (Int.ofNat n)), .v (.int .i64 (IntKind.i64.wrap (Int.ofNat i + 1)))], [(false, .arr 1 (rs.set ((0 + i)) (.v (.int .i64 (IntKind.i64.wrap (x - IntKind.i64.wrap (k * y)))))) true)])))))))))) else (.need (EntClosed [(false, .arr 1 rs true)]) (.done (some (((.exit 0), [.sl 30 0 1 0 n], [(false, .arr 1 rs true)])))))) := by kernel_rfl
set_option maxRecDepth 100000 in
theorem t40 (es fs rs : List AV) (k e1 e2 : Int) : evTreeD (CS T5) 60 40 [.rsl 1 es false, .rsl 1 fs false, intA k] [.sp [.rsl 1 es false] (intA e1), .sp [.rsl 1 fs false] (intA e2), .br [] [.mk, .cp, .loop 0 [1, 2, 9, 35, 36] [30] [9] [] (.exit 0) [.rsl 1 rs false] []]] =
    (.need (([.rsl 1 es false] : List AV) = ([.rsl 1 es false] : List AV) ∧ (Cx.spec (CS T5) 38 ([.rsl 1 es false] : List AV)) = (some (AV.v (.int .i64 e1)))) (.need (([.rsl 1 fs false] : List AV) = ([.rsl 1 fs false] : List AV) ∧ (Cx.spec (CS T5) 38 ([.rsl 1 fs false] : List AV)) = (some (AV.v (.int .i64 e2)))) (bif firstM [e1, e2, whenM (Int.ofNat es.length != Int.ofNat fs.length) 2, withinM k (-1000) 1000] != 0 then (.done (some (.tup [.v (.slice none 0 0), .v (.int .i64 (firstM [e1, e2, whenM (Int.ofNat es.length != Int.ofNat fs.length) 2, withinM k (-1000) 1000]))]))) else (.need (es.length ≤ es.length ∧ es.length * 8 ≤ 35184372088832 ∧ es.length ≤ 35184372088832 ∧ 1 = 1 ∧ 1 ≠ 0) (.need ((allSz 1 es) = true ∧ es.length = (List.replicate es.length (.v (.int .i64 0) : AV)).length ∧ es.length = es.length) (.need (EntClosed [(false, .arr 1 es true)] ∧ EntClosed [] ∧ Says (CS T5) 0 53 false (.loop (loopOf (CS T5) 40 0)) (mkSt [1, 2, 9, 35, 36] [30] 53 [.rsl 1 fs false, .v (.int .i64 k), .sl 30 0 1 0 es.length, .v (.int .i64 (Int.ofNat es.length)), .v (.int .i64 0)] [(false, .arr 1 es true)]) (.exit 0) (mkSt [9] [] 53 [.rsl 1 rs false] [])) (.done (some (.tup [.rsl 1 rs false, .v (.int .i64 0)]))))))))) := by kernel_rfl
theorem specHeld {l : List Int} {k : Int} (h : heldOk l k = true) : hldG [slA intC 1 l, intA k] = some (hldM l k) := by
  have h1 := sp2_at (A := intsC) (B := intC) (F := fun l k => bif heldOk l k then some (hldM l k) else none) l k
  rw [h] at h1; exact h1
def hErr (l : List Int) (k : Int) : Int := firstM [seriesM l, cntM k, whenM (decide (Int.ofNat l.length < k)) 16]
theorem hErrZ {l : List Int} {k : Int} (h : hErr l k = 0) : heldOk l k = true := by
  unfold hErr cntM at h
  rw [firstZ, firstZ, firstZ, within_zero] at h
  have h1 := whenZ (by omega) h.2.2.1
  unfold heldOk
  rw [h.1]
  simp only [decide_eq_false_iff_not, Int.ofNat_eq_natCast] at h1
  simp; omega
def hdM (l : List Int) (k : Int) : AV := bif hErr l k != 0 then .tup [intA 0, p2A (0, 0), intA (hErr l k)] else .tup [intA (heldP l (natOf k)).1, p2A ((heldP l (natOf k)).2, (heldP l (natOf k)).2 + k), intA 0]
def hdG : List AV → Option AV := sp2 intsC intC fun l k => bif Nat.ble l.length lim then some (hdM l k) else none
theorem h32 : Holds 32 hdG := holds2 fun l k r hr => by
  cases hb : Nat.ble l.length lim with
  | false => simp [hb] at hr
  | true =>
    simp only [hb, cond_true, Option.some.injEq] at hr; subst hr
    refine T5_ok.tr (t32 (l.map intA) k (seriesM l) (heldP l (natOf k)).1 (heldP l (natOf k)).2 ((heldP l (natOf k)).2 + k)) ⟨⟨rfl, specSer hb⟩, ?_⟩
    rw [e_len]
    unfold hdM
    show (bif hErr l k != 0 then _ else _ : Dt AV).ok _
    cases hq : hErr l k != 0 with
    | true => rfl
    | false => exact ⟨⟨rfl, specHeld (hErrZ (by simpa using hq))⟩, rfl⟩
/-! ### Two series together -/
abbrev Prs : Type := List (Int × Int)
def numK (k : P2) (p : Int × Int) : Int := p.1 * k.2 + p.2 * k.1
def absP (p : Int × Int) : Int × Int := (absW p.1, absW p.2)
def Bnd (p : Int × Int) : Prop := (0 ≤ p.1 ∧ p.1 ≤ 16384) ∧ 0 ≤ p.2 ∧ p.2 ≤ 16384
def mostS (k : P2) (i : Nat) (p : Int × Int) (s : MI) : MI := bif decide (numK k p > s.1) then (numK k p, Int.ofNat i) else s
theorem mostS_eq (k : P2) : ∀ (zs : Prs) (i : Nat) (s : MI), goL (fun i p s => (.inl (mostS k i p s) : MI ⊕ MI)) id i zs s = mostP (zs.map (numK k)) i s
  | [], _, _ => rfl
  | p :: r, i, s => by
    rw [goL_cons, List.map_cons]
    exact mostS_eq k r (i + 1) _
theorem numB {k : P2} {p : Int × Int} (hk : limM k = 0) (hp : Bnd p) : (0 ≤ p.1 * k.2 ∧ p.1 * k.2 ≤ 16384000) ∧ 0 ≤ p.2 * k.1 ∧ p.2 * k.1 ≤ 16384000 := by
  rw [limZ] at hk
  exact ⟨mul_bd hp.1 ⟨by omega, hk.2.2⟩, mul_bd hp.2 ⟨by omega, hk.1.2⟩⟩
theorem numW {k : P2} {p : Int × Int} (hk : limM k = 0) (hp : Bnd p) : IntKind.i64.wrap (IntKind.i64.wrap (p.1 * k.2) + IntKind.i64.wrap (p.2 * k.1)) = numK k p := by
  have h := numB hk hp
  rw [wrap_in (n := p.1 * k.2) (by omega) (by omega), wrap_in (n := p.2 * k.1) (by omega) (by omega)]
  exact wrap_in (by omega) (by omega)
theorem numR {k : P2} {p : Int × Int} (hk : limM k = 0) (hp : Bnd p) : 0 ≤ numK k p ∧ numK k p ≤ 32768000 := by
  have h := numB hk hp
  unfold numK; omega
theorem prodK {k : P2} (hk : limM k = 0) : (1 ≤ k.1 * k.2 ∧ k.1 * k.2 ≤ 1000000) ∧ IntKind.i64.wrap (k.1 * k.2) = k.1 * k.2 := by
  rw [limZ] at hk
  have e3 := mul_bd (x := k.1) (y := k.2) ⟨by omega, hk.1.2⟩ ⟨by omega, hk.2.2⟩
  have e4 : 1 ≤ k.1 * k.2 := by have := Int.mul_le_mul hk.1.1 hk.2.1 (by omega) (by omega); omega
  exact ⟨⟨e4, by omega⟩, wrap_in (by omega) (by omega)⟩
def bndB (p : Int × Int) : Bool := decide (0 ≤ p.1) && (decide (p.1 ≤ 16384) && (decide (0 ≤ p.2) && decide (p.2 ≤ 16384)))
theorem bndB_iff {p : Int × Int} : bndB p = true ↔ Bnd p := by unfold bndB Bnd; simp; omega
def combOk (l m : List Int) (k : P2) : Bool := limM k == 0 && (l.length == m.length && (Nat.ble l.length 128 && (l.zip m).all bndB))
def combM (zs : Prs) (k : P2) : AV := .tup [p2A (lowM (mostP (zs.map (numK k)) 0 (-1, 0)).1 (k.1 * k.2)), intA (mostP (zs.map (numK k)) 0 (-1, 0)).2]
def combG : List AV → Option AV := sp3 intsC intsC p2C fun l m k => bif combOk l m k && !l.isEmpty then some (combM (l.zip m) k) else none
theorem mostP_in {b : Int} : ∀ (ns : List Int) (i : Nat) (s : MI), (∀ x ∈ ns, 0 ≤ x ∧ x ≤ b) → s.1 ≤ b → (mostP ns i s).1 ≤ b ∧ (s.1 ≤ (mostP ns i s).1)
  | [], _, s, _, h => ⟨h, Int.le_refl _⟩
  | x :: r, i, s, hx, h => by
    have h1 := hx x (by simp)
    show (mostP r (i + 1) (bif decide (x > s.1) then (x, Int.ofNat i) else s)).1 ≤ b ∧ s.1 ≤ (mostP r (i + 1) (bif decide (x > s.1) then (x, Int.ofNat i) else s)).1
    cases hg : decide (x > s.1) with
    | true =>
      have := mostP_in r (i + 1) (x, Int.ofNat i) (fun y hy => hx y (by simp [hy])) h1.2
      simp only [decide_eq_true_eq] at hg
      exact ⟨this.1, by have := this.2; simp only at this; simp only [cond_true]; omega⟩
    | false => exact mostP_in r (i + 1) s (fun y hy => hx y (by simp [hy])) h
theorem mostP_pos {b : Int} {x : Int} {r : List Int} {i : Nat} (h : ∀ y ∈ x :: r, 0 ≤ y ∧ y ≤ b) : 0 ≤ (mostP (x :: r) i (-1, 0)).1 ∧ (mostP (x :: r) i (-1, 0)).1 ≤ b := by
  have h1 := h x (by simp)
  have hg : decide (x > -1) = true := by simp; omega
  show 0 ≤ (mostP r (i + 1) (bif decide (x > -1) then (x, Int.ofNat i) else (-1, 0))).1 ∧ (mostP r (i + 1) (bif decide (x > -1) then (x, Int.ofNat i) else (-1, 0))).1 ≤ b
  rw [hg]
  have := mostP_in (b := b) r (i + 1) (x, Int.ofNat i) (fun y hy => h y (by simp [hy])) h1.2
  have h2 := this.2
  simp only at h2
  exact ⟨by simp only [cond_true]; omega, this.1⟩
theorem zlen {α β : Type} {l : List α} {m : List β} (h : l.length = m.length) : (l.zip m).length = l.length := by simp [h]
theorem combZ {l m : List Int} {k : P2} (h : combOk l m k = true) : limM k = 0 ∧ l.length = m.length ∧ l.length ≤ 128 ∧ ∀ p ∈ l.zip m, Bnd p := by
  unfold combOk at h
  simp only [Bool.and_eq_true, beq_iff_eq, List.all_eq_true] at h
  exact ⟨h.1, h.2.1, Nat.le_of_ble_eq_true h.2.2.1, fun p hp => bndB_iff.1 (h.2.2.2 p hp)⟩
theorem h112 : Holds 112 combG := holds3 fun l m k r hr => by
  cases hb : combOk l m k && !l.isEmpty with
  | false => simp [hb] at hr
  | true =>
    simp only [hb, cond_true, Option.some.injEq] at hr; subst hr
    rw [Bool.and_eq_true] at hb
    obtain ⟨hk, hlm, hl2, hbd⟩ := combZ hb.1
    have hzl := zlen hlm
    have h := LoopRun.list (C := CS T5) (p := 0) (nt := 46) (rd := false) (c := loopOf (CS T5) 112 0) (step := fun i p s => (.inl (mostS k i p s) : MI ⊕ MI)) (fin := id)
      (enc := fun i s => mkSt [0, 1, 5, 6, 8, 9, 13, 14] [5, 6] 46 [.rsl 1 (l.map intA) false, .rsl 1 (m.map intA) false, .ptr 5 0 0, .ptr 6 1 0, intA s.1, intA s.2, intA (Int.ofNat l.length), intA (Int.ofNat i)] [(false, .box [intA k.1, intA k.2]), (false, .box [intA 0, intA 0])])
      (ex := fun _ => .exit 0) (out := fun s => mkSt [5, 6, 8, 9] [5, 6] 46 [.ptr 5 0 0, .ptr 6 1 0, intA s.1, intA s.2] [(false, .box [intA k.1, intA k.2]), (false, .box [intA 0, intA 0])]) (l := l.zip m) (fun _ _ => True)
      (fun i p s hx _ => by
        have hi := lt_len hx
        rw [hzl] at hi
        obtain ⟨h1, h2⟩ := lt2 hx
        have hr := r112 (l.map intA) (m.map intA) k.1 k.2 s.1 s.2 p.1 p.2 l.length i
        rw [lt_of hi, wrap_ix hi (by unfold two63; omega), numW hk (hbd p (List.mem_of_getElem? hx))] at hr
        unfold mostS
        cases hg : decide (numK k p > s.1) with
        | true =>
          rw [hg] at hr
          exact ⟨T5_ok.rndN hr ⟨get_map _ h1, get_map _ h2, trivial, rfl⟩, trivial⟩
        | false =>
          rw [hg] at hr
          exact ⟨T5_ok.rndN hr ⟨get_map _ h1, get_map _ h2, trivial, rfl⟩, trivial⟩)
      (fun s _ => ⟨T5_ok.rndX (r112 (l.map intA) (m.map intA) k.1 k.2 s.1 s.2 0 0 l.length (l.zip m).length) (by rw [hzl, lt_self]; exact ⟨trivial, rfl⟩), by simp⟩)
      (l.zip m) [] (-1, 0) rfl trivial
    rw [show ([] : Prs).length = 0 from rfl, mostS_eq] at h
    have hmx : 0 ≤ (mostP ((l.zip m).map (numK k)) 0 (-1, 0)).1 ∧ (mostP ((l.zip m).map (numK k)) 0 (-1, 0)).1 ≤ 32768000 := by
      cases hz : l.zip m with
      | nil =>
        rw [hz] at hzl
        cases l with
        | nil => cases hb.2
        | cons => simp at hzl
      | cons p r =>
        rw [List.map_cons]
        refine mostP_pos (fun y hy => ?_)
        rw [← List.map_cons, ← hz, List.mem_map] at hy
        obtain ⟨q, hq, rfl⟩ := hy
        exact numR hk (hbd q hq)
    have hd := prodK hk
    refine T5_ok.tr (t112 (l.map intA) (m.map intA) k.1 k.2 (mostP ((l.zip m).map (numK k)) 0 (-1, 0)).1 (mostP ((l.zip m).map (numK k)) 0 (-1, 0)).2 (lowM (mostP ((l.zip m).map (numK k)) 0 (-1, 0)).1 (k.1 * k.2))) ⟨⟨trivial, trivial, ?_⟩, ?_⟩
    · rw [e_len]; exact h.says
    · rw [hd.2]
      exact ⟨⟨rfl, specLow (by unfold lowOk; simp only [Bool.and_eq_true, inN_iff, decide_eq_true_eq]; omega)⟩, rfl⟩
/-! ### The reference's -/
theorem absB {x : Int} (h : -16384 ≤ x ∧ x ≤ 16384) : 0 ≤ absW x ∧ absW x ≤ 16384 := by
  unfold absW
  rw [wrap_in (by omega) (by omega)]
  split <;> omega
def serZ (l m : List Int) (k : P2) : Bool := seriesM l == 0 && (seriesM m == 0 && (l.length == m.length && limM k == 0))
theorem serZ_iff {l m : List Int} {k : P2} : serZ l m k = true ↔ Ser l ∧ Ser m ∧ l.length = m.length ∧ limM k = 0 := by
  unfold serZ; simp [seriesZ]
theorem absBnd {l m : List Int} (hl : Ser l) (hm : Ser m) {p : Int × Int} (hp : p ∈ l.zip m) : Bnd (absP p) := by
  have h1 := List.of_mem_zip (show (p.1, p.2) ∈ l.zip m from hp)
  exact ⟨absB (hl.2.2 _ h1.1), absB (hm.2.2 _ h1.2)⟩
def ratS (k : P2) (i : Nat) (p : Int × Int) (s : Ra × Int) : Ra × Int := bif (Nat.beq i 0) || decide (cmpM (lowM (numK k (absP p)) (k.1 * k.2)) s.1 > 0) then (lowM (numK k (absP p)) (k.1 * k.2), Int.ofNat i) else s
theorem ratS_eq (k : P2) : ∀ (zs : Prs) (i : Nat) (s : Ra × Int), goL (fun i p s => (.inl (ratS k i p s) : (Ra × Int) ⊕ (Ra × Int))) id i zs s = ratP (k.1 * k.2) (zs.map fun p => numK k (absP p)) i s
  | [], _, _ => rfl
  | p :: r, i, s => by
    rw [goL_cons, List.map_cons]
    exact ratS_eq k r (i + 1) _
theorem lowM_bd {x d : Int} {b c : Int} (hx : 0 ≤ x ∧ x ≤ b) (hd : 1 ≤ d ∧ d ≤ c) : (0 ≤ (lowM x d).1 ∧ (lowM x d).1 ≤ b) ∧ 0 ≤ (lowM x d).2 ∧ (lowM x d).2 ≤ c := by
  unfold lowM
  have h1 := Int.ediv_nonneg hx.1 (show 0 ≤ (Int.gcd x d : Int) by omega)
  have h2 := Int.ediv_le_self (Int.gcd x d : Int) hx.1
  have h3 := Int.ediv_nonneg (show 0 ≤ d by omega) (show 0 ≤ (Int.gcd x d : Int) by omega)
  have h4 := Int.ediv_le_self (Int.gcd x d : Int) (show 0 ≤ d by omega)
  exact ⟨⟨h1, by omega⟩, h3, by omega⟩
theorem cmpW_eq {x y : P2} {b c : Int} (hx : (0 ≤ x.1 ∧ x.1 ≤ b) ∧ 0 ≤ x.2 ∧ x.2 ≤ c) (hy : (0 ≤ y.1 ∧ y.1 ≤ b) ∧ 0 ≤ y.2 ∧ y.2 ≤ c) (hbc : b * c ≤ 9000000000000000000) : cmpW x y = cmpM x y := by
  have h1 := mul_bd hx.1 hy.2
  have h2 := mul_bd hy.1 hx.2
  unfold cmpW cmpM cmpI
  rw [wrap_in (n := x.1 * y.2) (by omega) (by omega), wrap_in (n := y.1 * x.2) (by omega) (by omega)]
def RaIn (s : Ra × Int) : Prop := (0 ≤ s.1.1 ∧ s.1.1 ≤ 32768000) ∧ 0 ≤ s.1.2 ∧ s.1.2 ≤ 1000000
theorem specAbs (x : Int) : absG [intA x] = some (intA (absW x)) := sp1_at (A := intC) (F := fun n => some (intA (absW n))) x
theorem specSums {x y : Int} {k : P2} (h : sumsOk x y k = true) : sumsG [intA x, intA y, p2A k] = some (p2A (sumsM x y k)) := by
  have h1 := sp3_at (A := intC) (B := intC) (D := p2C) (F := fun x y k => bif sumsOk x y k then some (p2A (sumsM x y k)) else none) x y k
  rw [h] at h1; exact h1
def rcomM (l m : List Int) (k : P2) : AV := .tup [p2A (ratP (k.1 * k.2) ((l.zip m).map fun p => numK k (absP p)) 0 ((0, 0), 0)).1, intA (ratP (k.1 * k.2) ((l.zip m).map fun p => numK k (absP p)) 0 ((0, 0), 0)).2]
def rcomG : List AV → Option AV := sp3 intsC intsC p2C fun l m k => bif serZ l m k then some (rcomM l m k) else none
theorem i0 (i : Nat) : (Int.ofNat i == 0) = Nat.beq i 0 := by cases i <;> rfl
theorem h43 : Holds 43 rcomG := holds3 fun l m k r hr => by
  cases hb : serZ l m k with
  | false => simp [hb] at hr
  | true =>
    simp only [hb, cond_true, Option.some.injEq] at hr; subst hr
    obtain ⟨hsl, hsm, hlm, hk⟩ := serZ_iff.1 hb
    have hzl := zlen hlm
    have hl2 := hsl.2.1
    have e := e_len intA l
    have h := LoopRun.list (C := CS T5) (p := 0) (nt := 43) (rd := false) (c := loopOf (CS T5) 43 0) (step := fun i p s => (.inl (ratS k i p s) : (Ra × Int) ⊕ (Ra × Int))) (fin := id)
      (enc := fun i s => mkSt [0, 1, 5, 6, 8, 9, 10] [5, 6, 8] 43 [.rsl 1 (l.map intA) false, .rsl 1 (m.map intA) false, .ptr 5 0 0, .ptr 6 1 0, .ptr 8 2 0, intA s.2, intA (Int.ofNat i)] [(false, .box [intA k.1, intA k.2]), (false, .box [intA 0, intA 0]), (false, .box [intA s.1.1, intA s.1.2])])
      (ex := fun _ => .exit 0) (out := fun s => mkSt [6, 8, 9] [6, 8] 43 [.ptr 6 0 0, .ptr 8 1 0, intA s.2] [(false, .box [intA 0, intA 0]), (false, .box [intA s.1.1, intA s.1.2])]) (l := l.zip m) (fun _ s => RaIn s)
      (fun i p s hx hs => by
        have hi := lt_len hx
        rw [hzl] at hi
        obtain ⟨h1, h2⟩ := lt2 hx
        have hbp := absBnd hsl hsm (List.mem_of_getElem? hx)
        have hlw := lowM_bd (numR hk hbp) (prodK hk).1
        have hr := r43 (l.map intA) (m.map intA) k.1 k.2 s.1.1 s.1.2 s.2 p.1 p.2 i (lowM (numK k (absP p)) (k.1 * k.2))
        have hso : sumsOk (absW p.1) (absW p.2) k = true := by
          have h3 := hbp.1; have h4 := hbp.2
          simp only [absP] at h3 h4
          unfold sumsOk; simp only [Bool.and_eq_true, decide_eq_true_eq, beq_iff_eq]
          exact ⟨h3.1, by omega, h4.1, by omega, hk⟩
        rw [e, lt_of hi, wrap_ix hi (by unfold two63; omega), i0, cmpW_eq hlw hs (by omega)] at hr
        unfold ratS
        cases h0 : Nat.beq i 0 with
        | true =>
          rw [h0] at hr
          exact ⟨T5_ok.rndN hr ⟨get_map _ h1, ⟨rfl, specAbs _⟩, get_map _ h2, ⟨rfl, specAbs _⟩, ⟨rfl, specSums hso⟩, trivial, rfl⟩, hlw⟩
        | false =>
          rw [h0] at hr
          cases hg : decide (cmpM (lowM (numK k (absP p)) (k.1 * k.2)) s.1 > 0) with
          | true =>
            rw [show decide (cmpM (lowM (numK k (absP p)) (k.1 * k.2)) (s.1.1, s.1.2) > 0) = true from hg] at hr
            exact ⟨T5_ok.rndN hr ⟨get_map _ h1, ⟨rfl, specAbs _⟩, get_map _ h2, ⟨rfl, specAbs _⟩, ⟨rfl, specSums hso⟩, trivial, rfl⟩, hlw⟩
          | false =>
            rw [show decide (cmpM (lowM (numK k (absP p)) (k.1 * k.2)) (s.1.1, s.1.2) > 0) = false from hg] at hr
            exact ⟨T5_ok.rndN hr ⟨get_map _ h1, ⟨rfl, specAbs _⟩, get_map _ h2, ⟨rfl, specAbs _⟩, ⟨rfl, specSums hso⟩, trivial, rfl⟩, hs⟩)
      (fun s _ => ⟨T5_ok.rndX (r43 (l.map intA) (m.map intA) k.1 k.2 s.1.1 s.1.2 s.2 0 0 (l.zip m).length (0, 0)) (by rw [e, hzl, lt_self]; exact ⟨trivial, rfl⟩), by simp⟩)
      (l.zip m) [] ((0, 0), 0) rfl ⟨⟨by simp, by simp⟩, by simp, by simp⟩
    rw [show ([] : Prs).length = 0 from rfl, ratS_eq] at h
    exact T5_ok.tr (t43 (l.map intA) (m.map intA) k.1 k.2 _ _ _) ⟨⟨trivial, trivial, h.says⟩, rfl⟩
/-! ### Moments -/
def momW (k : Int) (p : Int × Int) : Int := IntKind.i64.wrap (p.1 - IntKind.i64.wrap (k * p.2))
def momOk (l m : List Int) : Bool := l.length == m.length && Nat.ble l.length lim
def momG : List AV → Option AV := sp3 intsC intsC intC fun l m k => bif momOk l m then some (slA intC 1 ((l.zip m).map (momW k))) else none
theorem h44 : Holds 44 momG := holds3 fun l m k r hr => by
  cases hb : momOk l m with
  | false => simp [hb] at hr
  | true =>
    simp only [hb, cond_true, Option.some.injEq] at hr; subst hr
    unfold momOk at hb
    simp only [Bool.and_eq_true, beq_iff_eq] at hb
    have hlm := hb.1
    have hle := Nat.le_of_ble_eq_true hb.2
    have hlim := limTwo hle
    have hzl := zlen hlm
    have e := e_len intA l
    have h := LoopRun.gather (C := CS T5) (p := 0) (nt := 30) (rd := false) (c := loopOf (CS T5) 44 0) (fun _ p => [momW k p]) 1 (by simp) (fun i (acc : List Int) => blSt 28 1 [0, 1, 2, 7, 8] 30 (fun a => [.rsl 1 (l.map intA) false, .rsl 1 (m.map intA) false, intA k, a, intA (Int.ofNat i)]) (acc.map intA)) (.exit 0)
      (fun acc => mkSt [7] [] 30 [.rsl 1 (acc.map intA) false] []) (l.zip m) (by simp)
      (fun i p acc hx hacc => by
        have hi := lt_len hx
        rw [hzl] at hi
        obtain ⟨h1, h2⟩ := lt2 hx
        have hlen : ((acc ++ [momW k p]).map intA).length ≤ 35184372088832 / 1024 := by simp; unfold lim at hle; omega
        have hw := wrap_ix hi hlim
        cases acc with
        | nil =>
          refine T5_ok.rndN (r44a (l.map intA) (m.map intA) k p.1 p.2 i) ?_
          rw [e, lt_of hi, hw]
          exact ⟨get_map _ h1, get_map _ h2, ⟨closedInt [momW k p], trivial⟩, rfl⟩
        | cons y ys =>
          have e2 : blSt 28 1 [0, 1, 2, 7, 8] 30 (fun a => [.rsl 1 (l.map intA) false, .rsl 1 (m.map intA) false, intA k, a, intA (Int.ofNat (i + 1))]) (((y :: ys) ++ [momW k p]).map intA) = mkSt [0, 1, 2, 7, 8] [28] 30 [.rsl 1 (l.map intA) false, .rsl 1 (m.map intA) false, intA k, .sl 28 0 1 0 ((y :: ys).map intA ++ [intA (momW k p)]).length, intA (Int.ofNat (i + 1))] [(false, .arr 1 ((y :: ys).map intA ++ [intA (momW k p)]) false)] := by
            rw [show ((y :: ys) ++ [momW k p]).map intA = (y :: ys).map intA ++ [intA (momW k p)] by simp]; rfl
          rw [e2]
          refine T5_ok.rndN (r44b (l.map intA) (m.map intA) ((y :: ys).map intA) k p.1 p.2 i ((y :: ys).map intA).length) ?_
          rw [e, lt_of hi, hw]
          rw [show ((y :: ys) ++ [momW k p]).map intA = (y :: ys).map intA ++ [intA (momW k p)] by simp] at hlen
          exact ⟨get_map _ h1, get_map _ h2, ⟨rfl, rfl, rfl, by change (List.map intA (y :: ys) ++ [intA (momW k p)]).length * 8 ≤ _; omega, by change (List.map intA (y :: ys) ++ [intA (momW k p)]).length ≤ _; omega, by omega⟩, ⟨(closedInt (y :: ys)).append (closedInt [momW k p]), trivial⟩, rfl⟩)
      (fun acc _ => by
        refine Says.blEnd (key := 28) ?_ (closedInt acc)
        cases acc with
        | nil => exact T5_ok.rndX (r44a (l.map intA) (m.map intA) k 0 0 (l.zip m).length) (by rw [e, hzl, lt_self]; exact ⟨trivial, rfl⟩)
        | cons y ys => exact T5_ok.rndX (r44b (l.map intA) (m.map intA) ((y :: ys).map intA) k 0 0 (l.zip m).length ((y :: ys).map intA).length) (by rw [e, hzl, lt_self]; exact ⟨⟨closedInt (y :: ys), trivial⟩, rfl⟩))
    rw [gath_map] at h
    exact T5_ok.tr (t44 (l.map intA) (m.map intA) (((l.zip m).map (momW k)).map intA) k) ⟨⟨trivial, trivial, h.says⟩, rfl⟩
/-- What is written so far. -/
def curM (l m : List Int) (k : Int) (i : Nat) : List Int := ((l.zip m).take i).map (momW k) ++ l.drop i
theorem cur_set {l m : List Int} {k : Int} {i : Nat} {p : Int × Int} (h : (l.zip m)[i]? = some p) : (curM l m k i).set i (momW k p) = curM l m k (i + 1) ∧ (curM l m k i)[i]? = some p.1 := by
  obtain ⟨h1, h2⟩ := lt2 h
  have hi := lt_len h
  have hl := lt_len h1
  have hlen : (((l.zip m).take i).map (momW k)).length = i := by rw [List.length_map, List.length_take]; omega
  unfold curM
  constructor
  · have hd : l.drop i = p.1 :: l.drop (i + 1) := by
      rw [List.drop_eq_getElem_cons hl]
      congr 1
      exact Option.some.inj ((List.getElem?_eq_getElem hl).symm.trans h1)
    rw [hd, List.set_append_right _ _ (by omega), hlen, Nat.sub_self, List.take_add_one, h, List.map_append]
    simp
  · rw [List.getElem?_append_right (by omega), hlen, Nat.sub_self, List.getElem?_drop, Nat.add_zero, h1]
def momErr (l m : List Int) (k : Int) : Int := firstM [seriesM l, seriesM m, whenM (Int.ofNat l.length != Int.ofNat m.length) 2, withinM k (-1000) 1000]
def pmoM (l m : List Int) (k : Int) : AV := bif momErr l m k != 0 then .tup [slA intC 1 [], intA (momErr l m k)] else .tup [slA intC 1 ((l.zip m).map (momW k)), intA 0]
def pmoG : List AV → Option AV := sp3 intsC intsC intC fun l m k => bif Nat.ble l.length lim && Nat.ble m.length lim then some (pmoM l m k) else none
theorem allSzI (l : List Int) : allSz 1 (l.map intA) = true := allSz_map (fun _ => rfl) l
theorem whenLen {a b : Nat} {e : Int} (he : e ≠ 0) (h : whenM (Int.ofNat a != Int.ofNat b) e = 0) : a = b := by
  have := whenZ he h
  simp at this
  exact_mod_cast this
theorem h40 : Holds 40 pmoG := holds3 fun l m k r hr => by
  cases hb : Nat.ble l.length lim && Nat.ble m.length lim with
  | false => simp [hb] at hr
  | true =>
    simp only [hb, cond_true, Option.some.injEq] at hr; subst hr
    rw [Bool.and_eq_true] at hb
    have e1 := e_len intA l
    have e2 := e_len intA m
    have hn : (l.map intA).length = l.length := List.length_map intA
    unfold pmoM
    cases hq : momErr l m k != 0 with
    | true =>
      have hq' := hq
      unfold momErr at hq'
      refine T5_ok.trW (t40 (l.map intA) (m.map intA) [] k (seriesM l) (seriesM m)) ⟨⟨rfl, specSer hb.1⟩, ⟨rfl, specSer hb.2⟩, by rw [e1, e2, hq']; rfl⟩ Weak.tupNil
    | false =>
      have hq' := hq
      unfold momErr at hq'
      have h0 : momErr l m k = 0 := by simpa using hq
      unfold momErr at h0
      rw [firstZ, firstZ, firstZ] at h0
      have hsl := seriesZ.1 h0.1
      have hlm := whenLen (by omega) h0.2.2.1
      have hl2 := hsl.2.1
      have hzl := zlen hlm
      have h := LoopRun.list (C := CS T5) (p := 0) (nt := 53) (rd := false) (c := loopOf (CS T5) 40 0) (step := fun _ _ _ => (.inl () : Unit ⊕ Unit)) (fin := id)
        (enc := fun i _ => mkSt [1, 2, 9, 35, 36] [30] 53 [.rsl 1 (m.map intA) false, intA k, .sl 30 0 1 0 l.length, intA (Int.ofNat l.length), intA (Int.ofNat i)] [(false, .arr 1 ((curM l m k i).map intA) true)])
        (ex := fun _ => .exit 0) (out := fun _ => mkSt [9] [] 53 [.rsl 1 ((curM l m k (l.zip m).length).map intA) false] []) (l := l.zip m) (fun _ _ => True)
        (fun i p _ hx _ => by
          have hi := lt_len hx
          rw [hzl] at hi
          obtain ⟨h1, h2⟩ := lt2 hx
          obtain ⟨h3, h4⟩ := cur_set (k := k) hx
          have hr := r40 (m.map intA) ((curM l m k i).map intA) k p.1 p.2 i l.length
          rw [lt_of hi, wrap_ix hi (by unfold two63; omega), Nat.zero_add] at hr
          have es : ((curM l m k i).map intA).set i (.v (.int .i64 (IntKind.i64.wrap (p.1 - IntKind.i64.wrap (k * p.2))))) = (curM l m k (i + 1)).map intA := by rw [← h3, List.map_set]; rfl
          rw [es] at hr
          exact ⟨T5_ok.rndN hr ⟨hi, get_map _ h4, get_map _ h2, hi, get_map _ h4, ⟨closedInt _, trivial⟩, rfl⟩, trivial⟩)
        (fun _ _ => ⟨Says.freezeSl (key := 30) (T5_ok.rndX (vs1 := [.sl 30 0 1 0 l.length]) (es1 := [(false, .arr 1 ((curM l m k (l.zip m).length).map intA) true)]) (r40 (m.map intA) ((curM l m k (l.zip m).length).map intA) k 0 0 (l.zip m).length l.length) (by rw [hzl, lt_self]; exact ⟨⟨closedInt _, trivial⟩, rfl⟩)) (closedInt _) (.cons (FzV.sl (by
          rw [List.length_map]; unfold curM; simp [hzl])) .nil), by simp⟩)
        (l.zip m) [] () rfl trivial
      have hc0 : curM l m k 0 = l := by unfold curM; simp
      have hcn : curM l m k (l.zip m).length = (l.zip m).map (momW k) := by unfold curM; rw [hzl, ← hzl, List.take_length, hzl, List.drop_length, List.append_nil]
      rw [hcn] at h
      rw [show ([] : Prs).length = 0 from rfl, hc0] at h
      refine T5_ok.tr (t40 (l.map intA) (m.map intA) (((l.zip m).map (momW k)).map intA) k (seriesM l) (seriesM m)) ⟨⟨rfl, specSer hb.1⟩, ⟨rfl, specSer hb.2⟩, ?_⟩
      rw [e1, e2, hq', hn]
      exact ⟨⟨by omega, by omega, by omega, rfl, by omega⟩, ⟨allSzI l, by rw [List.length_replicate], rfl⟩, ⟨⟨closedInt l, trivial⟩, trivial, h.says⟩, rfl⟩
def T6 : Specs := ((((T5.set 32 hdG).set 112 combG).set 43 rcomG).set 44 momG).set 40 pmoG
theorem T6_ok : Ok T6 := ((((T5_ok.set h32).set h112).set h43).set h44).set h40
end Go.Vm.S6
