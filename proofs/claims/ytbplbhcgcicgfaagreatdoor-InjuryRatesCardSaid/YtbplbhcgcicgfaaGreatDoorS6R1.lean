/- Several series; viscous. -/
import Derived.Test.YtbplbhcgcicgfaaGreatDoorS6B2
import Derived.Test.YtbplbhcgcicgfaaGreatDoorS6M1
namespace Go.Vm.S6
open Go.Proofs Go.RowKit
set_option maxRecDepth 100000 in
theorem r47a (es xs : List AV) (n i : Nat) : roundD (CS B2) 60 0 47 0 19 19 false (loopOf (CS B2) 47 0) [3, 6, 7, 8] [] [3, 6, 7, 8] [16] [3] [] [nilS, .rsl 1 es false, intA (Int.ofNat n), intA (Int.ofNat i)] [] [.br [.chk [.rsl 1 xs false], .sp [.rsl 1 xs false] (.rsl 1 xs false)] []] =
    (bif decide (Int.ofNat i < Int.ofNat n) then (.need (es[i]? = (some (AV.rsl 1 xs false))) (.need (([.rsl 1 xs false] : List AV) = ([.rsl 1 xs false] : List AV) ∧ (Cx.spec (CS B2) 19 ([.rsl 1 xs false] : List AV)) = (some (AV.rsl 1 xs false))) (.need (EntClosed [(false, .arr 1 [.rsl 1 xs false] false)]) (.done (some ((.nrm, [.sl 16 0 1 0 1, .rsl 1 es false, .v (.int .i64 (Int.ofNat n)), .v (.int .i64 (IntKind.i64.wrap (Int.ofNat i + 1)))], [(false, .arr 1 [.rsl 1 xs false] false)]))))))) else (.need (EntClosed []) (.done (some (((.exit 0), [.v (.slice none 0 0)], [])))))) := by kernel_rfl
set_option maxRecDepth 100000 in
theorem r47b (es rs xs : List AV) (n i k : Nat) : roundD (CS B2) 60 0 47 0 19 19 false (loopOf (CS B2) 47 0) [3, 6, 7, 8] [16] [3, 6, 7, 8] [16] [3] [16] [.sl 16 0 1 0 k, .rsl 1 es false, intA (Int.ofNat n), intA (Int.ofNat i)] [(false, .arr 1 rs false)] [.br [.chk [.rsl 1 xs false], .sp [.rsl 1 xs false] (.rsl 1 xs false), .chk rs] []] =
    (bif decide (Int.ofNat i < Int.ofNat n) then (.need (es[i]? = (some (AV.rsl 1 xs false))) (.need (([.rsl 1 xs false] : List AV) = ([.rsl 1 xs false] : List AV) ∧ (Cx.spec (CS B2) 19 ([.rsl 1 xs false] : List AV)) = (some (AV.rsl 1 xs false))) (.need (k = rs.length ∧ true = true ∧ 1 = 1 ∧ (rs ++ ([.rsl 1 xs false] : List AV)).length * 24 ≤ 35184372088832 ∧ (rs ++ ([.rsl 1 xs false] : List AV)).length ≤ 35184372088832 ∧ 24 ≠ 0) (.need (EntClosed [(false, .arr 1 (rs ++ ([.rsl 1 xs false] : List AV)) false)]) (.done (some ((.nrm, [.sl 16 0 1 0 ((rs ++ ([.rsl 1 xs false] : List AV)).length), .rsl 1 es false, .v (.int .i64 (Int.ofNat n)), .v (.int .i64 (IntKind.i64.wrap (Int.ofNat i + 1)))], [(false, .arr 1 (rs ++ ([.rsl 1 xs false] : List AV)) false)])))))))) else (.need (EntClosed [(false, .arr 1 rs false)]) (.done (some (((.exit 0), [.sl 16 0 1 0 k], [(false, .arr 1 rs false)])))))) := by kernel_rfl
set_option maxRecDepth 100000 in
theorem t47 (es rs : List AV) : evTreeD (CS B2) 60 47 [.rsl 1 es false] [.loop 0 [3, 6, 7, 8] [] [3] [] (.exit 0) [.rsl 1 rs false] []] =
    (.need (EntClosed [] ∧ EntClosed [] ∧ Says (CS B2) 0 19 false (.loop (loopOf (CS B2) 47 0)) (mkSt [3, 6, 7, 8] [] 19 [.v (.slice none 0 0), .rsl 1 es false, .v (.int .i64 (Int.ofNat es.length)), .v (.int .i64 0)] []) (.exit 0) (mkSt [3] [] 19 [.rsl 1 rs false] [])) (.done (some (.rsl 1 rs false)))) := by kernel_rfl
set_option maxRecDepth 100000 in
theorem r118a (es xs : List AV) (e : Int) (n i : Nat) : roundD (CS B2) 60 0 118 0 22 22 false (loopOf (CS B2) 118 0) [1, 5, 8, 9, 10] [] [1, 5, 8, 9, 10] [19] [5] [] (mapIn (fnV 38) nilS 1 es n i) [] [.br [.chk [.rsl 1 xs false], .sp [.rsl 1 xs false] (intA e)] []] =
    (bif decide (Int.ofNat i < Int.ofNat n) then (.need (es[i]? = (some (AV.rsl 1 xs false))) (.need (([.rsl 1 xs false] : List AV) = ([.rsl 1 xs false] : List AV) ∧ (Cx.spec (CS B2) 38 ([.rsl 1 xs false] : List AV)) = (some (AV.v (.int .i64 e)))) (.need (EntClosed [(false, .arr 1 [.v (.int .i64 e)] false)]) (.done (some ((.nrm, [.fn (Fn.func 38) [] [], .sl 19 0 1 0 1, .rsl 1 es false, .v (.int .i64 (Int.ofNat n)), .v (.int .i64 (IntKind.i64.wrap (Int.ofNat i + 1)))], [(false, .arr 1 [.v (.int .i64 e)] false)]))))))) else (.need (EntClosed []) (.done (some (((.exit 0), [.v (.slice none 0 0)], [])))))) := by kernel_rfl
set_option maxRecDepth 100000 in
theorem r118b (es rs xs : List AV) (e : Int) (n i k : Nat) : roundD (CS B2) 60 0 118 0 22 22 false (loopOf (CS B2) 118 0) [1, 5, 8, 9, 10] [19] [1, 5, 8, 9, 10] [19] [5] [19] (mapIn (fnV 38) (.sl 19 0 1 0 k) 1 es n i) [(false, .arr 1 rs false)] [.br [.chk [.rsl 1 xs false], .sp [.rsl 1 xs false] (intA e), .chk rs] []] =
    (bif decide (Int.ofNat i < Int.ofNat n) then (.need (es[i]? = (some (AV.rsl 1 xs false))) (.need (([.rsl 1 xs false] : List AV) = ([.rsl 1 xs false] : List AV) ∧ (Cx.spec (CS B2) 38 ([.rsl 1 xs false] : List AV)) = (some (AV.v (.int .i64 e)))) (.need (k = rs.length ∧ true = true ∧ 1 = 1 ∧ (rs ++ ([.v (.int .i64 e)] : List AV)).length * 8 ≤ 35184372088832 ∧ (rs ++ ([.v (.int .i64 e)] : List AV)).length ≤ 35184372088832 ∧ 8 ≠ 0) (.need (EntClosed [(false, .arr 1 (rs ++ ([.v (.int .i64 e)] : List AV)) false)]) (.done (some ((.nrm, [.fn (Fn.func 38) [] [], .sl 19 0 1 0 ((rs ++ ([.v (.int .i64 e)] : List AV)).length), .rsl 1 es false, .v (.int .i64 (Int.ofNat n)), .v (.int .i64 (IntKind.i64.wrap (Int.ofNat i + 1)))], [(false, .arr 1 (rs ++ ([.v (.int .i64 e)] : List AV)) false)])))))))) else (.need (EntClosed [(false, .arr 1 rs false)]) (.done (some (((.exit 0), [.sl 19 0 1 0 k], [(false, .arr 1 rs false)])))))) := by kernel_rfl
set_option maxRecDepth 100000 in
theorem t118 (es rs : List AV) : evTreeD (CS B2) 60 118 [.rsl 1 es false, fnV 38] [.loop 0 [1, 5, 8, 9, 10] [] [5] [] (.exit 0) [.rsl 1 rs false] []] =
    (.need (EntClosed [] ∧ EntClosed [] ∧ Says (CS B2) 0 22 false (.loop (loopOf (CS B2) 118 0)) (mkSt [1, 5, 8, 9, 10] [] 22 [.fn (Fn.func 38) [] [], .v (.slice none 0 0), .rsl 1 es false, .v (.int .i64 (Int.ofNat es.length)), .v (.int .i64 0)] []) (.exit 0) (mkSt [5] [] 22 [.rsl 1 rs false] [])) (.done (some (.rsl 1 rs false)))) := by kernel_rfl
set_option maxRecDepth 100000 in
theorem r48 (es xs : List AV) (e : Int) (i : Nat) : roundD (CS B2) 60 0 48 0 26 26 false (loopOf (CS B2) 48 0) [0, 4] [] [0, 4] [] [2] [] [.rsl 1 es false, intA (Int.ofNat i)] [] [.br [.chk [.rsl 1 xs false], .sp [.rsl 1 xs false] (intA e)] []] =
    (bif decide (Int.ofNat i < Int.ofNat es.length) then (.need (es[i]? = (some (AV.rsl 1 xs false))) (.need (([.rsl 1 xs false] : List AV) = ([.rsl 1 xs false] : List AV) ∧ (Cx.spec (CS B2) 22 ([.rsl 1 xs false] : List AV)) = (some (AV.v (.int .i64 e)))) (bif e != 0 then (.need (EntClosed []) (.done (some ((.ret, [.v (.int .i64 e)], []))))) else (.need (EntClosed []) (.done (some ((.nrm, [.rsl 1 es false, .v (.int .i64 (IntKind.i64.wrap (Int.ofNat i + 1)))], [])))))))) else (.need (EntClosed []) (.done (some (((.exit 0), [.bad], [])))))) := by kernel_rfl
set_option maxRecDepth 100000 in
theorem t48r (es : List AV) (x : Int) : evTreeD (CS B2) 60 48 [.rsl 1 es false] [.br [] [.loop 0 [0, 4] [] [2] [] .ret [intA x] []]] =
    (bif manyI (Int.ofNat es.length) 8 != 0 then (.done (some (.v (.int .i64 (manyI (Int.ofNat es.length) 8))))) else (.need (EntClosed [] ∧ EntClosed [] ∧ Says (CS B2) 0 26 false (.loop (loopOf (CS B2) 48 0)) (mkSt [0, 4] [] 26 [.rsl 1 es false, .v (.int .i64 0)] []) .ret (mkSt [2] [] 26 [.v (.int .i64 x)] [])) (.done (some (.v (.int .i64 x)))))) := by kernel_rfl
set_option maxRecDepth 100000 in
theorem t48e (es : List AV) : evTreeD (CS B2) 60 48 [.rsl 1 es false] [.br [] [.loop 0 [0, 4] [] [2] [] (.exit 0) [.bad] []]] =
    (bif manyI (Int.ofNat es.length) 8 != 0 then (.done (some (.v (.int .i64 (manyI (Int.ofNat es.length) 8))))) else (.need (EntClosed [] ∧ EntClosed [] ∧ Says (CS B2) 0 26 false (.loop (loopOf (CS B2) 48 0)) (mkSt [0, 4] [] 26 [.rsl 1 es false, .v (.int .i64 0)] []) (.exit 0) (mkSt [2] [] 26 [.bad] [])) (.done (some (.v (.int .i64 0)))))) := by kernel_rfl
set_option maxRecDepth 100000 in
theorem r49 (es xs : List AV) (lo hi m u d : Int) (st : BW) (i : Nat) : roundD (CS B2) 60 0 49 0 45 45 false (loopOf (CS B2) 49 0) [0, 3, 5, 7, 8, 9] [3, 5, 8] [0, 3, 5, 7, 8, 9] [3, 5, 8] [5, 7, 8] [5, 8] [.rsl 1 es false, .ptr 3 0 0, .ptr 5 1 0, intA m, .ptr 8 2 0, intA (Int.ofNat i)] [(false, .box [intA lo, intA hi]), (false, .box [intA 0, intA 0]), (false, .box [intA u, intA d])] [.br [.chk [.rsl 1 xs false], .sp [.rsl 1 xs false, .agg [intA lo, intA hi]] (rbwA st)] []] =
    (bif decide (Int.ofNat i < Int.ofNat es.length) then (.need (es[i]? = (some (AV.rsl 1 xs false))) (.need (([.rsl 1 xs false, .agg [.v (.int .i64 lo), .v (.int .i64 hi)]] : List AV) = ([.rsl 1 xs false, .agg [.v (.int .i64 lo), .v (.int .i64 hi)]] : List AV) ∧ (Cx.spec (CS B2) 28 ([.rsl 1 xs false, .agg [.v (.int .i64 lo), .v (.int .i64 hi)]] : List AV)) = (some (AV.tup [.agg [.v (.int .i64 st.snd.fst.fst), .v (.int .i64 st.snd.fst.snd)], .agg [.v (.int .i64 st.snd.snd.fst), .v (.int .i64 st.snd.snd.snd)], .v (.bool st.fst)]))) (bif !st.fst then (.need (EntClosed [(false, .box [.v (.int .i64 0), .v (.int .i64 0)]), (false, .box [.v (.int .i64 u), .v (.int .i64 d)])]) (.done (some ((.ret, [.ptr 5 0 0, .v (.int .i64 m), .ptr 8 1 0], [(false, .box [.v (.int .i64 0), .v (.int .i64 0)]), (false, .box [.v (.int .i64 u), .v (.int .i64 d)])]))))) else (bif Int.ofNat i == 0 then (.need (EntClosed [(false, .box [.v (.int .i64 lo), .v (.int .i64 hi)]), (false, .box [.v (.int .i64 0), .v (.int .i64 0)]), (false, .box [.v (.int .i64 st.snd.snd.fst), .v (.int .i64 st.snd.snd.snd)])]) (.done (some ((.nrm, [.rsl 1 es false, .ptr 3 0 0, .ptr 5 1 0, .v (.int .i64 (Int.ofNat i)), .ptr 8 2 0, .v (.int .i64 (IntKind.i64.wrap (Int.ofNat i + 1)))], [(false, .box [.v (.int .i64 lo), .v (.int .i64 hi)]), (false, .box [.v (.int .i64 0), .v (.int .i64 0)]), (false, .box [.v (.int .i64 st.snd.snd.fst), .v (.int .i64 st.snd.snd.snd)])]))))) else (bif decide (cmpW st.snd.snd (u, d) > 0) then (.need (EntClosed [(false, .box [.v (.int .i64 lo), .v (.int .i64 hi)]), (false, .box [.v (.int .i64 0), .v (.int .i64 0)]), (false, .box [.v (.int .i64 st.snd.snd.fst), .v (.int .i64 st.snd.snd.snd)])]) (.done (some ((.nrm, [.rsl 1 es false, .ptr 3 0 0, .ptr 5 1 0, .v (.int .i64 (Int.ofNat i)), .ptr 8 2 0, .v (.int .i64 (IntKind.i64.wrap (Int.ofNat i + 1)))], [(false, .box [.v (.int .i64 lo), .v (.int .i64 hi)]), (false, .box [.v (.int .i64 0), .v (.int .i64 0)]), (false, .box [.v (.int .i64 st.snd.snd.fst), .v (.int .i64 st.snd.snd.snd)])]))))) else (.need (EntClosed [(false, .box [.v (.int .i64 lo), .v (.int .i64 hi)]), (false, .box [.v (.int .i64 0), .v (.int .i64 0)]), (false, .box [.v (.int .i64 u), .v (.int .i64 d)])]) (.done (some ((.nrm, [.rsl 1 es false, .ptr 3 0 0, .ptr 5 1 0, .v (.int .i64 m), .ptr 8 2 0, .v (.int .i64 (IntKind.i64.wrap (Int.ofNat i + 1)))], [(false, .box [.v (.int .i64 lo), .v (.int .i64 hi)]), (false, .box [.v (.int .i64 0), .v (.int .i64 0)]), (false, .box [.v (.int .i64 u), .v (.int .i64 d)])])))))))))) else (.need (EntClosed [(false, .box [.v (.int .i64 0), .v (.int .i64 0)]), (false, .box [.v (.int .i64 u), .v (.int .i64 d)])]) (.done (some (((.exit 0), [.ptr 5 0 0, .v (.int .i64 m), .ptr 8 1 0], [(false, .box [.v (.int .i64 0), .v (.int .i64 0)]), (false, .box [.v (.int .i64 u), .v (.int .i64 d)])])))))) := by kernel_rfl
set_option maxRecDepth 100000 in
theorem r49r (es xs : List AV) (lo hi m u d : Int) (st : BW) (i : Nat) : roundD (CS B2) 60 0 49 0 45 45 false (loopOf (CS B2) 49 0) [0, 3, 5, 7, 8, 9] [3, 5, 8] [0, 3, 5, 7, 8, 9] [3, 5, 8] [4, 5, 6] [5] [.rsl 1 es false, .ptr 3 0 0, .ptr 5 1 0, intA m, .ptr 8 2 0, intA (Int.ofNat i)] [(false, .box [intA lo, intA hi]), (false, .box [intA 0, intA 0]), (false, .box [intA u, intA d])] [.br [.chk [.rsl 1 xs false], .sp [.rsl 1 xs false, .agg [intA lo, intA hi]] (rbwA st)] []] =
    (bif decide (Int.ofNat i < Int.ofNat es.length) then (.need (es[i]? = (some (AV.rsl 1 xs false))) (.need (([.rsl 1 xs false, .agg [.v (.int .i64 lo), .v (.int .i64 hi)]] : List AV) = ([.rsl 1 xs false, .agg [.v (.int .i64 lo), .v (.int .i64 hi)]] : List AV) ∧ (Cx.spec (CS B2) 28 ([.rsl 1 xs false, .agg [.v (.int .i64 lo), .v (.int .i64 hi)]] : List AV)) = (some (AV.tup [.agg [.v (.int .i64 st.snd.fst.fst), .v (.int .i64 st.snd.fst.snd)], .agg [.v (.int .i64 st.snd.snd.fst), .v (.int .i64 st.snd.snd.snd)], .v (.bool st.fst)]))) (bif !st.fst then (.need (EntClosed [(false, .box [.v (.int .i64 0), .v (.int .i64 0)])]) (.done (some ((.ret, [.v (.int .i64 0), .ptr 5 0 0, .v (.int .i64 16)], [(false, .box [.v (.int .i64 0), .v (.int .i64 0)])]))))) else (bif Int.ofNat i == 0 then (.need (EntClosed [(false, .box [.v (.int .i64 lo), .v (.int .i64 hi)]), (false, .box [.v (.int .i64 0), .v (.int .i64 0)]), (false, .box [.v (.int .i64 st.snd.snd.fst), .v (.int .i64 st.snd.snd.snd)])]) (.done (some ((.nrm, [.rsl 1 es false, .ptr 3 0 0, .ptr 5 1 0, .v (.int .i64 (Int.ofNat i)), .ptr 8 2 0, .v (.int .i64 (IntKind.i64.wrap (Int.ofNat i + 1)))], [(false, .box [.v (.int .i64 lo), .v (.int .i64 hi)]), (false, .box [.v (.int .i64 0), .v (.int .i64 0)]), (false, .box [.v (.int .i64 st.snd.snd.fst), .v (.int .i64 st.snd.snd.snd)])]))))) else (bif decide (cmpW st.snd.snd (u, d) > 0) then (.need (EntClosed [(false, .box [.v (.int .i64 lo), .v (.int .i64 hi)]), (false, .box [.v (.int .i64 0), .v (.int .i64 0)]), (false, .box [.v (.int .i64 st.snd.snd.fst), .v (.int .i64 st.snd.snd.snd)])]) (.done (some ((.nrm, [.rsl 1 es false, .ptr 3 0 0, .ptr 5 1 0, .v (.int .i64 (Int.ofNat i)), .ptr 8 2 0, .v (.int .i64 (IntKind.i64.wrap (Int.ofNat i + 1)))], [(false, .box [.v (.int .i64 lo), .v (.int .i64 hi)]), (false, .box [.v (.int .i64 0), .v (.int .i64 0)]), (false, .box [.v (.int .i64 st.snd.snd.fst), .v (.int .i64 st.snd.snd.snd)])]))))) else (.need (EntClosed [(false, .box [.v (.int .i64 lo), .v (.int .i64 hi)]), (false, .box [.v (.int .i64 0), .v (.int .i64 0)]), (false, .box [.v (.int .i64 u), .v (.int .i64 d)])]) (.done (some ((.nrm, [.rsl 1 es false, .ptr 3 0 0, .ptr 5 1 0, .v (.int .i64 m), .ptr 8 2 0, .v (.int .i64 (IntKind.i64.wrap (Int.ofNat i + 1)))], [(false, .box [.v (.int .i64 lo), .v (.int .i64 hi)]), (false, .box [.v (.int .i64 0), .v (.int .i64 0)]), (false, .box [.v (.int .i64 u), .v (.int .i64 d)])])))))))))) else (.need (EntClosed [(false, .box [.v (.int .i64 0), .v (.int .i64 0)])]) (.done (some (((.exit 0), [.bad, .ptr 5 0 0, .bad], [(false, .box [.v (.int .i64 0), .v (.int .i64 0)])])))))) := by kernel_rfl
set_option maxRecDepth 100000 in
theorem t49e (es : List AV) (lo hi m u d : Int) : evTreeD (CS B2) 60 49 [.rsl 1 es false, .agg [intA lo, intA hi]] [.loop 0 [0, 3, 5, 7, 8, 9] [3, 5, 8] [5, 7, 8] [5, 8] (.exit 0) [.ptr 5 0 0, intA m, .ptr 8 1 0] [(false, .box [intA 0, intA 0]), (false, .box [intA u, intA d])]] =
    (.need (EntClosed [(false, .box [.v (.int .i64 lo), .v (.int .i64 hi)]), (false, .box [.v (.int .i64 0), .v (.int .i64 0)]), (false, .box [.v (.int .i64 0), .v (.int .i64 0)])] ∧ EntClosed [(false, .box [.v (.int .i64 0), .v (.int .i64 0)]), (false, .box [.v (.int .i64 u), .v (.int .i64 d)])] ∧ Says (CS B2) 0 45 false (.loop (loopOf (CS B2) 49 0)) (mkSt [0, 3, 5, 7, 8, 9] [3, 5, 8] 45 [.rsl 1 es false, .ptr 3 0 0, .ptr 5 1 0, .v (.int .i64 0), .ptr 8 2 0, .v (.int .i64 0)] [(false, .box [.v (.int .i64 lo), .v (.int .i64 hi)]), (false, .box [.v (.int .i64 0), .v (.int .i64 0)]), (false, .box [.v (.int .i64 0), .v (.int .i64 0)])]) (.exit 0) (mkSt [5, 7, 8] [5, 8] 45 [.ptr 5 0 0, .v (.int .i64 m), .ptr 8 1 0] [(false, .box [.v (.int .i64 0), .v (.int .i64 0)]), (false, .box [.v (.int .i64 u), .v (.int .i64 d)])])) (.done (some (.tup [.v (.int .i64 m), .agg [.v (.int .i64 u), .v (.int .i64 d)], .v (.int .i64 0)])))) := by kernel_rfl
set_option maxRecDepth 100000 in
theorem t49r (es : List AV) (lo hi : Int) : evTreeD (CS B2) 60 49 [.rsl 1 es false, .agg [intA lo, intA hi]] [.loop 0 [0, 3, 5, 7, 8, 9] [3, 5, 8] [4, 5, 6] [5] .ret [intA 0, .ptr 5 0 0, intA 16] [(false, .box [intA 0, intA 0])]] =
    (.need (EntClosed [(false, .box [.v (.int .i64 lo), .v (.int .i64 hi)]), (false, .box [.v (.int .i64 0), .v (.int .i64 0)]), (false, .box [.v (.int .i64 0), .v (.int .i64 0)])] ∧ EntClosed [(false, .box [.v (.int .i64 0), .v (.int .i64 0)])] ∧ Says (CS B2) 0 45 false (.loop (loopOf (CS B2) 49 0)) (mkSt [0, 3, 5, 7, 8, 9] [3, 5, 8] 45 [.rsl 1 es false, .ptr 3 0 0, .ptr 5 1 0, .v (.int .i64 0), .ptr 8 2 0, .v (.int .i64 0)] [(false, .box [.v (.int .i64 lo), .v (.int .i64 hi)]), (false, .box [.v (.int .i64 0), .v (.int .i64 0)]), (false, .box [.v (.int .i64 0), .v (.int .i64 0)])]) .ret (mkSt [4, 5, 6] [5] 45 [.v (.int .i64 0), .ptr 5 0 0, .v (.int .i64 16)] [(false, .box [.v (.int .i64 0), .v (.int .i64 0)])])) (.done (some (.tup [.v (.int .i64 0), .agg [.v (.int .i64 0), .v (.int .i64 0)], .v (.int .i64 16)])))) := by kernel_rfl
set_option maxRecDepth 100000 in
theorem r50 (es : List AV) (v x y z : Int) (f i j k : Nat) : roundD (CS B2) 60 0 50 0 62 62 false (loopOf (CS B2) 50 0) [0, 6, 7, 8] [] [0, 6, 7, 8] [] [6, 7] [] [.rsl 1 es false, intA v, intA (Int.ofNat f), intA (Int.ofNat i)] [] [.br [.chk [intA x], .ar (intA (Int.ofNat j)), .chk [intA y], .ar (intA (Int.ofNat k)), .chk [intA z]] []] =
    (bif decide (IntKind.i64.wrap (Int.ofNat i + 1) < Int.ofNat es.length) then (.need (es[i]? = (some (AV.v (.int .i64 x)))) (.need ((abin (CS B2) BinOp.add 3 (Operand.tmp 44) (Operand.const (Value.int IntKind.i64 1)) (AV.v (.int .i64 (Int.ofNat i))) (AV.v (.int .i64 1))) = (some (AV.v (.int .i64 (Int.ofNat j))))) (.need (es[j]? = (some (AV.v (.int .i64 y)))) (.need ((abin (CS B2) BinOp.sub 3 (Operand.tmp 49) (Operand.const (Value.int IntKind.i64 1)) (AV.v (.int .i64 (Int.ofNat i))) (AV.v (.int .i64 1))) = (some (AV.v (.int .i64 (Int.ofNat k))))) (.need (es[k]? = (some (AV.v (.int .i64 z)))) (bif decide (IntKind.i64.wrap (x * IntKind.i64.wrap (y - z)) > v) then (.need (EntClosed []) (.done (some ((.nrm, [.rsl 1 es false, .v (.int .i64 (IntKind.i64.wrap (x * IntKind.i64.wrap (y - z)))), .v (.int .i64 (Int.ofNat i)), .v (.int .i64 (IntKind.i64.wrap (Int.ofNat i + 1)))], []))))) else (.need (EntClosed []) (.done (some ((.nrm, [.rsl 1 es false, .v (.int .i64 v), .v (.int .i64 (Int.ofNat f)), .v (.int .i64 (IntKind.i64.wrap (Int.ofNat i + 1)))], []))))))))))) else (.need (EntClosed []) (.done (some (((.exit 0), [.v (.int .i64 v), .v (.int .i64 (Int.ofNat f))], [])))))) := by kernel_rfl
set_option maxRecDepth 100000 in
theorem t50 (es : List AV) (e x0 x1 x2 v f : Int) : evTreeD (CS B2) 60 50 [.rsl 1 es false] [.sp [.rsl 1 es false] (intA e), .br [] [.chk [intA x1], .chk [intA x2], .chk [intA x0], .loop 0 [0, 6, 7, 8] [] [6, 7] [] (.exit 0) [intA v, intA f] []]] =
    (.need (([.rsl 1 es false] : List AV) = ([.rsl 1 es false] : List AV) ∧ (Cx.spec (CS B2) 38 ([.rsl 1 es false] : List AV)) = (some (AV.v (.int .i64 e)))) (bif firstM [e, whenM (decide (Int.ofNat es.length < 3)) 16] != 0 then (.done (some (.tup [.v (.int .i64 0), .v (.int .i64 0), .v (.int .i64 (firstM [e, whenM (decide (Int.ofNat es.length < 3)) 16]))]))) else (.need (es[1]? = (some (AV.v (.int .i64 x1)))) (.need (es[2]? = (some (AV.v (.int .i64 x2)))) (.need (es[0]? = (some (AV.v (.int .i64 x0)))) (.need (EntClosed [] ∧ EntClosed [] ∧ Says (CS B2) 0 62 false (.loop (loopOf (CS B2) 50 0)) (mkSt [0, 6, 7, 8] [] 62 [.rsl 1 es false, .v (.int .i64 (IntKind.i64.wrap (x1 * IntKind.i64.wrap (x2 - x0)))), .v (.int .i64 1), .v (.int .i64 2)] []) (.exit 0) (mkSt [6, 7] [] 62 [.v (.int .i64 v), .v (.int .i64 f)] [])) (.done (some (.tup [.v (.int .i64 v), .v (.int .i64 f), .v (.int .i64 0)]))))))))) := by kernel_rfl
set_option maxRecDepth 100000 in
theorem r51 (es : List AV) (v x y z : Int) (f i j k : Nat) : roundD (CS B2) 60 0 51 0 42 42 false (loopOf (CS B2) 51 0) [0, 4, 5, 6] [] [0, 4, 5, 6] [] [4, 5] [] [.rsl 1 es false, intA v, intA (Int.ofNat f), intA (Int.ofNat i)] [] [.br [.chk [intA x], .ar (intA (Int.ofNat j)), .chk [intA y], .ar (intA (Int.ofNat k)), .chk [intA z]] []] =
    (bif decide (IntKind.i64.wrap (Int.ofNat i + 1) < Int.ofNat es.length) then (.need (es[i]? = (some (AV.v (.int .i64 x)))) (.need ((abin (CS B2) BinOp.add 3 (Operand.tmp 20) (Operand.const (Value.int IntKind.i64 1)) (AV.v (.int .i64 (Int.ofNat i))) (AV.v (.int .i64 1))) = (some (AV.v (.int .i64 (Int.ofNat j))))) (.need (es[j]? = (some (AV.v (.int .i64 y)))) (.need ((abin (CS B2) BinOp.sub 3 (Operand.tmp 25) (Operand.const (Value.int IntKind.i64 1)) (AV.v (.int .i64 (Int.ofNat i))) (AV.v (.int .i64 1))) = (some (AV.v (.int .i64 (Int.ofNat k))))) (.need (es[k]? = (some (AV.v (.int .i64 z)))) (bif Int.ofNat f == 0 then (.need (EntClosed []) (.done (some ((.nrm, [.rsl 1 es false, .v (.int .i64 (IntKind.i64.wrap (x * IntKind.i64.wrap (y - z)))), .v (.int .i64 (Int.ofNat i)), .v (.int .i64 (IntKind.i64.wrap (Int.ofNat i + 1)))], []))))) else (bif decide (IntKind.i64.wrap (x * IntKind.i64.wrap (y - z)) > v) then (.need (EntClosed []) (.done (some ((.nrm, [.rsl 1 es false, .v (.int .i64 (IntKind.i64.wrap (x * IntKind.i64.wrap (y - z)))), .v (.int .i64 (Int.ofNat i)), .v (.int .i64 (IntKind.i64.wrap (Int.ofNat i + 1)))], []))))) else (.need (EntClosed []) (.done (some ((.nrm, [.rsl 1 es false, .v (.int .i64 v), .v (.int .i64 (Int.ofNat f)), .v (.int .i64 (IntKind.i64.wrap (Int.ofNat i + 1)))], [])))))))))))) else (.need (EntClosed []) (.done (some (((.exit 0), [.v (.int .i64 v), .v (.int .i64 (Int.ofNat f))], [])))))) := by kernel_rfl
set_option maxRecDepth 100000 in
theorem t51 (es : List AV) (v f : Int) : evTreeD (CS B2) 60 51 [.rsl 1 es false] [.loop 0 [0, 4, 5, 6] [] [4, 5] [] (.exit 0) [intA v, intA f] []] =
    (.need (EntClosed [] ∧ EntClosed [] ∧ Says (CS B2) 0 42 false (.loop (loopOf (CS B2) 51 0)) (mkSt [0, 4, 5, 6] [] 42 [.rsl 1 es false, .v (.int .i64 0), .v (.int .i64 0), .v (.int .i64 1)] []) (.exit 0) (mkSt [4, 5] [] 42 [.v (.int .i64 v), .v (.int .i64 f)] [])) (.done (some (.tup [.v (.int .i64 v), .v (.int .i64 f)])))) := by kernel_rfl
abbrev msC : Cod (List (List Int)) := listC intsC 1
def msOk (ls : List (List Int)) : Bool := Nat.ble ls.length lim && ls.all fun l => Nat.ble l.length lim
theorem msOk_at {ls : List (List Int)} (h : msOk ls = true) : Nat.ble ls.length lim = true ∧ ∀ l ∈ ls, Nat.ble l.length lim = true := by
  unfold msOk at h
  rw [Bool.and_eq_true, List.all_eq_true] at h
  exact h
theorem closedMs (m : List (List Int)) : ClosedL (m.map intsC.enc) := ClosedL.map fun _ => rfl
def ownMG : List AV → Option AV := sp1 msC fun ls => bif msOk ls then some (slA intsC 1 ls) else none
theorem h47 : Holds 47 ownMG := holds1 fun l r hr => by
  cases hb : msOk l with
  | false => simp [hb] at hr
  | true =>
    simp only [hb, cond_true, Option.some.injEq] at hr; subst hr
    obtain ⟨hb1, hb2⟩ := msOk_at hb
    have hle := Nat.le_of_ble_eq_true hb1
    have hlim := limTwo hle
    have h := LoopRun.gather (C := CS B2) (p := 0) (nt := 19) (rd := false) (c := loopOf (CS B2) 47 0) (fun _ p => [p]) 1 (by simp) (fun i (acc : List (List Int)) => blSt 16 1 [3, 6, 7, 8] 19 (fun a => [a, .rsl 1 (l.map intsC.enc) false, intA (Int.ofNat l.length), intA (Int.ofNat i)]) (acc.map intsC.enc)) (.exit 0)
      (fun acc => mkSt [3] [] 19 [.rsl 1 (acc.map intsC.enc) false] []) l (by simp)
      (fun i p acc hx hacc => by
        have hi := lt_len hx
        have hp := specOwn (hb2 p (List.mem_of_getElem? hx))
        have hlen : ((acc ++ [p]).map intsC.enc).length ≤ 35184372088832 / 1024 := by simp; unfold lim at hle; omega
        have hw := wrap_ix hi hlim
        cases acc with
        | nil =>
          refine B2_ok.rndN (r47a (l.map intsC.enc) (p.map intA) l.length i) ?_
          rw [lt_of hi, hw]
          exact ⟨get_map _ hx, ⟨rfl, hp⟩, ⟨closedMs [p], trivial⟩, rfl⟩
        | cons y ys =>
          have e2 : blSt 16 1 [3, 6, 7, 8] 19 (fun a => [a, .rsl 1 (l.map intsC.enc) false, intA (Int.ofNat l.length), intA (Int.ofNat (i + 1))]) (((y :: ys) ++ [p]).map intsC.enc) = mkSt [3, 6, 7, 8] [16] 19 [.sl 16 0 1 0 ((y :: ys).map intsC.enc ++ [intsC.enc p]).length, .rsl 1 (l.map intsC.enc) false, intA (Int.ofNat l.length), intA (Int.ofNat (i + 1))] [(false, .arr 1 ((y :: ys).map intsC.enc ++ [intsC.enc p]) false)] := by
            rw [show ((y :: ys) ++ [p]).map intsC.enc = (y :: ys).map intsC.enc ++ [intsC.enc p] by simp]; rfl
          rw [e2]
          refine B2_ok.rndN (r47b (l.map intsC.enc) ((y :: ys).map intsC.enc) (p.map intA) l.length i ((y :: ys).map intsC.enc).length) ?_
          rw [lt_of hi, hw]
          rw [show ((y :: ys) ++ [p]).map intsC.enc = (y :: ys).map intsC.enc ++ [intsC.enc p] by simp] at hlen
          exact ⟨get_map _ hx, ⟨rfl, hp⟩, ⟨rfl, rfl, rfl, by change (List.map intsC.enc (y :: ys) ++ [intsC.enc p]).length * 24 ≤ _; omega, by change (List.map intsC.enc (y :: ys) ++ [intsC.enc p]).length ≤ _; omega, by omega⟩, ⟨(closedMs (y :: ys)).append (closedMs [p]), trivial⟩, rfl⟩)
      (fun acc _ => by
        refine Says.blEnd (key := 16) ?_ (closedMs acc)
        cases acc with
        | nil => exact B2_ok.rndX (r47a (l.map intsC.enc) [] l.length l.length) (by rw [lt_self]; exact ⟨trivial, rfl⟩)
        | cons y ys => exact B2_ok.rndX (r47b (l.map intsC.enc) ((y :: ys).map intsC.enc) [] l.length l.length ((y :: ys).map intsC.enc).length) (by rw [lt_self]; exact ⟨⟨closedMs (y :: ys), trivial⟩, rfl⟩))
    rw [gath_id] at h
    refine B2_ok.tr (t47 (l.map intsC.enc) (l.map intsC.enc)) ⟨⟨trivial, trivial, ?_⟩, rfl⟩
    rw [List.length_map]
    exact h.says
def serMG : List AV → Option AV := sp2 msC (fnC 38) fun ls _ => bif msOk ls then some (slA intC 1 (ls.map seriesM)) else none
theorem h118 : Holds 118 serMG := holds2 fun l _ r hr => by
  cases hb : msOk l with
  | false => simp [hb] at hr
  | true =>
    simp only [hb, cond_true, Option.some.injEq] at hr; subst hr
    obtain ⟨hb1, hb2⟩ := msOk_at hb
    have hle := Nat.le_of_ble_eq_true hb1
    have hlim := limTwo hle
    have h := LoopRun.gather (C := CS B2) (p := 0) (nt := 22) (rd := false) (c := loopOf (CS B2) 118 0) (fun _ p => [seriesM p]) 1 (by simp) (fun i (acc : List Int) => blSt 19 1 [1, 5, 8, 9, 10] 22 (fun a => mapIn (fnV 38) a 1 (l.map intsC.enc) l.length i) (acc.map intA)) (.exit 0)
      (fun acc => mkSt [5] [] 22 [.rsl 1 (acc.map intA) false] []) l (by simp)
      (fun i p acc hx hacc => by
        have hi := lt_len hx
        have hp := specSer (hb2 p (List.mem_of_getElem? hx))
        have hlen : ((acc ++ [seriesM p]).map intA).length ≤ 35184372088832 / 1024 := by simp; unfold lim at hle; omega
        have hw := wrap_ix hi hlim
        cases acc with
        | nil =>
          refine B2_ok.rndN (r118a (l.map intsC.enc) (p.map intA) (seriesM p) l.length i) ?_
          rw [lt_of hi, hw]
          exact ⟨get_map _ hx, ⟨rfl, hp⟩, ⟨closedInt [seriesM p], trivial⟩, rfl⟩
        | cons y ys =>
          have e2 : blSt 19 1 [1, 5, 8, 9, 10] 22 (fun a => mapIn (fnV 38) a 1 (l.map intsC.enc) l.length (i + 1)) (((y :: ys) ++ [seriesM p]).map intA) = mkSt [1, 5, 8, 9, 10] [19] 22 (mapIn (fnV 38) (.sl 19 0 1 0 ((y :: ys).map intA ++ [intA (seriesM p)]).length) 1 (l.map intsC.enc) l.length (i + 1)) [(false, .arr 1 ((y :: ys).map intA ++ [intA (seriesM p)]) false)] := by
            rw [show ((y :: ys) ++ [seriesM p]).map intA = (y :: ys).map intA ++ [intA (seriesM p)] by simp]; rfl
          rw [e2]
          refine B2_ok.rndN (r118b (l.map intsC.enc) ((y :: ys).map intA) (p.map intA) (seriesM p) l.length i ((y :: ys).map intA).length) ?_
          rw [lt_of hi, hw]
          rw [show ((y :: ys) ++ [seriesM p]).map intA = (y :: ys).map intA ++ [intA (seriesM p)] by simp] at hlen
          exact ⟨get_map _ hx, ⟨rfl, hp⟩, ⟨rfl, rfl, rfl, by change (List.map intA (y :: ys) ++ [intA (seriesM p)]).length * 8 ≤ _; omega, by change (List.map intA (y :: ys) ++ [intA (seriesM p)]).length ≤ _; omega, by omega⟩, ⟨(closedInt (y :: ys)).append (closedInt [seriesM p]), trivial⟩, rfl⟩)
      (fun acc _ => by
        refine Says.blEnd (key := 19) ?_ (closedInt acc)
        cases acc with
        | nil => exact B2_ok.rndX (r118a (l.map intsC.enc) [] 0 l.length l.length) (by rw [lt_self]; exact ⟨trivial, rfl⟩)
        | cons y ys => exact B2_ok.rndX (r118b (l.map intsC.enc) ((y :: ys).map intA) [] 0 l.length l.length ((y :: ys).map intA).length) (by rw [lt_self]; exact ⟨⟨closedInt (y :: ys), trivial⟩, rfl⟩))
    rw [gath_map] at h
    refine B2_ok.tr (t118 (l.map intsC.enc) ((l.map seriesM).map intA)) ⟨⟨trivial, trivial, ?_⟩, rfl⟩
    rw [List.length_map]
    exact h.says
/-! ### The reference's check of several -/
def mnyM (ls : List (List Int)) : Int := firstM [manyI (Int.ofNat ls.length) 8, firstM (ls.map seriesM)]
def mnyG : List AV → Option AV := sp1 msC fun ls => bif msOk ls then some (intA (mnyM ls)) else none
theorem h48 : Holds 48 mnyG := holds1 fun l r hr => by
  cases hb : msOk l with
  | false => simp [hb] at hr
  | true =>
    simp only [hb, cond_true, Option.some.injEq] at hr; subst hr
    obtain ⟨hb1, hb2⟩ := msOk_at hb
    have hl := limTwo (Nat.le_of_ble_eq_true hb1)
    have e := e_len' intsC l
    have h := LoopRun.find (C := CS B2) (p := 0) (nt := 26) (rd := false) (c := loopOf (CS B2) 48 0) (fun _ (x : List Int) => bif seriesM x != 0 then some (seriesM x) else none) (fun i => mkSt [0, 4] [] 26 [.rsl 1 (l.map intsC.enc) false, intA (Int.ofNat i)] [])
      (fun t => mkSt [2] [] 26 [intA t] []) (mkSt [2] [] 26 [.bad] []) (.exit 0) (fun _ => .ret) l (by simp) (by simp)
      (fun i x hx => by
        have hi := lt_len hx
        have hp := specSer (hb2 x (List.mem_of_getElem? hx))
        have hr := r48 (l.map intsC.enc) (x.map intA) (seriesM x) i
        rw [e, lt_of hi, wrap_ix hi hl] at hr
        cases h : seriesM x != 0 with
        | true => rw [h] at hr; exact B2_ok.rndR hr ⟨get_map _ hx, ⟨rfl, hp⟩, trivial, rfl⟩
        | false => rw [h] at hr; exact B2_ok.rndN hr ⟨get_map _ hx, ⟨rfl, hp⟩, trivial, rfl⟩)
      (B2_ok.rndX (r48 (l.map intsC.enc) [] 0 l.length) (by rw [e, lt_self]; exact ⟨trivial, rfl⟩))
    rw [srch_err] at h
    unfold mnyM
    rw [firstB]
    cases hm : manyI (Int.ofNat l.length) 8 != 0 with
    | true => exact B2_ok.tr (t48e (l.map intsC.enc)) (by rw [e, hm]; rfl)
    | false =>
      cases hq : firstM (l.map seriesM) != 0 with
      | true => rw [hq] at h; exact B2_ok.tr (t48r (l.map intsC.enc) (firstM (l.map seriesM))) (by rw [e, hm]; exact ⟨⟨trivial, trivial, h.says⟩, rfl⟩)
      | false =>
        rw [hq] at h
        have h0 : firstM (l.map seriesM) = 0 := by simpa using hq
        rw [h0]
        exact B2_ok.tr (t48e (l.map intsC.enc)) (by rw [e, hm]; exact ⟨⟨trivial, trivial, h.says⟩, rfl⟩)
/-! ### The worst of several -/
abbrev WS : Type := Int × Ra
def wsS (k : P2) (i : Nat) (l : List Int) (s : WS) : WS ⊕ Option WS := bif !(bestB l k).1 then .inr none else .inl (bif Nat.beq i 0 || decide (cmpW (bestB l k).2.2 s.2 > 0) then (Int.ofNat i, (bestB l k).2.2) else s)
def wstM (ls : List (List Int)) (k : P2) : Option WS := goL (wsS k) some 0 ls (0, (0, 0))
def wsT : Option WS → AV
  | some s => .tup [intA s.1, p2A s.2, intA 0]
  | none => .tup [intA 0, p2A (0, 0), intA 16]
def wsOk (ls : List (List Int)) (k : P2) : Bool := Nat.ble ls.length lim && (firstM (ls.map seriesM) == 0 && lenM k == 0)
theorem wsOk_at {ls : List (List Int)} {k : P2} (h : wsOk ls k = true) : Nat.ble ls.length lim = true ∧ ∀ l ∈ ls, bwOk l k = true := by
  unfold wsOk at h
  simp only [Bool.and_eq_true, beq_iff_eq] at h
  refine ⟨h.1, fun l hl => ?_⟩
  unfold bwOk
  rw [firstAll.1 h.2.1 l hl, h.2.2]; rfl
def rwsG : List AV → Option AV := sp2 msC p2C fun ls k => bif wsOk ls k then some (wsT (wstM ls k)) else none
abbrev wsX : Option WS → Ex
  | some _ => .exit 0
  | none => .ret
theorem wsX_ne (t : Option WS) : wsX t ≠ .nrm := by cases t <;> simp
def rwsO : Option WS → St
  | some s => mkSt [5, 7, 8] [5, 8] 45 [.ptr 5 0 0, intA s.1, .ptr 8 1 0] [(false, .box [intA 0, intA 0]), (false, .box [intA s.2.1, intA s.2.2])]
  | none => mkSt [4, 5, 6] [5] 45 [intA 0, .ptr 5 0 0, intA 16] [(false, .box [intA 0, intA 0])]
theorem h49 : Holds 49 rwsG := holds2 fun ls k r hr => by
  cases hb : wsOk ls k with
  | false => simp [hb] at hr
  | true =>
    simp only [hb, cond_true, Option.some.injEq] at hr; subst hr
    obtain ⟨hb1, hb2⟩ := wsOk_at hb
    have hl := limTwo (Nat.le_of_ble_eq_true hb1)
    have e := e_len' intsC ls
    have h := LoopRun.list (C := CS B2) (p := 0) (nt := 45) (rd := false) (c := loopOf (CS B2) 49 0) (step := wsS k) (fin := some)
      (enc := fun i s => mkSt [0, 3, 5, 7, 8, 9] [3, 5, 8] 45 [.rsl 1 (ls.map intsC.enc) false, .ptr 3 0 0, .ptr 5 1 0, intA s.1, .ptr 8 2 0, intA (Int.ofNat i)] [(false, .box [intA k.1, intA k.2]), (false, .box [intA 0, intA 0]), (false, .box [intA s.2.1, intA s.2.2])])
      (ex := wsX) (out := rwsO) (l := ls) (fun _ _ => True)
      (fun i l s hx _ => by
        have hi := lt_len hx
        have f28 : rbestG [slA intC 1 l, p2A k] = some (rbwA (bestB l k)) := specAt2 (A := intsC) (B := p2C) (b := fun l k => bwOk l k) (F := fun l k => rbwA (bestB l k)) l k (hb2 l (List.mem_of_getElem? hx))
        unfold wsS
        generalize bestB l k = st at *
        obtain ⟨o, sp, ra⟩ := st
        cases o with
        | false =>
          have hr := r49r (ls.map intsC.enc) (l.map intA) k.1 k.2 s.1 s.2.1 s.2.2 (false, sp, ra) i
          rw [e, lt_of hi] at hr
          exact ⟨B2_ok.rndR hr ⟨get_map _ hx, ⟨rfl, f28⟩, trivial, rfl⟩, by simp⟩
        | true =>
          have hr := r49 (ls.map intsC.enc) (l.map intA) k.1 k.2 s.1 s.2.1 s.2.2 (true, sp, ra) i
          rw [e, lt_of hi, wrap_ix hi hl, show (!(true, sp, ra).1) = false from rfl, i0] at hr
          cases h0 : Nat.beq i 0 with
          | true =>
            rw [h0] at hr
            exact ⟨B2_ok.rndN hr ⟨get_map _ hx, ⟨rfl, f28⟩, trivial, rfl⟩, trivial⟩
          | false =>
            rw [h0] at hr
            cases hg : decide (cmpW ra s.2 > 0) with
            | true =>
              rw [show decide (cmpW (true, sp, ra).2.2 (s.2.1, s.2.2) > 0) = true from hg] at hr
              exact ⟨B2_ok.rndN hr ⟨get_map _ hx, ⟨rfl, f28⟩, trivial, rfl⟩, trivial⟩
            | false =>
              rw [show decide (cmpW (true, sp, ra).2.2 (s.2.1, s.2.2) > 0) = false from hg] at hr
              exact ⟨B2_ok.rndN hr ⟨get_map _ hx, ⟨rfl, f28⟩, trivial, rfl⟩, trivial⟩)
      (fun s _ => ⟨B2_ok.rndX (r49 (ls.map intsC.enc) [] k.1 k.2 s.1 s.2.1 s.2.2 bw0 ls.length) (by rw [e, lt_self]; exact ⟨trivial, rfl⟩), by simp⟩) ls [] (0, (0, 0)) rfl trivial
    have h : LoopRun (CS B2) 0 45 false (loopOf (CS B2) 49 0) _ (wsX (wstM ls k)) (rwsO (wstM ls k)) := h
    cases hq : wstM ls k with
    | none => rw [hq] at h; exact B2_ok.tr (t49r (ls.map intsC.enc) k.1 k.2) ⟨⟨trivial, trivial, h.says⟩, rfl⟩
    | some s => rw [hq] at h; exact B2_ok.tr (t49e (ls.map intsC.enc) k.1 k.2 s.1 s.2.1 s.2.2) ⟨⟨trivial, trivial, h.says⟩, rfl⟩
/-! ### Viscous -/
def vAt (l : List Int) (i : Nat) : Int := match l[i]?, l[i + 1]?, l[i - 1]? with
  | some x, some y, some z => IntKind.i64.wrap (x * IntKind.i64.wrap (y - z))
  | _, _, _ => 0
abbrev VS : Type := Int × Nat
def visS (l : List Int) (s : VS) (i : Nat) : VS := bif decide (vAt l i > s.1) then (vAt l i, i) else s
def visR (l : List Int) (s : VS) (i : Nat) : VS := bif Nat.beq s.2 0 || decide (vAt l i > s.1) then (vAt l i, i) else s
def visM (l : List Int) : VS := (List.range' 2 (l.length - 3)).foldl (visS l) (vAt l 1, 1)
theorem vis_eq (l : List Int) (h : 3 ≤ l.length) : (List.range' 1 (l.length - 2)).foldl (visR l) (0, 0) = visM l := by
  obtain ⟨n, hn⟩ : ∃ n, l.length = n + 3 := ⟨l.length - 3, by omega⟩
  unfold visM
  rw [hn, show n + 3 - 2 = n + 1 by omega, show n + 3 - 3 = n by omega, List.range'_succ, List.foldl_cons]
  show (List.range' 2 n).foldl (visR l) (vAt l 1, 1) = _
  have key : ∀ (r : List Nat) (s : VS), s.2 ≠ 0 → (∀ i ∈ r, i ≠ 0) → r.foldl (visR l) s = r.foldl (visS l) s := by
    intro r
    induction r with
    | nil => intro s _ _; rfl
    | cons i r ih =>
      intro s hs hr
      rw [List.foldl_cons, List.foldl_cons]
      have e : visR l s i = visS l s i := by
        unfold visR visS
        rw [show Nat.beq s.2 0 = false by cases h : s.2 with | zero => exact absurd h hs | succ => rfl, Bool.false_or]
      rw [e]
      refine ih _ ?_ (fun j hj => hr j (by simp [hj]))
      unfold visS
      cases decide (vAt l i > s.1) with
      | true => exact hr i (by simp)
      | false => exact hs
  exact key _ _ (by simp) (fun i hi => by rw [List.mem_range'_1] at hi; omega)
theorem v_at {l : List Int} {i : Nat} (h1 : 1 ≤ i) (h : i + 1 < l.length) : ∃ x y z, l[i]? = some x ∧ l[i + 1]? = some y ∧ l[i - 1]? = some z ∧ vAt l i = IntKind.i64.wrap (x * IntKind.i64.wrap (y - z)) := by
  refine ⟨_, _, _, List.getElem?_eq_getElem (show i < l.length by omega), List.getElem?_eq_getElem h, List.getElem?_eq_getElem (show i - 1 < l.length by omega), ?_⟩
  unfold vAt
  rw [List.getElem?_eq_getElem (show i < l.length by omega), List.getElem?_eq_getElem h, List.getElem?_eq_getElem (show i - 1 < l.length by omega)]
def rviG : List AV → Option AV := sp1 intsC fun l => bif Nat.ble 3 l.length && Nat.ble l.length lim then some (.tup [intA (visM l).1, intA (Int.ofNat (visM l).2)]) else none
theorem nextW {i n : Nat} (h : i < n) (hn : n < two63) : IntKind.i64.wrap (Int.ofNat i + 1) = Int.ofNat (i + 1) := wrap_ix h hn
theorem prevW {i n : Nat} (h1 : 1 ≤ i) (h : i < n) (hn : n < two63) : IntKind.i64.wrap (Int.ofNat i - 1) = Int.ofNat (i - 1) := by
  obtain ⟨j, rfl⟩ : ∃ j, i = j + 1 := ⟨i - 1, by omega⟩
  exact subN1 (by omega)
theorem h51 : Holds 51 rviG := holds1 fun l r hr => by
  cases hb : Nat.ble 3 l.length && Nat.ble l.length lim with
  | false => simp [hb] at hr
  | true =>
    simp only [hb, cond_true, Option.some.injEq] at hr; subst hr
    rw [Bool.and_eq_true] at hb
    have h3 := Nat.le_of_ble_eq_true hb.1
    have hl := limTwo (Nat.le_of_ble_eq_true hb.2)
    have e := e_len intA l
    have h := LoopRun.list (C := CS B2) (p := 0) (nt := 42) (rd := false) (c := loopOf (CS B2) 51 0) (step := fun _ i s => (.inl (visR l s i) : VS ⊕ VS)) (fin := id)
      (enc := fun k s => mkSt [0, 4, 5, 6] [] 42 [.rsl 1 (l.map intA) false, intA s.1, intA (Int.ofNat s.2), intA (Int.ofNat (1 + k))] [])
      (ex := fun _ => .exit 0) (out := fun s => mkSt [4, 5] [] 42 [intA s.1, intA (Int.ofNat s.2)] []) (l := List.range' 1 (l.length - 2)) (fun _ _ => True)
      (fun k i s hx _ => by
        obtain ⟨rfl, hk⟩ := range'_get hx
        obtain ⟨x, y, z, g1, g2, g3, hv⟩ := v_at (l := l) (i := 1 + k) (by omega) (by omega)
        have hr := r51 (l.map intA) s.1 x y z s.2 (1 + k) (1 + k + 1) (1 + k - 1)
        have hadd := add_ok B2 (.tmp 20) (.const (.int .i64 1)) (Int.ofNat (1 + k)) 1
        have hsub := sub_ok B2 (.tmp 25) (.const (.int .i64 1)) (Int.ofNat (1 + k)) 1
        rw [nextW (show 1 + k < l.length by omega) hl] at hadd
        rw [prevW (by omega) (show 1 + k < l.length by omega) hl] at hsub
        rw [nextW (show 1 + k < l.length by omega) hl, e, lt_of (show 1 + k + 1 < l.length by omega), i0, ← hv] at hr
        refine ⟨?_, trivial⟩
        unfold visR
        cases h0 : Nat.beq s.2 0 with
        | true => rw [h0] at hr; exact B2_ok.rndN hr ⟨get_map _ g1, hadd, get_map _ g2, hsub, get_map _ g3, trivial, rfl⟩
        | false =>
          rw [h0] at hr
          cases hg : decide (vAt l (1 + k) > s.1) with
          | true => rw [hg] at hr; exact B2_ok.rndN hr ⟨get_map _ g1, hadd, get_map _ g2, hsub, get_map _ g3, trivial, rfl⟩
          | false => rw [hg] at hr; exact B2_ok.rndN hr ⟨get_map _ g1, hadd, get_map _ g2, hsub, get_map _ g3, trivial, rfl⟩)
      (fun s _ => ⟨B2_ok.rndX (r51 (l.map intA) s.1 0 0 0 s.2 (1 + (List.range' 1 (l.length - 2)).length) 0 0) (by
        rw [List.length_range', nextW (show 1 + (l.length - 2) < l.length by omega) hl, e, show 1 + (l.length - 2) + 1 = l.length by omega, lt_self]; exact ⟨trivial, rfl⟩), by simp⟩)
      (List.range' 1 (l.length - 2)) [] (0, 0) rfl trivial
    rw [show ([] : List Nat).length = 0 from rfl, goL_fold (fun _ s i => visR l s i) id _ _ _ (fun _ _ _ _ => rfl), vis_eq l h3] at h
    exact B2_ok.tr (t51 (l.map intA) (visM l).1 (Int.ofNat (visM l).2)) ⟨⟨trivial, trivial, h.says⟩, rfl⟩
def vErr (l : List Int) : Int := firstM [seriesM l, whenM (decide (Int.ofNat l.length < 3)) 16]
def pviM (l : List Int) : AV := .tup [intA (bif vErr l == 0 then (visM l).1 else 0), intA (bif vErr l == 0 then Int.ofNat (visM l).2 else 0), intA (vErr l)]
def pviG : List AV → Option AV := sp1 intsC fun l => bif Nat.ble l.length lim then some (pviM l) else none
theorem vErrZ {l : List Int} (h : vErr l = 0) : Ser l ∧ 3 ≤ l.length := by
  unfold vErr at h
  rw [firstZ, firstZ] at h
  have := whenZ (by omega) h.2.1
  simp only [decide_eq_false_iff_not, Int.ofNat_eq_natCast] at this
  exact ⟨seriesZ.1 h.1, by omega⟩
theorem h50 : Holds 50 pviG := holds1 fun l r hr => by
  cases hb : Nat.ble l.length lim with
  | false => simp [hb] at hr
  | true =>
    simp only [hb, cond_true, Option.some.injEq] at hr; subst hr
    have hl := limTwo (Nat.le_of_ble_eq_true hb)
    have e := e_len intA l
    unfold pviM
    cases hq : vErr l == 0 with
    | false =>
      have ht := t50 (l.map intA) (seriesM l) 0 0 0 0 0
      rw [e, show firstM [seriesM l, whenM (decide (Int.ofNat l.length < 3)) 16] = vErr l from rfl, bnz, hq] at ht
      exact B2_ok.tr ht ⟨⟨rfl, specSer hb⟩, rfl⟩
    | true =>
      have h0 : vErr l = 0 := by simpa using hq
      obtain ⟨hs, h3⟩ := vErrZ h0
      obtain ⟨x, y, z, g1, g2, g3, hv⟩ := v_at (l := l) (i := 1) (by omega) (by omega)
      have h := LoopRun.list (C := CS B2) (p := 0) (nt := 62) (rd := false) (c := loopOf (CS B2) 50 0) (step := fun _ i s => (.inl (visS l s i) : VS ⊕ VS)) (fin := id)
        (enc := fun k s => mkSt [0, 6, 7, 8] [] 62 [.rsl 1 (l.map intA) false, intA s.1, intA (Int.ofNat s.2), intA (Int.ofNat (2 + k))] [])
        (ex := fun _ => .exit 0) (out := fun s => mkSt [6, 7] [] 62 [intA s.1, intA (Int.ofNat s.2)] []) (l := List.range' 2 (l.length - 3)) (fun _ _ => True)
        (fun k i s hx _ => by
          obtain ⟨rfl, hk⟩ := range'_get hx
          obtain ⟨x, y, z, g1, g2, g3, hv⟩ := v_at (l := l) (i := 2 + k) (by omega) (by omega)
          have hr := r50 (l.map intA) s.1 x y z s.2 (2 + k) (2 + k + 1) (2 + k - 1)
          have hadd := add_ok B2 (.tmp 44) (.const (.int .i64 1)) (Int.ofNat (2 + k)) 1
          have hsub := sub_ok B2 (.tmp 49) (.const (.int .i64 1)) (Int.ofNat (2 + k)) 1
          rw [nextW (show 2 + k < l.length by omega) hl] at hadd
          rw [prevW (by omega) (show 2 + k < l.length by omega) hl] at hsub
          rw [nextW (show 2 + k < l.length by omega) hl, e, lt_of (show 2 + k + 1 < l.length by omega), ← hv] at hr
          refine ⟨?_, trivial⟩
          unfold visS
          cases hg : decide (vAt l (2 + k) > s.1) with
          | true => rw [hg] at hr; exact B2_ok.rndN hr ⟨get_map _ g1, hadd, get_map _ g2, hsub, get_map _ g3, trivial, rfl⟩
          | false => rw [hg] at hr; exact B2_ok.rndN hr ⟨get_map _ g1, hadd, get_map _ g2, hsub, get_map _ g3, trivial, rfl⟩)
        (fun s _ => ⟨B2_ok.rndX (r50 (l.map intA) s.1 0 0 0 s.2 (2 + (List.range' 2 (l.length - 3)).length) 0 0) (by
          rw [List.length_range', nextW (show 2 + (l.length - 3) < l.length by omega) hl, e, show 2 + (l.length - 3) + 1 = l.length by omega, lt_self]; exact ⟨trivial, rfl⟩), by simp⟩)
        (List.range' 2 (l.length - 3)) [] (vAt l 1, 1) rfl trivial
      rw [show ([] : List Nat).length = 0 from rfl, goL_fold (fun _ s i => visS l s i) id _ _ _ (fun _ _ _ _ => rfl)] at h
      have ht := t50 (l.map intA) (seriesM l) z x y (visM l).1 (Int.ofNat (visM l).2)
      rw [e, show firstM [seriesM l, whenM (decide (Int.ofNat l.length < 3)) 16] = vErr l from rfl, bnz, hq, ← hv] at ht
      rw [h0]
      exact B2_ok.tr ht ⟨⟨rfl, specSer hb⟩, get_map _ g1, get_map _ g2, get_map _ g3, ⟨trivial, trivial, h.says⟩, rfl⟩
def R1 : Specs := (((((B2.set 47 ownMG).set 118 serMG).set 48 mnyG).set 49 rwsG).set 51 rviG).set 50 pviG
theorem R1_ok : Ok R1 := (((((B2_ok.set h47).set h118).set h48).set h49).set h51).set h50
end Go.Vm.S6
