/- Traces: fields, copies, checks. -/
import Derived.Test.YtbplbhcgcicgfaaGreatDoorS6B2
import Derived.Test.YtbplbhcgcicgfaaGreatDoorS6M1
namespace Go.Vm.S6
open Go.Proofs Go.RowKit
set_option maxRecDepth 100000 in
theorem t52 (es : List AV) : evTreeD (CS B2) 60 52 [.rsl 4 es false] [] =
    (bif decide (Int.ofNat es.length ≤ 40) then (.done (some (.v (.bool true)))) else (.done (some (.v (.bool (Int.ofNat es.length == 129)))))) := by kernel_rfl
set_option maxRecDepth 100000 in
theorem t124 (a b : Int) (u o : Bool) : evTreeD (CS B2) 60 124 [.agg [intA a, intA b, boolA u, boolA o]] [] =
    (.done (some (.v (.int .i64 a)))) := by kernel_rfl
set_option maxRecDepth 100000 in
theorem t125 (a b : Int) (u o : Bool) : evTreeD (CS B2) 60 125 [.agg [intA a, intA b, boolA u, boolA o]] [] =
    (.done (some (.v (.int .i64 b)))) := by kernel_rfl
set_option maxRecDepth 100000 in
theorem t122 (a b : Int) (u o : Bool) : evTreeD (CS B2) 60 122 [.agg [intA a, intA b, boolA u, boolA o]] [] =
    (.done (some (.v (.bool u)))) := by kernel_rfl
set_option maxRecDepth 100000 in
theorem t126 (a b : Int) (u o : Bool) : evTreeD (CS B2) 60 126 [.agg [intA a, intA b, boolA u, boolA o]] [] =
    (.done (some (.v (.bool o)))) := by kernel_rfl
set_option maxRecDepth 100000 in
theorem t127 (a b : Int) (u o : Bool) : evTreeD (CS B2) 60 127 [.agg [intA a, intA b, boolA u, boolA o]] [] =
    (bif u then (.done (some (.v (.int .i64 (-16384))))) else (.done (some (.v (.int .i64 a))))) := by kernel_rfl
set_option maxRecDepth 100000 in
theorem t128 (a : Int) : evTreeD (CS B2) 60 128 [intA a] [] =
    (.done (some (.agg [.v (.int .i64 a), .v (.int .i64 1)]))) := by kernel_rfl
set_option maxRecDepth 100000 in
theorem t134 (a b : Int) (u o : Bool) : evTreeD (CS B2) 60 134 [.agg [intA a, intA b, boolA u, boolA o]] [] =
    (.done (some (.v (.int .i64 (firstM [unitM a, unitM b, whenM (decide (a > b)) 11]))))) := by kernel_rfl
set_option maxRecDepth 100000 in
theorem t135 (a b : Int) (u o : Bool) : evTreeD (CS B2) 60 135 [.agg [intA a, intA b, boolA u, boolA o]] [] =
    (bif !u then (bif !o then (.done (some (.v (.int .i64 (if IntKind.i64.wrap (0 - b) > if a > 0 then a else 0 then IntKind.i64.wrap (0 - b) else if a > 0 then a else 0))))) else (.done (some (.v (.int .i64 (if a > 0 then a else 0)))))) else (bif !o then (.done (some (.v (.int .i64 (if IntKind.i64.wrap (0 - b) > 0 then IntKind.i64.wrap (0 - b) else 0))))) else (.done (some (.v (.int .i64 0)))))) := by kernel_rfl
set_option maxRecDepth 100000 in
theorem t136 (a b : Int) (u o : Bool) : evTreeD (CS B2) 60 136 [.agg [intA a, intA b, boolA u, boolA o]] [] =
    (.done (some (.v (.int .i64 (if IntKind.i64.wrap (0 - a) > b then IntKind.i64.wrap (0 - a) else b))))) := by kernel_rfl
set_option maxRecDepth 100000 in
theorem t137 (a b : Int) (u o : Bool) : evTreeD (CS B2) 60 137 [.agg [intA a, intA b, boolA u, boolA o]] [] =
    (bif u then (.done (some (.v (.bool true)))) else (.done (some (.v (.bool o))))) := by kernel_rfl
set_option maxRecDepth 100000 in
theorem t138 (a b : Int) (u o : Bool) : evTreeD (CS B2) 60 138 [.agg [intA a, intA b, boolA u, boolA o]] [] =
    (bif u then (bif o then (.done (some (.v (.int .i64 (if 0 > if 0 > 0 then 0 else 0 then 0 else if 0 > 0 then 0 else 0))))) else (.done (some (.v (.int .i64 (if IntKind.i64.wrap (0 - b) > if 0 > 0 then 0 else 0 then IntKind.i64.wrap (0 - b) else if 0 > 0 then 0 else 0)))))) else (bif o then (.done (some (.v (.int .i64 (if 0 > if a > 0 then a else 0 then 0 else if a > 0 then a else 0))))) else (.done (some (.v (.int .i64 (if IntKind.i64.wrap (0 - b) > if a > 0 then a else 0 then IntKind.i64.wrap (0 - b) else if a > 0 then a else 0))))))) := by kernel_rfl
set_option maxRecDepth 100000 in
theorem t139 (a b : Int) (u o : Bool) : evTreeD (CS B2) 60 139 [.agg [intA a, intA b, boolA u, boolA o]] [] =
    (.done (some (.v (.int .i64 (if IntKind.i64.wrap (0 - a) > b then IntKind.i64.wrap (0 - a) else b))))) := by kernel_rfl
set_option maxRecDepth 100000 in
theorem r54a (es : List AV) (a b : Int) (u o : Bool) (n i : Nat) : roundD (CS B2) 60 0 54 0 18 18 false (loopOf (CS B2) 54 0) [3, 6, 7, 8] [] [3, 6, 7, 8] [15] [3] [] [nilS, .rsl 4 es false, intA (Int.ofNat n), intA (Int.ofNat i)] [] [.br [.chk [.agg [intA a, intA b, boolA u, boolA o]]] []] =
    (bif decide (Int.ofNat i < Int.ofNat n) then (.need (es[i]? = (some (AV.agg [.v (.int .i64 a), .v (.int .i64 b), .v (.bool u), .v (.bool o)]))) (.need (EntClosed [(false, .arr 4 [.agg [.v (.int .i64 a), .v (.int .i64 b), .v (.bool u), .v (.bool o)]] false)]) (.done (some ((.nrm, [.sl 15 0 4 0 1, .rsl 4 es false, .v (.int .i64 (Int.ofNat n)), .v (.int .i64 (IntKind.i64.wrap (Int.ofNat i + 1)))], [(false, .arr 4 [.agg [.v (.int .i64 a), .v (.int .i64 b), .v (.bool u), .v (.bool o)]] false)])))))) else (.need (EntClosed []) (.done (some (((.exit 0), [.v (.slice none 0 0)], [])))))) := by kernel_rfl
set_option maxRecDepth 100000 in
theorem r54b (es rs : List AV) (a b : Int) (u o : Bool) (n i k : Nat) : roundD (CS B2) 60 0 54 0 18 18 false (loopOf (CS B2) 54 0) [3, 6, 7, 8] [15] [3, 6, 7, 8] [15] [3] [15] [.sl 15 0 4 0 k, .rsl 4 es false, intA (Int.ofNat n), intA (Int.ofNat i)] [(false, .arr 4 rs false)] [.br [.chk [.agg [intA a, intA b, boolA u, boolA o]], .chk rs] []] =
    (bif decide (Int.ofNat i < Int.ofNat n) then (.need (es[i]? = (some (AV.agg [.v (.int .i64 a), .v (.int .i64 b), .v (.bool u), .v (.bool o)]))) (.need (k = rs.length ∧ true = true ∧ 4 = 4 ∧ (rs ++ ([.agg [.v (.int .i64 a), .v (.int .i64 b), .v (.bool u), .v (.bool o)]] : List AV)).length * 24 ≤ 35184372088832 ∧ (rs ++ ([.agg [.v (.int .i64 a), .v (.int .i64 b), .v (.bool u), .v (.bool o)]] : List AV)).length ≤ 35184372088832 ∧ 24 ≠ 0) (.need (EntClosed [(false, .arr 4 (rs ++ ([.agg [.v (.int .i64 a), .v (.int .i64 b), .v (.bool u), .v (.bool o)]] : List AV)) false)]) (.done (some ((.nrm, [.sl 15 0 4 0 ((rs ++ ([.agg [.v (.int .i64 a), .v (.int .i64 b), .v (.bool u), .v (.bool o)]] : List AV)).length), .rsl 4 es false, .v (.int .i64 (Int.ofNat n)), .v (.int .i64 (IntKind.i64.wrap (Int.ofNat i + 1)))], [(false, .arr 4 (rs ++ ([.agg [.v (.int .i64 a), .v (.int .i64 b), .v (.bool u), .v (.bool o)]] : List AV)) false)]))))))) else (.need (EntClosed [(false, .arr 4 rs false)]) (.done (some (((.exit 0), [.sl 15 0 4 0 k], [(false, .arr 4 rs false)])))))) := by kernel_rfl
set_option maxRecDepth 100000 in
theorem t54 (es rs : List AV) : evTreeD (CS B2) 60 54 [.rsl 4 es false] [.loop 0 [3, 6, 7, 8] [] [3] [] (.exit 0) [.rsl 4 rs false] []] =
    (.need (EntClosed [] ∧ EntClosed [] ∧ Says (CS B2) 0 18 false (.loop (loopOf (CS B2) 54 0)) (mkSt [3, 6, 7, 8] [] 18 [.v (.slice none 0 0), .rsl 4 es false, .v (.int .i64 (Int.ofNat es.length)), .v (.int .i64 0)] []) (.exit 0) (mkSt [3] [] 18 [.rsl 4 rs false] [])) (.done (some (.rsl 4 rs false)))) := by kernel_rfl
set_option maxRecDepth 100000 in
theorem r129a (es : List AV) (a b : Int) (u o : Bool) (i : Nat) : roundD (CS B2) 60 0 129 0 20 20 false (loopOf (CS B2) 129 0) [0, 3, 4] [] [0, 3, 4] [18] [3] [] [.rsl 4 es false, nilS, intA (Int.ofNat i)] [] [.br [.chk [.agg [intA a, intA b, boolA u, boolA o]]] []] =
    (bif decide (Int.ofNat i < Int.ofNat es.length) then (.need (es[i]? = (some (AV.agg [.v (.int .i64 a), .v (.int .i64 b), .v (.bool u), .v (.bool o)]))) (.need (EntClosed [(false, .arr 1 [.v (.int .i64 b)] false)]) (.done (some ((.nrm, [.rsl 4 es false, .sl 18 0 1 0 1, .v (.int .i64 (IntKind.i64.wrap (Int.ofNat i + 1)))], [(false, .arr 1 [.v (.int .i64 b)] false)])))))) else (.need (EntClosed []) (.done (some (((.exit 0), [.v (.slice none 0 0)], [])))))) := by kernel_rfl
set_option maxRecDepth 100000 in
theorem r129b (es rs : List AV) (a b : Int) (u o : Bool) (i k : Nat) : roundD (CS B2) 60 0 129 0 20 20 false (loopOf (CS B2) 129 0) [0, 3, 4] [18] [0, 3, 4] [18] [3] [18] [.rsl 4 es false, .sl 18 0 1 0 k, intA (Int.ofNat i)] [(false, .arr 1 rs false)] [.br [.chk [.agg [intA a, intA b, boolA u, boolA o]], .chk rs] []] =
    (bif decide (Int.ofNat i < Int.ofNat es.length) then (.need (es[i]? = (some (AV.agg [.v (.int .i64 a), .v (.int .i64 b), .v (.bool u), .v (.bool o)]))) (.need (k = rs.length ∧ true = true ∧ 1 = 1 ∧ (rs ++ ([.v (.int .i64 b)] : List AV)).length * 8 ≤ 35184372088832 ∧ (rs ++ ([.v (.int .i64 b)] : List AV)).length ≤ 35184372088832 ∧ 8 ≠ 0) (.need (EntClosed [(false, .arr 1 (rs ++ ([.v (.int .i64 b)] : List AV)) false)]) (.done (some ((.nrm, [.rsl 4 es false, .sl 18 0 1 0 ((rs ++ ([.v (.int .i64 b)] : List AV)).length), .v (.int .i64 (IntKind.i64.wrap (Int.ofNat i + 1)))], [(false, .arr 1 (rs ++ ([.v (.int .i64 b)] : List AV)) false)]))))))) else (.need (EntClosed [(false, .arr 1 rs false)]) (.done (some (((.exit 0), [.sl 18 0 1 0 k], [(false, .arr 1 rs false)])))))) := by kernel_rfl
set_option maxRecDepth 100000 in
theorem t129 (es rs : List AV) : evTreeD (CS B2) 60 129 [.rsl 4 es false] [.loop 0 [0, 3, 4] [] [3] [] (.exit 0) [.rsl 1 rs false] []] =
    (.need (EntClosed [] ∧ EntClosed [] ∧ Says (CS B2) 0 20 false (.loop (loopOf (CS B2) 129 0)) (mkSt [0, 3, 4] [] 20 [.rsl 4 es false, .v (.slice none 0 0), .v (.int .i64 0)] []) (.exit 0) (mkSt [3] [] 20 [.rsl 1 rs false] [])) (.done (some (.rsl 1 rs false)))) := by kernel_rfl
set_option maxRecDepth 100000 in
theorem r130a (es : List AV) (a b : Int) (u o : Bool) (i : Nat) : roundD (CS B2) 60 0 130 0 20 20 false (loopOf (CS B2) 130 0) [0, 3, 4] [] [0, 3, 4] [18] [3] [] [.rsl 4 es false, nilS, intA (Int.ofNat i)] [] [.br [.chk [.agg [intA a, intA b, boolA u, boolA o]]] []] =
    (bif decide (Int.ofNat i < Int.ofNat es.length) then (.need (es[i]? = (some (AV.agg [.v (.int .i64 a), .v (.int .i64 b), .v (.bool u), .v (.bool o)]))) (.need (EntClosed [(false, .arr 1 [.v (.int .i64 a)] false)]) (.done (some ((.nrm, [.rsl 4 es false, .sl 18 0 1 0 1, .v (.int .i64 (IntKind.i64.wrap (Int.ofNat i + 1)))], [(false, .arr 1 [.v (.int .i64 a)] false)])))))) else (.need (EntClosed []) (.done (some (((.exit 0), [.v (.slice none 0 0)], [])))))) := by kernel_rfl
set_option maxRecDepth 100000 in
theorem r130b (es rs : List AV) (a b : Int) (u o : Bool) (i k : Nat) : roundD (CS B2) 60 0 130 0 20 20 false (loopOf (CS B2) 130 0) [0, 3, 4] [18] [0, 3, 4] [18] [3] [18] [.rsl 4 es false, .sl 18 0 1 0 k, intA (Int.ofNat i)] [(false, .arr 1 rs false)] [.br [.chk [.agg [intA a, intA b, boolA u, boolA o]], .chk rs] []] =
    (bif decide (Int.ofNat i < Int.ofNat es.length) then (.need (es[i]? = (some (AV.agg [.v (.int .i64 a), .v (.int .i64 b), .v (.bool u), .v (.bool o)]))) (.need (k = rs.length ∧ true = true ∧ 1 = 1 ∧ (rs ++ ([.v (.int .i64 a)] : List AV)).length * 8 ≤ 35184372088832 ∧ (rs ++ ([.v (.int .i64 a)] : List AV)).length ≤ 35184372088832 ∧ 8 ≠ 0) (.need (EntClosed [(false, .arr 1 (rs ++ ([.v (.int .i64 a)] : List AV)) false)]) (.done (some ((.nrm, [.rsl 4 es false, .sl 18 0 1 0 ((rs ++ ([.v (.int .i64 a)] : List AV)).length), .v (.int .i64 (IntKind.i64.wrap (Int.ofNat i + 1)))], [(false, .arr 1 (rs ++ ([.v (.int .i64 a)] : List AV)) false)]))))))) else (.need (EntClosed [(false, .arr 1 rs false)]) (.done (some (((.exit 0), [.sl 18 0 1 0 k], [(false, .arr 1 rs false)])))))) := by kernel_rfl
set_option maxRecDepth 100000 in
theorem t130 (es rs : List AV) : evTreeD (CS B2) 60 130 [.rsl 4 es false] [.loop 0 [0, 3, 4] [] [3] [] (.exit 0) [.rsl 1 rs false] []] =
    (.need (EntClosed [] ∧ EntClosed [] ∧ Says (CS B2) 0 20 false (.loop (loopOf (CS B2) 130 0)) (mkSt [0, 3, 4] [] 20 [.rsl 4 es false, .v (.slice none 0 0), .v (.int .i64 0)] []) (.exit 0) (mkSt [3] [] 20 [.rsl 1 rs false] [])) (.done (some (.rsl 1 rs false)))) := by kernel_rfl
set_option maxRecDepth 100000 in
theorem r131 (es : List AV) (a b : Int) (u o : Bool) (x y : Int) (i : Nat) : roundD (CS B2) 60 0 131 0 19 19 false (loopOf (CS B2) 131 0) [0, 3, 5] [3] [0, 3, 5] [3] [4] [] [.rsl 4 es false, .ptr 3 0 0, intA (Int.ofNat i)] [(false, .box [intA x, intA y])] [.br [.chk [.agg [intA a, intA b, boolA u, boolA o]]] []] =
    (bif decide (Int.ofNat i < y) then (.need (es[i]? = (some (AV.agg [.v (.int .i64 a), .v (.int .i64 b), .v (.bool u), .v (.bool o)]))) (bif u then (.need (EntClosed []) (.done (some ((.ret, [.v (.bool true)], []))))) else (.need (EntClosed [(false, .box [.v (.int .i64 x), .v (.int .i64 y)])]) (.done (some ((.nrm, [.rsl 4 es false, .ptr 3 0 0, .v (.int .i64 (IntKind.i64.wrap (Int.ofNat i + 1)))], [(false, .box [.v (.int .i64 x), .v (.int .i64 y)])]))))))) else (.need (EntClosed []) (.done (some (((.exit 0), [.bad], [])))))) := by kernel_rfl
set_option maxRecDepth 100000 in
theorem t131r (es : List AV) (x y : Int) : evTreeD (CS B2) 60 131 [.rsl 4 es false, .agg [intA x, intA y]] [.loop 0 [0, 3, 5] [3] [4] [] .ret [boolA true] []] =
    (.need (EntClosed [(false, .box [.v (.int .i64 x), .v (.int .i64 y)])] ∧ EntClosed [] ∧ Says (CS B2) 0 19 false (.loop (loopOf (CS B2) 131 0)) (mkSt [0, 3, 5] [3] 19 [.rsl 4 es false, .ptr 3 0 0, .v (.int .i64 x)] [(false, .box [.v (.int .i64 x), .v (.int .i64 y)])]) .ret (mkSt [4] [] 19 [.v (.bool true)] [])) (.done (some (.v (.bool true))))) := by kernel_rfl
set_option maxRecDepth 100000 in
theorem t131e (es : List AV) (x y : Int) : evTreeD (CS B2) 60 131 [.rsl 4 es false, .agg [intA x, intA y]] [.loop 0 [0, 3, 5] [3] [4] [] (.exit 0) [.bad] []] =
    (.need (EntClosed [(false, .box [.v (.int .i64 x), .v (.int .i64 y)])] ∧ EntClosed [] ∧ Says (CS B2) 0 19 false (.loop (loopOf (CS B2) 131 0)) (mkSt [0, 3, 5] [3] 19 [.rsl 4 es false, .ptr 3 0 0, .v (.int .i64 x)] [(false, .box [.v (.int .i64 x), .v (.int .i64 y)])]) (.exit 0) (mkSt [4] [] 19 [.bad] [])) (.done (some (.v (.bool false))))) := by kernel_rfl
set_option maxRecDepth 100000 in
theorem r132 (es : List AV) (a b : Int) (u o : Bool) (i : Nat) : roundD (CS B2) 60 0 132 0 15 15 false (loopOf (CS B2) 132 0) [0, 3] [] [0, 3] [] [2] [] [.rsl 4 es false, intA (Int.ofNat i)] [] [.br [.chk [.agg [intA a, intA b, boolA u, boolA o]]] []] =
    (bif decide (Int.ofNat i < Int.ofNat es.length) then (.need (es[i]? = (some (AV.agg [.v (.int .i64 a), .v (.int .i64 b), .v (.bool u), .v (.bool o)]))) (bif o then (.need (EntClosed []) (.done (some ((.ret, [.v (.bool true)], []))))) else (.need (EntClosed []) (.done (some ((.nrm, [.rsl 4 es false, .v (.int .i64 (IntKind.i64.wrap (Int.ofNat i + 1)))], []))))))) else (.need (EntClosed []) (.done (some (((.exit 0), [.bad], [])))))) := by kernel_rfl
set_option maxRecDepth 100000 in
theorem t132r (es : List AV) : evTreeD (CS B2) 60 132 [.rsl 4 es false] [.loop 0 [0, 3] [] [2] [] .ret [boolA true] []] =
    (.need (EntClosed [] ∧ EntClosed [] ∧ Says (CS B2) 0 15 false (.loop (loopOf (CS B2) 132 0)) (mkSt [0, 3] [] 15 [.rsl 4 es false, .v (.int .i64 0)] []) .ret (mkSt [2] [] 15 [.v (.bool true)] [])) (.done (some (.v (.bool true))))) := by kernel_rfl
set_option maxRecDepth 100000 in
theorem t132e (es : List AV) : evTreeD (CS B2) 60 132 [.rsl 4 es false] [.loop 0 [0, 3] [] [2] [] (.exit 0) [.bad] []] =
    (.need (EntClosed [] ∧ EntClosed [] ∧ Says (CS B2) 0 15 false (.loop (loopOf (CS B2) 132 0)) (mkSt [0, 3] [] 15 [.rsl 4 es false, .v (.int .i64 0)] []) (.exit 0) (mkSt [2] [] 15 [.bad] [])) (.done (some (.v (.bool false))))) := by kernel_rfl
set_option maxRecDepth 100000 in
theorem r56 (es : List AV) (a b : Int) (u o : Bool) (i : Nat) : roundD (CS B2) 60 0 56 0 47 47 false (loopOf (CS B2) 56 0) [0, 4] [] [0, 4] [] [2] [] [.rsl 4 es false, intA (Int.ofNat i)] [] [.br [.chk [.agg [intA a, intA b, boolA u, boolA o]], .chk [.agg [intA a, intA b, boolA u, boolA o]], .chk [.agg [intA a, intA b, boolA u, boolA o]], .chk [.agg [intA a, intA b, boolA u, boolA o]]] []] =
    (bif decide (Int.ofNat i < Int.ofNat es.length) then (.need (es[i]? = (some (AV.agg [.v (.int .i64 a), .v (.int .i64 b), .v (.bool u), .v (.bool o)]))) (.need (es[i]? = (some (AV.agg [.v (.int .i64 a), .v (.int .i64 b), .v (.bool u), .v (.bool o)]))) (.need (es[i]? = (some (AV.agg [.v (.int .i64 a), .v (.int .i64 b), .v (.bool u), .v (.bool o)]))) (.need (es[i]? = (some (AV.agg [.v (.int .i64 a), .v (.int .i64 b), .v (.bool u), .v (.bool o)]))) (bif firstM [unitM a, unitM b, whenM (decide (a > b)) 11] != 0 then (.need (EntClosed []) (.done (some ((.ret, [.v (.int .i64 (firstM [unitM a, unitM b, whenM (decide (a > b)) 11]))], []))))) else (.need (EntClosed []) (.done (some ((.nrm, [.rsl 4 es false, .v (.int .i64 (IntKind.i64.wrap (Int.ofNat i + 1)))], [])))))))))) else (.need (EntClosed []) (.done (some (((.exit 0), [.bad], [])))))) := by kernel_rfl
set_option maxRecDepth 100000 in
theorem t56r (es : List AV) (x : Int) : evTreeD (CS B2) 60 56 [.rsl 4 es false] [.br [] [.loop 0 [0, 4] [] [2] [] .ret [intA x] []]] =
    (bif manyI (Int.ofNat es.length) 128 != 0 then (.done (some (.v (.int .i64 (manyI (Int.ofNat es.length) 128))))) else (.need (EntClosed [] ∧ EntClosed [] ∧ Says (CS B2) 0 47 false (.loop (loopOf (CS B2) 56 0)) (mkSt [0, 4] [] 47 [.rsl 4 es false, .v (.int .i64 0)] []) .ret (mkSt [2] [] 47 [.v (.int .i64 x)] [])) (.done (some (.v (.int .i64 x)))))) := by kernel_rfl
set_option maxRecDepth 100000 in
theorem t56e (es : List AV) : evTreeD (CS B2) 60 56 [.rsl 4 es false] [.br [] [.loop 0 [0, 4] [] [2] [] (.exit 0) [.bad] []]] =
    (bif manyI (Int.ofNat es.length) 128 != 0 then (.done (some (.v (.int .i64 (manyI (Int.ofNat es.length) 128))))) else (.need (EntClosed [] ∧ EntClosed [] ∧ Says (CS B2) 0 47 false (.loop (loopOf (CS B2) 56 0)) (mkSt [0, 4] [] 47 [.rsl 4 es false, .v (.int .i64 0)] []) (.exit 0) (mkSt [2] [] 47 [.bad] [])) (.done (some (.v (.int .i64 0)))))) := by kernel_rfl
/-- A loop that appends what it makes of each element. -/
theorem gather_run {α β : Type} {C : Cx} {nt : Nat} {c : Code} {key sz bb r : Nat} {ts : List Tmp} {ex : Ex} (B : Cod β) (g : α → β) (vs : Nat → AV → List AV) (l : List α) (hx : ex ≠ .nrm) (hl : l.length ≤ lim) (hB : ∀ y, closed (B.enc y) = true) (hbb : bb ≤ 1024)
    (ra : ∀ i x, l[i]? = some x → Says C 0 nt false c (mkSt ts [] nt (vs i nilS) []) .nrm (mkSt ts [key] nt (vs (i + 1) (.sl key 0 sz 0 1)) [(false, .arr sz [B.enc (g x)] false)]))
    (rb : ∀ i x rs, l[i]? = some x → (rs ++ [B.enc (g x)]).length * bb ≤ 35184372088832 → (rs ++ [B.enc (g x)]).length ≤ 35184372088832 → ClosedL (rs ++ [B.enc (g x)]) → Says C 0 nt false c (mkSt ts [key] nt (vs i (.sl key 0 sz 0 rs.length)) [(false, .arr sz rs false)]) .nrm (mkSt ts [key] nt (vs (i + 1) (.sl key 0 sz 0 (rs ++ [B.enc (g x)]).length)) [(false, .arr sz (rs ++ [B.enc (g x)]) false)]))
    (xa : Says C 0 nt false c (mkSt ts [] nt (vs l.length nilS) []) ex (mkSt [r] [] nt [nilS] []))
    (xb : ∀ rs, ClosedL rs → Says C 0 nt false c (mkSt ts [key] nt (vs l.length (.sl key 0 sz 0 rs.length)) [(false, .arr sz rs false)]) ex (mkSt [r] [key] nt [.sl key 0 sz 0 rs.length] [(false, .arr sz rs false)])) :
    LoopRun C 0 nt false c (mkSt ts [] nt (vs 0 nilS) []) ex (mkSt [r] [] nt [.rsl sz ((l.map g).map B.enc) false] []) := by
  have hcl : ∀ m : List β, ClosedL (m.map B.enc) := fun m => ClosedL.map hB
  have h := LoopRun.gather (C := C) (p := 0) (nt := nt) (rd := false) (c := c) (fun _ x => [g x]) 1 (by simp) (fun i (acc : List β) => blSt key sz ts nt (fun a => vs i a) (acc.map B.enc)) ex
    (fun acc => mkSt [r] [] nt [.rsl sz (acc.map B.enc) false] []) l hx
    (fun i x acc hx hacc => by
      have hi := lt_len hx
      have hlen : ((acc ++ [g x]).map B.enc).length ≤ 35184372088832 / 1024 := by simp; unfold lim at hl; omega
      cases acc with
      | nil => exact ra i x hx
      | cons y ys =>
        have e2 : blSt key sz ts nt (fun a => vs (i + 1) a) (((y :: ys) ++ [g x]).map B.enc) = mkSt ts [key] nt (vs (i + 1) (.sl key 0 sz 0 ((y :: ys).map B.enc ++ [B.enc (g x)]).length)) [(false, .arr sz ((y :: ys).map B.enc ++ [B.enc (g x)]) false)] := by
          rw [show ((y :: ys) ++ [g x]).map B.enc = (y :: ys).map B.enc ++ [B.enc (g x)] by simp]; rfl
        rw [show ((y :: ys) ++ [g x]).map B.enc = (y :: ys).map B.enc ++ [B.enc (g x)] by simp] at hlen
        show Says _ _ _ _ _ _ _ (blSt key sz ts nt (fun a => vs (i + 1) a) (((y :: ys) ++ [g x]).map B.enc))
        rw [e2]
        exact rb i x ((y :: ys).map B.enc) hx (by have := Nat.mul_le_mul hlen hbb; omega) (by omega) ((hcl (y :: ys)).append (hcl [g x])))
    (fun acc _ => by
      refine Says.blEnd (key := key) ?_ (hcl acc)
      cases acc with
      | nil => exact xa
      | cons y ys => exact xb ((y :: ys).map B.enc) (hcl _))
  rw [gath_map] at h
  exact h
abbrev vaC : Cod Va := aggC (RC.cons intC (RC.cons intC (RC.cons boolC (RC.one boolC))))
abbrev vasC : Cod (List Va) := listC vaC 4
def stTrG : List AV → Option AV := sp1 vasC fun l => some (boolA (shortM l.length))
theorem h52 : Holds 52 stTrG := holds1 fun l r hr => by
  simp only [Option.some.injEq] at hr; subst hr
  have ht := t52 (l.map vaC.enc)
  rw [e_len'] at ht
  refine B2_ok.tr ht ?_
  unfold shortM
  cases decide (Int.ofNat l.length ≤ 40) <;> rfl
/-! ### Fields and what follows from them -/
def vchk (v : Va) : Int := firstM [unitM (lowV v), unitM (highV v), whenM (decide (lowV v > highV v)) 11]
def absN (n : Int) : Int := IntKind.i64.wrap (0 - n)
def mx (a b : Int) : Int := if a > b then a else b
def leastV (v : Va) : Int := bif underV v then (bif overV v then 0 else mx (absN (highV v)) 0) else (bif overV v then mx (lowV v) 0 else mx (absN (highV v)) (mx (lowV v) 0))
def mostV (v : Va) : Int := mx (absN (lowV v)) (highV v)
def anyV (v : Va) : Bool := underV v || overV v
def vI (g : Va → Int) : List AV → Option AV := sp1 vaC fun v => some (intA (g v))
def vB (g : Va → Bool) : List AV → Option AV := sp1 vaC fun v => some (boolA (g v))
theorem h124 : Holds 124 (vI lowV) := holds1 fun v r hr => by
  simp only [Option.some.injEq] at hr; subst hr
  exact B2_ok.tr (t124 v.1 v.2.1 v.2.2.1 v.2.2.2) rfl
theorem h125 : Holds 125 (vI highV) := holds1 fun v r hr => by
  simp only [Option.some.injEq] at hr; subst hr
  exact B2_ok.tr (t125 v.1 v.2.1 v.2.2.1 v.2.2.2) rfl
theorem h122 : Holds 122 (vB underV) := holds1 fun v r hr => by
  simp only [Option.some.injEq] at hr; subst hr
  exact B2_ok.tr (t122 v.1 v.2.1 v.2.2.1 v.2.2.2) rfl
theorem h126 : Holds 126 (vB overV) := holds1 fun v r hr => by
  simp only [Option.some.injEq] at hr; subst hr
  exact B2_ok.tr (t126 v.1 v.2.1 v.2.2.1 v.2.2.2) rfl
theorem h127 : Holds 127 (vI adjV) := holds1 fun v r hr => by
  simp only [Option.some.injEq] at hr; subst hr
  obtain ⟨a, b, u, o⟩ := v
  refine B2_ok.tr (t127 a b u o) ?_
  cases u <;> rfl
theorem h128 : Holds 128 wholeG := holds1 fun n r hr => by
  simp only [Option.some.injEq] at hr; subst hr
  exact B2_ok.tr (t128 n) rfl
theorem h134 : Holds 134 (vI vchk) := holds1 fun v r hr => by
  simp only [Option.some.injEq] at hr; subst hr
  exact B2_ok.tr (t134 v.1 v.2.1 v.2.2.1 v.2.2.2) rfl
theorem h135 : Holds 135 (vI leastV) := holds1 fun v r hr => by
  simp only [Option.some.injEq] at hr; subst hr
  obtain ⟨a, b, u, o⟩ := v
  refine B2_ok.tr (t135 a b u o) ?_
  cases u <;> cases o <;> rfl
theorem h136 : Holds 136 (vI mostV) := holds1 fun v r hr => by
  simp only [Option.some.injEq] at hr; subst hr
  exact B2_ok.tr (t136 v.1 v.2.1 v.2.2.1 v.2.2.2) rfl
theorem h137 : Holds 137 (vB anyV) := holds1 fun v r hr => by
  simp only [Option.some.injEq] at hr; subst hr
  obtain ⟨a, b, u, o⟩ := v
  refine B2_ok.tr (t137 a b u o) ?_
  cases u <;> rfl
theorem h138 : Holds 138 (vI leastV) := holds1 fun v r hr => by
  simp only [Option.some.injEq] at hr; subst hr
  obtain ⟨a, b, u, o⟩ := v
  refine B2_ok.tr (t138 a b u o) ?_
  have key : ∀ x y : Int, x = y → (intA x : AV) = intA y := fun x y h => by rw [h]
  cases u <;> cases o
  · rfl
  · refine congrArg _ (?_ : _ = _)
    show intA _ = intA _
    refine key _ _ ?_
    unfold leastV mx underV overV lowV
    simp only [cond_true, cond_false]
    split <;> split <;> first | rfl | omega
  · refine congrArg _ (?_ : _ = _)
    show intA _ = intA _
    refine key _ _ ?_
    unfold leastV mx underV overV absN highV
    simp only [cond_true, cond_false]
    split <;> split <;> first | rfl | omega
  · rfl
theorem h139 : Holds 139 (vI mostV) := holds1 fun v r hr => by
  simp only [Option.some.injEq] at hr; subst hr
  exact B2_ok.tr (t139 v.1 v.2.1 v.2.2.1 v.2.2.2) rfl
/-! ### Copies, highs, lows -/
def ownVG : List AV → Option AV := sp1 vasC fun l => bif Nat.ble l.length lim then some (slA vaC 4 l) else none
theorem h54 : Holds 54 ownVG := holds1 fun l r hr => by
  cases hb : Nat.ble l.length lim with
  | false => simp [hb] at hr
  | true =>
    simp only [hb, cond_true, Option.some.injEq] at hr; subst hr
    have hle := Nat.le_of_ble_eq_true hb
    have hlim := limTwo hle
    have h := gather_run (C := CS B2) (nt := 18) (c := loopOf (CS B2) 54 0) (key := 15) (sz := 4) (bb := 24) (r := 3) (ts := [3, 6, 7, 8]) (ex := .exit 0) vaC (fun v => v) (fun i a => [a, .rsl 4 (l.map vaC.enc) false, intA (Int.ofNat l.length), intA (Int.ofNat i)]) l (by simp) hle (fun _ => rfl) (by omega)
      (fun i x hx => by
        have hi := lt_len hx
        refine B2_ok.rndN (r54a (l.map vaC.enc) x.1 x.2.1 x.2.2.1 x.2.2.2 l.length i) ?_
        rw [lt_of hi, wrap_ix hi hlim]
        exact ⟨get_map _ hx, ⟨ClosedL.map (f := vaC.enc) (l := [x]) (fun _ => rfl), trivial⟩, rfl⟩)
      (fun i x rs hx h1 h2 h3 => by
        have hi := lt_len hx
        refine B2_ok.rndN (r54b (l.map vaC.enc) rs x.1 x.2.1 x.2.2.1 x.2.2.2 l.length i rs.length) ?_
        rw [lt_of hi, wrap_ix hi hlim]
        exact ⟨get_map _ hx, ⟨rfl, rfl, rfl, h1, h2, by omega⟩, ⟨h3, trivial⟩, rfl⟩)
      (B2_ok.rndX (r54a (l.map vaC.enc) 0 0 false false l.length l.length) (by rw [lt_self]; exact ⟨trivial, rfl⟩))
      (fun rs hr => B2_ok.rndX (r54b (l.map vaC.enc) rs 0 0 false false l.length l.length rs.length) (by rw [lt_self]; exact ⟨⟨hr, trivial⟩, rfl⟩))
    rw [List.map_id' l] at h
    refine B2_ok.tr (t54 (l.map vaC.enc) (l.map vaC.enc)) ⟨⟨trivial, trivial, ?_⟩, rfl⟩
    rw [List.length_map]
    exact h.says
def fldG (g : Va → Int) : List AV → Option AV := sp1 vasC fun l => bif Nat.ble l.length lim then some (slA intC 1 (l.map g)) else none
theorem h129 : Holds 129 (fldG highV) := holds1 fun l r hr => by
  cases hb : Nat.ble l.length lim with
  | false => simp [hb] at hr
  | true =>
    simp only [hb, cond_true, Option.some.injEq] at hr; subst hr
    have hle := Nat.le_of_ble_eq_true hb
    have hlim := limTwo hle
    have e := e_len' vaC l
    have h := gather_run (C := CS B2) (nt := 20) (c := loopOf (CS B2) 129 0) (key := 18) (sz := 1) (bb := 8) (r := 3) (ts := [0, 3, 4]) (ex := .exit 0) intC highV (fun i a => [.rsl 4 (l.map vaC.enc) false, a, intA (Int.ofNat i)]) l (by simp) hle (fun _ => rfl) (by omega)
      (fun i x hx => by
        have hi := lt_len hx
        refine B2_ok.rndN (r129a (l.map vaC.enc) x.1 x.2.1 x.2.2.1 x.2.2.2 i) ?_
        rw [e, lt_of hi, wrap_ix hi hlim]
        exact ⟨get_map _ hx, ⟨closedInt [highV x], trivial⟩, rfl⟩)
      (fun i x rs hx h1 h2 h3 => by
        have hi := lt_len hx
        refine B2_ok.rndN (r129b (l.map vaC.enc) rs x.1 x.2.1 x.2.2.1 x.2.2.2 i rs.length) ?_
        rw [e, lt_of hi, wrap_ix hi hlim]
        exact ⟨get_map _ hx, ⟨rfl, rfl, rfl, h1, h2, by omega⟩, ⟨h3, trivial⟩, rfl⟩)
      (B2_ok.rndX (r129a (l.map vaC.enc) 0 0 false false l.length) (by rw [e, lt_self]; exact ⟨trivial, rfl⟩))
      (fun rs hr => B2_ok.rndX (r129b (l.map vaC.enc) rs 0 0 false false l.length rs.length) (by rw [e, lt_self]; exact ⟨⟨hr, trivial⟩, rfl⟩))
    exact B2_ok.tr (t129 (l.map vaC.enc) ((l.map highV).map intA)) ⟨⟨trivial, trivial, h.says⟩, rfl⟩
theorem h130 : Holds 130 (fldG lowV) := holds1 fun l r hr => by
  cases hb : Nat.ble l.length lim with
  | false => simp [hb] at hr
  | true =>
    simp only [hb, cond_true, Option.some.injEq] at hr; subst hr
    have hle := Nat.le_of_ble_eq_true hb
    have hlim := limTwo hle
    have e := e_len' vaC l
    have h := gather_run (C := CS B2) (nt := 20) (c := loopOf (CS B2) 130 0) (key := 18) (sz := 1) (bb := 8) (r := 3) (ts := [0, 3, 4]) (ex := .exit 0) intC lowV (fun i a => [.rsl 4 (l.map vaC.enc) false, a, intA (Int.ofNat i)]) l (by simp) hle (fun _ => rfl) (by omega)
      (fun i x hx => by
        have hi := lt_len hx
        refine B2_ok.rndN (r130a (l.map vaC.enc) x.1 x.2.1 x.2.2.1 x.2.2.2 i) ?_
        rw [e, lt_of hi, wrap_ix hi hlim]
        exact ⟨get_map _ hx, ⟨closedInt [lowV x], trivial⟩, rfl⟩)
      (fun i x rs hx h1 h2 h3 => by
        have hi := lt_len hx
        refine B2_ok.rndN (r130b (l.map vaC.enc) rs x.1 x.2.1 x.2.2.1 x.2.2.2 i rs.length) ?_
        rw [e, lt_of hi, wrap_ix hi hlim]
        exact ⟨get_map _ hx, ⟨rfl, rfl, rfl, h1, h2, by omega⟩, ⟨h3, trivial⟩, rfl⟩)
      (B2_ok.rndX (r130a (l.map vaC.enc) 0 0 false false l.length) (by rw [e, lt_self]; exact ⟨trivial, rfl⟩))
      (fun rs hr => B2_ok.rndX (r130b (l.map vaC.enc) rs 0 0 false false l.length rs.length) (by rw [e, lt_self]; exact ⟨⟨hr, trivial⟩, rfl⟩))
    exact B2_ok.tr (t130 (l.map vaC.enc) ((l.map lowV).map intA)) ⟨⟨trivial, trivial, h.says⟩, rfl⟩
/-! ### Marks -/
def anyO (l : List Va) : Bool := l.any overV
def anyOG : List AV → Option AV := sp1 vasC fun l => bif Nat.ble l.length lim then some (boolA (anyO l)) else none
theorem h132 : Holds 132 anyOG := holds1 fun l r hr => by
  cases hb : Nat.ble l.length lim with
  | false => simp [hb] at hr
  | true =>
    simp only [hb, cond_true, Option.some.injEq] at hr; subst hr
    have hl := limTwo (Nat.le_of_ble_eq_true hb)
    have e := e_len' vaC l
    have h := LoopRun.find (C := CS B2) (p := 0) (nt := 15) (rd := false) (c := loopOf (CS B2) 132 0) (fun _ (x : Va) => bif overV x then some () else none) (fun i => mkSt [0, 3] [] 15 [.rsl 4 (l.map vaC.enc) false, intA (Int.ofNat i)] [])
      (fun _ => mkSt [2] [] 15 [boolA true] []) (mkSt [2] [] 15 [.bad] []) (.exit 0) (fun _ => .ret) l (by simp) (by simp)
      (fun i x hx => by
        have hi := lt_len hx
        obtain ⟨a, b, u, o⟩ := x
        have hr := r132 (l.map vaC.enc) a b u o i
        rw [e, lt_of hi, wrap_ix hi hl] at hr
        cases o with
        | true => exact B2_ok.rndR hr ⟨get_map _ hx, trivial, rfl⟩
        | false => exact B2_ok.rndN hr ⟨get_map _ hx, trivial, rfl⟩)
      (B2_ok.rndX (r132 (l.map vaC.enc) 0 0 false false l.length) (by rw [e, lt_self]; exact ⟨trivial, rfl⟩))
    rw [srch_any] at h
    unfold anyO
    cases hq : l.any overV with
    | true => rw [hq] at h; exact B2_ok.tr (t132r (l.map vaC.enc)) ⟨⟨trivial, trivial, h.says⟩, rfl⟩
    | false => rw [hq] at h; exact B2_ok.tr (t132e (l.map vaC.enc)) ⟨⟨trivial, trivial, h.says⟩, rfl⟩
def unW (l : List Va) (a b : Nat) : Bool := ((l.drop a).take (b - a)).any underV
def unOk (l : List Va) (s : P2) : Bool := Nat.ble l.length lim && winErr (Int.ofNat l.length) s == 0
def unG : List AV → Option AV := sp2 vasC p2C fun l s => bif unOk l s then some (boolA (unW l (natOf s.1) (natOf s.2))) else none
theorem h131 : Holds 131 unG := holds2 fun l s r hr => by
  cases hb : unOk l s with
  | false => simp [hb] at hr
  | true =>
    simp only [hb, cond_true, Option.some.injEq] at hr; subst hr
    unfold unOk at hb
    simp only [Bool.and_eq_true, beq_iff_eq] at hb
    have hl := limTwo (Nat.le_of_ble_eq_true hb.1)
    obtain ⟨a, b, rfl, hab⟩ := winZ hb.2
    have hwl : ((l.drop a).take (b - a)).length = b - a := by simp; omega
    have h := LoopRun.find (C := CS B2) (p := 0) (nt := 19) (rd := false) (c := loopOf (CS B2) 131 0) (fun _ (x : Va) => bif underV x then some () else none) (fun i => mkSt [0, 3, 5] [3] 19 [.rsl 4 (l.map vaC.enc) false, .ptr 3 0 0, intA (Int.ofNat (a + i))] [(false, .box [intA (Int.ofNat a), intA (Int.ofNat b)])])
      (fun _ => mkSt [4] [] 19 [boolA true] []) (mkSt [4] [] 19 [.bad] []) (.exit 0) (fun _ => .ret) ((l.drop a).take (b - a)) (by simp) (by simp)
      (fun i x hx => by
        have hi := lt_len hx
        rw [hwl] at hi
        have hx1 : l[a + i]? = some x := by rw [List.getElem?_take, if_pos hi, List.getElem?_drop] at hx; exact hx
        obtain ⟨xa, xb, u, o⟩ := x
        have hr := r131 (l.map vaC.enc) xa xb u o (Int.ofNat a) (Int.ofNat b) (a + i)
        rw [lt_of (show a + i < b by omega), wrap_ix (show a + i < b by omega) (by omega)] at hr
        cases u with
        | true => exact B2_ok.rndR hr ⟨get_map _ hx1, trivial, rfl⟩
        | false => exact B2_ok.rndN hr ⟨get_map _ hx1, trivial, rfl⟩)
      (by
        rw [hwl]
        exact B2_ok.rndX (r131 (l.map vaC.enc) 0 0 false false (Int.ofNat a) (Int.ofNat b) (a + (b - a))) (by rw [show a + (b - a) = b by omega, lt_self]; exact ⟨trivial, rfl⟩))
    rw [srch_any] at h
    show Cmp 131 _ (boolA (unW l a b))
    unfold unW
    cases hq : ((l.drop a).take (b - a)).any underV with
    | true => rw [hq] at h; exact B2_ok.tr (t131r (l.map vaC.enc) (Int.ofNat a) (Int.ofNat b)) ⟨⟨trivial, trivial, h.says⟩, rfl⟩
    | false => rw [hq] at h; exact B2_ok.tr (t131e (l.map vaC.enc) (Int.ofNat a) (Int.ofNat b)) ⟨⟨trivial, trivial, h.says⟩, rfl⟩
/-! ### Checks -/
def trcM (l : List Va) : Int := bif manyI (Int.ofNat l.length) 128 != 0 then manyI (Int.ofNat l.length) 128 else firstM (l.map vchk)
def trcG : List AV → Option AV := sp1 vasC fun l => bif Nat.ble l.length lim then some (intA (trcM l)) else none
theorem h56 : Holds 56 trcG := holds1 fun l r hr => by
  cases hb : Nat.ble l.length lim with
  | false => simp [hb] at hr
  | true =>
    simp only [hb, cond_true, Option.some.injEq] at hr; subst hr
    have hl := limTwo (Nat.le_of_ble_eq_true hb)
    have e := e_len' vaC l
    have h := LoopRun.find (C := CS B2) (p := 0) (nt := 47) (rd := false) (c := loopOf (CS B2) 56 0) (fun _ (x : Va) => bif vchk x != 0 then some (vchk x) else none) (fun i => mkSt [0, 4] [] 47 [.rsl 4 (l.map vaC.enc) false, intA (Int.ofNat i)] [])
      (fun t => mkSt [2] [] 47 [intA t] []) (mkSt [2] [] 47 [.bad] []) (.exit 0) (fun _ => .ret) l (by simp) (by simp)
      (fun i x hx => by
        have hi := lt_len hx
        have hr := r56 (l.map vaC.enc) x.1 x.2.1 x.2.2.1 x.2.2.2 i
        rw [e, lt_of hi, wrap_ix hi hl, show firstM [unitM x.1, unitM x.2.1, whenM (decide (x.1 > x.2.1)) 11] = vchk x from rfl] at hr
        have g := get_map vaC.enc hx
        cases h : vchk x != 0 with
        | true => rw [h] at hr; exact B2_ok.rndR hr ⟨g, g, g, g, trivial, rfl⟩
        | false => rw [h] at hr; exact B2_ok.rndN hr ⟨g, g, g, g, trivial, rfl⟩)
      (B2_ok.rndX (r56 (l.map vaC.enc) 0 0 false false l.length) (by rw [e, lt_self]; exact ⟨trivial, rfl⟩))
    rw [srch_err] at h
    unfold trcM
    cases hm : manyI (Int.ofNat l.length) 128 != 0 with
    | true => exact B2_ok.tr (t56e (l.map vaC.enc)) (by rw [e, hm]; rfl)
    | false =>
      cases hq : firstM (l.map vchk) != 0 with
      | true => rw [hq] at h; exact B2_ok.tr (t56r (l.map vaC.enc) (firstM (l.map vchk))) (by rw [e, hm]; exact ⟨⟨trivial, trivial, h.says⟩, rfl⟩)
      | false =>
        rw [hq] at h
        have h0 : firstM (l.map vchk) = 0 := by simpa using hq
        rw [h0]
        exact B2_ok.tr (t56e (l.map vaC.enc)) (by rw [e, hm]; exact ⟨⟨trivial, trivial, h.says⟩, rfl⟩)
def V1 : Specs := ((((((((((((((((((B2.set 52 stTrG).set 124 (vI lowV)).set 125 (vI highV)).set 122 (vB underV)).set 126 (vB overV)).set 127 (vI adjV)).set 128 wholeG).set 134 (vI vchk)).set 135 (vI leastV)).set 136 (vI mostV)).set 137 (vB anyV)).set 138 (vI leastV)).set 139 (vI mostV)).set 54 ownVG).set 129 (fldG highV)).set 130 (fldG lowV)).set 132 anyOG).set 131 unG).set 56 trcG
theorem V1_ok : Ok V1 := ((((((((((((((((((B2_ok.set h52).set h124).set h125).set h122).set h126).set h127).set h128).set h134).set h135).set h136).set h137).set h138).set h139).set h54).set h129).set h130).set h132).set h131).set h56
end Go.Vm.S6
