/- DummyTrees: the law. -/
import Derived.Test.YtliikgffjphhjaaGreatDoorS3P17
namespace Go.Vm.S3
open Go.Proofs Go.RowKit
set_option maxRecDepth 100000 in
theorem t3s (es : List AV) (s : ByteArray) : evTreeD (CS P17) 60 3 [.rsl 7 es false, strA s] [.sp [.rsl 7 es false] (boolA false), .as 28 true, .sp [] (boolA true)] =
    (.need (([.rsl 7 es false] : List AV) = ([.rsl 7 es false] : List AV) ∧ (Cx.spec (CS P17) 13 ([.rsl 7 es false] : List AV)) = (some (AV.v (.bool false)))) (.need (true = true) (.need (([] : List AV) = ([] : List AV) ∧ (Cx.spec (CS P17) 14 ([] : List AV)) = (some (AV.v (.bool true)))) (.done (some (.v (.bool true))))))) := by kernel_rfl
set_option maxRecDepth 100000 in
theorem t3l (es : List AV) (s : ByteArray) : evTreeD (CS P17) 60 3 [.rsl 7 es false, strA s] [.sp [.rsl 7 es false] (boolA true), .as 28 true, .sp [] (boolA true)] =
    (.need (([.rsl 7 es false] : List AV) = ([.rsl 7 es false] : List AV) ∧ (Cx.spec (CS P17) 13 ([.rsl 7 es false] : List AV)) = (some (AV.v (.bool true)))) (.need ((decide (Int.ofNat s.size > 40)) = true) (.need (([] : List AV) = ([] : List AV) ∧ (Cx.spec (CS P17) 14 ([] : List AV)) = (some (AV.v (.bool true)))) (.done (some (.v (.bool true))))))) := by kernel_rfl
set_option maxRecDepth 100000 in
theorem t3e (es : List AV) (s : ByteArray) (e p f u d : Int) : evTreeD (CS P17) 60 3 [.rsl 7 es false, strA s] [.sp [.rsl 7 es false] (boolA true), .as 28 false, .sp [.rsl 7 es false] (.rsl 7 es false), .sp [.rsl 7 es false, strA s] (.tup [nilS, intA e]), .sp [.rsl 7 es false] (.rsl 7 es false), .sp [.rsl 7 es false, strA s] (.tup [nilS, intA e]), .sp [.rsl 7 es false] (.rsl 7 es false), .sp [.rsl 7 es false, strA s] (.tup [vA (0, 0, 0), intA e]), .sp [.rsl 7 es false] (.rsl 7 es false), .sp [.rsl 7 es false, strA s] (.tup [intA 0, intA e]), .sp [.rsl 7 es false] (.rsl 7 es false), .sp [.rsl 7 es false, strA s] (.tup [c6 (0, 0, 0, 0, 0, 0), intA e]), .sp [.rsl 7 es false] (intA p), .sp [.rsl 7 es false, strA s] (intA f), .sp [intA f] (intA u), .sp [.rsl 1 [intA p, intA u] true] (intA d), .as 74 false, .sp [.rsl 7 es false] (.rsl 7 es false), .sp [.rsl 7 es false] (intA p), .sp [.rsl 7 es false] (intA p), .as 96 true, .sp [nilS, intA e, intA d, nilS] (boolA true), .sp [nilS, intA e, intA d, nilS] (boolA true), .sp [vA (0, 0, 0), intA e, intA d, vA (0, 0, 0)] (boolA true), .sp [intA 0, intA e, intA d, intA 0] (boolA true), .eq (boolA true), .as 134 true, .sp [] (boolA true)] =
    (.need (([.rsl 7 es false] : List AV) = ([.rsl 7 es false] : List AV) ∧ (Cx.spec (CS P17) 13 ([.rsl 7 es false] : List AV)) = (some (AV.v (.bool true)))) (.need ((decide (Int.ofNat s.size > 40)) = false) (.need (([.rsl 7 es false] : List AV) = ([.rsl 7 es false] : List AV) ∧ (Cx.spec (CS P17) 16 ([.rsl 7 es false] : List AV)) = (some (AV.rsl 7 es false))) (.need (([.rsl 7 es false, .v (.string s)] : List AV) = ([.rsl 7 es false, .v (.string s)] : List AV) ∧ (Cx.spec (CS P17) 15 ([.rsl 7 es false, .v (.string s)] : List AV)) = (some (AV.tup [.v (.slice none 0 0), .v (.int .i64 e)]))) (.need (([.rsl 7 es false] : List AV) = ([.rsl 7 es false] : List AV) ∧ (Cx.spec (CS P17) 16 ([.rsl 7 es false] : List AV)) = (some (AV.rsl 7 es false))) (.need (([.rsl 7 es false, .v (.string s)] : List AV) = ([.rsl 7 es false, .v (.string s)] : List AV) ∧ (Cx.spec (CS P17) 17 ([.rsl 7 es false, .v (.string s)] : List AV)) = (some (AV.tup [.v (.slice none 0 0), .v (.int .i64 e)]))) (.need (([.rsl 7 es false] : List AV) = ([.rsl 7 es false] : List AV) ∧ (Cx.spec (CS P17) 16 ([.rsl 7 es false] : List AV)) = (some (AV.rsl 7 es false))) (.need (([.rsl 7 es false, .v (.string s)] : List AV) = ([.rsl 7 es false, .v (.string s)] : List AV) ∧ (Cx.spec (CS P17) 18 ([.rsl 7 es false, .v (.string s)] : List AV)) = (some (AV.tup [.agg [.v (.int .i64 0), .v (.int .i64 0), .v (.int .i64 0)], .v (.int .i64 e)]))) (.need (([.rsl 7 es false] : List AV) = ([.rsl 7 es false] : List AV) ∧ (Cx.spec (CS P17) 16 ([.rsl 7 es false] : List AV)) = (some (AV.rsl 7 es false))) (.need (([.rsl 7 es false, .v (.string s)] : List AV) = ([.rsl 7 es false, .v (.string s)] : List AV) ∧ (Cx.spec (CS P17) 19 ([.rsl 7 es false, .v (.string s)] : List AV)) = (some (AV.tup [.v (.int .i64 0), .v (.int .i64 e)]))) (.need (([.rsl 7 es false] : List AV) = ([.rsl 7 es false] : List AV) ∧ (Cx.spec (CS P17) 16 ([.rsl 7 es false] : List AV)) = (some (AV.rsl 7 es false))) (.need (([.rsl 7 es false, .v (.string s)] : List AV) = ([.rsl 7 es false, .v (.string s)] : List AV) ∧ (Cx.spec (CS P17) 20 ([.rsl 7 es false, .v (.string s)] : List AV)) = (some (AV.tup [.agg [.v (.int .i64 0), .v (.int .i64 0), .v (.int .i64 0), .v (.int .i64 0), .v (.int .i64 0), .v (.int .i64 0)], .v (.int .i64 e)]))) (.need (([.rsl 7 es false] : List AV) = ([.rsl 7 es false] : List AV) ∧ (Cx.spec (CS P17) 22 ([.rsl 7 es false] : List AV)) = (some (AV.v (.int .i64 p)))) (.need (([.rsl 7 es false, .v (.string s)] : List AV) = ([.rsl 7 es false, .v (.string s)] : List AV) ∧ (Cx.spec (CS P17) 24 ([.rsl 7 es false, .v (.string s)] : List AV)) = (some (AV.v (.int .i64 f)))) (.need (([.v (.int .i64 f)] : List AV) = ([.v (.int .i64 f)] : List AV) ∧ (Cx.spec (CS P17) 23 ([.v (.int .i64 f)] : List AV)) = (some (AV.v (.int .i64 u)))) (.need (([.rsl 1 [.v (.int .i64 p), .v (.int .i64 u)] true] : List AV) = ([.rsl 1 [.v (.int .i64 p), .v (.int .i64 u)] true] : List AV) ∧ (Cx.spec (CS P17) 21 ([.rsl 1 [.v (.int .i64 p), .v (.int .i64 u)] true] : List AV)) = (some (AV.v (.int .i64 d)))) (.need ((d == 0) = false) (.need (([.rsl 7 es false] : List AV) = ([.rsl 7 es false] : List AV) ∧ (Cx.spec (CS P17) 16 ([.rsl 7 es false] : List AV)) = (some (AV.rsl 7 es false))) (.need (([.rsl 7 es false] : List AV) = ([.rsl 7 es false] : List AV) ∧ (Cx.spec (CS P17) 30 ([.rsl 7 es false] : List AV)) = (some (AV.v (.int .i64 p)))) (.need (([.rsl 7 es false] : List AV) = ([.rsl 7 es false] : List AV) ∧ (Cx.spec (CS P17) 22 ([.rsl 7 es false] : List AV)) = (some (AV.v (.int .i64 p)))) (.need ((p == p) = true) (.need (([.v (.slice none 0 0), .v (.int .i64 e), .v (.int .i64 d), .v (.slice none 0 0)] : List AV) = ([.v (.slice none 0 0), .v (.int .i64 e), .v (.int .i64 d), .v (.slice none 0 0)] : List AV) ∧ (Cx.spec (CS P17) 31 ([.v (.slice none 0 0), .v (.int .i64 e), .v (.int .i64 d), .v (.slice none 0 0)] : List AV)) = (some (AV.v (.bool true)))) (.need (([.v (.slice none 0 0), .v (.int .i64 e), .v (.int .i64 d), .v (.slice none 0 0)] : List AV) = ([.v (.slice none 0 0), .v (.int .i64 e), .v (.int .i64 d), .v (.slice none 0 0)] : List AV) ∧ (Cx.spec (CS P17) 31 ([.v (.slice none 0 0), .v (.int .i64 e), .v (.int .i64 d), .v (.slice none 0 0)] : List AV)) = (some (AV.v (.bool true)))) (.need (([.agg [.v (.int .i64 0), .v (.int .i64 0), .v (.int .i64 0)], .v (.int .i64 e), .v (.int .i64 d), .agg [.v (.int .i64 0), .v (.int .i64 0), .v (.int .i64 0)]] : List AV) = ([.agg [.v (.int .i64 0), .v (.int .i64 0), .v (.int .i64 0)], .v (.int .i64 e), .v (.int .i64 d), .agg [.v (.int .i64 0), .v (.int .i64 0), .v (.int .i64 0)]] : List AV) ∧ (Cx.spec (CS P17) 32 ([.agg [.v (.int .i64 0), .v (.int .i64 0), .v (.int .i64 0)], .v (.int .i64 e), .v (.int .i64 d), .agg [.v (.int .i64 0), .v (.int .i64 0), .v (.int .i64 0)]] : List AV)) = (some (AV.v (.bool true)))) (.need (([.v (.int .i64 0), .v (.int .i64 e), .v (.int .i64 d), .v (.int .i64 0)] : List AV) = ([.v (.int .i64 0), .v (.int .i64 e), .v (.int .i64 d), .v (.int .i64 0)] : List AV) ∧ (Cx.spec (CS P17) 33 ([.v (.int .i64 0), .v (.int .i64 e), .v (.int .i64 d), .v (.int .i64 0)] : List AV)) = (some (AV.v (.bool true)))) (.need ((abin (CS P17) BinOp.eql 39 (Operand.tmp 125) (Operand.tmp 126) (AV.agg [.v (.int .i64 0), .v (.int .i64 0), .v (.int .i64 0), .v (.int .i64 0), .v (.int .i64 0), .v (.int .i64 0)]) (AV.agg [.v (.int .i64 0), .v (.int .i64 0), .v (.int .i64 0), .v (.int .i64 0), .v (.int .i64 0), .v (.int .i64 0)])) = (some (AV.v (.bool true)))) (.need ((e == d) = true) (.need (([] : List AV) = ([] : List AV) ∧ (Cx.spec (CS P17) 14 ([] : List AV)) = (some (AV.v (.bool true)))) (.done (some (.v (.bool true)))))))))))))))))))))))))))))))) := by kernel_rfl
set_option maxRecDepth 100000 in
theorem t3n (es cs bs : List AV) (s : ByteArray) (e p f u d m : Int) (v : V3) (q : I6) : evTreeD (CS P17) 60 3 [.rsl 7 es false, strA s] [.sp [.rsl 7 es false] (boolA true), .as 28 false, .sp [.rsl 7 es false] (.rsl 7 es false), .sp [.rsl 7 es false, strA s] (.tup [.rsl 1 cs false, intA e]), .sp [.rsl 7 es false] (.rsl 7 es false), .sp [.rsl 7 es false, strA s] (.tup [.rsl 1 bs false, intA e]), .sp [.rsl 7 es false] (.rsl 7 es false), .sp [.rsl 7 es false, strA s] (.tup [vA v, intA e]), .sp [.rsl 7 es false] (.rsl 7 es false), .sp [.rsl 7 es false, strA s] (.tup [intA m, intA e]), .sp [.rsl 7 es false] (.rsl 7 es false), .sp [.rsl 7 es false, strA s] (.tup [c6 q, intA e]), .sp [.rsl 7 es false] (intA p), .sp [.rsl 7 es false, strA s] (intA f), .sp [intA f] (intA u), .sp [.rsl 1 [intA p, intA u] true] (intA d), .as 74 true, .sp [.rsl 7 es false, strA s] (.rsl 1 cs false), .sp [.rsl 7 es false, strA s] (.rsl 1 bs false), .sp [.rsl 7 es false, strA s] (vA v), .sp [.rsl 7 es false, strA s] (intA m), .sp [.rsl 7 es false, strA s] (c6 q), .sp [.rsl 7 es false] (.rsl 7 es false), .sp [.rsl 7 es false] (intA p), .sp [.rsl 7 es false] (intA p), .as 96 true, .sp [.rsl 1 cs false, intA e, intA d, .rsl 1 cs false] (boolA true), .sp [.rsl 1 bs false, intA e, intA d, .rsl 1 bs false] (boolA true), .sp [vA v, intA e, intA d, vA v] (boolA true), .sp [intA m, intA e, intA d, intA m] (boolA true), .eq (boolA true), .as 134 true, .sp [] (boolA true)] =
    (.need (([.rsl 7 es false] : List AV) = ([.rsl 7 es false] : List AV) ∧ (Cx.spec (CS P17) 13 ([.rsl 7 es false] : List AV)) = (some (AV.v (.bool true)))) (.need ((decide (Int.ofNat s.size > 40)) = false) (.need (([.rsl 7 es false] : List AV) = ([.rsl 7 es false] : List AV) ∧ (Cx.spec (CS P17) 16 ([.rsl 7 es false] : List AV)) = (some (AV.rsl 7 es false))) (.need (([.rsl 7 es false, .v (.string s)] : List AV) = ([.rsl 7 es false, .v (.string s)] : List AV) ∧ (Cx.spec (CS P17) 15 ([.rsl 7 es false, .v (.string s)] : List AV)) = (some (AV.tup [.rsl 1 cs false, .v (.int .i64 e)]))) (.need (([.rsl 7 es false] : List AV) = ([.rsl 7 es false] : List AV) ∧ (Cx.spec (CS P17) 16 ([.rsl 7 es false] : List AV)) = (some (AV.rsl 7 es false))) (.need (([.rsl 7 es false, .v (.string s)] : List AV) = ([.rsl 7 es false, .v (.string s)] : List AV) ∧ (Cx.spec (CS P17) 17 ([.rsl 7 es false, .v (.string s)] : List AV)) = (some (AV.tup [.rsl 1 bs false, .v (.int .i64 e)]))) (.need (([.rsl 7 es false] : List AV) = ([.rsl 7 es false] : List AV) ∧ (Cx.spec (CS P17) 16 ([.rsl 7 es false] : List AV)) = (some (AV.rsl 7 es false))) (.need (([.rsl 7 es false, .v (.string s)] : List AV) = ([.rsl 7 es false, .v (.string s)] : List AV) ∧ (Cx.spec (CS P17) 18 ([.rsl 7 es false, .v (.string s)] : List AV)) = (some (AV.tup [.agg [.v (.int .i64 v.fst), .v (.int .i64 v.snd.fst), .v (.int .i64 v.snd.snd)], .v (.int .i64 e)]))) (.need (([.rsl 7 es false] : List AV) = ([.rsl 7 es false] : List AV) ∧ (Cx.spec (CS P17) 16 ([.rsl 7 es false] : List AV)) = (some (AV.rsl 7 es false))) (.need (([.rsl 7 es false, .v (.string s)] : List AV) = ([.rsl 7 es false, .v (.string s)] : List AV) ∧ (Cx.spec (CS P17) 19 ([.rsl 7 es false, .v (.string s)] : List AV)) = (some (AV.tup [.v (.int .i64 m), .v (.int .i64 e)]))) (.need (([.rsl 7 es false] : List AV) = ([.rsl 7 es false] : List AV) ∧ (Cx.spec (CS P17) 16 ([.rsl 7 es false] : List AV)) = (some (AV.rsl 7 es false))) (.need (([.rsl 7 es false, .v (.string s)] : List AV) = ([.rsl 7 es false, .v (.string s)] : List AV) ∧ (Cx.spec (CS P17) 20 ([.rsl 7 es false, .v (.string s)] : List AV)) = (some (AV.tup [.agg [.v (.int .i64 q.fst), .v (.int .i64 q.snd.fst), .v (.int .i64 q.snd.snd.fst), .v (.int .i64 q.snd.snd.snd.fst), .v (.int .i64 q.snd.snd.snd.snd.fst), .v (.int .i64 q.snd.snd.snd.snd.snd)], .v (.int .i64 e)]))) (.need (([.rsl 7 es false] : List AV) = ([.rsl 7 es false] : List AV) ∧ (Cx.spec (CS P17) 22 ([.rsl 7 es false] : List AV)) = (some (AV.v (.int .i64 p)))) (.need (([.rsl 7 es false, .v (.string s)] : List AV) = ([.rsl 7 es false, .v (.string s)] : List AV) ∧ (Cx.spec (CS P17) 24 ([.rsl 7 es false, .v (.string s)] : List AV)) = (some (AV.v (.int .i64 f)))) (.need (([.v (.int .i64 f)] : List AV) = ([.v (.int .i64 f)] : List AV) ∧ (Cx.spec (CS P17) 23 ([.v (.int .i64 f)] : List AV)) = (some (AV.v (.int .i64 u)))) (.need (([.rsl 1 [.v (.int .i64 p), .v (.int .i64 u)] true] : List AV) = ([.rsl 1 [.v (.int .i64 p), .v (.int .i64 u)] true] : List AV) ∧ (Cx.spec (CS P17) 21 ([.rsl 1 [.v (.int .i64 p), .v (.int .i64 u)] true] : List AV)) = (some (AV.v (.int .i64 d)))) (.need ((d == 0) = true) (.need (([.rsl 7 es false, .v (.string s)] : List AV) = ([.rsl 7 es false, .v (.string s)] : List AV) ∧ (Cx.spec (CS P17) 25 ([.rsl 7 es false, .v (.string s)] : List AV)) = (some (AV.rsl 1 cs false))) (.need (([.rsl 7 es false, .v (.string s)] : List AV) = ([.rsl 7 es false, .v (.string s)] : List AV) ∧ (Cx.spec (CS P17) 26 ([.rsl 7 es false, .v (.string s)] : List AV)) = (some (AV.rsl 1 bs false))) (.need (([.rsl 7 es false, .v (.string s)] : List AV) = ([.rsl 7 es false, .v (.string s)] : List AV) ∧ (Cx.spec (CS P17) 27 ([.rsl 7 es false, .v (.string s)] : List AV)) = (some (AV.agg [.v (.int .i64 v.fst), .v (.int .i64 v.snd.fst), .v (.int .i64 v.snd.snd)]))) (.need (([.rsl 7 es false, .v (.string s)] : List AV) = ([.rsl 7 es false, .v (.string s)] : List AV) ∧ (Cx.spec (CS P17) 28 ([.rsl 7 es false, .v (.string s)] : List AV)) = (some (AV.v (.int .i64 m)))) (.need (([.rsl 7 es false, .v (.string s)] : List AV) = ([.rsl 7 es false, .v (.string s)] : List AV) ∧ (Cx.spec (CS P17) 29 ([.rsl 7 es false, .v (.string s)] : List AV)) = (some (AV.agg [.v (.int .i64 q.fst), .v (.int .i64 q.snd.fst), .v (.int .i64 q.snd.snd.fst), .v (.int .i64 q.snd.snd.snd.fst), .v (.int .i64 q.snd.snd.snd.snd.fst), .v (.int .i64 q.snd.snd.snd.snd.snd)]))) (.need (([.rsl 7 es false] : List AV) = ([.rsl 7 es false] : List AV) ∧ (Cx.spec (CS P17) 16 ([.rsl 7 es false] : List AV)) = (some (AV.rsl 7 es false))) (.need (([.rsl 7 es false] : List AV) = ([.rsl 7 es false] : List AV) ∧ (Cx.spec (CS P17) 30 ([.rsl 7 es false] : List AV)) = (some (AV.v (.int .i64 p)))) (.need (([.rsl 7 es false] : List AV) = ([.rsl 7 es false] : List AV) ∧ (Cx.spec (CS P17) 22 ([.rsl 7 es false] : List AV)) = (some (AV.v (.int .i64 p)))) (.need ((p == p) = true) (.need (([.rsl 1 cs false, .v (.int .i64 e), .v (.int .i64 d), .rsl 1 cs false] : List AV) = ([.rsl 1 cs false, .v (.int .i64 e), .v (.int .i64 d), .rsl 1 cs false] : List AV) ∧ (Cx.spec (CS P17) 31 ([.rsl 1 cs false, .v (.int .i64 e), .v (.int .i64 d), .rsl 1 cs false] : List AV)) = (some (AV.v (.bool true)))) (.need (([.rsl 1 bs false, .v (.int .i64 e), .v (.int .i64 d), .rsl 1 bs false] : List AV) = ([.rsl 1 bs false, .v (.int .i64 e), .v (.int .i64 d), .rsl 1 bs false] : List AV) ∧ (Cx.spec (CS P17) 31 ([.rsl 1 bs false, .v (.int .i64 e), .v (.int .i64 d), .rsl 1 bs false] : List AV)) = (some (AV.v (.bool true)))) (.need (([.agg [.v (.int .i64 v.fst), .v (.int .i64 v.snd.fst), .v (.int .i64 v.snd.snd)], .v (.int .i64 e), .v (.int .i64 d), .agg [.v (.int .i64 v.fst), .v (.int .i64 v.snd.fst), .v (.int .i64 v.snd.snd)]] : List AV) = ([.agg [.v (.int .i64 v.fst), .v (.int .i64 v.snd.fst), .v (.int .i64 v.snd.snd)], .v (.int .i64 e), .v (.int .i64 d), .agg [.v (.int .i64 v.fst), .v (.int .i64 v.snd.fst), .v (.int .i64 v.snd.snd)]] : List AV) ∧ (Cx.spec (CS P17) 32 ([.agg [.v (.int .i64 v.fst), .v (.int .i64 v.snd.fst), .v (.int .i64 v.snd.snd)], .v (.int .i64 e), .v (.int .i64 d), .agg [.v (.int .i64 v.fst), .v (.int .i64 v.snd.fst), .v (.int .i64 v.snd.snd)]] : List AV)) = (some (AV.v (.bool true)))) (.need (([.v (.int .i64 m), .v (.int .i64 e), .v (.int .i64 d), .v (.int .i64 m)] : List AV) = ([.v (.int .i64 m), .v (.int .i64 e), .v (.int .i64 d), .v (.int .i64 m)] : List AV) ∧ (Cx.spec (CS P17) 33 ([.v (.int .i64 m), .v (.int .i64 e), .v (.int .i64 d), .v (.int .i64 m)] : List AV)) = (some (AV.v (.bool true)))) (.need ((abin (CS P17) BinOp.eql 39 (Operand.tmp 125) (Operand.tmp 126) (AV.agg [.v (.int .i64 q.fst), .v (.int .i64 q.snd.fst), .v (.int .i64 q.snd.snd.fst), .v (.int .i64 q.snd.snd.snd.fst), .v (.int .i64 q.snd.snd.snd.snd.fst), .v (.int .i64 q.snd.snd.snd.snd.snd)]) (AV.agg [.v (.int .i64 q.fst), .v (.int .i64 q.snd.fst), .v (.int .i64 q.snd.snd.fst), .v (.int .i64 q.snd.snd.snd.fst), .v (.int .i64 q.snd.snd.snd.snd.fst), .v (.int .i64 q.snd.snd.snd.snd.snd)])) = (some (AV.v (.bool true)))) (.need ((e == d) = true) (.need (([] : List AV) = ([] : List AV) ∧ (Cx.spec (CS P17) 14 ([] : List AV)) = (some (AV.v (.bool true)))) (.done (some (.v (.bool true))))))))))))))))))))))))))))))))))))) := by kernel_rfl
/-! ### The law -/
theorem eq39 (S : Specs) (xo yo : Operand) (a b c d e f g h i j k l : Int) : abin (CS S) .eql 39 xo yo (.agg [intA a, intA b, intA c, intA d, intA e, intA f]) (.agg [intA g, intA h, intA i, intA j, intA k, intA l]) =
    some (gB ((a == g && (b == h && true)) && ((c == i && (d == j && true)) && ((e == k && (f == l && true)) && true)))) :=
  (abin_agg rfl rfl (by kernel_rfl) (by kernel_rfl)).1
theorem eq39s (S : Specs) (xo yo : Operand) (q : I6) : abin (CS S) .eql 39 xo yo (c6 q) (c6 q) = some (gB true) := by
  rw [eq39]; simp
theorem cp_first (l : List Pt) (s : ByteArray) : firstM [partsM l, whenM (decide (findP l s < 0)) 10] = cpM l s := by
  have h : (!hasP l s) = decide (findP l s < 0) := by
    unfold hasP
    by_cases h : findP l s < 0
    · rw [decide_eq_true h, decide_eq_false (by omega)]; rfl
    · rw [decide_eq_false h, decide_eq_true (by omega)]; rfl
  unfold cpM
  rw [h]
  unfold firstM
  cases partsM l != 0 with
  | true => rfl
  | false =>
    simp only [cond_false]
    cases decide (findP l s < 0) <;> rfl
theorem spUnk (n : Int) : unkG [intA n] = some (intA (whenM (decide (n < 0)) 10)) := sp1_at (A := intC) (F := fun n => some (intA (whenM (decide (n < 0)) 10))) n
theorem spList {l : List ByteArray} (hl : Nat.blt l.length two63 = true) (e bad : Int) (m : List ByteArray) : listedG [slA strC 1 l, intA e, intA bad, slA strC 1 m] = some (boolA (listedM l e bad m)) := by
  have h := sp4_at (A := listC strC 1) (B := intC) (D := intC) (E := listC strC 1) (F := fun l e bad m => bif Nat.blt l.length two63 then some (boolA (listedM l e bad m)) else none) l e bad m
  rw [hl] at h; exact h
theorem spListN (e bad : Int) : listedG [nilS, intA e, intA bad, nilS] = some (boolA (listedM [] e bad [])) := rfl
theorem same_refl (l : List ByteArray) : sameM seq l l = true := by
  unfold sameM
  simp only [beq_self_eq_true, Bool.true_and, List.all_eq_true]
  intro p hp
  have : p.1 = p.2 := by
    have hz := List.mem_iff_getElem?.1 hp
    obtain ⟨i, hi⟩ := hz
    rw [List.getElem?_zip_eq_some] at hi
    have := hi.1.symm.trans hi.2
    simpa using this
  rw [this]; exact seq_self _
theorem spPlace (v w : V3) (e bad : Int) : placeG [vA v, intA e, intA bad, vA w] = some (gB (placeM v e bad w)) := sp4_at (A := vecC) (B := intC) (D := intC) (E := vecC) (F := fun v e bad w => some (gB (placeM v e bad w))) v e bad w
theorem spNum (a e bad w : Int) : numG [intA a, intA e, intA bad, intA w] = some (boolA (bif a == (bif bad != 0 then 0 else w) then e == bad else false)) := sp4_at (A := intC) (B := intC) (D := intC) (E := intC) (F := fun a e bad w => some (boolA (bif a == (bif bad != 0 then 0 else w) then e == bad else false))) a e bad w
theorem spAns {z : AV} {f : List Pt → ByteArray → AV} {l : List Pt} (s : ByteArray) (h : okPts l = true) : ansG z f [slA ptC 7 l, strA s] = some (ansP z f l s) := by
  have := sp2_at (A := ptsC) (B := strC) (F := fun l s => bif okPts l then some (ansP z f l s) else none) l s
  rw [h] at this; exact this
theorem spChain15 {l : List Pt} (s : ByteArray) (h : okPts l = true) : chain15G [slA ptC 7 l, strA s] = some (chainR l s) := by
  have := sp2_at (A := ptsC) (B := strC) (F := fun l s => bif okPts l then some (chainR l s) else none) l s
  rw [h] at this; exact this
theorem law3_ok : Holds 3 (sp2 ptsC strC fun _ _ => some (gB true)) := holds2 fun l s r hr => by
  simp only [Option.some.injEq] at hr; subst hr
  have f13 : shortPG [slA ptC 7 l] = some (boolA (shortP l)) := sp1_at (A := ptsC) (F := fun l => some (boolA (shortP l))) l
  cases hs : shortP l with
  | false =>
    rw [hs] at f13
    exact P17_ok.tr (t3s (l.map ptC.enc) s) ⟨⟨rfl, f13⟩, rfl, ⟨rfl, rfl⟩, rfl⟩
  | true =>
    rw [hs] at f13
    cases h40 : decide (Int.ofNat s.size > 40) with
    | true => exact P17_ok.tr (t3l (l.map ptC.enc) s) ⟨⟨rfl, f13⟩, h40, ⟨rfl, rfl⟩, rfl⟩
    | false =>
      have ok := shortP_ok hs
      have h17 := (shortP_at hs).1
      have h63 : Nat.blt l.length two63 = true := Nat.ble_eq_true_of_le (Nat.lt_of_le_of_lt h17 (by decide))
      have f16 := spOwnP ok
      have f15 := spChain15 s ok
      have f17 : branch17G [slA ptC 7 l, strA s] = _ := spAns s ok
      have f18 : place18G [slA ptC 7 l, strA s] = _ := spAns s ok
      have f19 : mass19G [slA ptC 7 l, strA s] = _ := spAns s ok
      have f20 : centre20G [slA ptC 7 l, strA s] = _ := spAns s ok
      have f22 := spParts ok
      have f24 := spFindP (l := l) s h63
      have f23 := spUnk (findP l s)
      have f21 : first2G [.rsl 1 [intA (partsM l), intA (whenM (decide (findP l s < 0)) 10)] true] = some (intA (cpM l s)) := by rw [← cp_first]; rfl
      unfold chainR at f15
      unfold ansP at f17 f18 f19 f20
      cases hc : cpM l s != 0 with
      | true =>
        rw [hc] at f15 f17 f18 f19 f20
        have ne : (cpM l s == 0) = false := by unfold bne at hc; simpa using hc
        have g31 := spListN (cpM l s) (cpM l s)
        rw [show listedM [] (cpM l s) (cpM l s) [] = true by unfold listedM; cases cpM l s != 0 <;> simp [sameM]] at g31
        have g32 := spPlace (0, 0, 0) (0, 0, 0) (cpM l s) (cpM l s)
        rw [show placeM (0, 0, 0) (cpM l s) (cpM l s) (0, 0, 0) = true by unfold placeM veqB; rw [hc]; simp] at g32
        have g33 := spNum 0 (cpM l s) (cpM l s) 0
        rw [hc] at g33
        simp only [cond_true, beq_self_eq_true] at g33
        exact P17_ok.tr (t3e (l.map ptC.enc) s (cpM l s) (partsM l) (findP l s) (whenM (decide (findP l s < 0)) 10) (cpM l s))
          ⟨⟨rfl, f13⟩, h40, ⟨rfl, f16⟩, ⟨rfl, f15⟩, ⟨rfl, f16⟩, ⟨rfl, f17⟩, ⟨rfl, f16⟩, ⟨rfl, f18⟩, ⟨rfl, f16⟩, ⟨rfl, f19⟩, ⟨rfl, f16⟩, ⟨rfl, f20⟩, ⟨rfl, f22⟩, ⟨rfl, f24⟩, ⟨rfl, f23⟩, ⟨rfl, f21⟩, ne,
            ⟨rfl, f16⟩, ⟨rfl, f22⟩, ⟨rfl, f22⟩, beq_self_eq_true _, ⟨rfl, g31⟩, ⟨rfl, g31⟩, ⟨rfl, g32⟩, ⟨rfl, g33⟩, eq39s P17 _ _ (0, 0, 0, 0, 0, 0), beq_self_eq_true _, ⟨rfl, rfl⟩, rfl⟩
      | false =>
        rw [hc] at f15 f17 f18 f19 f20
        obtain ⟨h0, hp⟩ := cp_zero hc
        have e0 : cpM l s = 0 := by simpa using hc
        have hlen := parts_len h0
        have h16 := br_lim h0 s
        have hcl := cI_len l s
        have f25 := spChain (l := l) s (by unfold lim; omega)
        have f26 := spBrN (l := l) s (by unfold lim; omega)
        rw [branch_names] at f26
        have f27 : place27G [slA ptC 7 l, strA s] = some (vA (placeM' l s)) := by
          have := sp2_at (A := ptsC) (B := strC) (F := fun l s => bif decide (partsM l = 0) then some (vA (placeM' l s)) else none) l s
          rw [decide_eq_true h0] at this; exact this
        have f28 : mass28G [slA ptC 7 l, strA s] = some (intA (massM (brM l s))) := by
          have := sp2_at (A := ptsC) (B := strC) (F := fun l s => bif decide (partsM l = 0) then some (intA (massM (brM l s))) else none) l s
          rw [decide_eq_true h0] at this; exact this
        have f29 : centre29G [slA ptC 7 l, strA s] = some (cenA l s) := by
          have := sp2_at (A := ptsC) (B := strC) (F := fun l s => bif decide (partsM l = 0) && hasP l s then some (cenA l s) else none) l s
          rw [decide_eq_true h0, hp] at this; exact this
        have lw : ∀ m : List ByteArray, listedM m 0 (cpM l s) m = true := fun m => by
          unfold listedM; rw [hc, cond_false, same_refl, e0]; rfl
        have g31 : ∀ {m : List ByteArray}, m.length ≤ 16 → listedG [slA strC 1 m, intA 0, intA (cpM l s), slA strC 1 m] = some (boolA true) := fun {m} hm => by
          rw [spList (Nat.ble_eq_true_of_le (Nat.lt_of_le_of_lt hm (by decide))), lw]
        have g32 := spPlace (placeM' l s) (placeM' l s) 0 (cpM l s)
        rw [show placeM (placeM' l s) 0 (cpM l s) (placeM' l s) = true by unfold placeM veqB; rw [hc, e0]; simp] at g32
        have g33 := spNum (massM (brM l s)) 0 (cpM l s) (massM (brM l s))
        rw [hc, e0] at g33
        simp only [cond_true, cond_false, beq_self_eq_true] at g33
        rw [e0] at f21 g32
        exact P17_ok.tr (t3n (l.map ptC.enc) ((chainN l s).map strC.enc) ((nms (brM l s)).map strC.enc) s 0 (partsM l) (findP l s) (whenM (decide (findP l s < 0)) 10) 0 (massM (brM l s)) (placeM' l s)
            ((lowM (cenM l s).1 (massM (brM l s))).1, (lowM (cenM l s).1 (massM (brM l s))).2, (lowM (cenM l s).2.1 (massM (brM l s))).1, (lowM (cenM l s).2.1 (massM (brM l s))).2, (lowM (cenM l s).2.2 (massM (brM l s))).1, (lowM (cenM l s).2.2 (massM (brM l s))).2))
          ⟨⟨rfl, f13⟩, h40, ⟨rfl, f16⟩, ⟨rfl, f15⟩, ⟨rfl, f16⟩, ⟨rfl, f17⟩, ⟨rfl, f16⟩, ⟨rfl, f18⟩, ⟨rfl, f16⟩, ⟨rfl, f19⟩, ⟨rfl, f16⟩, ⟨rfl, f20⟩, ⟨rfl, f22⟩, ⟨rfl, f24⟩, ⟨rfl, f23⟩, ⟨rfl, f21⟩, rfl,
            ⟨rfl, f25⟩, ⟨rfl, f26⟩, ⟨rfl, f27⟩, ⟨rfl, f28⟩, ⟨rfl, f29⟩,
            ⟨rfl, f16⟩, ⟨rfl, f22⟩, ⟨rfl, f22⟩, beq_self_eq_true _, ⟨rfl, e0 ▸ g31 (m := chainN l s) (by unfold chainN; rw [List.length_map]; omega)⟩, ⟨rfl, e0 ▸ g31 (m := nms (brM l s)) (by unfold nms; rw [List.length_map]; exact h16)⟩, ⟨rfl, g32⟩, ⟨rfl, g33⟩, eq39s P17 _ _ _, rfl, ⟨rfl, rfl⟩, rfl⟩
end Go.Vm.S3
