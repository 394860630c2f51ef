/- DummySeats: the law. -/
import Derived.Test.YtliikgffjphhjaaGreatDoorS3Law8a
namespace Go.Vm.S3
open Go.Proofs Go.RowKit
set_option maxRecDepth 100000 in
theorem t8 (l : List I6) (m : List V3) (ss : List (ByteArray × Bool)) (gs : List (ByteArray × ByteArray)) (s1 s2 v1 v2 : Bool) (a ou : List Int) (b op : List ByteArray) (e1 e2 one two p q : Int) : evTreeD (CS T13) 60 8 [.agg [slA bxC 6 l, slA vecC 3 m], slA stC 2 ss, slA sgC 2 gs] [.sp [slA bxC 6 l, slA vecC 3 m] (boolA s1), .sp [slA stC 2 ss, slA sgC 2 gs] (boolA s2), .br [] [.loop 0 [1,2,3,7,38,39,40] [3] [1,2,3,7] [3] (.exit 0) [slA stC 2 ss, slA sgC 2 gs, .ptr 3 0 0, slA bxC 6 l] [(false, .box [slA bxC 6 l, slA vecC 3 m])], .loop 0 [1,2,3,7,10,49,50,51] [3] [1,2,3,7,10] [3] (.exit 2) [slA stC 2 ss, slA sgC 2 gs, .ptr 3 0 0, slA bxC 6 l, slA stC 2 ss] [(false, .box [slA bxC 6 l, slA vecC 3 m])], .loop 0 [1,2,3,7,10,13,60,61,62] [3] [1,2,3,7,10,13] [3] (.exit 4) [slA stC 2 ss, slA sgC 2 gs, .ptr 3 0 0, slA bxC 6 l, slA stC 2 ss, slA sgC 2 gs] [(false, .box [slA bxC 6 l, slA vecC 3 m])], .cl, .sp [slA bxC 6 l, slA vecC 3 m] (.tup [slA intC 1 a, intA e1]), .sp [slA stC 2 ss, slA sgC 2 gs] (.tup [slA strC 1 b, intA e2]), .sp [slA bxC 6 l] (intA one), .sp [slA stC 2 ss] (intA two), .br [.sp [slA vecC 3 m, intA (Int.ofNat l.length)] (intA p), .br [.sp [slA stC 2 ss, slA sgC 2 gs] (intA q), .br [.sp [slA bxC 6 l, slA vecC 3 m] (slA intC 1 ou), .br [.sp [slA stC 2 ss, slA sgC 2 gs] (slA strC 1 op), .sp [slA intC 1 a, slA intC 1 ou] (boolA v1), .sp [slA strC 1 b, intA e2, intA q, slA strC 1 op] (boolA v2)] [.sp [slA intC 1 a, slA intC 1 ou] (boolA v1), .sp [slA strC 1 b, intA e2, intA q, .v (.slice none 0 0)] (boolA v2)]] [.br [.sp [slA stC 2 ss, slA sgC 2 gs] (slA strC 1 op), .sp [slA intC 1 a, .v (.slice none 0 0)] (boolA v1), .sp [slA strC 1 b, intA e2, intA q, slA strC 1 op] (boolA v2)] [.sp [slA intC 1 a, .v (.slice none 0 0)] (boolA v1), .sp [slA strC 1 b, intA e2, intA q, .v (.slice none 0 0)] (boolA v2)]]] [.br [.sp [slA bxC 6 l, slA vecC 3 m] (slA intC 1 ou), .br [.sp [slA stC 2 ss, slA sgC 2 gs] (slA strC 1 op), .sp [slA intC 1 a, slA intC 1 ou] (boolA v1), .sp [slA strC 1 b, intA e2, intA two, slA strC 1 op] (boolA v2)] [.sp [slA intC 1 a, slA intC 1 ou] (boolA v1), .sp [slA strC 1 b, intA e2, intA two, .v (.slice none 0 0)] (boolA v2)]] [.br [.sp [slA stC 2 ss, slA sgC 2 gs] (slA strC 1 op), .sp [slA intC 1 a, .v (.slice none 0 0)] (boolA v1), .sp [slA strC 1 b, intA e2, intA two, slA strC 1 op] (boolA v2)] [.sp [slA intC 1 a, .v (.slice none 0 0)] (boolA v1), .sp [slA strC 1 b, intA e2, intA two, .v (.slice none 0 0)] (boolA v2)]]]] [.br [.sp [slA stC 2 ss, slA sgC 2 gs] (intA q), .br [.sp [slA bxC 6 l, slA vecC 3 m] (slA intC 1 ou), .br [.sp [slA stC 2 ss, slA sgC 2 gs] (slA strC 1 op), .sp [slA intC 1 a, slA intC 1 ou] (boolA v1), .sp [slA strC 1 b, intA e2, intA q, slA strC 1 op] (boolA v2)] [.sp [slA intC 1 a, slA intC 1 ou] (boolA v1), .sp [slA strC 1 b, intA e2, intA q, .v (.slice none 0 0)] (boolA v2)]] [.br [.sp [slA stC 2 ss, slA sgC 2 gs] (slA strC 1 op), .sp [slA intC 1 a, .v (.slice none 0 0)] (boolA v1), .sp [slA strC 1 b, intA e2, intA q, slA strC 1 op] (boolA v2)] [.sp [slA intC 1 a, .v (.slice none 0 0)] (boolA v1), .sp [slA strC 1 b, intA e2, intA q, .v (.slice none 0 0)] (boolA v2)]]] [.br [.sp [slA bxC 6 l, slA vecC 3 m] (slA intC 1 ou), .br [.sp [slA stC 2 ss, slA sgC 2 gs] (slA strC 1 op), .sp [slA intC 1 a, slA intC 1 ou] (boolA v1), .sp [slA strC 1 b, intA e2, intA two, slA strC 1 op] (boolA v2)] [.sp [slA intC 1 a, slA intC 1 ou] (boolA v1), .sp [slA strC 1 b, intA e2, intA two, .v (.slice none 0 0)] (boolA v2)]] [.br [.sp [slA stC 2 ss, slA sgC 2 gs] (slA strC 1 op), .sp [slA intC 1 a, .v (.slice none 0 0)] (boolA v1), .sp [slA strC 1 b, intA e2, intA two, slA strC 1 op] (boolA v2)] [.sp [slA intC 1 a, .v (.slice none 0 0)] (boolA v1), .sp [slA strC 1 b, intA e2, intA two, .v (.slice none 0 0)] (boolA v2)]]]]]] =
    (.need (([.rsl 6 (List.map bxC.enc l) false, .rsl 3 (List.map vecC.enc m) false] : List AV) = ([.rsl 6 (List.map bxC.enc l) false, .rsl 3 (List.map vecC.enc m) false] : List AV) ∧ (Cx.spec (CS T13) 65 ([.rsl 6 (List.map bxC.enc l) false, .rsl 3 (List.map vecC.enc m) false] : List AV)) = (some (AV.v (.bool s1)))) (bif !s1 then (.done (some (.v (.bool true)))) else (.need (([.rsl 2 (List.map stC.enc ss) false, .rsl 2 (List.map sgC.enc gs) false] : List AV) = ([.rsl 2 (List.map stC.enc ss) false, .rsl 2 (List.map sgC.enc gs) false] : List AV) ∧ (Cx.spec (CS T13) 66 ([.rsl 2 (List.map stC.enc ss) false, .rsl 2 (List.map sgC.enc gs) false] : List AV)) = (some (AV.v (.bool s2)))) (bif !s2 then (.done (some (.v (.bool true)))) else (.need (EntClosed [(false, .box [.rsl 6 (List.map bxC.enc l) false, .rsl 3 (List.map vecC.enc m) false])] ∧ EntClosed [(false, .box [.rsl 6 (List.map bxC.enc l) false, .rsl 3 (List.map vecC.enc m) false])] ∧ Says (CS T13) 0 134 false (.loop (loopOf (CS T13) 8 0)) (mkSt [1, 2, 3, 7, 38, 39, 40] [3] 134 [.rsl 2 (List.map stC.enc ss) false, .rsl 2 (List.map sgC.enc gs) false, .ptr 3 0 0, .v (.slice none 0 0), .rsl 6 (List.map bxC.enc l) false, .v (.int .i64 (Int.ofNat (List.map bxC.enc l).length)), .v (.int .i64 0)] [(false, .box [.rsl 6 (List.map bxC.enc l) false, .rsl 3 (List.map vecC.enc m) false])]) (.exit 0) (mkSt [1, 2, 3, 7] [3] 134 [.rsl 2 (List.map stC.enc ss) false, .rsl 2 (List.map sgC.enc gs) false, .ptr 3 0 0, .rsl 6 (List.map bxC.enc l) false] [(false, .box [.rsl 6 (List.map bxC.enc l) false, .rsl 3 (List.map vecC.enc m) false])])) (.need (EntClosed [(false, .box [.rsl 6 (List.map bxC.enc l) false, .rsl 3 (List.map vecC.enc m) false])] ∧ EntClosed [(false, .box [.rsl 6 (List.map bxC.enc l) false, .rsl 3 (List.map vecC.enc m) false])] ∧ Says (CS T13) 0 134 false (.loop (loopOf (CS T13) 8 2)) (mkSt [1, 2, 3, 7, 10, 49, 50, 51] [3] 134 [.rsl 2 (List.map stC.enc ss) false, .rsl 2 (List.map sgC.enc gs) false, .ptr 3 0 0, .rsl 6 (List.map bxC.enc l) false, .v (.slice none 0 0), .rsl 2 (List.map stC.enc ss) false, .v (.int .i64 (Int.ofNat (List.map stC.enc ss).length)), .v (.int .i64 0)] [(false, .box [.rsl 6 (List.map bxC.enc l) false, .rsl 3 (List.map vecC.enc m) false])]) (.exit 2) (mkSt [1, 2, 3, 7, 10] [3] 134 [.rsl 2 (List.map stC.enc ss) false, .rsl 2 (List.map sgC.enc gs) false, .ptr 3 0 0, .rsl 6 (List.map bxC.enc l) false, .rsl 2 (List.map stC.enc ss) false] [(false, .box [.rsl 6 (List.map bxC.enc l) false, .rsl 3 (List.map vecC.enc m) false])])) (.need (EntClosed [(false, .box [.rsl 6 (List.map bxC.enc l) false, .rsl 3 (List.map vecC.enc m) false])] ∧ EntClosed [(false, .box [.rsl 6 (List.map bxC.enc l) false, .rsl 3 (List.map vecC.enc m) false])] ∧ Says (CS T13) 0 134 false (.loop (loopOf (CS T13) 8 4)) (mkSt [1, 2, 3, 7, 10, 13, 60, 61, 62] [3] 134 [.rsl 2 (List.map stC.enc ss) false, .rsl 2 (List.map sgC.enc gs) false, .ptr 3 0 0, .rsl 6 (List.map bxC.enc l) false, .rsl 2 (List.map stC.enc ss) false, .v (.slice none 0 0), .rsl 2 (List.map sgC.enc gs) false, .v (.int .i64 (Int.ofNat (List.map sgC.enc gs).length)), .v (.int .i64 0)] [(false, .box [.rsl 6 (List.map bxC.enc l) false, .rsl 3 (List.map vecC.enc m) false])]) (.exit 4) (mkSt [1, 2, 3, 7, 10, 13] [3] 134 [.rsl 2 (List.map stC.enc ss) false, .rsl 2 (List.map sgC.enc gs) false, .ptr 3 0 0, .rsl 6 (List.map bxC.enc l) false, .rsl 2 (List.map stC.enc ss) false, .rsl 2 (List.map sgC.enc gs) false] [(false, .box [.rsl 6 (List.map bxC.enc l) false, .rsl 3 (List.map vecC.enc m) false])])) (.need (CloP 3 3 24 (List.map vecC.enc m) (([] : List AV) ++ (List.map vecC.enc m))) (.need (([.rsl 6 (List.map bxC.enc l) false, .rsl 3 (([] : List AV) ++ (List.map vecC.enc m)) false] : List AV) = ([.rsl 6 (List.map bxC.enc l) false, .rsl 3 (List.map vecC.enc m) false] : List AV) ∧ (Cx.spec (CS T13) 67 ([.rsl 6 (List.map bxC.enc l) false, .rsl 3 (List.map vecC.enc m) false] : List AV)) = (some (AV.tup [.rsl 1 (List.map intC.enc a) false, .v (.int .i64 e1)]))) (.need (([.rsl 2 (List.map stC.enc ss) false, .rsl 2 (List.map sgC.enc gs) false] : List AV) = ([.rsl 2 (List.map stC.enc ss) false, .rsl 2 (List.map sgC.enc gs) false] : List AV) ∧ (Cx.spec (CS T13) 68 ([.rsl 2 (List.map stC.enc ss) false, .rsl 2 (List.map sgC.enc gs) false] : List AV)) = (some (AV.tup [.rsl 1 (List.map strC.enc b) false, .v (.int .i64 e2)]))) (.need (([.rsl 6 (List.map bxC.enc l) false] : List AV) = ([.rsl 6 (List.map bxC.enc l) false] : List AV) ∧ (Cx.spec (CS T13) 69 ([.rsl 6 (List.map bxC.enc l) false] : List AV)) = (some (AV.v (.int .i64 one)))) (.need (([.rsl 2 (List.map stC.enc ss) false] : List AV) = ([.rsl 2 (List.map stC.enc ss) false] : List AV) ∧ (Cx.spec (CS T13) 70 ([.rsl 2 (List.map stC.enc ss) false] : List AV)) = (some (AV.v (.int .i64 two)))) (bif one == 0 then (.need (([.rsl 3 (List.map vecC.enc m) false, .v (.int .i64 (Int.ofNat (List.map bxC.enc l).length))] : List AV) = ([.rsl 3 (List.map vecC.enc m) false, .v (.int .i64 (Int.ofNat l.length))] : List AV) ∧ (Cx.spec (CS T13) 71 ([.rsl 3 (List.map vecC.enc m) false, .v (.int .i64 (Int.ofNat l.length))] : List AV)) = (some (AV.v (.int .i64 p)))) (bif two == 0 then (.need (([.rsl 2 (List.map stC.enc ss) false, .rsl 2 (List.map sgC.enc gs) false] : List AV) = ([.rsl 2 (List.map stC.enc ss) false, .rsl 2 (List.map sgC.enc gs) false] : List AV) ∧ (Cx.spec (CS T13) 72 ([.rsl 2 (List.map stC.enc ss) false, .rsl 2 (List.map sgC.enc gs) false] : List AV)) = (some (AV.v (.int .i64 q)))) (bif p == 0 then (.need (([.rsl 6 (List.map bxC.enc l) false, .rsl 3 (List.map vecC.enc m) false] : List AV) = ([.rsl 6 (List.map bxC.enc l) false, .rsl 3 (List.map vecC.enc m) false] : List AV) ∧ (Cx.spec (CS T13) 73 ([.rsl 6 (List.map bxC.enc l) false, .rsl 3 (List.map vecC.enc m) false] : List AV)) = (some (AV.rsl 1 (List.map intC.enc ou) false))) (bif q == 0 then (.need (([.rsl 2 (List.map stC.enc ss) false, .rsl 2 (List.map sgC.enc gs) false] : List AV) = ([.rsl 2 (List.map stC.enc ss) false, .rsl 2 (List.map sgC.enc gs) false] : List AV) ∧ (Cx.spec (CS T13) 74 ([.rsl 2 (List.map stC.enc ss) false, .rsl 2 (List.map sgC.enc gs) false] : List AV)) = (some (AV.rsl 1 (List.map strC.enc op) false))) (.need (([.rsl 1 (List.map intC.enc a) false, .rsl 1 (List.map intC.enc ou) false] : List AV) = ([.rsl 1 (List.map intC.enc a) false, .rsl 1 (List.map intC.enc ou) false] : List AV) ∧ (Cx.spec (CS T13) 75 ([.rsl 1 (List.map intC.enc a) false, .rsl 1 (List.map intC.enc ou) false] : List AV)) = (some (AV.v (.bool v1)))) (bif v1 then (bif e1 == p then (.need (([.rsl 1 (List.map strC.enc b) false, .v (.int .i64 e2), .v (.int .i64 q), .rsl 1 (List.map strC.enc op) false] : List AV) = ([.rsl 1 (List.map strC.enc b) false, .v (.int .i64 e2), .v (.int .i64 q), .rsl 1 (List.map strC.enc op) false] : List AV) ∧ (Cx.spec (CS T13) 31 ([.rsl 1 (List.map strC.enc b) false, .v (.int .i64 e2), .v (.int .i64 q), .rsl 1 (List.map strC.enc op) false] : List AV)) = (some (AV.v (.bool v2)))) (bif v2 then (.done (some (.v (.bool true)))) else (.done (some (.v (.bool false)))))) else (.done (some (.v (.bool false))))) else (.done (some (.v (.bool false))))))) else (.need (([.rsl 1 (List.map intC.enc a) false, .rsl 1 (List.map intC.enc ou) false] : List AV) = ([.rsl 1 (List.map intC.enc a) false, .rsl 1 (List.map intC.enc ou) false] : List AV) ∧ (Cx.spec (CS T13) 75 ([.rsl 1 (List.map intC.enc a) false, .rsl 1 (List.map intC.enc ou) false] : List AV)) = (some (AV.v (.bool v1)))) (bif v1 then (bif e1 == p then (.need (([.rsl 1 (List.map strC.enc b) false, .v (.int .i64 e2), .v (.int .i64 q), .v (.slice none 0 0)] : List AV) = ([.rsl 1 (List.map strC.enc b) false, .v (.int .i64 e2), .v (.int .i64 q), .v (.slice none 0 0)] : List AV) ∧ (Cx.spec (CS T13) 31 ([.rsl 1 (List.map strC.enc b) false, .v (.int .i64 e2), .v (.int .i64 q), .v (.slice none 0 0)] : List AV)) = (some (AV.v (.bool v2)))) (bif v2 then (.done (some (.v (.bool true)))) else (.done (some (.v (.bool false)))))) else (.done (some (.v (.bool false))))) else (.done (some (.v (.bool false)))))))) else (bif q == 0 then (.need (([.rsl 2 (List.map stC.enc ss) false, .rsl 2 (List.map sgC.enc gs) false] : List AV) = ([.rsl 2 (List.map stC.enc ss) false, .rsl 2 (List.map sgC.enc gs) false] : List AV) ∧ (Cx.spec (CS T13) 74 ([.rsl 2 (List.map stC.enc ss) false, .rsl 2 (List.map sgC.enc gs) false] : List AV)) = (some (AV.rsl 1 (List.map strC.enc op) false))) (.need (([.rsl 1 (List.map intC.enc a) false, .v (.slice none 0 0)] : List AV) = ([.rsl 1 (List.map intC.enc a) false, .v (.slice none 0 0)] : List AV) ∧ (Cx.spec (CS T13) 75 ([.rsl 1 (List.map intC.enc a) false, .v (.slice none 0 0)] : List AV)) = (some (AV.v (.bool v1)))) (bif v1 then (bif e1 == p then (.need (([.rsl 1 (List.map strC.enc b) false, .v (.int .i64 e2), .v (.int .i64 q), .rsl 1 (List.map strC.enc op) false] : List AV) = ([.rsl 1 (List.map strC.enc b) false, .v (.int .i64 e2), .v (.int .i64 q), .rsl 1 (List.map strC.enc op) false] : List AV) ∧ (Cx.spec (CS T13) 31 ([.rsl 1 (List.map strC.enc b) false, .v (.int .i64 e2), .v (.int .i64 q), .rsl 1 (List.map strC.enc op) false] : List AV)) = (some (AV.v (.bool v2)))) (bif v2 then (.done (some (.v (.bool true)))) else (.done (some (.v (.bool false)))))) else (.done (some (.v (.bool false))))) else (.done (some (.v (.bool false))))))) else (.need (([.rsl 1 (List.map intC.enc a) false, .v (.slice none 0 0)] : List AV) = ([.rsl 1 (List.map intC.enc a) false, .v (.slice none 0 0)] : List AV) ∧ (Cx.spec (CS T13) 75 ([.rsl 1 (List.map intC.enc a) false, .v (.slice none 0 0)] : List AV)) = (some (AV.v (.bool v1)))) (bif v1 then (bif e1 == p then (.need (([.rsl 1 (List.map strC.enc b) false, .v (.int .i64 e2), .v (.int .i64 q), .v (.slice none 0 0)] : List AV) = ([.rsl 1 (List.map strC.enc b) false, .v (.int .i64 e2), .v (.int .i64 q), .v (.slice none 0 0)] : List AV) ∧ (Cx.spec (CS T13) 31 ([.rsl 1 (List.map strC.enc b) false, .v (.int .i64 e2), .v (.int .i64 q), .v (.slice none 0 0)] : List AV)) = (some (AV.v (.bool v2)))) (bif v2 then (.done (some (.v (.bool true)))) else (.done (some (.v (.bool false)))))) else (.done (some (.v (.bool false))))) else (.done (some (.v (.bool false))))))))) else (bif p == 0 then (.need (([.rsl 6 (List.map bxC.enc l) false, .rsl 3 (List.map vecC.enc m) false] : List AV) = ([.rsl 6 (List.map bxC.enc l) false, .rsl 3 (List.map vecC.enc m) false] : List AV) ∧ (Cx.spec (CS T13) 73 ([.rsl 6 (List.map bxC.enc l) false, .rsl 3 (List.map vecC.enc m) false] : List AV)) = (some (AV.rsl 1 (List.map intC.enc ou) false))) (bif two == 0 then (.need (([.rsl 2 (List.map stC.enc ss) false, .rsl 2 (List.map sgC.enc gs) false] : List AV) = ([.rsl 2 (List.map stC.enc ss) false, .rsl 2 (List.map sgC.enc gs) false] : List AV) ∧ (Cx.spec (CS T13) 74 ([.rsl 2 (List.map stC.enc ss) false, .rsl 2 (List.map sgC.enc gs) false] : List AV)) = (some (AV.rsl 1 (List.map strC.enc op) false))) (.need (([.rsl 1 (List.map intC.enc a) false, .rsl 1 (List.map intC.enc ou) false] : List AV) = ([.rsl 1 (List.map intC.enc a) false, .rsl 1 (List.map intC.enc ou) false] : List AV) ∧ (Cx.spec (CS T13) 75 ([.rsl 1 (List.map intC.enc a) false, .rsl 1 (List.map intC.enc ou) false] : List AV)) = (some (AV.v (.bool v1)))) (bif v1 then (bif e1 == p then (.need (([.rsl 1 (List.map strC.enc b) false, .v (.int .i64 e2), .v (.int .i64 two), .rsl 1 (List.map strC.enc op) false] : List AV) = ([.rsl 1 (List.map strC.enc b) false, .v (.int .i64 e2), .v (.int .i64 two), .rsl 1 (List.map strC.enc op) false] : List AV) ∧ (Cx.spec (CS T13) 31 ([.rsl 1 (List.map strC.enc b) false, .v (.int .i64 e2), .v (.int .i64 two), .rsl 1 (List.map strC.enc op) false] : List AV)) = (some (AV.v (.bool v2)))) (bif v2 then (.done (some (.v (.bool true)))) else (.done (some (.v (.bool false)))))) else (.done (some (.v (.bool false))))) else (.done (some (.v (.bool false))))))) else (.need (([.rsl 1 (List.map intC.enc a) false, .rsl 1 (List.map intC.enc ou) false] : List AV) = ([.rsl 1 (List.map intC.enc a) false, .rsl 1 (List.map intC.enc ou) false] : List AV) ∧ (Cx.spec (CS T13) 75 ([.rsl 1 (List.map intC.enc a) false, .rsl 1 (List.map intC.enc ou) false] : List AV)) = (some (AV.v (.bool v1)))) (bif v1 then (bif e1 == p then (.need (([.rsl 1 (List.map strC.enc b) false, .v (.int .i64 e2), .v (.int .i64 two), .v (.slice none 0 0)] : List AV) = ([.rsl 1 (List.map strC.enc b) false, .v (.int .i64 e2), .v (.int .i64 two), .v (.slice none 0 0)] : List AV) ∧ (Cx.spec (CS T13) 31 ([.rsl 1 (List.map strC.enc b) false, .v (.int .i64 e2), .v (.int .i64 two), .v (.slice none 0 0)] : List AV)) = (some (AV.v (.bool v2)))) (bif v2 then (.done (some (.v (.bool true)))) else (.done (some (.v (.bool false)))))) else (.done (some (.v (.bool false))))) else (.done (some (.v (.bool false)))))))) else (bif two == 0 then (.need (([.rsl 2 (List.map stC.enc ss) false, .rsl 2 (List.map sgC.enc gs) false] : List AV) = ([.rsl 2 (List.map stC.enc ss) false, .rsl 2 (List.map sgC.enc gs) false] : List AV) ∧ (Cx.spec (CS T13) 74 ([.rsl 2 (List.map stC.enc ss) false, .rsl 2 (List.map sgC.enc gs) false] : List AV)) = (some (AV.rsl 1 (List.map strC.enc op) false))) (.need (([.rsl 1 (List.map intC.enc a) false, .v (.slice none 0 0)] : List AV) = ([.rsl 1 (List.map intC.enc a) false, .v (.slice none 0 0)] : List AV) ∧ (Cx.spec (CS T13) 75 ([.rsl 1 (List.map intC.enc a) false, .v (.slice none 0 0)] : List AV)) = (some (AV.v (.bool v1)))) (bif v1 then (bif e1 == p then (.need (([.rsl 1 (List.map strC.enc b) false, .v (.int .i64 e2), .v (.int .i64 two), .rsl 1 (List.map strC.enc op) false] : List AV) = ([.rsl 1 (List.map strC.enc b) false, .v (.int .i64 e2), .v (.int .i64 two), .rsl 1 (List.map strC.enc op) false] : List AV) ∧ (Cx.spec (CS T13) 31 ([.rsl 1 (List.map strC.enc b) false, .v (.int .i64 e2), .v (.int .i64 two), .rsl 1 (List.map strC.enc op) false] : List AV)) = (some (AV.v (.bool v2)))) (bif v2 then (.done (some (.v (.bool true)))) else (.done (some (.v (.bool false)))))) else (.done (some (.v (.bool false))))) else (.done (some (.v (.bool false))))))) else (.need (([.rsl 1 (List.map intC.enc a) false, .v (.slice none 0 0)] : List AV) = ([.rsl 1 (List.map intC.enc a) false, .v (.slice none 0 0)] : List AV) ∧ (Cx.spec (CS T13) 75 ([.rsl 1 (List.map intC.enc a) false, .v (.slice none 0 0)] : List AV)) = (some (AV.v (.bool v1)))) (bif v1 then (bif e1 == p then (.need (([.rsl 1 (List.map strC.enc b) false, .v (.int .i64 e2), .v (.int .i64 two), .v (.slice none 0 0)] : List AV) = ([.rsl 1 (List.map strC.enc b) false, .v (.int .i64 e2), .v (.int .i64 two), .v (.slice none 0 0)] : List AV) ∧ (Cx.spec (CS T13) 31 ([.rsl 1 (List.map strC.enc b) false, .v (.int .i64 e2), .v (.int .i64 two), .v (.slice none 0 0)] : List AV)) = (some (AV.v (.bool v2)))) (bif v2 then (.done (some (.v (.bool true)))) else (.done (some (.v (.bool false)))))) else (.done (some (.v (.bool false))))) else (.done (some (.v (.bool false)))))))))) else (bif two == 0 then (.need (([.rsl 2 (List.map stC.enc ss) false, .rsl 2 (List.map sgC.enc gs) false] : List AV) = ([.rsl 2 (List.map stC.enc ss) false, .rsl 2 (List.map sgC.enc gs) false] : List AV) ∧ (Cx.spec (CS T13) 72 ([.rsl 2 (List.map stC.enc ss) false, .rsl 2 (List.map sgC.enc gs) false] : List AV)) = (some (AV.v (.int .i64 q)))) (bif one == 0 then (.need (([.rsl 6 (List.map bxC.enc l) false, .rsl 3 (List.map vecC.enc m) false] : List AV) = ([.rsl 6 (List.map bxC.enc l) false, .rsl 3 (List.map vecC.enc m) false] : List AV) ∧ (Cx.spec (CS T13) 73 ([.rsl 6 (List.map bxC.enc l) false, .rsl 3 (List.map vecC.enc m) false] : List AV)) = (some (AV.rsl 1 (List.map intC.enc ou) false))) (bif q == 0 then (.need (([.rsl 2 (List.map stC.enc ss) false, .rsl 2 (List.map sgC.enc gs) false] : List AV) = ([.rsl 2 (List.map stC.enc ss) false, .rsl 2 (List.map sgC.enc gs) false] : List AV) ∧ (Cx.spec (CS T13) 74 ([.rsl 2 (List.map stC.enc ss) false, .rsl 2 (List.map sgC.enc gs) false] : List AV)) = (some (AV.rsl 1 (List.map strC.enc op) false))) (.need (([.rsl 1 (List.map intC.enc a) false, .rsl 1 (List.map intC.enc ou) false] : List AV) = ([.rsl 1 (List.map intC.enc a) false, .rsl 1 (List.map intC.enc ou) false] : List AV) ∧ (Cx.spec (CS T13) 75 ([.rsl 1 (List.map intC.enc a) false, .rsl 1 (List.map intC.enc ou) false] : List AV)) = (some (AV.v (.bool v1)))) (bif v1 then (bif e1 == one then (.need (([.rsl 1 (List.map strC.enc b) false, .v (.int .i64 e2), .v (.int .i64 q), .rsl 1 (List.map strC.enc op) false] : List AV) = ([.rsl 1 (List.map strC.enc b) false, .v (.int .i64 e2), .v (.int .i64 q), .rsl 1 (List.map strC.enc op) false] : List AV) ∧ (Cx.spec (CS T13) 31 ([.rsl 1 (List.map strC.enc b) false, .v (.int .i64 e2), .v (.int .i64 q), .rsl 1 (List.map strC.enc op) false] : List AV)) = (some (AV.v (.bool v2)))) (bif v2 then (.done (some (.v (.bool true)))) else (.done (some (.v (.bool false)))))) else (.done (some (.v (.bool false))))) else (.done (some (.v (.bool false))))))) else (.need (([.rsl 1 (List.map intC.enc a) false, .rsl 1 (List.map intC.enc ou) false] : List AV) = ([.rsl 1 (List.map intC.enc a) false, .rsl 1 (List.map intC.enc ou) false] : List AV) ∧ (Cx.spec (CS T13) 75 ([.rsl 1 (List.map intC.enc a) false, .rsl 1 (List.map intC.enc ou) false] : List AV)) = (some (AV.v (.bool v1)))) (bif v1 then (bif e1 == one then (.need (([.rsl 1 (List.map strC.enc b) false, .v (.int .i64 e2), .v (.int .i64 q), .v (.slice none 0 0)] : List AV) = ([.rsl 1 (List.map strC.enc b) false, .v (.int .i64 e2), .v (.int .i64 q), .v (.slice none 0 0)] : List AV) ∧ (Cx.spec (CS T13) 31 ([.rsl 1 (List.map strC.enc b) false, .v (.int .i64 e2), .v (.int .i64 q), .v (.slice none 0 0)] : List AV)) = (some (AV.v (.bool v2)))) (bif v2 then (.done (some (.v (.bool true)))) else (.done (some (.v (.bool false)))))) else (.done (some (.v (.bool false))))) else (.done (some (.v (.bool false)))))))) else (bif q == 0 then (.need (([.rsl 2 (List.map stC.enc ss) false, .rsl 2 (List.map sgC.enc gs) false] : List AV) = ([.rsl 2 (List.map stC.enc ss) false, .rsl 2 (List.map sgC.enc gs) false] : List AV) ∧ (Cx.spec (CS T13) 74 ([.rsl 2 (List.map stC.enc ss) false, .rsl 2 (List.map sgC.enc gs) false] : List AV)) = (some (AV.rsl 1 (List.map strC.enc op) false))) (.need (([.rsl 1 (List.map intC.enc a) false, .v (.slice none 0 0)] : List AV) = ([.rsl 1 (List.map intC.enc a) false, .v (.slice none 0 0)] : List AV) ∧ (Cx.spec (CS T13) 75 ([.rsl 1 (List.map intC.enc a) false, .v (.slice none 0 0)] : List AV)) = (some (AV.v (.bool v1)))) (bif v1 then (bif e1 == one then (.need (([.rsl 1 (List.map strC.enc b) false, .v (.int .i64 e2), .v (.int .i64 q), .rsl 1 (List.map strC.enc op) false] : List AV) = ([.rsl 1 (List.map strC.enc b) false, .v (.int .i64 e2), .v (.int .i64 q), .rsl 1 (List.map strC.enc op) false] : List AV) ∧ (Cx.spec (CS T13) 31 ([.rsl 1 (List.map strC.enc b) false, .v (.int .i64 e2), .v (.int .i64 q), .rsl 1 (List.map strC.enc op) false] : List AV)) = (some (AV.v (.bool v2)))) (bif v2 then (.done (some (.v (.bool true)))) else (.done (some (.v (.bool false)))))) else (.done (some (.v (.bool false))))) else (.done (some (.v (.bool false))))))) else (.need (([.rsl 1 (List.map intC.enc a) false, .v (.slice none 0 0)] : List AV) = ([.rsl 1 (List.map intC.enc a) false, .v (.slice none 0 0)] : List AV) ∧ (Cx.spec (CS T13) 75 ([.rsl 1 (List.map intC.enc a) false, .v (.slice none 0 0)] : List AV)) = (some (AV.v (.bool v1)))) (bif v1 then (bif e1 == one then (.need (([.rsl 1 (List.map strC.enc b) false, .v (.int .i64 e2), .v (.int .i64 q), .v (.slice none 0 0)] : List AV) = ([.rsl 1 (List.map strC.enc b) false, .v (.int .i64 e2), .v (.int .i64 q), .v (.slice none 0 0)] : List AV) ∧ (Cx.spec (CS T13) 31 ([.rsl 1 (List.map strC.enc b) false, .v (.int .i64 e2), .v (.int .i64 q), .v (.slice none 0 0)] : List AV)) = (some (AV.v (.bool v2)))) (bif v2 then (.done (some (.v (.bool true)))) else (.done (some (.v (.bool false)))))) else (.done (some (.v (.bool false))))) else (.done (some (.v (.bool false))))))))) else (bif one == 0 then (.need (([.rsl 6 (List.map bxC.enc l) false, .rsl 3 (List.map vecC.enc m) false] : List AV) = ([.rsl 6 (List.map bxC.enc l) false, .rsl 3 (List.map vecC.enc m) false] : List AV) ∧ (Cx.spec (CS T13) 73 ([.rsl 6 (List.map bxC.enc l) false, .rsl 3 (List.map vecC.enc m) false] : List AV)) = (some (AV.rsl 1 (List.map intC.enc ou) false))) (bif two == 0 then (.need (([.rsl 2 (List.map stC.enc ss) false, .rsl 2 (List.map sgC.enc gs) false] : List AV) = ([.rsl 2 (List.map stC.enc ss) false, .rsl 2 (List.map sgC.enc gs) false] : List AV) ∧ (Cx.spec (CS T13) 74 ([.rsl 2 (List.map stC.enc ss) false, .rsl 2 (List.map sgC.enc gs) false] : List AV)) = (some (AV.rsl 1 (List.map strC.enc op) false))) (.need (([.rsl 1 (List.map intC.enc a) false, .rsl 1 (List.map intC.enc ou) false] : List AV) = ([.rsl 1 (List.map intC.enc a) false, .rsl 1 (List.map intC.enc ou) false] : List AV) ∧ (Cx.spec (CS T13) 75 ([.rsl 1 (List.map intC.enc a) false, .rsl 1 (List.map intC.enc ou) false] : List AV)) = (some (AV.v (.bool v1)))) (bif v1 then (bif e1 == one then (.need (([.rsl 1 (List.map strC.enc b) false, .v (.int .i64 e2), .v (.int .i64 two), .rsl 1 (List.map strC.enc op) false] : List AV) = ([.rsl 1 (List.map strC.enc b) false, .v (.int .i64 e2), .v (.int .i64 two), .rsl 1 (List.map strC.enc op) false] : List AV) ∧ (Cx.spec (CS T13) 31 ([.rsl 1 (List.map strC.enc b) false, .v (.int .i64 e2), .v (.int .i64 two), .rsl 1 (List.map strC.enc op) false] : List AV)) = (some (AV.v (.bool v2)))) (bif v2 then (.done (some (.v (.bool true)))) else (.done (some (.v (.bool false)))))) else (.done (some (.v (.bool false))))) else (.done (some (.v (.bool false))))))) else (.need (([.rsl 1 (List.map intC.enc a) false, .rsl 1 (List.map intC.enc ou) false] : List AV) = ([.rsl 1 (List.map intC.enc a) false, .rsl 1 (List.map intC.enc ou) false] : List AV) ∧ (Cx.spec (CS T13) 75 ([.rsl 1 (List.map intC.enc a) false, .rsl 1 (List.map intC.enc ou) false] : List AV)) = (some (AV.v (.bool v1)))) (bif v1 then (bif e1 == one then (.need (([.rsl 1 (List.map strC.enc b) false, .v (.int .i64 e2), .v (.int .i64 two), .v (.slice none 0 0)] : List AV) = ([.rsl 1 (List.map strC.enc b) false, .v (.int .i64 e2), .v (.int .i64 two), .v (.slice none 0 0)] : List AV) ∧ (Cx.spec (CS T13) 31 ([.rsl 1 (List.map strC.enc b) false, .v (.int .i64 e2), .v (.int .i64 two), .v (.slice none 0 0)] : List AV)) = (some (AV.v (.bool v2)))) (bif v2 then (.done (some (.v (.bool true)))) else (.done (some (.v (.bool false)))))) else (.done (some (.v (.bool false))))) else (.done (some (.v (.bool false)))))))) else (bif two == 0 then (.need (([.rsl 2 (List.map stC.enc ss) false, .rsl 2 (List.map sgC.enc gs) false] : List AV) = ([.rsl 2 (List.map stC.enc ss) false, .rsl 2 (List.map sgC.enc gs) false] : List AV) ∧ (Cx.spec (CS T13) 74 ([.rsl 2 (List.map stC.enc ss) false, .rsl 2 (List.map sgC.enc gs) false] : List AV)) = (some (AV.rsl 1 (List.map strC.enc op) false))) (.need (([.rsl 1 (List.map intC.enc a) false, .v (.slice none 0 0)] : List AV) = ([.rsl 1 (List.map intC.enc a) false, .v (.slice none 0 0)] : List AV) ∧ (Cx.spec (CS T13) 75 ([.rsl 1 (List.map intC.enc a) false, .v (.slice none 0 0)] : List AV)) = (some (AV.v (.bool v1)))) (bif v1 then (bif e1 == one then (.need (([.rsl 1 (List.map strC.enc b) false, .v (.int .i64 e2), .v (.int .i64 two), .rsl 1 (List.map strC.enc op) false] : List AV) = ([.rsl 1 (List.map strC.enc b) false, .v (.int .i64 e2), .v (.int .i64 two), .rsl 1 (List.map strC.enc op) false] : List AV) ∧ (Cx.spec (CS T13) 31 ([.rsl 1 (List.map strC.enc b) false, .v (.int .i64 e2), .v (.int .i64 two), .rsl 1 (List.map strC.enc op) false] : List AV)) = (some (AV.v (.bool v2)))) (bif v2 then (.done (some (.v (.bool true)))) else (.done (some (.v (.bool false)))))) else (.done (some (.v (.bool false))))) else (.done (some (.v (.bool false))))))) else (.need (([.rsl 1 (List.map intC.enc a) false, .v (.slice none 0 0)] : List AV) = ([.rsl 1 (List.map intC.enc a) false, .v (.slice none 0 0)] : List AV) ∧ (Cx.spec (CS T13) 75 ([.rsl 1 (List.map intC.enc a) false, .v (.slice none 0 0)] : List AV)) = (some (AV.v (.bool v1)))) (bif v1 then (bif e1 == one then (.need (([.rsl 1 (List.map strC.enc b) false, .v (.int .i64 e2), .v (.int .i64 two), .v (.slice none 0 0)] : List AV) = ([.rsl 1 (List.map strC.enc b) false, .v (.int .i64 e2), .v (.int .i64 two), .v (.slice none 0 0)] : List AV) ∧ (Cx.spec (CS T13) 31 ([.rsl 1 (List.map strC.enc b) false, .v (.int .i64 e2), .v (.int .i64 two), .v (.slice none 0 0)] : List AV)) = (some (AV.v (.bool v2)))) (bif v2 then (.done (some (.v (.bool true)))) else (.done (some (.v (.bool false)))))) else (.done (some (.v (.bool false))))) else (.done (some (.v (.bool false)))))))))))))))))))))) := by kernel_rfl
theorem spec75 {l m : List Int} (hl : Nat.blt l.length two63 = true) : sp2 (listC intC 1) (listC intC 1) (fun l m => bif Nat.blt l.length two63 then some (boolA (sameM (· == ·) l m)) else none) [slA intC 1 l, slA intC 1 m] = some (boolA (sameM (· == ·) l m)) := by
  have h := sp2_at (A := listC intC 1) (B := listC intC 1) (F := fun l m => bif Nat.blt l.length two63 then some (boolA (sameM (· == ·) l m)) else none) l m
  rw [hl] at h
  exact h
theorem spec75n {l : List Int} (hl : Nat.blt l.length two63 = true) : sp2 (listC intC 1) (listC intC 1) (fun l m => bif Nat.blt l.length two63 then some (boolA (sameM (· == ·) l m)) else none) [slA intC 1 l, .v (.slice none 0 0)] = some (boolA (sameM (· == ·) l [])) := by
  have hd : (listC intC 1).dec (slA intC 1 l) = some l := (listC intC 1).rt l
  have hn : (listC intC 1).dec (.v (.slice none 0 0)) = some [] := rfl
  unfold sp2
  simp only [hd, hn, hl, cond_true]
theorem spec31 {l m : List ByteArray} {e bad : Int} (hl : Nat.blt l.length two63 = true) : listedG [slA strC 1 l, intA e, intA bad, slA strC 1 m] = some (boolA (listedM l e bad m)) := by
  have h := sp4_at (A := listC strC 1) (B := intC) (D := intC) (E := listC strC 1) (F := fun l e bad m => bif Nat.blt l.length two63 then some (boolA (listedM l e bad m)) else none) l e bad m
  rw [hl] at h
  exact h
theorem spec31n {l : List ByteArray} {e bad : Int} (hl : Nat.blt l.length two63 = true) : listedG [slA strC 1 l, intA e, intA bad, .v (.slice none 0 0)] = some (boolA (listedM l e bad [])) := by
  have hd : (listC strC 1).dec (slA strC 1 l) = some l := (listC strC 1).rt l
  have hn : (listC strC 1).dec (.v (.slice none 0 0)) = some [] := rfl
  have h1 : intC.dec (intA e) = some e := rfl
  have h2 : intC.dec (intA bad) = some bad := rfl
  unfold listedG sp4
  simp only [hd, hn, h1, h2, hl, cond_true]
theorem outM_len (l : List I6) (m : List V3) : (outM l m).length ≤ l.length := by
  unfold outM
  have : ∀ (r : List (I6 × V3)) (i : Nat), (gath outG1 i r).length ≤ r.length := by
    intro r
    induction r with
    | nil => intro i; exact Nat.le_refl _
    | cons x r ih =>
      intro i
      unfold gath
      have h1 : (outG1 i x).length ≤ 1 := by unfold outG1; cases hasM x.1 x.2 <;> simp
      have := ih (i + 1)
      simp only [List.length_append, List.length_cons]; omega
  have h := this (l.zip m) 0
  rw [List.length_zip] at h
  omega
theorem openB_len (l : List (ByteArray × Bool)) (m : List (ByteArray × ByteArray)) : (openB l m).length ≤ l.length := by
  unfold openB
  cases openErr l m != 0 with
  | true => simp
  | false =>
    simp only [cond_false]
    cases signRun l m with
    | inl e => simp
    | inr nx => unfold names; simp
theorem law8_ok : Holds 8 (sp3 seatC (listC stC 2) (listC sgC 2) fun _ _ _ => some (gB true)) := holds3 fun x ss gs r hr => by
  simp only [Option.some.injEq] at hr; subst hr
  obtain ⟨l, m⟩ := x
  have key := t8 l m ss gs (shortM l.length m.length) (shortStepsM ss gs) true true (outA l m) (outM l m) (openB ss gs) (openM ss gs) (outErr l m) (openE ss gs) (seatM l) (stepsM ss) (pointsM m (Int.ofNat l.length)) (signsM ss gs)
  rw [show Int.ofNat (List.map bxC.enc l).length = Int.ofNat l.length from e_len _ l, show Int.ofNat (List.map stC.enc ss).length = Int.ofNat ss.length from e_len _ ss, show Int.ofNat (List.map sgC.enc gs).length = Int.ofNat gs.length from e_len _ gs] at key
  refine T13_ok.tr key ?_
  clear key
  have f65 : seatShortG [slA bxC 6 l, slA vecC 3 m] = some (boolA (shortM l.length m.length)) := sp2_at (A := listC bxC 6) (B := listC vecC 3) l m
  refine ⟨⟨rfl, f65⟩, ?_⟩
  cases hs1 : shortM l.length m.length with
  | false => rfl
  | true =>
    have f66 : (sp2 (listC stC 2) (listC sgC 2) fun l m => some (boolA (shortStepsM l m))) [slA stC 2 ss, slA sgC 2 gs] = some (boolA (shortStepsM ss gs)) := sp2_at (A := listC stC 2) (B := listC sgC 2) ss gs
    refine ⟨⟨rfl, f66⟩, ?_⟩
    cases hs2 : shortStepsM ss gs with
    | false => rfl
    | true =>
      have hl : l.length ≤ 17 ∧ m.length ≤ 18 := by
        unfold shortM at hs1
        cases h1 : decide (Int.ofNat l.length ≤ 17) with
        | false => rw [h1] at hs1; cases hs1
        | true =>
          rw [h1, cond_true] at hs1
          simp only [Int.ofNat_eq_natCast, decide_eq_true_eq] at h1 hs1
          omega
      have hg : ss.length ≤ 33 ∧ gs.length ≤ 65 := by
        unfold shortStepsM at hs2
        cases h1 : stepsLenB ss.length gs.length with
        | true => rw [h1] at hs2; cases hs2
        | false =>
          unfold stepsLenB at h1
          by_cases q1 : ss.length > 8
          · have e1 : decide (Int.ofNat ss.length > 8) = true := by simp only [Int.ofNat_eq_natCast, decide_eq_true_eq]; omega
            rw [e1, cond_true] at h1
            cases h2 : Int.ofNat ss.length != 33 with
            | true => rw [h2] at h1; cases h1
            | false =>
              rw [h2, cond_false] at h1
              simp only [Int.ofNat_eq_natCast, bne_eq_false_iff_eq] at h2
              by_cases q2 : gs.length > 16
              · have e2 : decide (Int.ofNat gs.length > 16) = true := by simp only [Int.ofNat_eq_natCast, decide_eq_true_eq]; omega
                rw [e2, cond_true] at h1
                simp only [Int.ofNat_eq_natCast, bne_eq_false_iff_eq] at h1
                omega
              · omega
          · have e1 : decide (Int.ofNat ss.length > 8) = false := by simp only [Int.ofNat_eq_natCast, decide_eq_false_iff_not]; omega
            rw [e1, cond_false, cond_false] at h1
            by_cases q2 : gs.length > 16
            · have e2 : decide (Int.ofNat gs.length > 16) = true := by simp only [Int.ofNat_eq_natCast, decide_eq_true_eq]; omega
              rw [e2, cond_true] at h1
              simp only [Int.ofNat_eq_natCast, bne_eq_false_iff_eq] at h1
              omega
            · omega
      have bl : ∀ {n : Nat}, n ≤ 65 → Nat.ble n lim = true := fun h => Nat.ble_eq_true_of_le (by unfold lim; omega)
      have b2 : ∀ {n : Nat}, n ≤ 65 → Nat.blt n two63 = true := fun h => Nat.ble_eq_true_of_le (by unfold two63; omega)
      have l0 : ∀ {n : Nat}, n ≤ 65 → n ≤ lim := fun h => by unfold lim; omega
      refine ⟨⟨trivial, trivial, (lp8a l m ss gs (l0 (by omega))).says⟩, ⟨trivial, trivial, (lp8b l m ss gs (l0 (by omega))).says⟩, ⟨trivial, trivial, (lp8c l m ss gs (l0 (by omega))).says⟩, ⟨?_, rfl, ?_, ?_, by decide, ?_⟩, ?_⟩
      · exact allSz_map (f := vA) (fun _ => rfl) m
      · simp only [List.nil_append, List.length_map]; omega
      · simp only [List.nil_append, List.length_map]; omega
      · exact ClosedL.map (f := vA) fun _ => rfl
      have f67 : out67G [slA bxC 6 l, slA vecC 3 m] = some (.tup [slA intC 1 (outA l m), intA (outErr l m)]) := by
        have h := sp2_at (A := listC bxC 6) (B := listC vecC 3) (F := fun l m => bif Nat.ble l.length lim && Nat.ble m.length lim then some (outR l m) else none) l m
        rw [bl (by omega), bl (by omega), outR_eq] at h
        exact h
      have f68 : out68G [slA stC 2 ss, slA sgC 2 gs] = some (.tup [slA strC 1 (openB ss gs), intA (openE ss gs)]) := by
        have h := sp2_at (A := listC stC 2) (B := listC sgC 2) (F := fun l m => bif Nat.ble l.length lim && Nat.ble m.length lim then some (openR l m) else none) ss gs
        rw [bl (by omega), bl (by omega), openR_eq] at h
        exact h
      have f69 : seatG [slA bxC 6 l] = some (intA (seatM l)) := by
        have h := sp1_at (A := listC bxC 6) (F := fun l => bif Nat.blt l.length two63 then some (intA (seatM l)) else none) l
        rw [b2 (by omega)] at h; exact h
      have f70 : stepsG [slA stC 2 ss] = some (intA (stepsM ss)) := spec153 (bl (by omega))
      have f71 : pointsG [slA vecC 3 m, intA (Int.ofNat l.length)] = some (intA (pointsM m (Int.ofNat l.length))) := by
        have h := sp2_at (A := listC vecC 3) (B := intC) (F := fun l n => bif Nat.blt l.length two63 then some (intA (pointsM l n)) else none) m (Int.ofNat l.length)
        rw [b2 (by omega)] at h; exact h
      have f72 : signsG [slA stC 2 ss, slA sgC 2 gs] = some (intA (signsM ss gs)) := by
        have h := sp2_at (A := listC stC 2) (B := listC sgC 2) (F := fun l m => bif Nat.ble l.length lim && Nat.ble m.length lim then some (intA (signsM l m)) else none) ss gs
        rw [bl (by omega), bl (by omega)] at h; exact h
      have f73 : l.length = m.length → outG [slA bxC 6 l, slA vecC 3 m] = some (slA intC 1 (outM l m)) := fun e => by
        have h := sp2_at (A := listC bxC 6) (B := listC vecC 3) (F := fun l m => bif Nat.ble l.length lim && Nat.beq l.length m.length then some (slA intC 1 (outM l m)) else none) l m
        have : Nat.beq l.length m.length = true := by rw [e]; exact Nat.beq_refl _
        rw [bl (by omega), this] at h; exact h
      have f74 : openG [slA stC 2 ss, slA sgC 2 gs] = some (slA strC 1 (openM ss gs)) := spec74 (bl (by omega)) (bl (by omega))
      have eo := out_eq l m
      have la : (outA l m).length ≤ 65 := by unfold outA; have := outM_len l m; cases outErr l m != 0 <;> simp <;> omega
      have lb : (openB ss gs).length ≤ 65 := by have := openB_len ss gs; omega
      have v75 : ∀ {o : List Int}, outA l m = o → sameM (· == ·) (outA l m) o = true := fun h => by rw [← h]; exact sameM_refl (fun x => by simp) _
      obtain ⟨k1, k2, k3⟩ := open_all ss gs
      -- the end: both lists are compared, and both errors
      have L1 : ∀ (w : Int) (o : List ByteArray), openE ss gs = w → (w = 0 → openB ss gs = o) → listedG [slA strC 1 (openB ss gs), intA (openE ss gs), intA w, slA strC 1 o] = some (boolA true) := fun w o h1 h2 => by
        rw [spec31 (b2 lb)]
        unfold listedM
        rw [h1]
        cases hw : w != 0 with
        | true =>
          have : w ≠ 0 := by simpa using hw
          rw [k3 (by rw [h1]; exact this)]
          simp [sameM]
        | false =>
          have : w = 0 := by simpa using hw
          rw [h2 this, cond_false, sameM_refl seq_refl]; simp
      have L2 : ∀ (w : Int), openE ss gs = w → w ≠ 0 → listedG [slA strC 1 (openB ss gs), intA (openE ss gs), intA w, .v (.slice none 0 0)] = some (boolA true) := fun w h1 h2 => by
        rw [spec31n (b2 lb)]
        unfold listedM
        rw [k3 (by rw [h1]; exact h2), h1]
        cases w != 0 <;> simp [sameM]
      have O2 : outErr l m ≠ 0 → sp2 (listC intC 1) (listC intC 1) (fun l m => bif Nat.blt l.length two63 then some (boolA (sameM (· == ·) l m)) else none) [slA intC 1 (outA l m), .v (.slice none 0 0)] = some (boolA true) := fun h => by
        rw [spec75n (b2 la), v75]
        unfold outA
        have : (outErr l m != 0) = true := by simpa using h
        rw [this]; rfl
      refine ⟨⟨rfl, f67⟩, ⟨rfl, f68⟩, ⟨rfl, f69⟩, ⟨rfl, f70⟩, ?_⟩
      cases c1 : seatM l == 0 with
      | true =>
        rw [c1, cond_true] at eo
        refine ⟨⟨rfl, f71⟩, ?_⟩
        cases c2 : stepsM ss == 0 with
        | true =>
          rw [c2, cond_true] at k1
          refine ⟨⟨rfl, f72⟩, ?_⟩
          cases c3 : pointsM m (Int.ofNat l.length) == 0 with
          | true =>
            have z3 : pointsM m (Int.ofNat l.length) = 0 := by simpa using c3
            have elm : l.length = m.length := by
              unfold pointsM at z3
              cases hne : Int.ofNat m.length != Int.ofNat l.length with
              | true => rw [hne] at z3; exact absurd (show (2 : Int) = 0 from z3) (by decide)
              | false => have : Int.ofNat m.length = Int.ofNat l.length := by simpa using hne
                         exact (Int.ofNat.inj this).symm
            have O1 : outA l m = outM l m := by
              unfold outA; rw [eo, z3]; rfl
            refine ⟨⟨rfl, f73 elm⟩, ?_⟩
            have g75 := spec75 (l := outA l m) (m := outM l m) (b2 la)
            rw [v75 O1] at g75
            cases c4 : signsM ss gs == 0 with
            | true =>
              have z4 : signsM ss gs = 0 := by simpa using c4
              refine ⟨⟨rfl, f74⟩, ⟨rfl, g75⟩, ?_⟩
              rw [show (outErr l m == pointsM m (Int.ofNat l.length)) = true by rw [eo]; simp]
              exact ⟨⟨rfl, L1 _ _ k1 fun _ => k2 (by rw [k1]; exact z4)⟩, rfl⟩
            | false =>
              have z4 : signsM ss gs ≠ 0 := by simpa using c4
              refine ⟨⟨rfl, g75⟩, ?_⟩
              rw [show (outErr l m == pointsM m (Int.ofNat l.length)) = true by rw [eo]; simp]
              exact ⟨⟨rfl, L2 _ k1 z4⟩, rfl⟩
          | false =>
            have z3 : pointsM m (Int.ofNat l.length) ≠ 0 := by simpa using c3
            cases c4 : signsM ss gs == 0 with
            | true =>
              have z4 : signsM ss gs = 0 := by simpa using c4
              refine ⟨⟨rfl, f74⟩, ⟨rfl, O2 (by rw [eo]; exact z3)⟩, ?_⟩
              rw [show (outErr l m == pointsM m (Int.ofNat l.length)) = true by rw [eo]; simp]
              exact ⟨⟨rfl, L1 _ _ k1 fun _ => k2 (by rw [k1]; exact z4)⟩, rfl⟩
            | false =>
              have z4 : signsM ss gs ≠ 0 := by simpa using c4
              refine ⟨⟨rfl, O2 (by rw [eo]; exact z3)⟩, ?_⟩
              rw [show (outErr l m == pointsM m (Int.ofNat l.length)) = true by rw [eo]; simp]
              exact ⟨⟨rfl, L2 _ k1 z4⟩, rfl⟩
        | false =>
          have z2 : stepsM ss ≠ 0 := by simpa using c2
          rw [c2, cond_false] at k1
          cases c3 : pointsM m (Int.ofNat l.length) == 0 with
          | true =>
            have z3 : pointsM m (Int.ofNat l.length) = 0 := by simpa using c3
            have elm : l.length = m.length := by
              unfold pointsM at z3
              cases hne : Int.ofNat m.length != Int.ofNat l.length with
              | true => rw [hne] at z3; exact absurd (show (2 : Int) = 0 from z3) (by decide)
              | false => have : Int.ofNat m.length = Int.ofNat l.length := by simpa using hne
                         exact (Int.ofNat.inj this).symm
            have O1 : outA l m = outM l m := by
              unfold outA; rw [eo, z3]; rfl
            refine ⟨⟨rfl, f73 elm⟩, ?_⟩
            have g75 := spec75 (l := outA l m) (m := outM l m) (b2 la)
            rw [v75 O1] at g75
            refine ⟨⟨rfl, g75⟩, ?_⟩
            rw [show (outErr l m == pointsM m (Int.ofNat l.length)) = true by rw [eo]; simp]
            exact ⟨⟨rfl, L2 _ k1 z2⟩, rfl⟩
          | false =>
            have z3 : pointsM m (Int.ofNat l.length) ≠ 0 := by simpa using c3
            refine ⟨⟨rfl, O2 (by rw [eo]; exact z3)⟩, ?_⟩
            rw [show (outErr l m == pointsM m (Int.ofNat l.length)) = true by rw [eo]; simp]
            exact ⟨⟨rfl, L2 _ k1 z2⟩, rfl⟩
      | false =>
        have z1 : seatM l ≠ 0 := by simpa using c1
        rw [c1, cond_false] at eo
        cases c2 : stepsM ss == 0 with
        | true =>
          rw [c2, cond_true] at k1
          refine ⟨⟨rfl, f72⟩, ?_⟩
          cases c4 : signsM ss gs == 0 with
          | true =>
            have z4 : signsM ss gs = 0 := by simpa using c4
            refine ⟨⟨rfl, f74⟩, ⟨rfl, O2 (by rw [eo]; exact z1)⟩, ?_⟩
            rw [show (outErr l m == seatM l) = true by rw [eo]; simp]
            exact ⟨⟨rfl, L1 _ _ k1 fun _ => k2 (by rw [k1]; exact z4)⟩, rfl⟩
          | false =>
            have z4 : signsM ss gs ≠ 0 := by simpa using c4
            refine ⟨⟨rfl, O2 (by rw [eo]; exact z1)⟩, ?_⟩
            rw [show (outErr l m == seatM l) = true by rw [eo]; simp]
            exact ⟨⟨rfl, L2 _ k1 z4⟩, rfl⟩
        | false =>
          have z2 : stepsM ss ≠ 0 := by simpa using c2
          rw [c2, cond_false] at k1
          refine ⟨⟨rfl, O2 (by rw [eo]; exact z1)⟩, ?_⟩
          rw [show (outErr l m == seatM l) = true by rw [eo]; simp]
          exact ⟨⟨rfl, L2 _ k1 z2⟩, rfl⟩
end Go.Vm.S3
