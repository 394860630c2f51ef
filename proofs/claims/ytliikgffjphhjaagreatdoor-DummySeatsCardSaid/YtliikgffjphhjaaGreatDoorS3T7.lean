/- Seats: CheckSteps and Open of the reference, Out of the program. -/
import Derived.Test.YtliikgffjphhjaaGreatDoorS3T6
namespace Go.Vm.S3
open Go.Proofs Go.RowKit
set_option maxRecDepth 100000 in
theorem r70 (es : List AV) (l : List (ByteArray × Bool)) (x : ByteArray × Bool) (i : Nat) (k : Int) : roundD (CS T6) 60 0 70 0 47 47 false (loopOf (CS T6) 70 0) [0, 4] [] [0, 4] [] [2] [] [.rsl 2 es false, intA (Int.ofNat i)] [] [.chk [stA x], .chk (l.map stA), .chk [stA x], .sp [slA stC 2 l, strA x.1] (intA k)] =
    (bif decide (Int.ofNat i < Int.ofNat es.length) then (.need (es[i]? = (some (AV.agg [.v (.string x.fst), .v (.bool x.snd)]))) (.need (0 ≤ i ∧ i ≤ es.length) (.need (es[i]? = (some (AV.agg [.v (.string x.fst), .v (.bool x.snd)]))) (.need (([.rsl 2 (List.take (i - 0) (List.drop 0 es)) false, .v (.string x.fst)] : List AV) = ([.rsl 2 (List.map stC.enc l) false, .v (.string x.fst)] : List AV) ∧ (Cx.spec (CS T6) 158 ([.rsl 2 (List.take (i - 0) (List.drop 0 es)) false, .v (.string x.fst)] : List AV)) = (some (AV.v (.int .i64 k)))) (bif firstM [nameErr x.fst, whenM (decide (k ≥ 0)) 9] != 0 then (.need (EntClosed []) (.done (some ((.ret, [.v (.int .i64 (firstM [nameErr x.fst, whenM (decide (k ≥ 0)) 9]))], []))))) else (.need (EntClosed []) (.done (some ((.nrm, [.rsl 2 es false, .v (.int .i64 (IntKind.i64.wrap (Int.ofNat i + 1)))], [])))))))))) else (.need (EntClosed []) (.done (some (((.exit 0), [.bad], [])))))) := by kernel_rfl
set_option maxRecDepth 100000 in
theorem t70r (es : List AV) (k : Int) : evTreeD (CS T6) 60 70 [.rsl 2 es false] [.loop 0 [0, 4] [] [2] [] .ret [intA k] []] =
    (bif firstM [whenM (Int.ofNat es.length == 0) 12, whenM (decide (Int.ofNat es.length > 32)) 5] != 0 then (.done (some (.v (.int .i64 (firstM [whenM (Int.ofNat es.length == 0) 12, whenM (decide (Int.ofNat es.length > 32)) 5]))))) else (.need (EntClosed [] ∧ EntClosed [] ∧ Says (CS T6) 0 47 false (.loop (loopOf (CS T6) 70 0)) (mkSt [0, 4] [] 47 [.rsl 2 es false, .v (.int .i64 0)] []) .ret (mkSt [2] [] 47 [.v (.int .i64 k)] [])) (.done (some (.v (.int .i64 k)))))) := by kernel_rfl
set_option maxRecDepth 100000 in
theorem t70e (es : List AV) : evTreeD (CS T6) 60 70 [.rsl 2 es false] [.loop 0 [0, 4] [] [2] [] (.exit 0) [.bad] []] =
    (bif firstM [whenM (Int.ofNat es.length == 0) 12, whenM (decide (Int.ofNat es.length > 32)) 5] != 0 then (.done (some (.v (.int .i64 (firstM [whenM (Int.ofNat es.length == 0) 12, whenM (decide (Int.ofNat es.length > 32)) 5]))))) else (.need (EntClosed [] ∧ EntClosed [] ∧ Says (CS T6) 0 47 false (.loop (loopOf (CS T6) 70 0)) (mkSt [0, 4] [] 47 [.rsl 2 es false, .v (.int .i64 0)] []) (.exit 0) (mkSt [2] [] 47 [.bad] [])) (.done (some (.v (.int .i64 0)))))) := by kernel_rfl
set_option maxRecDepth 100000 in
theorem r74a (l : List (ByteArray × ByteArray)) (es : List AV) (x : ByteArray × Bool) (b : Bool) (i : Nat) : roundD (CS T6) 60 0 74 0 29 29 false (loopOf (CS T6) 74 0) [0, 1, 5, 6] [] [0, 1, 5, 6] [27] [5] [] [.rsl 2 es false, slA sgC 2 l, nilS, intA (Int.ofNat i)] [] [.br [.chk [stA x], .sp [stA x, slA sgC 2 l] (boolA b), .br [.chk [stA x]] []] []] =
    (bif decide (Int.ofNat i < Int.ofNat es.length) then (.need (es[i]? = (some (AV.agg [.v (.string x.fst), .v (.bool x.snd)]))) (.need (([.agg [.v (.string x.fst), .v (.bool x.snd)], .rsl 2 (List.map sgC.enc l) false] : List AV) = ([.agg [.v (.string x.fst), .v (.bool x.snd)], .rsl 2 (List.map sgC.enc l) false] : List AV) ∧ (Cx.spec (CS T6) 159 ([.agg [.v (.string x.fst), .v (.bool x.snd)], .rsl 2 (List.map sgC.enc l) false] : List AV)) = (some (AV.v (.bool b)))) (bif !b then (.need (es[i]? = (some (AV.agg [.v (.string x.fst), .v (.bool x.snd)]))) (.need (EntClosed [(false, .arr 1 [.v (.string x.fst)] false)]) (.done (some ((.nrm, [.rsl 2 es false, .rsl 2 (List.map sgC.enc l) false, .sl 27 0 1 0 1, .v (.int .i64 (IntKind.i64.wrap (Int.ofNat i + 1)))], [(false, .arr 1 [.v (.string x.fst)] false)])))))) else (.done none)))) else (.need (EntClosed []) (.done (some (((.exit 0), [.v (.slice none 0 0)], [])))))) := by kernel_rfl
set_option maxRecDepth 100000 in
theorem r67a (es fs : List AV) (x : I6) (p : V3) (i n : Nat) : roundD (CS T6) 60 0 67 0 63 63 false (loopOf (CS T6) 67 0) [0, 9, 43, 44, 45] [] [0, 9, 43, 44, 45] [60] [9] [] [.rsl 6 es false, nilS, .rsl 3 fs false, intA (Int.ofNat n), intA (Int.ofNat i)] [] [.br [.chk [vA p], .chk [bxA x], .br [] []] []] =
    (bif decide (Int.ofNat i < Int.ofNat n) then (.need (fs[i]? = (some (AV.agg [.v (.int .i64 p.fst), .v (.int .i64 p.snd.fst), .v (.int .i64 p.snd.snd)]))) (.need (es[i]? = (some (AV.agg [.v (.int .i64 x.fst), .v (.int .i64 x.snd.fst), .v (.int .i64 x.snd.snd.fst), .v (.int .i64 x.snd.snd.snd.fst), .v (.int .i64 x.snd.snd.snd.snd.fst), .v (.int .i64 x.snd.snd.snd.snd.snd)]))) (bif !hasM x p then (.need (EntClosed [(false, .arr 1 [.v (.int .i64 (Int.ofNat i))] false)]) (.done (some ((.nrm, [.rsl 6 es false, .sl 60 0 1 0 1, .rsl 3 fs false, .v (.int .i64 (Int.ofNat n)), .v (.int .i64 (IntKind.i64.wrap (Int.ofNat i + 1)))], [(false, .arr 1 [.v (.int .i64 (Int.ofNat i))] false)]))))) else (.done none)))) else (.need (EntClosed []) (.done (some (((.exit 0), [.v (.slice none 0 0)], [])))))) := by kernel_rfl
set_option maxRecDepth 100000 in
theorem r74n (l : List (ByteArray × ByteArray)) (es : List AV) (x : ByteArray × Bool) (b : Bool) (i : Nat) : roundD (CS T6) 60 0 74 0 29 29 false (loopOf (CS T6) 74 0) [0, 1, 5, 6] [] [0, 1, 5, 6] [] [5] [] [.rsl 2 es false, slA sgC 2 l, nilS, intA (Int.ofNat i)] [] [.br [.chk [stA x], .sp [stA x, slA sgC 2 l] (boolA b), .br [.chk [stA x]] []] []] =
    (bif decide (Int.ofNat i < Int.ofNat es.length) then (.need (es[i]? = (some (AV.agg [.v (.string x.fst), .v (.bool x.snd)]))) (.need (([.agg [.v (.string x.fst), .v (.bool x.snd)], .rsl 2 (List.map sgC.enc l) false] : List AV) = ([.agg [.v (.string x.fst), .v (.bool x.snd)], .rsl 2 (List.map sgC.enc l) false] : List AV) ∧ (Cx.spec (CS T6) 159 ([.agg [.v (.string x.fst), .v (.bool x.snd)], .rsl 2 (List.map sgC.enc l) false] : List AV)) = (some (AV.v (.bool b)))) (bif !b then (.need (es[i]? = (some (AV.agg [.v (.string x.fst), .v (.bool x.snd)]))) (.need (EntClosed []) (.done (some ((.nrm, [.rsl 2 es false, .rsl 2 (List.map sgC.enc l) false, .bad, .v (.int .i64 (IntKind.i64.wrap (Int.ofNat i + 1)))], [])))))) else (.need (EntClosed []) (.done (some ((.nrm, [.rsl 2 es false, .rsl 2 (List.map sgC.enc l) false, .v (.slice none 0 0), .v (.int .i64 (IntKind.i64.wrap (Int.ofNat i + 1)))], [])))))))) else (.need (EntClosed []) (.done (some (((.exit 0), [.v (.slice none 0 0)], [])))))) := by kernel_rfl
set_option maxRecDepth 100000 in
theorem r74b (l : List (ByteArray × ByteArray)) (es rs : List AV) (x : ByteArray × Bool) (b : Bool) (i k : Nat) : roundD (CS T6) 60 0 74 0 29 29 false (loopOf (CS T6) 74 0) [0, 1, 5, 6] [27] [0, 1, 5, 6] [27] [5] [27] [.rsl 2 es false, slA sgC 2 l, .sl 27 0 1 0 k, intA (Int.ofNat i)] [(false, .arr 1 rs false)] [.br [.chk [stA x], .sp [stA x, slA sgC 2 l] (boolA b), .br [.chk [stA x], .chk rs] []] []] =
    (bif decide (Int.ofNat i < Int.ofNat es.length) then (.need (es[i]? = (some (AV.agg [.v (.string x.fst), .v (.bool x.snd)]))) (.need (([.agg [.v (.string x.fst), .v (.bool x.snd)], .rsl 2 (List.map sgC.enc l) false] : List AV) = ([.agg [.v (.string x.fst), .v (.bool x.snd)], .rsl 2 (List.map sgC.enc l) false] : List AV) ∧ (Cx.spec (CS T6) 159 ([.agg [.v (.string x.fst), .v (.bool x.snd)], .rsl 2 (List.map sgC.enc l) false] : List AV)) = (some (AV.v (.bool b)))) (bif !b then (.need (es[i]? = (some (AV.agg [.v (.string x.fst), .v (.bool x.snd)]))) (.need (k = rs.length ∧ true = true ∧ 1 = 1 ∧ (rs ++ ([.v (.string x.fst)] : List AV)).length * 16 ≤ 35184372088832 ∧ (rs ++ ([.v (.string x.fst)] : List AV)).length ≤ 35184372088832 ∧ 16 ≠ 0) (.need (EntClosed [(false, .arr 1 (rs ++ ([.v (.string x.fst)] : List AV)) false)]) (.done (some ((.nrm, [.rsl 2 es false, .rsl 2 (List.map sgC.enc l) false, .sl 27 0 1 0 ((rs ++ ([.v (.string x.fst)] : List AV)).length), .v (.int .i64 (IntKind.i64.wrap (Int.ofNat i + 1)))], [(false, .arr 1 (rs ++ ([.v (.string x.fst)] : List AV)) false)]))))))) else (.need (EntClosed [(false, .arr 1 rs false)]) (.done (some ((.nrm, [.rsl 2 es false, .rsl 2 (List.map sgC.enc l) false, .sl 27 0 1 0 k, .v (.int .i64 (IntKind.i64.wrap (Int.ofNat i + 1)))], [(false, .arr 1 rs false)])))))))) else (.need (EntClosed [(false, .arr 1 rs false)]) (.done (some (((.exit 0), [.sl 27 0 1 0 k], [(false, .arr 1 rs false)])))))) := by kernel_rfl
set_option maxRecDepth 100000 in
theorem t74 (l : List (ByteArray × ByteArray)) (es rs : List AV) : evTreeD (CS T6) 60 74 [.rsl 2 es false, slA sgC 2 l] [.loop 0 [0, 1, 5, 6] [] [5] [] (.exit 0) [.rsl 1 rs false] []] =
    (.need (EntClosed [] ∧ EntClosed [] ∧ Says (CS T6) 0 29 false (.loop (loopOf (CS T6) 74 0)) (mkSt [0, 1, 5, 6] [] 29 [.rsl 2 es false, .rsl 2 (List.map sgC.enc l) false, .v (.slice none 0 0), .v (.int .i64 0)] []) (.exit 0) (mkSt [5] [] 29 [.rsl 1 rs false] [])) (.done (some (.rsl 1 rs false)))) := by kernel_rfl
set_option maxRecDepth 100000 in
theorem r67n (es fs : List AV) (x : I6) (p : V3) (i n : Nat) : roundD (CS T6) 60 0 67 0 63 63 false (loopOf (CS T6) 67 0) [0, 9, 43, 44, 45] [] [0, 9, 43, 44, 45] [] [9] [] [.rsl 6 es false, nilS, .rsl 3 fs false, intA (Int.ofNat n), intA (Int.ofNat i)] [] [.br [.chk [vA p], .chk [bxA x], .br [] []] []] =
    (bif decide (Int.ofNat i < Int.ofNat n) then (.need (fs[i]? = (some (AV.agg [.v (.int .i64 p.fst), .v (.int .i64 p.snd.fst), .v (.int .i64 p.snd.snd)]))) (.need (es[i]? = (some (AV.agg [.v (.int .i64 x.fst), .v (.int .i64 x.snd.fst), .v (.int .i64 x.snd.snd.fst), .v (.int .i64 x.snd.snd.snd.fst), .v (.int .i64 x.snd.snd.snd.snd.fst), .v (.int .i64 x.snd.snd.snd.snd.snd)]))) (bif !hasM x p then (.need (EntClosed []) (.done (some ((.nrm, [.rsl 6 es false, .bad, .rsl 3 fs false, .v (.int .i64 (Int.ofNat n)), .v (.int .i64 (IntKind.i64.wrap (Int.ofNat i + 1)))], []))))) else (.need (EntClosed []) (.done (some ((.nrm, [.rsl 6 es false, .v (.slice none 0 0), .rsl 3 fs false, .v (.int .i64 (Int.ofNat n)), .v (.int .i64 (IntKind.i64.wrap (Int.ofNat i + 1)))], [])))))))) else (.need (EntClosed []) (.done (some (((.exit 0), [.v (.slice none 0 0)], [])))))) := by kernel_rfl
set_option maxRecDepth 100000 in
theorem r67b (es fs rs : List AV) (x : I6) (p : V3) (i n k : Nat) : roundD (CS T6) 60 0 67 0 63 63 false (loopOf (CS T6) 67 0) [0, 9, 43, 44, 45] [60] [0, 9, 43, 44, 45] [60] [9] [60] [.rsl 6 es false, .sl 60 0 1 0 k, .rsl 3 fs false, intA (Int.ofNat n), intA (Int.ofNat i)] [(false, .arr 1 rs false)] [.br [.chk [vA p], .chk [bxA x], .br [.chk rs] []] []] =
    (bif decide (Int.ofNat i < Int.ofNat n) then (.need (fs[i]? = (some (AV.agg [.v (.int .i64 p.fst), .v (.int .i64 p.snd.fst), .v (.int .i64 p.snd.snd)]))) (.need (es[i]? = (some (AV.agg [.v (.int .i64 x.fst), .v (.int .i64 x.snd.fst), .v (.int .i64 x.snd.snd.fst), .v (.int .i64 x.snd.snd.snd.fst), .v (.int .i64 x.snd.snd.snd.snd.fst), .v (.int .i64 x.snd.snd.snd.snd.snd)]))) (bif !hasM x p then (.need (k = rs.length ∧ true = true ∧ 1 = 1 ∧ (rs ++ ([.v (.int .i64 (Int.ofNat i))] : List AV)).length * 8 ≤ 35184372088832 ∧ (rs ++ ([.v (.int .i64 (Int.ofNat i))] : List AV)).length ≤ 35184372088832 ∧ 8 ≠ 0) (.need (EntClosed [(false, .arr 1 (rs ++ ([.v (.int .i64 (Int.ofNat i))] : List AV)) false)]) (.done (some ((.nrm, [.rsl 6 es false, .sl 60 0 1 0 ((rs ++ ([.v (.int .i64 (Int.ofNat i))] : List AV)).length), .rsl 3 fs false, .v (.int .i64 (Int.ofNat n)), .v (.int .i64 (IntKind.i64.wrap (Int.ofNat i + 1)))], [(false, .arr 1 (rs ++ ([.v (.int .i64 (Int.ofNat i))] : List AV)) false)])))))) else (.need (EntClosed [(false, .arr 1 rs false)]) (.done (some ((.nrm, [.rsl 6 es false, .sl 60 0 1 0 k, .rsl 3 fs false, .v (.int .i64 (Int.ofNat n)), .v (.int .i64 (IntKind.i64.wrap (Int.ofNat i + 1)))], [(false, .arr 1 rs false)])))))))) else (.need (EntClosed [(false, .arr 1 rs false)]) (.done (some (((.exit 0), [.sl 60 0 1 0 k], [(false, .arr 1 rs false)])))))) := by kernel_rfl
set_option maxRecDepth 100000 in
theorem t67 (l : List I6) (m : List V3) (e1 e2 : List Int) (a b : Int) (rs : List AV) : evTreeD (CS T6) 60 67 [slA bxC 6 l, slA vecC 3 m] [.br [] [.sp [slA bxC 6 l, fnV 150] (slA intC 1 e1), .sp [slA intC 1 e1] (intA a), .sp [boolA (Int.ofNat (m.map vecC.enc).length != Int.ofNat (l.map bxC.enc).length), intA 2] (intA (whenM (Int.ofNat (m.map vecC.enc).length != Int.ofNat (l.map bxC.enc).length) 2)), .sp [slA vecC 3 m, fnV 148] (slA intC 1 e2), .sp [slA intC 1 e2] (intA b), .br [] [.loop 0 [0, 9, 43, 44, 45] [] [9] [] (.exit 0) [.rsl 1 rs false] []]]] =
    (bif firstM [whenM (Int.ofNat (List.map bxC.enc l).length == 0) 12, whenM (decide (Int.ofNat (List.map bxC.enc l).length > 16)) 5] != 0 then (.done (some (.tup [.v (.slice none 0 0), .v (.int .i64 (firstM [whenM (Int.ofNat (List.map bxC.enc l).length == 0) 12, whenM (decide (Int.ofNat (List.map bxC.enc l).length > 16)) 5]))]))) else (.need (([.rsl 6 (List.map bxC.enc l) false, .fn (Fn.func 150) [] []] : List AV) = ([.rsl 6 (List.map bxC.enc l) false, .fn (Fn.func 150) [] []] : List AV) ∧ (Cx.spec (CS T6) 149 ([.rsl 6 (List.map bxC.enc l) false, .fn (Fn.func 150) [] []] : List AV)) = (some (AV.rsl 1 (List.map intC.enc e1) false))) (.need (([.rsl 1 (List.map intC.enc e1) false] : List AV) = ([.rsl 1 (List.map intC.enc e1) false] : List AV) ∧ (Cx.spec (CS T6) 108 ([.rsl 1 (List.map intC.enc e1) false] : List AV)) = (some (AV.v (.int .i64 a)))) (.need (([.v (.bool (Int.ofNat (List.map vecC.enc m).length != Int.ofNat (List.map bxC.enc l).length)), .v (.int .i64 2)] : List AV) = ([.v (.bool (Int.ofNat (List.map vecC.enc m).length != Int.ofNat (List.map bxC.enc l).length)), .v (.int .i64 2)] : List AV) ∧ (Cx.spec (CS T6) 109 ([.v (.bool (Int.ofNat (List.map vecC.enc m).length != Int.ofNat (List.map bxC.enc l).length)), .v (.int .i64 2)] : List AV)) = (some (AV.v (.int .i64 (whenM (Int.ofNat (List.map vecC.enc m).length != Int.ofNat (List.map bxC.enc l).length) 2))))) (.need (([.rsl 3 (List.map vecC.enc m) false, .fn (Fn.func 148) [] []] : List AV) = ([.rsl 3 (List.map vecC.enc m) false, .fn (Fn.func 148) [] []] : List AV) ∧ (Cx.spec (CS T6) 151 ([.rsl 3 (List.map vecC.enc m) false, .fn (Fn.func 148) [] []] : List AV)) = (some (AV.rsl 1 (List.map intC.enc e2) false))) (.need (([.rsl 1 (List.map intC.enc e2) false] : List AV) = ([.rsl 1 (List.map intC.enc e2) false] : List AV) ∧ (Cx.spec (CS T6) 108 ([.rsl 1 (List.map intC.enc e2) false] : List AV)) = (some (AV.v (.int .i64 b)))) (bif firstM [a, whenM (Int.ofNat (List.map vecC.enc m).length != Int.ofNat (List.map bxC.enc l).length) 2, b] != 0 then (.done (some (.tup [.v (.slice none 0 0), .v (.int .i64 (firstM [a, whenM (Int.ofNat (List.map vecC.enc m).length != Int.ofNat (List.map bxC.enc l).length) 2, b]))]))) else (.need (EntClosed [] ∧ EntClosed [] ∧ Says (CS T6) 0 63 false (.loop (loopOf (CS T6) 67 0)) (mkSt [0, 9, 43, 44, 45] [] 63 [.rsl 6 (List.map bxC.enc l) false, .v (.slice none 0 0), .rsl 3 (List.map vecC.enc m) false, .v (.int .i64 (Int.ofNat (List.map vecC.enc m).length)), .v (.int .i64 0)] []) (.exit 0) (mkSt [9] [] 63 [.rsl 1 rs false] [])) (.done (some (.tup [.rsl 1 rs false, .v (.int .i64 0)]))))))))))) := by kernel_rfl
/-! ### CheckSteps, of the reference -/
def srchE {α : Type} (F : Nat → α → Int) (l : List α) : Int := (srch (fun i x => bif F i x != 0 then some (F i x) else none) 0 l).getD 0
def stepErr (l : List (ByteArray × Bool)) (i : Nat) (x : ByteArray × Bool) : Int := firstM [nameErr x.1, whenM (decide (findM (l.take i) x.1 ≥ 0)) 9]
def stepsM (l : List (ByteArray × Bool)) : Int := bif manyM l.length 32 != 0 then manyM l.length 32 else srchE (stepErr l) l
def stepsG : List AV → Option AV := sp1 (listC stC 2) fun l => bif Nat.ble l.length lim then some (intA (stepsM l)) else none
theorem spec158 {l : List (ByteArray × Bool)} {s : ByteArray} (hl : Nat.blt l.length two63 = true) : findG [slA stC 2 l, strA s] = some (intA (findM l s)) := by
  have h := sp2_at (A := listC stC 2) (B := strC) (F := fun l s => bif Nat.blt l.length two63 then some (intA (findM l s)) else none) l s
  rw [hl] at h
  exact h
theorem take_map {α β : Type} (f : α → β) (l : List α) (i : Nat) : List.take (i - 0) (List.drop 0 (l.map f)) = (l.take i).map f := by
  rw [List.drop_zero, Nat.sub_zero, List.map_take]
theorem h70 : Holds 70 stepsG := holds1 fun l r hr => by
  cases hb : Nat.ble l.length lim with
  | false => simp [hb] at hr
  | true =>
    simp only [hb, cond_true, Option.some.injEq] at hr; subst hr
    have hl := limTwo (Nat.le_of_ble_eq_true hb)
    have e := e_len stA l
    have h := LoopRun.find (C := CS T6) (p := 0) (nt := 47) (rd := false) (c := loopOf (CS T6) 70 0) (fun i (x : ByteArray × Bool) => bif stepErr l i x != 0 then some (stepErr l i x) else none) (fun i => mkSt [0, 4] [] 47 [.rsl 2 (l.map stA) false, intA (Int.ofNat i)] [])
      (fun t => mkSt [2] [] 47 [intA t] []) (mkSt [2] [] 47 [.bad] []) (.exit 0) (fun _ => .ret) l (by simp) (by simp)
      (fun i x hx => by
        have hi := lt_len hx
        have g := get_map stA hx
        have q1 : (0 ≤ i ∧ i ≤ (l.map stA).length) := ⟨Nat.zero_le _, by rw [List.length_map]; omega⟩
        have q2 : ([.rsl 2 (List.take (i - 0) (List.drop 0 (l.map stA))) false, .v (.string x.1)] : List AV) = [.rsl 2 (List.map stC.enc (l.take i)) false, .v (.string x.1)] := by rw [take_map]; rfl
        have q3 : Cx.spec (CS T6) 158 ([.rsl 2 (List.take (i - 0) (List.drop 0 (l.map stA))) false, .v (.string x.1)] : List AV) = some (AV.v (.int .i64 (findM (l.take i) x.1))) := by
          rw [q2]
          exact spec158 (s := x.1) (Nat.ble_eq_true_of_le (by rw [List.length_take]; have := hl; unfold two63 at *; omega))
        cases h : stepErr l i x != 0 with
        | true =>
          refine T6_ok.rndR (r70 (l.map stA) (l.take i) x i (findM (l.take i) x.1)) ?_
          rw [e, lt_of hi, show (firstM [nameErr x.1, whenM (decide (findM (l.take i) x.1 ≥ 0)) 9] != 0) = true from h]
          exact ⟨g, q1, g, ⟨q2, q3⟩, trivial, rfl⟩
        | false =>
          refine T6_ok.rndN (r70 (l.map stA) (l.take i) x i (findM (l.take i) x.1)) ?_
          rw [e, lt_of hi, wrap_ix hi hl, show (firstM [nameErr x.1, whenM (decide (findM (l.take i) x.1 ≥ 0)) 9] != 0) = false from h]
          exact ⟨g, q1, g, ⟨q2, q3⟩, trivial, rfl⟩)
      (T6_ok.rndX (r70 (l.map stA) l (⟨#[]⟩, false) l.length 0) (by rw [e, lt_self]; exact ⟨trivial, rfl⟩))
    unfold stepsM srchE
    cases hm : manyM l.length 32 != 0 with
    | true => exact T6_ok.tr (t70e (l.map stA)) (by rw [e]; change (bif manyM l.length 32 != 0 then _ else _ : Dt _).ok _; rw [hm]; rfl)
    | false =>
      cases hq : srch (fun i (x : ByteArray × Bool) => bif stepErr l i x != 0 then some (stepErr l i x) else none) 0 l with
      | some t => rw [hq] at h; exact T6_ok.tr (t70r (l.map stA) t) (by rw [e]; change (bif manyM l.length 32 != 0 then _ else _ : Dt _).ok _; rw [hm]; exact ⟨⟨trivial, trivial, h.says⟩, rfl⟩)
      | none => rw [hq] at h; exact T6_ok.tr (t70e (l.map stA)) (by rw [e]; change (bif manyM l.length 32 != 0 then _ else _ : Dt _).ok _; rw [hm]; exact ⟨⟨trivial, trivial, h.says⟩, rfl⟩)

/-! ### Open, of the reference -/
def openM (l : List (ByteArray × Bool)) (m : List (ByteArray × ByteArray)) : List ByteArray := (l.filter fun x => !doneM x m).map fun x => x.1
def openG : List AV → Option AV := sp2 (listC stC 2) (listC sgC 2) fun l m => bif Nat.ble l.length lim && Nat.ble m.length lim then some (slA strC 1 (openM l m)) else none
theorem spec159 {m : List (ByteArray × ByteArray)} {x : ByteArray × Bool} (hm : Nat.ble m.length lim = true) : doneG [stA x, slA sgC 2 m] = some (boolA (doneM x m)) := by
  have h := sp2_at (A := stC) (B := listC sgC 2) (F := fun x l => bif Nat.ble l.length lim then some (boolA (doneM x l)) else none) x m
  rw [hm] at h
  exact h
theorem h74 : Holds 74 openG := holds2 fun l m r hr => by
  cases hb : Nat.ble l.length lim && Nat.ble m.length lim with
  | false => simp [hb] at hr
  | true =>
    simp only [hb, cond_true, Option.some.injEq] at hr; subst hr
    rw [Bool.and_eq_true] at hb
    have hl0 : l.length ≤ lim := Nat.le_of_ble_eq_true hb.1
    have hl := limTwo hl0
    have e := e_len stA l
    have h := LoopRun.gather (C := CS T6) (p := 0) (nt := 29) (rd := false) (c := loopOf (CS T6) 74 0) (fun _ (x : ByteArray × Bool) => bif !doneM x m then [x.1] else []) 1 (fun _ x => by cases doneM x m <;> simp)
      (fun i (acc : List ByteArray) => blSt 27 1 [0, 1, 5, 6] 29 (fun a => [.rsl 2 (l.map stA) false, slA sgC 2 m, a, intA (Int.ofNat i)]) (acc.map strA)) (.exit 0) (fun acc => mkSt [5] [] 29 [.rsl 1 (acc.map strA) false] []) l (by simp)
      (fun i x acc hx hacc => by
        have hi := lt_len hx
        have g := get_map stA hx
        have q : ([.agg [.v (.string x.1), .v (.bool x.2)], .rsl 2 (List.map sgC.enc m) false] : List AV) = [.agg [.v (.string x.1), .v (.bool x.2)], .rsl 2 (List.map sgC.enc m) false] ∧ Cx.spec (CS T6) 159 ([.agg [.v (.string x.1), .v (.bool x.2)], .rsl 2 (List.map sgC.enc m) false] : List AV) = some (AV.v (.bool (doneM x m))) := ⟨rfl, spec159 (x := x) hb.2⟩
        have hlen : ((acc ++ [x.1]).map strA).length ≤ 35184372088832 / 1024 := by simp; unfold lim at hl0; omega
        cases h : !doneM x m with
        | true =>
          cases acc with
          | nil => exact T6_ok.rndN (r74a m (l.map stA) x (doneM x m) i) (by rw [e, lt_of hi, wrap_ix hi hl, h]; exact ⟨g, q, g, ⟨closedStr [x.1], trivial⟩, rfl⟩)
          | cons y ys =>
            show Says _ _ _ _ _ _ _ (blSt _ _ _ _ _ (((y :: ys) ++ [x.1]).map strA))
            rw [show ((y :: ys) ++ [x.1]).map strA = (y :: ys).map strA ++ [strA x.1] by simp] at hlen ⊢
            exact T6_ok.rndN (r74b m (l.map stA) ((y :: ys).map strA) x (doneM x m) i ((y :: ys).map strA).length) (by
              rw [e, lt_of hi, wrap_ix hi hl, h]
              exact ⟨g, q, g, ⟨rfl, rfl, rfl, lenOk hlen (by omega), lenOk1 hlen, by omega⟩, ⟨(closedStr (y :: ys)).append (closedStr [x.1]), trivial⟩, rfl⟩)
        | false =>
          rw [cond_false, List.append_nil]
          cases acc with
          | nil => exact T6_ok.rndN (r74n m (l.map stA) x (doneM x m) i) (by rw [e, lt_of hi, wrap_ix hi hl, h]; exact ⟨g, q, trivial, rfl⟩)
          | cons y ys => exact T6_ok.rndN (r74b m (l.map stA) ((y :: ys).map strA) x (doneM x m) i ((y :: ys).map strA).length) (by
              rw [e, lt_of hi, wrap_ix hi hl, h]
              exact ⟨g, q, ⟨closedStr (y :: ys), trivial⟩, rfl⟩))
      (fun acc _ => by
        refine Says.blEnd (key := 27) ?_ (closedStr acc)
        cases acc with
        | nil => exact T6_ok.rndX (r74n m (l.map stA) (⟨#[]⟩, false) false l.length) (by rw [e, lt_self]; exact ⟨trivial, rfl⟩)
        | cons y ys => exact T6_ok.rndX (r74b m (l.map stA) ((y :: ys).map strA) (⟨#[]⟩, false) false l.length ((y :: ys).map strA).length) (by rw [e, lt_self]; exact ⟨⟨closedStr (y :: ys), trivial⟩, rfl⟩))
    rw [gath_filter (fun x => !doneM x m)] at h
    exact T6_ok.tr (t74 m (l.map stA) ((openM l m).map strA)) ⟨⟨trivial, trivial, h.says⟩, rfl⟩

/-! ### Out, of the program -/
def outErr (l : List I6) (m : List V3) : Int :=
  bif manyM l.length 16 != 0 then manyM l.length 16 else firstM [firstM (l.map bxM), whenM (Int.ofNat m.length != Int.ofNat l.length) 2, firstM (m.map fun v => vecM v 10000)]
def outR (l : List I6) (m : List V3) : AV := bif outErr l m != 0 then .tup [slA intC 1 [], intA (outErr l m)] else .tup [slA intC 1 (outM l m), intA 0]
def out67G : List AV → Option AV := sp2 (listC bxC 6) (listC vecC 3) fun l m => bif Nat.ble l.length lim && Nat.ble m.length lim then some (outR l m) else none
theorem spec149 {l : List I6} (hl : Nat.ble l.length lim = true) : box149G [slA bxC 6 l, fnV 150] = some (slA intC 1 (l.map bxM)) := by
  have h := sp2_at (A := listC bxC 6) (B := fnC 150) (F := fun l _ => bif Nat.ble l.length lim then some (slA intC 1 (l.map bxM)) else none) l ()
  rw [hl] at h
  exact h
theorem spec151 {l : List V3} (hl : Nat.ble l.length lim = true) : vec151G [slA vecC 3 l, fnV 148] = some (slA intC 1 (l.map fun v => vecM v 10000)) := by
  have h := sp2_at (A := listC vecC 3) (B := fnC 148) (F := fun l _ => bif Nat.ble l.length lim then some (slA intC 1 (l.map fun v => vecM v 10000)) else none) l ()
  rw [hl] at h
  exact h
theorem spec108 {l : List Int} (hl : Nat.ble l.length lim = true) : firstG [slA intC 1 l] = some (intA (firstM l)) := by
  have h := sp1_at (A := listC intC 1) (F := firstF) l
  have h2 : Nat.blt l.length two63 = true := Nat.ble_eq_true_of_le (limTwo (Nat.le_of_ble_eq_true hl))
  unfold firstF at h
  rw [h2] at h
  exact h
theorem firstZ (x : Int) (r : List Int) : firstM (x :: r) = 0 ↔ x = 0 ∧ firstM r = 0 := by
  by_cases hx : x = 0
  · subst hx
    show firstM r = 0 ↔ _
    simp
  · have : (x != 0) = true := by simp [hx]
    unfold firstM
    rw [this]
    simp [hx]
theorem Weak.tupNil {sz : Nat} {a : AV} : Weak (.tup [.v (.slice none 0 0), a]) (.tup [.rsl sz [] false, a]) := Weak.tup (WeakL.cons Weak.nilSl WeakL.rfl)
theorem Ok.trW {S : Specs} (h : Ok S) {f : FuncId} {d : Nat} {hs : List Hn} {l : List AV} {r r' : AV} {t : Dt AV} (e : evTreeD (CS S) d f l hs = t) (ht : t.ok r') (hw : Weak r' r) : Cmp f l r := (h.tr e ht).weak WeakL.rfl hw
theorem h67 : Holds 67 out67G := holds2 fun l m r hr => by
  cases hb : Nat.ble l.length lim && Nat.ble m.length lim with
  | false => simp [hb] at hr
  | true =>
    simp only [hb, cond_true, Option.some.injEq] at hr; subst hr
    rw [Bool.and_eq_true] at hb
    have hm0 : m.length ≤ lim := Nat.le_of_ble_eq_true hb.2
    have hm := limTwo hm0
    have t := t67 l m (l.map bxM) (m.map fun v => vecM v 10000) (firstM (l.map bxM)) (firstM (m.map fun v => vecM v 10000)) ((outM l m).map intA)
    rw [show Int.ofNat (List.map bxC.enc l).length = Int.ofNat l.length from e_len _ l, show Int.ofNat (List.map vecC.enc m).length = Int.ofNat m.length from e_len _ m] at t
    unfold outR outErr
    cases hq : manyM l.length 16 != 0 with
    | true =>
      rw [cond_true, hq, cond_true]
      refine T6_ok.trW t (r' := .tup [nilS, intA (manyM l.length 16)]) ?_ Weak.tupNil
      change (bif manyM l.length 16 != 0 then _ else _ : Dt _).ok _
      rw [hq]; rfl
    | false =>
      rw [cond_false]
      have n1 : Cx.spec (CS T6) 149 ([.rsl 6 (List.map bxC.enc l) false, .fn (Fn.func 150) [] []] : List AV) = some (AV.rsl 1 (List.map intC.enc (l.map bxM)) false) := spec149 hb.1
      have n2 : Cx.spec (CS T6) 108 ([.rsl 1 (List.map intC.enc (l.map bxM)) false] : List AV) = some (AV.v (.int .i64 (firstM (l.map bxM)))) := spec108 (by rw [List.length_map]; exact hb.1)
      have n3 : Cx.spec (CS T6) 109 ([.v (.bool (Int.ofNat m.length != Int.ofNat l.length)), .v (.int .i64 2)] : List AV) = some (AV.v (.int .i64 (whenM (Int.ofNat m.length != Int.ofNat l.length) 2))) := rfl
      have n4 : Cx.spec (CS T6) 151 ([.rsl 3 (List.map vecC.enc m) false, .fn (Fn.func 148) [] []] : List AV) = some (AV.rsl 1 (List.map intC.enc (m.map fun v => vecM v 10000)) false) := spec151 hb.2
      have n5 : Cx.spec (CS T6) 108 ([.rsl 1 (List.map intC.enc (m.map fun v => vecM v 10000)) false] : List AV) = some (AV.v (.int .i64 (firstM (m.map fun v => vecM v 10000)))) := spec108 (by rw [List.length_map]; exact hb.2)
      cases hf : firstM [firstM (l.map bxM), whenM (Int.ofNat m.length != Int.ofNat l.length) 2, firstM (m.map fun v => vecM v 10000)] != 0 with
      | true =>
        refine T6_ok.trW t (r' := .tup [nilS, intA (firstM [firstM (l.map bxM), whenM (Int.ofNat m.length != Int.ofNat l.length) 2, firstM (m.map fun v => vecM v 10000)])]) ?_ Weak.tupNil
        change (bif manyM l.length 16 != 0 then _ else _ : Dt _).ok _
        rw [hq]
        refine ⟨⟨rfl, n1⟩, ⟨rfl, n2⟩, ⟨rfl, n3⟩, ⟨rfl, n4⟩, ⟨rfl, n5⟩, ?_⟩
        rw [hf]; rfl
      | false =>
        have hlm : l.length = m.length := by
          have h0 : firstM [firstM (l.map bxM), whenM (Int.ofNat m.length != Int.ofNat l.length) 2, firstM (m.map fun v => vecM v 10000)] = 0 := by simpa using hf
          rw [firstZ, firstZ] at h0
          have h1 := h0.2.1
          unfold whenM at h1
          cases hne : Int.ofNat m.length != Int.ofNat l.length with
          | true => rw [hne] at h1; exact absurd h1 (by decide)
          | false =>
            have : Int.ofNat m.length = Int.ofNat l.length := by simpa using hne
            exact (Int.ofNat.inj this).symm
        have hz : (l.zip m).length = m.length := by rw [List.length_zip]; omega
        have h := LoopRun.gather (C := CS T6) (p := 0) (nt := 63) (rd := false) (c := loopOf (CS T6) 67 0) outG1 1 (fun _ x => by unfold outG1; cases hasM x.1 x.2 <;> simp)
          (fun i (acc : List Int) => blSt 60 1 [0, 9, 43, 44, 45] 63 (fun a => [.rsl 6 (l.map bxA) false, a, .rsl 3 (m.map vA) false, intA (Int.ofNat m.length), intA (Int.ofNat i)]) (acc.map intA)) (.exit 0) (fun acc => mkSt [9] [] 63 [.rsl 1 (acc.map intA) false] []) (l.zip m) (by simp)
          (fun i x acc hx hacc => by
            have hi := lt_len hx
            rw [hz] at hi
            obtain ⟨hx1, hx2⟩ := lt2 hx
            have g1 := get_map bxA hx1
            have g2 := get_map vA hx2
            have hlen : ((acc ++ [Int.ofNat i]).map intA).length ≤ 35184372088832 / 1024 := by simp; unfold lim at hm0; omega
            unfold outG1
            cases h : hasM x.1 x.2 with
            | false =>
              cases acc with
              | nil => exact T6_ok.rndN (r67a (l.map bxA) (m.map vA) x.1 x.2 i m.length) (by rw [lt_of hi, wrap_ix hi hm, h]; exact ⟨g2, g1, ⟨closedInt [Int.ofNat i], trivial⟩, rfl⟩)
              | cons y ys =>
                show Says _ _ _ _ _ _ _ (blSt _ _ _ _ _ (((y :: ys) ++ [Int.ofNat i]).map intA))
                rw [show ((y :: ys) ++ [Int.ofNat i]).map intA = (y :: ys).map intA ++ [intA (Int.ofNat i)] by simp] at hlen ⊢
                exact T6_ok.rndN (r67b (l.map bxA) (m.map vA) ((y :: ys).map intA) x.1 x.2 i m.length ((y :: ys).map intA).length) (by
                  rw [lt_of hi, wrap_ix hi hm, h]
                  exact ⟨g2, g1, ⟨rfl, rfl, rfl, lenOk hlen (by omega), lenOk1 hlen, by omega⟩, ⟨(closedInt (y :: ys)).append (closedInt [Int.ofNat i]), trivial⟩, rfl⟩)
            | true =>
              rw [cond_true, List.append_nil]
              cases acc with
              | nil => exact T6_ok.rndN (r67n (l.map bxA) (m.map vA) x.1 x.2 i m.length) (by rw [lt_of hi, wrap_ix hi hm, h]; exact ⟨g2, g1, trivial, rfl⟩)
              | cons y ys => exact T6_ok.rndN (r67b (l.map bxA) (m.map vA) ((y :: ys).map intA) x.1 x.2 i m.length ((y :: ys).map intA).length) (by
                  rw [lt_of hi, wrap_ix hi hm, h]
                  exact ⟨g2, g1, ⟨closedInt (y :: ys), trivial⟩, rfl⟩))
          (fun acc _ => by
            refine Says.blEnd (key := 60) ?_ (closedInt acc)
            rw [hz]
            cases acc with
            | nil => exact T6_ok.rndX (r67n (l.map bxA) (m.map vA) (0, 0, 0, 0, 0, 0) (0, 0, 0) m.length m.length) (by rw [lt_self]; exact ⟨trivial, rfl⟩)
            | cons y ys => exact T6_ok.rndX (r67b (l.map bxA) (m.map vA) ((y :: ys).map intA) (0, 0, 0, 0, 0, 0) (0, 0, 0) m.length m.length ((y :: ys).map intA).length) (by rw [lt_self]; exact ⟨⟨closedInt (y :: ys), trivial⟩, rfl⟩))
        refine T6_ok.tr t ?_
        change (bif manyM l.length 16 != 0 then _ else _ : Dt _).ok _
        rw [hq]
        refine ⟨⟨rfl, n1⟩, ⟨rfl, n2⟩, ⟨rfl, n3⟩, ⟨rfl, n4⟩, ⟨rfl, n5⟩, ?_⟩
        rw [hf]
        exact ⟨⟨trivial, trivial, h.says⟩, rfl⟩
def T7 : Specs := ((T6.set 70 stepsG).set 74 openG).set 67 out67G
theorem T7_ok : Ok T7 := ((T6_ok.set h70).set h74).set h67
end Go.Vm.S3
