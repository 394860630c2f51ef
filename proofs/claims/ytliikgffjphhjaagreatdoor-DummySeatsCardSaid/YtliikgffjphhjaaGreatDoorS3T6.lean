/- Seats: more of the reference. -/
import Derived.Test.YtliikgffjphhjaaGreatDoorS3T5
namespace Go.Vm.S3
open Go.Proofs Go.RowKit
set_option maxRecDepth 100000 in
theorem t159 (l : List (ByteArray × ByteArray)) (s : ByteArray) (b : Bool) (ps : List AV) : evTreeD (CS T5) 60 159 [stA (s, b), slA sgC 2 l] [.sp [slA sgC 2 l, strA s] (.rsl 1 ps false)] =
    (.need (([.rsl 2 (List.map sgC.enc l) false, .v (.string s)] : List AV) = ([.rsl 2 (List.map sgC.enc l) false, .v (.string s)] : List AV) ∧ (Cx.spec (CS T5) 160 ([.rsl 2 (List.map sgC.enc l) false, .v (.string s)] : List AV)) = (some (AV.rsl 1 ps false))) (bif decide (Int.ofNat ps.length ≥ 2) then (.done (some (.v (.bool true)))) else (bif Int.ofNat ps.length == 1 then (.done (some (.v (.bool !b)))) else (.done (some (.v (.bool false))))))) := by kernel_rfl
set_option maxRecDepth 100000 in
theorem r73a (es fs : List AV) (x : I6) (p : V3) (i : Nat) : roundD (CS T5) 60 0 73 0 87 87 false (loopOf (CS T5) 73 0) [0, 1, 5, 6] [] [0, 1, 5, 6] [85] [5] [] [.rsl 6 es false, .rsl 3 fs false, nilS, intA (Int.ofNat i)] [] [.br [.chk [vA p], .chk [bxA x], .chk [bxA x], .chk [bxA x], .chk [bxA x], .chk [bxA x], .chk [bxA x], .br [] []] []] =
    (bif decide (Int.ofNat i < Int.ofNat es.length) then (.need (fs[i]? = (some (AV.agg [.v (.int .i64 p.fst), .v (.int .i64 p.snd.fst), .v (.int .i64 p.snd.snd)]))) (.need (es[i]? = (some (AV.agg [.v (.int .i64 x.fst), .v (.int .i64 x.snd.fst), .v (.int .i64 x.snd.snd.fst), .v (.int .i64 x.snd.snd.snd.fst), .v (.int .i64 x.snd.snd.snd.snd.fst), .v (.int .i64 x.snd.snd.snd.snd.snd)]))) (bif decide (p.fst < x.fst) then (.need (EntClosed [(false, .arr 1 [.v (.int .i64 (Int.ofNat i))] false)]) (.done (some ((.nrm, [.rsl 6 es false, .rsl 3 fs false, .sl 85 0 1 0 1, .v (.int .i64 (IntKind.i64.wrap (Int.ofNat i + 1)))], [(false, .arr 1 [.v (.int .i64 (Int.ofNat i))] false)]))))) else (.need (es[i]? = (some (AV.agg [.v (.int .i64 x.fst), .v (.int .i64 x.snd.fst), .v (.int .i64 x.snd.snd.fst), .v (.int .i64 x.snd.snd.snd.fst), .v (.int .i64 x.snd.snd.snd.snd.fst), .v (.int .i64 x.snd.snd.snd.snd.snd)]))) (bif decide (p.fst > x.snd.fst) then (.need (EntClosed [(false, .arr 1 [.v (.int .i64 (Int.ofNat i))] false)]) (.done (some ((.nrm, [.rsl 6 es false, .rsl 3 fs false, .sl 85 0 1 0 1, .v (.int .i64 (IntKind.i64.wrap (Int.ofNat i + 1)))], [(false, .arr 1 [.v (.int .i64 (Int.ofNat i))] false)]))))) else (.need (es[i]? = (some (AV.agg [.v (.int .i64 x.fst), .v (.int .i64 x.snd.fst), .v (.int .i64 x.snd.snd.fst), .v (.int .i64 x.snd.snd.snd.fst), .v (.int .i64 x.snd.snd.snd.snd.fst), .v (.int .i64 x.snd.snd.snd.snd.snd)]))) (bif decide (p.snd.fst < x.snd.snd.fst) then (.need (EntClosed [(false, .arr 1 [.v (.int .i64 (Int.ofNat i))] false)]) (.done (some ((.nrm, [.rsl 6 es false, .rsl 3 fs false, .sl 85 0 1 0 1, .v (.int .i64 (IntKind.i64.wrap (Int.ofNat i + 1)))], [(false, .arr 1 [.v (.int .i64 (Int.ofNat i))] false)]))))) else (.need (es[i]? = (some (AV.agg [.v (.int .i64 x.fst), .v (.int .i64 x.snd.fst), .v (.int .i64 x.snd.snd.fst), .v (.int .i64 x.snd.snd.snd.fst), .v (.int .i64 x.snd.snd.snd.snd.fst), .v (.int .i64 x.snd.snd.snd.snd.snd)]))) (bif decide (p.snd.fst > x.snd.snd.snd.fst) then (.need (EntClosed [(false, .arr 1 [.v (.int .i64 (Int.ofNat i))] false)]) (.done (some ((.nrm, [.rsl 6 es false, .rsl 3 fs false, .sl 85 0 1 0 1, .v (.int .i64 (IntKind.i64.wrap (Int.ofNat i + 1)))], [(false, .arr 1 [.v (.int .i64 (Int.ofNat i))] false)]))))) else (.need (es[i]? = (some (AV.agg [.v (.int .i64 x.fst), .v (.int .i64 x.snd.fst), .v (.int .i64 x.snd.snd.fst), .v (.int .i64 x.snd.snd.snd.fst), .v (.int .i64 x.snd.snd.snd.snd.fst), .v (.int .i64 x.snd.snd.snd.snd.snd)]))) (bif decide (p.snd.snd < x.snd.snd.snd.snd.fst) then (.need (EntClosed [(false, .arr 1 [.v (.int .i64 (Int.ofNat i))] false)]) (.done (some ((.nrm, [.rsl 6 es false, .rsl 3 fs false, .sl 85 0 1 0 1, .v (.int .i64 (IntKind.i64.wrap (Int.ofNat i + 1)))], [(false, .arr 1 [.v (.int .i64 (Int.ofNat i))] false)]))))) else (.need (es[i]? = (some (AV.agg [.v (.int .i64 x.fst), .v (.int .i64 x.snd.fst), .v (.int .i64 x.snd.snd.fst), .v (.int .i64 x.snd.snd.snd.fst), .v (.int .i64 x.snd.snd.snd.snd.fst), .v (.int .i64 x.snd.snd.snd.snd.snd)]))) (bif decide (p.snd.snd > x.snd.snd.snd.snd.snd) then (.need (EntClosed [(false, .arr 1 [.v (.int .i64 (Int.ofNat i))] false)]) (.done (some ((.nrm, [.rsl 6 es false, .rsl 3 fs false, .sl 85 0 1 0 1, .v (.int .i64 (IntKind.i64.wrap (Int.ofNat i + 1)))], [(false, .arr 1 [.v (.int .i64 (Int.ofNat i))] false)]))))) else (.done none)))))))))))))) else (.need (EntClosed []) (.done (some (((.exit 0), [.v (.slice none 0 0)], [])))))) := by kernel_rfl
set_option maxRecDepth 100000 in
theorem r73n (es fs : List AV) (x : I6) (p : V3) (i : Nat) : roundD (CS T5) 60 0 73 0 87 87 false (loopOf (CS T5) 73 0) [0, 1, 5, 6] [] [0, 1, 5, 6] [] [5] [] [.rsl 6 es false, .rsl 3 fs false, nilS, intA (Int.ofNat i)] [] [.br [.chk [vA p], .chk [bxA x], .chk [bxA x], .chk [bxA x], .chk [bxA x], .chk [bxA x], .chk [bxA x], .br [] []] []] =
    (bif decide (Int.ofNat i < Int.ofNat es.length) then (.need (fs[i]? = (some (AV.agg [.v (.int .i64 p.fst), .v (.int .i64 p.snd.fst), .v (.int .i64 p.snd.snd)]))) (.need (es[i]? = (some (AV.agg [.v (.int .i64 x.fst), .v (.int .i64 x.snd.fst), .v (.int .i64 x.snd.snd.fst), .v (.int .i64 x.snd.snd.snd.fst), .v (.int .i64 x.snd.snd.snd.snd.fst), .v (.int .i64 x.snd.snd.snd.snd.snd)]))) (bif decide (p.fst < x.fst) then (.need (EntClosed []) (.done (some ((.nrm, [.rsl 6 es false, .rsl 3 fs false, .bad, .v (.int .i64 (IntKind.i64.wrap (Int.ofNat i + 1)))], []))))) else (.need (es[i]? = (some (AV.agg [.v (.int .i64 x.fst), .v (.int .i64 x.snd.fst), .v (.int .i64 x.snd.snd.fst), .v (.int .i64 x.snd.snd.snd.fst), .v (.int .i64 x.snd.snd.snd.snd.fst), .v (.int .i64 x.snd.snd.snd.snd.snd)]))) (bif decide (p.fst > x.snd.fst) then (.need (EntClosed []) (.done (some ((.nrm, [.rsl 6 es false, .rsl 3 fs false, .bad, .v (.int .i64 (IntKind.i64.wrap (Int.ofNat i + 1)))], []))))) else (.need (es[i]? = (some (AV.agg [.v (.int .i64 x.fst), .v (.int .i64 x.snd.fst), .v (.int .i64 x.snd.snd.fst), .v (.int .i64 x.snd.snd.snd.fst), .v (.int .i64 x.snd.snd.snd.snd.fst), .v (.int .i64 x.snd.snd.snd.snd.snd)]))) (bif decide (p.snd.fst < x.snd.snd.fst) then (.need (EntClosed []) (.done (some ((.nrm, [.rsl 6 es false, .rsl 3 fs false, .bad, .v (.int .i64 (IntKind.i64.wrap (Int.ofNat i + 1)))], []))))) else (.need (es[i]? = (some (AV.agg [.v (.int .i64 x.fst), .v (.int .i64 x.snd.fst), .v (.int .i64 x.snd.snd.fst), .v (.int .i64 x.snd.snd.snd.fst), .v (.int .i64 x.snd.snd.snd.snd.fst), .v (.int .i64 x.snd.snd.snd.snd.snd)]))) (bif decide (p.snd.fst > x.snd.snd.snd.fst) then (.need (EntClosed []) (.done (some ((.nrm, [.rsl 6 es false, .rsl 3 fs false, .bad, .v (.int .i64 (IntKind.i64.wrap (Int.ofNat i + 1)))], []))))) else (.need (es[i]? = (some (AV.agg [.v (.int .i64 x.fst), .v (.int .i64 x.snd.fst), .v (.int .i64 x.snd.snd.fst), .v (.int .i64 x.snd.snd.snd.fst), .v (.int .i64 x.snd.snd.snd.snd.fst), .v (.int .i64 x.snd.snd.snd.snd.snd)]))) (bif decide (p.snd.snd < x.snd.snd.snd.snd.fst) then (.need (EntClosed []) (.done (some ((.nrm, [.rsl 6 es false, .rsl 3 fs false, .bad, .v (.int .i64 (IntKind.i64.wrap (Int.ofNat i + 1)))], []))))) else (.need (es[i]? = (some (AV.agg [.v (.int .i64 x.fst), .v (.int .i64 x.snd.fst), .v (.int .i64 x.snd.snd.fst), .v (.int .i64 x.snd.snd.snd.fst), .v (.int .i64 x.snd.snd.snd.snd.fst), .v (.int .i64 x.snd.snd.snd.snd.snd)]))) (bif decide (p.snd.snd > x.snd.snd.snd.snd.snd) then (.need (EntClosed []) (.done (some ((.nrm, [.rsl 6 es false, .rsl 3 fs false, .bad, .v (.int .i64 (IntKind.i64.wrap (Int.ofNat i + 1)))], []))))) else (.need (EntClosed []) (.done (some ((.nrm, [.rsl 6 es false, .rsl 3 fs false, .v (.slice none 0 0), .v (.int .i64 (IntKind.i64.wrap (Int.ofNat i + 1)))], [])))))))))))))))))) else (.need (EntClosed []) (.done (some (((.exit 0), [.v (.slice none 0 0)], [])))))) := by kernel_rfl
set_option maxRecDepth 100000 in
theorem r73b (es fs rs : List AV) (x : I6) (p : V3) (i k : Nat) : roundD (CS T5) 60 0 73 0 87 87 false (loopOf (CS T5) 73 0) [0, 1, 5, 6] [85] [0, 1, 5, 6] [85] [5] [85] [.rsl 6 es false, .rsl 3 fs false, .sl 85 0 1 0 k, intA (Int.ofNat i)] [(false, .arr 1 rs false)] [.br [.chk [vA p], .chk [bxA x], .chk [bxA x], .chk [bxA x], .chk [bxA x], .chk [bxA x], .chk [bxA x], .br [.chk rs] []] []] =
    (bif decide (Int.ofNat i < Int.ofNat es.length) then (.need (fs[i]? = (some (AV.agg [.v (.int .i64 p.fst), .v (.int .i64 p.snd.fst), .v (.int .i64 p.snd.snd)]))) (.need (es[i]? = (some (AV.agg [.v (.int .i64 x.fst), .v (.int .i64 x.snd.fst), .v (.int .i64 x.snd.snd.fst), .v (.int .i64 x.snd.snd.snd.fst), .v (.int .i64 x.snd.snd.snd.snd.fst), .v (.int .i64 x.snd.snd.snd.snd.snd)]))) (bif decide (p.fst < x.fst) then (.need (k = rs.length ∧ true = true ∧ 1 = 1 ∧ (rs ++ ([.v (.int .i64 (Int.ofNat i))] : List AV)).length * 8 ≤ 35184372088832 ∧ (rs ++ ([.v (.int .i64 (Int.ofNat i))] : List AV)).length ≤ 35184372088832 ∧ 8 ≠ 0) (.need (EntClosed [(false, .arr 1 (rs ++ ([.v (.int .i64 (Int.ofNat i))] : List AV)) false)]) (.done (some ((.nrm, [.rsl 6 es false, .rsl 3 fs false, .sl 85 0 1 0 ((rs ++ ([.v (.int .i64 (Int.ofNat i))] : List AV)).length), .v (.int .i64 (IntKind.i64.wrap (Int.ofNat i + 1)))], [(false, .arr 1 (rs ++ ([.v (.int .i64 (Int.ofNat i))] : List AV)) false)])))))) else (.need (es[i]? = (some (AV.agg [.v (.int .i64 x.fst), .v (.int .i64 x.snd.fst), .v (.int .i64 x.snd.snd.fst), .v (.int .i64 x.snd.snd.snd.fst), .v (.int .i64 x.snd.snd.snd.snd.fst), .v (.int .i64 x.snd.snd.snd.snd.snd)]))) (bif decide (p.fst > x.snd.fst) then (.need (k = rs.length ∧ true = true ∧ 1 = 1 ∧ (rs ++ ([.v (.int .i64 (Int.ofNat i))] : List AV)).length * 8 ≤ 35184372088832 ∧ (rs ++ ([.v (.int .i64 (Int.ofNat i))] : List AV)).length ≤ 35184372088832 ∧ 8 ≠ 0) (.need (EntClosed [(false, .arr 1 (rs ++ ([.v (.int .i64 (Int.ofNat i))] : List AV)) false)]) (.done (some ((.nrm, [.rsl 6 es false, .rsl 3 fs false, .sl 85 0 1 0 ((rs ++ ([.v (.int .i64 (Int.ofNat i))] : List AV)).length), .v (.int .i64 (IntKind.i64.wrap (Int.ofNat i + 1)))], [(false, .arr 1 (rs ++ ([.v (.int .i64 (Int.ofNat i))] : List AV)) false)])))))) else (.need (es[i]? = (some (AV.agg [.v (.int .i64 x.fst), .v (.int .i64 x.snd.fst), .v (.int .i64 x.snd.snd.fst), .v (.int .i64 x.snd.snd.snd.fst), .v (.int .i64 x.snd.snd.snd.snd.fst), .v (.int .i64 x.snd.snd.snd.snd.snd)]))) (bif decide (p.snd.fst < x.snd.snd.fst) then (.need (k = rs.length ∧ true = true ∧ 1 = 1 ∧ (rs ++ ([.v (.int .i64 (Int.ofNat i))] : List AV)).length * 8 ≤ 35184372088832 ∧ (rs ++ ([.v (.int .i64 (Int.ofNat i))] : List AV)).length ≤ 35184372088832 ∧ 8 ≠ 0) (.need (EntClosed [(false, .arr 1 (rs ++ ([.v (.int .i64 (Int.ofNat i))] : List AV)) false)]) (.done (some ((.nrm, [.rsl 6 es false, .rsl 3 fs false, .sl 85 0 1 0 ((rs ++ ([.v (.int .i64 (Int.ofNat i))] : List AV)).length), .v (.int .i64 (IntKind.i64.wrap (Int.ofNat i + 1)))], [(false, .arr 1 (rs ++ ([.v (.int .i64 (Int.ofNat i))] : List AV)) false)])))))) else (.need (es[i]? = (some (AV.agg [.v (.int .i64 x.fst), .v (.int .i64 x.snd.fst), .v (.int .i64 x.snd.snd.fst), .v (.int .i64 x.snd.snd.snd.fst), .v (.int .i64 x.snd.snd.snd.snd.fst), .v (.int .i64 x.snd.snd.snd.snd.snd)]))) (bif decide (p.snd.fst > x.snd.snd.snd.fst) then (.need (k = rs.length ∧ true = true ∧ 1 = 1 ∧ (rs ++ ([.v (.int .i64 (Int.ofNat i))] : List AV)).length * 8 ≤ 35184372088832 ∧ (rs ++ ([.v (.int .i64 (Int.ofNat i))] : List AV)).length ≤ 35184372088832 ∧ 8 ≠ 0) (.need (EntClosed [(false, .arr 1 (rs ++ ([.v (.int .i64 (Int.ofNat i))] : List AV)) false)]) (.done (some ((.nrm, [.rsl 6 es false, .rsl 3 fs false, .sl 85 0 1 0 ((rs ++ ([.v (.int .i64 (Int.ofNat i))] : List AV)).length), .v (.int .i64 (IntKind.i64.wrap (Int.ofNat i + 1)))], [(false, .arr 1 (rs ++ ([.v (.int .i64 (Int.ofNat i))] : List AV)) false)])))))) else (.need (es[i]? = (some (AV.agg [.v (.int .i64 x.fst), .v (.int .i64 x.snd.fst), .v (.int .i64 x.snd.snd.fst), .v (.int .i64 x.snd.snd.snd.fst), .v (.int .i64 x.snd.snd.snd.snd.fst), .v (.int .i64 x.snd.snd.snd.snd.snd)]))) (bif decide (p.snd.snd < x.snd.snd.snd.snd.fst) then (.need (k = rs.length ∧ true = true ∧ 1 = 1 ∧ (rs ++ ([.v (.int .i64 (Int.ofNat i))] : List AV)).length * 8 ≤ 35184372088832 ∧ (rs ++ ([.v (.int .i64 (Int.ofNat i))] : List AV)).length ≤ 35184372088832 ∧ 8 ≠ 0) (.need (EntClosed [(false, .arr 1 (rs ++ ([.v (.int .i64 (Int.ofNat i))] : List AV)) false)]) (.done (some ((.nrm, [.rsl 6 es false, .rsl 3 fs false, .sl 85 0 1 0 ((rs ++ ([.v (.int .i64 (Int.ofNat i))] : List AV)).length), .v (.int .i64 (IntKind.i64.wrap (Int.ofNat i + 1)))], [(false, .arr 1 (rs ++ ([.v (.int .i64 (Int.ofNat i))] : List AV)) false)])))))) else (.need (es[i]? = (some (AV.agg [.v (.int .i64 x.fst), .v (.int .i64 x.snd.fst), .v (.int .i64 x.snd.snd.fst), .v (.int .i64 x.snd.snd.snd.fst), .v (.int .i64 x.snd.snd.snd.snd.fst), .v (.int .i64 x.snd.snd.snd.snd.snd)]))) (bif decide (p.snd.snd > x.snd.snd.snd.snd.snd) then (.need (k = rs.length ∧ true = true ∧ 1 = 1 ∧ (rs ++ ([.v (.int .i64 (Int.ofNat i))] : List AV)).length * 8 ≤ 35184372088832 ∧ (rs ++ ([.v (.int .i64 (Int.ofNat i))] : List AV)).length ≤ 35184372088832 ∧ 8 ≠ 0) (.need (EntClosed [(false, .arr 1 (rs ++ ([.v (.int .i64 (Int.ofNat i))] : List AV)) false)]) (.done (some ((.nrm, [.rsl 6 es false, .rsl 3 fs false, .sl 85 0 1 0 ((rs ++ ([.v (.int .i64 (Int.ofNat i))] : List AV)).length), .v (.int .i64 (IntKind.i64.wrap (Int.ofNat i + 1)))], [(false, .arr 1 (rs ++ ([.v (.int .i64 (Int.ofNat i))] : List AV)) false)])))))) else (.need (EntClosed [(false, .arr 1 rs false)]) (.done (some ((.nrm, [.rsl 6 es false, .rsl 3 fs false, .sl 85 0 1 0 k, .v (.int .i64 (IntKind.i64.wrap (Int.ofNat i + 1)))], [(false, .arr 1 rs false)])))))))))))))))))) else (.need (EntClosed [(false, .arr 1 rs false)]) (.done (some (((.exit 0), [.sl 85 0 1 0 k], [(false, .arr 1 rs false)])))))) := by kernel_rfl
set_option maxRecDepth 100000 in
theorem t73 (es fs rs : List AV) : evTreeD (CS T5) 60 73 [.rsl 6 es false, .rsl 3 fs false] [.loop 0 [0, 1, 5, 6] [] [5] [] (.exit 0) [.rsl 1 rs false] []] =
    (.need (EntClosed [] ∧ EntClosed [] ∧ Says (CS T5) 0 87 false (.loop (loopOf (CS T5) 73 0)) (mkSt [0, 1, 5, 6] [] 87 [.rsl 6 es false, .rsl 3 fs false, .v (.slice none 0 0), .v (.int .i64 0)] []) (.exit 0) (mkSt [5] [] 87 [.rsl 1 rs false] [])) (.done (some (.rsl 1 rs false)))) := by kernel_rfl
set_option maxRecDepth 100000 in
theorem r66 (es fs : List AV) (x : ByteArray × Bool) (i : Nat) : roundD (CS T5) 60 0 66 0 60 60 false (loopOf (CS T5) 66 0) [0, 1, 5] [] [0, 1, 5] [] [4] [] [.rsl 2 es false, .rsl 2 fs false, intA (Int.ofNat i)] [] [.chk [stA x]] =
    (bif decide (Int.ofNat i < Int.ofNat es.length) then (.need (es[i]? = (some (AV.agg [.v (.string x.fst), .v (.bool x.snd)]))) (bif decide (Int.ofNat x.fst.size > 40) then (.need (EntClosed []) (.done (some ((.ret, [.v (.bool false)], []))))) else (.need (EntClosed []) (.done (some ((.nrm, [.rsl 2 es false, .rsl 2 fs false, .v (.int .i64 (IntKind.i64.wrap (Int.ofNat i + 1)))], []))))))) else (.need (EntClosed []) (.done (some (((.exit 0), [.bad], [])))))) := by kernel_rfl
set_option maxRecDepth 100000 in
theorem r66x (es fs : List AV) (x : ByteArray × Bool) (i : Nat) : roundD (CS T5) 60 0 66 0 60 60 false (loopOf (CS T5) 66 0) [0, 1, 5] [] [0, 1, 5] [] [0, 1] [] [.rsl 2 es false, .rsl 2 fs false, intA (Int.ofNat i)] [] [.chk [stA x]] =
    (bif decide (Int.ofNat i < Int.ofNat es.length) then (.need (es[i]? = (some (AV.agg [.v (.string x.fst), .v (.bool x.snd)]))) (bif decide (Int.ofNat x.fst.size > 40) then (.need (EntClosed []) (.done (some ((.ret, [.rsl 2 es false, .rsl 2 fs false], []))))) else (.need (EntClosed []) (.done (some ((.nrm, [.rsl 2 es false, .rsl 2 fs false, .v (.int .i64 (IntKind.i64.wrap (Int.ofNat i + 1)))], []))))))) else (.need (EntClosed []) (.done (some (((.exit 0), [.rsl 2 es false, .rsl 2 fs false], [])))))) := by kernel_rfl
set_option maxRecDepth 100000 in
theorem s66 (es fs : List AV) (x : ByteArray × ByteArray) (i : Nat) : roundD (CS T5) 60 0 66 0 60 60 false (loopOf (CS T5) 66 2) [0, 1, 6] [] [0, 1, 6] [] [4] [] [.rsl 2 es false, .rsl 2 fs false, intA (Int.ofNat i)] [] [.chk [sgA x], .chk [sgA x]] =
    (bif decide (Int.ofNat i < Int.ofNat fs.length) then (.need (fs[i]? = (some (AV.agg [.v (.string x.fst), .v (.string x.snd)]))) (bif decide (Int.ofNat x.fst.size > 40) then (.need (EntClosed []) (.done (some ((.ret, [.v (.bool false)], []))))) else (.need (fs[i]? = (some (AV.agg [.v (.string x.fst), .v (.string x.snd)]))) (bif decide (Int.ofNat x.snd.size > 40) then (.need (EntClosed []) (.done (some ((.ret, [.v (.bool false)], []))))) else (.need (EntClosed []) (.done (some ((.nrm, [.rsl 2 es false, .rsl 2 fs false, .v (.int .i64 (IntKind.i64.wrap (Int.ofNat i + 1)))], []))))))))) else (.need (EntClosed []) (.done (some (((.exit 2), [.bad], [])))))) := by kernel_rfl
set_option maxRecDepth 100000 in
theorem t66r (es fs : List AV) : evTreeD (CS T5) 60 66 [.rsl 2 es false, .rsl 2 fs false] [.loop 0 [0, 1, 5] [] [4] [] .ret [boolA false] []] =
    (bif decide (Int.ofNat es.length > 8) then (bif Int.ofNat es.length != 33 then (.done (some (.v (.bool false)))) else (bif decide (Int.ofNat fs.length > 16) then (bif Int.ofNat fs.length != 65 then (.done (some (.v (.bool false)))) else (.need (EntClosed [] ∧ EntClosed [] ∧ Says (CS T5) 0 60 false (.loop (loopOf (CS T5) 66 0)) (mkSt [0, 1, 5] [] 60 [.rsl 2 es false, .rsl 2 fs false, .v (.int .i64 0)] []) .ret (mkSt [4] [] 60 [.v (.bool false)] [])) (.done (some (.v (.bool false)))))) else (.need (EntClosed [] ∧ EntClosed [] ∧ Says (CS T5) 0 60 false (.loop (loopOf (CS T5) 66 0)) (mkSt [0, 1, 5] [] 60 [.rsl 2 es false, .rsl 2 fs false, .v (.int .i64 0)] []) .ret (mkSt [4] [] 60 [.v (.bool false)] [])) (.done (some (.v (.bool false))))))) else (bif decide (Int.ofNat fs.length > 16) then (bif Int.ofNat fs.length != 65 then (.done (some (.v (.bool false)))) else (.need (EntClosed [] ∧ EntClosed [] ∧ Says (CS T5) 0 60 false (.loop (loopOf (CS T5) 66 0)) (mkSt [0, 1, 5] [] 60 [.rsl 2 es false, .rsl 2 fs false, .v (.int .i64 0)] []) .ret (mkSt [4] [] 60 [.v (.bool false)] [])) (.done (some (.v (.bool false)))))) else (.need (EntClosed [] ∧ EntClosed [] ∧ Says (CS T5) 0 60 false (.loop (loopOf (CS T5) 66 0)) (mkSt [0, 1, 5] [] 60 [.rsl 2 es false, .rsl 2 fs false, .v (.int .i64 0)] []) .ret (mkSt [4] [] 60 [.v (.bool false)] [])) (.done (some (.v (.bool false))))))) := by kernel_rfl
set_option maxRecDepth 100000 in
theorem t66s (es fs : List AV) : evTreeD (CS T5) 60 66 [.rsl 2 es false, .rsl 2 fs false] [.loop 0 [0, 1, 5] [] [0, 1] [] (.exit 0) [.rsl 2 es false, .rsl 2 fs false] [], .loop 0 [0, 1, 6] [] [4] [] .ret [boolA false] []] =
    (bif decide (Int.ofNat es.length > 8) then (bif Int.ofNat es.length != 33 then (.done (some (.v (.bool false)))) else (bif decide (Int.ofNat fs.length > 16) then (bif Int.ofNat fs.length != 65 then (.done (some (.v (.bool false)))) else (.need (EntClosed [] ∧ EntClosed [] ∧ Says (CS T5) 0 60 false (.loop (loopOf (CS T5) 66 0)) (mkSt [0, 1, 5] [] 60 [.rsl 2 es false, .rsl 2 fs false, .v (.int .i64 0)] []) (.exit 0) (mkSt [0, 1] [] 60 [.rsl 2 es false, .rsl 2 fs false] [])) (.need (EntClosed [] ∧ EntClosed [] ∧ Says (CS T5) 0 60 false (.loop (loopOf (CS T5) 66 2)) (mkSt [0, 1, 6] [] 60 [.rsl 2 es false, .rsl 2 fs false, .v (.int .i64 0)] []) .ret (mkSt [4] [] 60 [.v (.bool false)] [])) (.done (some (.v (.bool false))))))) else (.need (EntClosed [] ∧ EntClosed [] ∧ Says (CS T5) 0 60 false (.loop (loopOf (CS T5) 66 0)) (mkSt [0, 1, 5] [] 60 [.rsl 2 es false, .rsl 2 fs false, .v (.int .i64 0)] []) (.exit 0) (mkSt [0, 1] [] 60 [.rsl 2 es false, .rsl 2 fs false] [])) (.need (EntClosed [] ∧ EntClosed [] ∧ Says (CS T5) 0 60 false (.loop (loopOf (CS T5) 66 2)) (mkSt [0, 1, 6] [] 60 [.rsl 2 es false, .rsl 2 fs false, .v (.int .i64 0)] []) .ret (mkSt [4] [] 60 [.v (.bool false)] [])) (.done (some (.v (.bool false)))))))) else (bif decide (Int.ofNat fs.length > 16) then (bif Int.ofNat fs.length != 65 then (.done (some (.v (.bool false)))) else (.need (EntClosed [] ∧ EntClosed [] ∧ Says (CS T5) 0 60 false (.loop (loopOf (CS T5) 66 0)) (mkSt [0, 1, 5] [] 60 [.rsl 2 es false, .rsl 2 fs false, .v (.int .i64 0)] []) (.exit 0) (mkSt [0, 1] [] 60 [.rsl 2 es false, .rsl 2 fs false] [])) (.need (EntClosed [] ∧ EntClosed [] ∧ Says (CS T5) 0 60 false (.loop (loopOf (CS T5) 66 2)) (mkSt [0, 1, 6] [] 60 [.rsl 2 es false, .rsl 2 fs false, .v (.int .i64 0)] []) .ret (mkSt [4] [] 60 [.v (.bool false)] [])) (.done (some (.v (.bool false))))))) else (.need (EntClosed [] ∧ EntClosed [] ∧ Says (CS T5) 0 60 false (.loop (loopOf (CS T5) 66 0)) (mkSt [0, 1, 5] [] 60 [.rsl 2 es false, .rsl 2 fs false, .v (.int .i64 0)] []) (.exit 0) (mkSt [0, 1] [] 60 [.rsl 2 es false, .rsl 2 fs false] [])) (.need (EntClosed [] ∧ EntClosed [] ∧ Says (CS T5) 0 60 false (.loop (loopOf (CS T5) 66 2)) (mkSt [0, 1, 6] [] 60 [.rsl 2 es false, .rsl 2 fs false, .v (.int .i64 0)] []) .ret (mkSt [4] [] 60 [.v (.bool false)] [])) (.done (some (.v (.bool false)))))))) := by kernel_rfl
set_option maxRecDepth 100000 in
theorem t66e (es fs : List AV) : evTreeD (CS T5) 60 66 [.rsl 2 es false, .rsl 2 fs false] [.loop 0 [0, 1, 5] [] [0, 1] [] (.exit 0) [.rsl 2 es false, .rsl 2 fs false] [], .loop 0 [0, 1, 6] [] [4] [] (.exit 2) [.bad] []] =
    (bif decide (Int.ofNat es.length > 8) then (bif Int.ofNat es.length != 33 then (.done (some (.v (.bool false)))) else (bif decide (Int.ofNat fs.length > 16) then (bif Int.ofNat fs.length != 65 then (.done (some (.v (.bool false)))) else (.need (EntClosed [] ∧ EntClosed [] ∧ Says (CS T5) 0 60 false (.loop (loopOf (CS T5) 66 0)) (mkSt [0, 1, 5] [] 60 [.rsl 2 es false, .rsl 2 fs false, .v (.int .i64 0)] []) (.exit 0) (mkSt [0, 1] [] 60 [.rsl 2 es false, .rsl 2 fs false] [])) (.need (EntClosed [] ∧ EntClosed [] ∧ Says (CS T5) 0 60 false (.loop (loopOf (CS T5) 66 2)) (mkSt [0, 1, 6] [] 60 [.rsl 2 es false, .rsl 2 fs false, .v (.int .i64 0)] []) (.exit 2) (mkSt [4] [] 60 [.bad] [])) (.done (some (.v (.bool true))))))) else (.need (EntClosed [] ∧ EntClosed [] ∧ Says (CS T5) 0 60 false (.loop (loopOf (CS T5) 66 0)) (mkSt [0, 1, 5] [] 60 [.rsl 2 es false, .rsl 2 fs false, .v (.int .i64 0)] []) (.exit 0) (mkSt [0, 1] [] 60 [.rsl 2 es false, .rsl 2 fs false] [])) (.need (EntClosed [] ∧ EntClosed [] ∧ Says (CS T5) 0 60 false (.loop (loopOf (CS T5) 66 2)) (mkSt [0, 1, 6] [] 60 [.rsl 2 es false, .rsl 2 fs false, .v (.int .i64 0)] []) (.exit 2) (mkSt [4] [] 60 [.bad] [])) (.done (some (.v (.bool true)))))))) else (bif decide (Int.ofNat fs.length > 16) then (bif Int.ofNat fs.length != 65 then (.done (some (.v (.bool false)))) else (.need (EntClosed [] ∧ EntClosed [] ∧ Says (CS T5) 0 60 false (.loop (loopOf (CS T5) 66 0)) (mkSt [0, 1, 5] [] 60 [.rsl 2 es false, .rsl 2 fs false, .v (.int .i64 0)] []) (.exit 0) (mkSt [0, 1] [] 60 [.rsl 2 es false, .rsl 2 fs false] [])) (.need (EntClosed [] ∧ EntClosed [] ∧ Says (CS T5) 0 60 false (.loop (loopOf (CS T5) 66 2)) (mkSt [0, 1, 6] [] 60 [.rsl 2 es false, .rsl 2 fs false, .v (.int .i64 0)] []) (.exit 2) (mkSt [4] [] 60 [.bad] [])) (.done (some (.v (.bool true))))))) else (.need (EntClosed [] ∧ EntClosed [] ∧ Says (CS T5) 0 60 false (.loop (loopOf (CS T5) 66 0)) (mkSt [0, 1, 5] [] 60 [.rsl 2 es false, .rsl 2 fs false, .v (.int .i64 0)] []) (.exit 0) (mkSt [0, 1] [] 60 [.rsl 2 es false, .rsl 2 fs false] [])) (.need (EntClosed [] ∧ EntClosed [] ∧ Says (CS T5) 0 60 false (.loop (loopOf (CS T5) 66 2)) (mkSt [0, 1, 6] [] 60 [.rsl 2 es false, .rsl 2 fs false, .v (.int .i64 0)] []) (.exit 2) (mkSt [4] [] 60 [.bad] [])) (.done (some (.v (.bool true)))))))) := by kernel_rfl
theorem ltB (a b : Int) : decide (a < b) = !ge a b := by unfold ge; by_cases h : a < b <;> simp [h] <;> omega
theorem leB (a b : Int) : le a b = ge b a := rfl
theorem limTwo {n : Nat} (h : n ≤ lim) : n < two63 := by unfold lim at h; unfold two63; omega
/-! ### Done -/
def doneM (x : ByteArray × Bool) (l : List (ByteArray × ByteArray)) : Bool :=
  bif decide (Int.ofNat (personsM l x.1).length ≥ 2) then true else bif Int.ofNat (personsM l x.1).length == 1 then !x.2 else false
def doneG : List AV → Option AV := sp2 stC (listC sgC 2) fun x l => bif Nat.ble l.length lim then some (boolA (doneM x l)) else none
theorem spec160 {l : List (ByteArray × ByteArray)} {s : ByteArray} (hl : Nat.ble l.length lim = true) : personsG [slA sgC 2 l, strA s] = some (slA strC 1 (personsM l s)) := by
  have h := sp2_at (A := listC sgC 2) (B := strC) (F := fun l s => bif Nat.ble l.length lim then some (slA strC 1 (personsM l s)) else none) l s
  rw [hl] at h
  exact h
theorem h159 : Holds 159 doneG := holds2 fun x l r hr => by
  cases hb : Nat.ble l.length lim with
  | false => simp [hb] at hr
  | true =>
    simp only [hb, cond_true, Option.some.injEq] at hr; subst hr
    refine T5_ok.tr (t159 l x.1 x.2 ((personsM l x.1).map strA)) ⟨⟨rfl, spec160 hb⟩, ?_⟩
    unfold doneM
    rw [e_len]
    cases decide (Int.ofNat (personsM l x.1).length ≥ 2) with
    | true => rfl
    | false => cases Int.ofNat (personsM l x.1).length == 1 <;> rfl

/-! ### ShortSteps -/
def longB (s : ByteArray) : Bool := decide (Int.ofNat s.size > 40)
def stepsLenB (n m : Nat) : Bool := bif (bif decide (Int.ofNat n > 8) then Int.ofNat n != 33 else false) then true else bif decide (Int.ofNat m > 16) then Int.ofNat m != 65 else false
def longSg (x : ByteArray × ByteArray) : Bool := bif longB x.1 then true else longB x.2
def shortStepsM (l : List (ByteArray × Bool)) (m : List (ByteArray × ByteArray)) : Bool := bif stepsLenB l.length m.length then false else bif l.any (fun x => longB x.1) then false else !m.any longSg
def shortStepsG : List AV → Option AV := sp2 (listC stC 2) (listC sgC 2) fun l m => bif Nat.blt l.length two63 && Nat.blt m.length two63 then some (boolA (shortStepsM l m)) else none
theorem h66 : Holds 66 shortStepsG := holds2 fun l m r hr => by
  cases hb : Nat.blt l.length two63 && Nat.blt m.length two63 with
  | false => simp [hb] at hr
  | true =>
    simp only [hb, cond_true, Option.some.injEq] at hr; subst hr
    rw [Bool.and_eq_true] at hb
    have hl : l.length < two63 := Nat.le_of_ble_eq_true hb.1
    have hm : m.length < two63 := Nat.le_of_ble_eq_true hb.2
    have e := e_len stA l
    have e' := e_len sgA m
    have h1 := LoopRun.find (C := CS T5) (p := 0) (nt := 60) (rd := false) (c := loopOf (CS T5) 66 0) (fun _ (x : ByteArray × Bool) => bif longB x.1 then some () else none) (fun i => mkSt [0, 1, 5] [] 60 [.rsl 2 (l.map stA) false, .rsl 2 (m.map sgA) false, intA (Int.ofNat i)] [])
      (fun _ => mkSt [4] [] 60 [boolA false] []) (mkSt [0, 1] [] 60 [.rsl 2 (l.map stA) false, .rsl 2 (m.map sgA) false] []) (.exit 0) (fun _ => .ret) l (by simp) (by simp)
      (fun i x hx => by
        have hi := lt_len hx
        cases h : longB x.1 with
        | true => exact T5_ok.rndR (r66 (l.map stA) (m.map sgA) x i) (by rw [e, lt_of hi]; change _ ∧ (bif longB x.1 then _ else _ : Dt _).ok _; rw [h]; exact ⟨get_map _ hx, trivial, rfl⟩)
        | false => exact T5_ok.rndN (r66 (l.map stA) (m.map sgA) x i) (by rw [e, lt_of hi, wrap_ix hi hl]; change _ ∧ (bif longB x.1 then _ else _ : Dt _).ok _; rw [h]; exact ⟨get_map _ hx, trivial, rfl⟩))
      (T5_ok.rndX (r66x (l.map stA) (m.map sgA) (⟨#[]⟩, false) l.length) (by rw [e, lt_self]; exact ⟨trivial, rfl⟩))
    have h2 := LoopRun.find (C := CS T5) (p := 0) (nt := 60) (rd := false) (c := loopOf (CS T5) 66 2) (fun _ (x : ByteArray × ByteArray) => bif longSg x then some () else none) (fun i => mkSt [0, 1, 6] [] 60 [.rsl 2 (l.map stA) false, .rsl 2 (m.map sgA) false, intA (Int.ofNat i)] [])
      (fun _ => mkSt [4] [] 60 [boolA false] []) (mkSt [4] [] 60 [.bad] []) (.exit 2) (fun _ => .ret) m (by simp) (by simp)
      (fun i x hx => by
        have hi := lt_len hx
        unfold longSg
        cases h : longB x.1 with
        | true => exact T5_ok.rndR (s66 (l.map stA) (m.map sgA) x i) (by rw [e', lt_of hi]; change _ ∧ (bif longB x.1 then _ else _ : Dt _).ok _; rw [h]; exact ⟨get_map _ hx, trivial, rfl⟩)
        | false =>
          cases h2 : longB x.2 with
          | true => exact T5_ok.rndR (s66 (l.map stA) (m.map sgA) x i) (by rw [e', lt_of hi, show decide (Int.ofNat x.1.size > 40) = false from h, show decide (Int.ofNat x.2.size > 40) = true from h2]; exact ⟨get_map _ hx, get_map _ hx, trivial, rfl⟩)
          | false => exact T5_ok.rndN (s66 (l.map stA) (m.map sgA) x i) (by rw [e', lt_of hi, wrap_ix hi hm, show decide (Int.ofNat x.1.size > 40) = false from h, show decide (Int.ofNat x.2.size > 40) = false from h2]; exact ⟨get_map _ hx, get_map _ hx, trivial, rfl⟩))
      (T5_ok.rndX (s66 (l.map stA) (m.map sgA) (⟨#[]⟩, ⟨#[]⟩) m.length) (by rw [e', lt_self]; exact ⟨trivial, rfl⟩))
    rw [srch_any] at h1
    rw [srch_any] at h2
    unfold shortStepsM stepsLenB
    cases ha : l.any (fun x => longB x.1) with
    | true =>
      rw [ha] at h1
      refine T5_ok.tr (t66r (l.map stA) (m.map sgA)) ?_
      rw [e, e']
      cases decide (Int.ofNat l.length > 8) <;> cases Int.ofNat l.length != 33 <;> cases decide (Int.ofNat m.length > 16) <;> cases Int.ofNat m.length != 65 <;> first | exact ⟨⟨trivial, trivial, h1.says⟩, rfl⟩ | rfl
    | false =>
      rw [ha] at h1
      cases hc : m.any longSg with
      | true =>
        rw [hc] at h2
        refine T5_ok.tr (t66s (l.map stA) (m.map sgA)) ?_
        rw [e, e']
        cases decide (Int.ofNat l.length > 8) <;> cases Int.ofNat l.length != 33 <;> cases decide (Int.ofNat m.length > 16) <;> cases Int.ofNat m.length != 65 <;> first | exact ⟨⟨trivial, trivial, h1.says⟩, ⟨trivial, trivial, h2.says⟩, rfl⟩ | rfl
      | false =>
        rw [hc] at h2
        refine T5_ok.tr (t66e (l.map stA) (m.map sgA)) ?_
        rw [e, e']
        cases decide (Int.ofNat l.length > 8) <;> cases Int.ofNat l.length != 33 <;> cases decide (Int.ofNat m.length > 16) <;> cases Int.ofNat m.length != 65 <;> first | exact ⟨⟨trivial, trivial, h1.says⟩, ⟨trivial, trivial, h2.says⟩, rfl⟩ | rfl

/-! ### Out, of the reference -/
def outG1 (i : Nat) (x : I6 × V3) : List Int := bif hasM x.1 x.2 then [] else [Int.ofNat i]
def outM (l : List I6) (m : List V3) : List Int := gath outG1 0 (l.zip m)
def outG : List AV → Option AV := sp2 (listC bxC 6) (listC vecC 3) fun l m => bif Nat.ble l.length lim && Nat.beq l.length m.length then some (slA intC 1 (outM l m)) else none
theorem closedInt (m : List Int) : ClosedL (m.map intA) := ClosedL.map fun _ => rfl
theorem h73 : Holds 73 outG := holds2 fun l m r hr => by
  cases hb : Nat.ble l.length lim && Nat.beq l.length m.length with
  | false => simp [hb] at hr
  | true =>
    simp only [hb, cond_true, Option.some.injEq] at hr; subst hr
    rw [Bool.and_eq_true] at hb
    have hl0 : l.length ≤ lim := Nat.le_of_ble_eq_true hb.1
    have hlm : l.length = m.length := Nat.eq_of_beq_eq_true hb.2
    have hl := limTwo hl0
    have hz : (l.zip m).length = l.length := by rw [List.length_zip]; omega
    have e := e_len bxA l
    have h := LoopRun.gather (C := CS T5) (p := 0) (nt := 87) (rd := false) (c := loopOf (CS T5) 73 0) outG1 1 (fun _ x => by unfold outG1; cases hasM x.1 x.2 <;> simp)
      (fun i (acc : List Int) => blSt 85 1 [0, 1, 5, 6] 87 (fun a => [.rsl 6 (l.map bxA) false, .rsl 3 (m.map vA) false, a, intA (Int.ofNat i)]) (acc.map intA)) (.exit 0) (fun acc => mkSt [5] [] 87 [.rsl 1 (acc.map intA) false] []) (l.zip m) (by simp)
      (fun i x acc hx hacc => by
        have hi := lt_len hx
        rw [hz] at hi
        obtain ⟨hx1, hx2⟩ := lt2 hx
        have g1 := get_map bxA hx1
        have g2 := get_map vA hx2
        have hlen : ((acc ++ [Int.ofNat i]).map intA).length ≤ 35184372088832 / 1024 := by simp; unfold lim at hl0; omega
        unfold outG1
        cases h : hasM x.1 x.2 with
        | false =>
          cases acc with
          | nil =>
            refine T5_ok.rndN (r73a (l.map bxA) (m.map vA) x.1 x.2 i) ?_
            rw [e, lt_of hi, wrap_ix hi hl]
            simp only [ltB]
            unfold hasM at h
            simp only [leB] at h
            generalize ge x.2.1 x.1.1 = b1 at h ⊢; generalize ge x.1.2.1 x.2.1 = b2 at h ⊢; generalize ge x.2.2.1 x.1.2.2.1 = b3 at h ⊢; generalize ge x.1.2.2.2.1 x.2.2.1 = b4 at h ⊢; generalize ge x.2.2.2 x.1.2.2.2.2.1 = b5 at h ⊢; generalize ge x.1.2.2.2.2.2 x.2.2.2 = b6 at h ⊢
            have c : EntClosed [(false, .arr 1 [.v (.int .i64 (Int.ofNat i))] false)] := ⟨closedInt [Int.ofNat i], trivial⟩
            cases b1 <;> cases b2 <;> cases b3 <;> cases b4 <;> cases b5 <;> cases b6 <;> first | exact absurd h (by decide) | exact ⟨g2, g1, c, rfl⟩ | exact ⟨g2, g1, g1, c, rfl⟩ | exact ⟨g2, g1, g1, g1, c, rfl⟩ | exact ⟨g2, g1, g1, g1, g1, c, rfl⟩ | exact ⟨g2, g1, g1, g1, g1, g1, c, rfl⟩ | exact ⟨g2, g1, g1, g1, g1, g1, g1, c, rfl⟩
          | cons y ys =>
            show Says _ _ _ _ _ _ _ (blSt _ _ _ _ _ (((y :: ys) ++ [Int.ofNat i]).map intA))
            rw [show ((y :: ys) ++ [Int.ofNat i]).map intA = (y :: ys).map intA ++ [intA (Int.ofNat i)] by simp] at hlen ⊢
            refine T5_ok.rndN (r73b (l.map bxA) (m.map vA) ((y :: ys).map intA) x.1 x.2 i ((y :: ys).map intA).length) ?_
            rw [e, lt_of hi, wrap_ix hi hl]
            simp only [ltB]
            unfold hasM at h
            simp only [leB] at h
            generalize ge x.2.1 x.1.1 = b1 at h ⊢; generalize ge x.1.2.1 x.2.1 = b2 at h ⊢; generalize ge x.2.2.1 x.1.2.2.1 = b3 at h ⊢; generalize ge x.1.2.2.2.1 x.2.2.1 = b4 at h ⊢; generalize ge x.2.2.2 x.1.2.2.2.2.1 = b5 at h ⊢; generalize ge x.1.2.2.2.2.2 x.2.2.2 = b6 at h ⊢
            have c : EntClosed [(false, .arr 1 ((y :: ys).map intA ++ [intA (Int.ofNat i)]) false)] := ⟨(closedInt (y :: ys)).append (closedInt [Int.ofNat i]), trivial⟩
            have q : True ∧ True ∧ True ∧ ((y :: ys).map intA ++ [intA (Int.ofNat i)]).length * 8 ≤ 35184372088832 ∧ ((y :: ys).map intA ++ [intA (Int.ofNat i)]).length ≤ 35184372088832 ∧ 8 ≠ 0 := ⟨trivial, trivial, trivial, lenOk hlen (by omega), lenOk1 hlen, by omega⟩
            cases b1 <;> cases b2 <;> cases b3 <;> cases b4 <;> cases b5 <;> cases b6 <;> first | exact absurd h (by decide) | exact ⟨g2, g1, q, c, rfl⟩ | exact ⟨g2, g1, g1, q, c, rfl⟩ | exact ⟨g2, g1, g1, g1, q, c, rfl⟩ | exact ⟨g2, g1, g1, g1, g1, q, c, rfl⟩ | exact ⟨g2, g1, g1, g1, g1, g1, q, c, rfl⟩ | exact ⟨g2, g1, g1, g1, g1, g1, g1, q, c, rfl⟩
        | true =>
          rw [cond_true, List.append_nil]
          cases acc with
          | nil =>
            refine T5_ok.rndN (r73n (l.map bxA) (m.map vA) x.1 x.2 i) ?_
            rw [e, lt_of hi, wrap_ix hi hl]
            simp only [ltB]
            unfold hasM at h
            simp only [leB] at h
            generalize ge x.2.1 x.1.1 = b1 at h ⊢; generalize ge x.1.2.1 x.2.1 = b2 at h ⊢; generalize ge x.2.2.1 x.1.2.2.1 = b3 at h ⊢; generalize ge x.1.2.2.2.1 x.2.2.1 = b4 at h ⊢; generalize ge x.2.2.2 x.1.2.2.2.2.1 = b5 at h ⊢; generalize ge x.1.2.2.2.2.2 x.2.2.2 = b6 at h ⊢
            cases b1 <;> cases b2 <;> cases b3 <;> cases b4 <;> cases b5 <;> cases b6 <;> first | exact absurd h (by decide) | exact ⟨g2, g1, g1, g1, g1, g1, g1, trivial, rfl⟩
          | cons y ys =>
            refine T5_ok.rndN (r73b (l.map bxA) (m.map vA) ((y :: ys).map intA) x.1 x.2 i ((y :: ys).map intA).length) ?_
            rw [e, lt_of hi, wrap_ix hi hl]
            simp only [ltB]
            unfold hasM at h
            simp only [leB] at h
            generalize ge x.2.1 x.1.1 = b1 at h ⊢; generalize ge x.1.2.1 x.2.1 = b2 at h ⊢; generalize ge x.2.2.1 x.1.2.2.1 = b3 at h ⊢; generalize ge x.1.2.2.2.1 x.2.2.1 = b4 at h ⊢; generalize ge x.2.2.2 x.1.2.2.2.2.1 = b5 at h ⊢; generalize ge x.1.2.2.2.2.2 x.2.2.2 = b6 at h ⊢
            cases b1 <;> cases b2 <;> cases b3 <;> cases b4 <;> cases b5 <;> cases b6 <;> first | exact absurd h (by decide) | exact ⟨g2, g1, g1, g1, g1, g1, g1, ⟨closedInt (y :: ys), trivial⟩, rfl⟩)
      (fun acc _ => by
        refine Says.blEnd (key := 85) ?_ (closedInt acc)
        rw [hz]
        cases acc with
        | nil => exact T5_ok.rndX (r73n (l.map bxA) (m.map vA) (0, 0, 0, 0, 0, 0) (0, 0, 0) l.length) (by rw [e, lt_self]; exact ⟨trivial, rfl⟩)
        | cons y ys => exact T5_ok.rndX (r73b (l.map bxA) (m.map vA) ((y :: ys).map intA) (0, 0, 0, 0, 0, 0) (0, 0, 0) l.length ((y :: ys).map intA).length) (by rw [e, lt_self]; exact ⟨⟨closedInt (y :: ys), trivial⟩, rfl⟩))
    exact T5_ok.tr (t73 (l.map bxA) (m.map vA) ((outM l m).map intA)) ⟨⟨trivial, trivial, h.says⟩, rfl⟩
def T6 : Specs := ((T5.set 159 doneG).set 66 shortStepsG).set 73 outG
theorem T6_ok : Ok T6 := ((T5_ok.set h159).set h66).set h73
end Go.Vm.S3
