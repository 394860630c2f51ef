/- Traces: what is made of each value; marks. -/
import Derived.Test.YtbplbhcgcicgfaaGreatDoorS6V1
namespace Go.Vm.S6
open Go.Proofs Go.RowKit
set_option maxRecDepth 100000 in
theorem r123a124 (es : List AV) (n i : Nat) (x : Va) : roundD (CS V1) 60 0 123 0 22 22 false (loopOf (CS V1) 123 0) [1, 5, 8, 9, 10] [] [1, 5, 8, 9, 10] [19] [5] [] (mapIn (fnV 124) nilS 4 es n i) [] [.chk [vaC.enc x]] =
    (bif decide (Int.ofNat i < Int.ofNat n) then (.need (es[i]? = (some (AV.agg [.v (.int .i64 x.fst), .v (.int .i64 x.snd.fst), .v (.bool x.snd.snd.fst), .v (.bool x.snd.snd.snd)]))) (.need (EntClosed [(false, .arr 1 [.v (.int .i64 (lowV x))] false)]) (.done (some ((.nrm, [.fn (Fn.func 124) [] [], .sl 19 0 1 0 1, .rsl 4 es false, .v (.int .i64 (Int.ofNat n)), .v (.int .i64 (IntKind.i64.wrap (Int.ofNat i + 1)))], [(false, .arr 1 [.v (.int .i64 (lowV x))] false)])))))) else (.need (EntClosed []) (.done (some (((.exit 0), [.v (.slice none 0 0)], [])))))) := by kernel_rfl
set_option maxRecDepth 100000 in
theorem r123b124 (es rs : List AV) (n i k : Nat) (x : Va) : roundD (CS V1) 60 0 123 0 22 22 false (loopOf (CS V1) 123 0) [1, 5, 8, 9, 10] [19] [1, 5, 8, 9, 10] [19] [5] [19] (mapIn (fnV 124) (.sl 19 0 1 0 k) 4 es n i) [(false, .arr 1 rs false)] [.chk [vaC.enc x], .chk rs] =
    (bif decide (Int.ofNat i < Int.ofNat n) then (.need (es[i]? = (some (AV.agg [.v (.int .i64 x.fst), .v (.int .i64 x.snd.fst), .v (.bool x.snd.snd.fst), .v (.bool x.snd.snd.snd)]))) (.need (k = rs.length ∧ true = true ∧ 1 = 1 ∧ (rs ++ ([.v (.int .i64 (lowV x))] : List AV)).length * 8 ≤ 35184372088832 ∧ (rs ++ ([.v (.int .i64 (lowV x))] : List AV)).length ≤ 35184372088832 ∧ 8 ≠ 0) (.need (EntClosed [(false, .arr 1 (rs ++ ([.v (.int .i64 (lowV x))] : List AV)) false)]) (.done (some ((.nrm, [.fn (Fn.func 124) [] [], .sl 19 0 1 0 ((rs ++ ([.v (.int .i64 (lowV x))] : List AV)).length), .rsl 4 es false, .v (.int .i64 (Int.ofNat n)), .v (.int .i64 (IntKind.i64.wrap (Int.ofNat i + 1)))], [(false, .arr 1 (rs ++ ([.v (.int .i64 (lowV x))] : List AV)) false)]))))))) else (.need (EntClosed [(false, .arr 1 rs false)]) (.done (some (((.exit 0), [.sl 19 0 1 0 k], [(false, .arr 1 rs false)])))))) := by kernel_rfl
set_option maxRecDepth 100000 in
theorem t123124 (es rs : List AV) : evTreeD (CS V1) 60 123 [.rsl 4 es false, (fnV 124)] [.loop 0 [1, 5, 8, 9, 10] [] [5] [] (.exit 0) [.rsl 1 rs false] []] =
    (.need (EntClosed [] ∧ EntClosed [] ∧ Says (CS V1) 0 22 false (.loop (loopOf (CS V1) 123 0)) (mkSt [1, 5, 8, 9, 10] [] 22 [.fn (Fn.func 124) [] [], .v (.slice none 0 0), .rsl 4 es false, .v (.int .i64 (Int.ofNat es.length)), .v (.int .i64 0)] []) (.exit 0) (mkSt [5] [] 22 [.rsl 1 rs false] [])) (.done (some (.rsl 1 rs false)))) := by kernel_rfl
set_option maxRecDepth 100000 in
theorem r123a125 (es : List AV) (n i : Nat) (x : Va) : roundD (CS V1) 60 0 123 0 22 22 false (loopOf (CS V1) 123 0) [1, 5, 8, 9, 10] [] [1, 5, 8, 9, 10] [19] [5] [] (mapIn (fnV 125) nilS 4 es n i) [] [.chk [vaC.enc x]] =
    (bif decide (Int.ofNat i < Int.ofNat n) then (.need (es[i]? = (some (AV.agg [.v (.int .i64 x.fst), .v (.int .i64 x.snd.fst), .v (.bool x.snd.snd.fst), .v (.bool x.snd.snd.snd)]))) (.need (EntClosed [(false, .arr 1 [.v (.int .i64 (highV x))] false)]) (.done (some ((.nrm, [.fn (Fn.func 125) [] [], .sl 19 0 1 0 1, .rsl 4 es false, .v (.int .i64 (Int.ofNat n)), .v (.int .i64 (IntKind.i64.wrap (Int.ofNat i + 1)))], [(false, .arr 1 [.v (.int .i64 (highV x))] false)])))))) else (.need (EntClosed []) (.done (some (((.exit 0), [.v (.slice none 0 0)], [])))))) := by kernel_rfl
set_option maxRecDepth 100000 in
theorem r123b125 (es rs : List AV) (n i k : Nat) (x : Va) : roundD (CS V1) 60 0 123 0 22 22 false (loopOf (CS V1) 123 0) [1, 5, 8, 9, 10] [19] [1, 5, 8, 9, 10] [19] [5] [19] (mapIn (fnV 125) (.sl 19 0 1 0 k) 4 es n i) [(false, .arr 1 rs false)] [.chk [vaC.enc x], .chk rs] =
    (bif decide (Int.ofNat i < Int.ofNat n) then (.need (es[i]? = (some (AV.agg [.v (.int .i64 x.fst), .v (.int .i64 x.snd.fst), .v (.bool x.snd.snd.fst), .v (.bool x.snd.snd.snd)]))) (.need (k = rs.length ∧ true = true ∧ 1 = 1 ∧ (rs ++ ([.v (.int .i64 (highV x))] : List AV)).length * 8 ≤ 35184372088832 ∧ (rs ++ ([.v (.int .i64 (highV x))] : List AV)).length ≤ 35184372088832 ∧ 8 ≠ 0) (.need (EntClosed [(false, .arr 1 (rs ++ ([.v (.int .i64 (highV x))] : List AV)) false)]) (.done (some ((.nrm, [.fn (Fn.func 125) [] [], .sl 19 0 1 0 ((rs ++ ([.v (.int .i64 (highV x))] : List AV)).length), .rsl 4 es false, .v (.int .i64 (Int.ofNat n)), .v (.int .i64 (IntKind.i64.wrap (Int.ofNat i + 1)))], [(false, .arr 1 (rs ++ ([.v (.int .i64 (highV x))] : List AV)) false)]))))))) else (.need (EntClosed [(false, .arr 1 rs false)]) (.done (some (((.exit 0), [.sl 19 0 1 0 k], [(false, .arr 1 rs false)])))))) := by kernel_rfl
set_option maxRecDepth 100000 in
theorem t123125 (es rs : List AV) : evTreeD (CS V1) 60 123 [.rsl 4 es false, (fnV 125)] [.loop 0 [1, 5, 8, 9, 10] [] [5] [] (.exit 0) [.rsl 1 rs false] []] =
    (.need (EntClosed [] ∧ EntClosed [] ∧ Says (CS V1) 0 22 false (.loop (loopOf (CS V1) 123 0)) (mkSt [1, 5, 8, 9, 10] [] 22 [.fn (Fn.func 125) [] [], .v (.slice none 0 0), .rsl 4 es false, .v (.int .i64 (Int.ofNat es.length)), .v (.int .i64 0)] []) (.exit 0) (mkSt [5] [] 22 [.rsl 1 rs false] [])) (.done (some (.rsl 1 rs false)))) := by kernel_rfl
set_option maxRecDepth 100000 in
theorem r123a127 (es : List AV) (n i : Nat) (x : Va) : roundD (CS V1) 60 0 123 0 22 22 false (loopOf (CS V1) 123 0) [1, 5, 8, 9, 10] [] [1, 5, 8, 9, 10] [19] [5] [] (mapIn (fnV 127) nilS 4 es n i) [] [.chk [vaC.enc x]] =
    (bif decide (Int.ofNat i < Int.ofNat n) then (.need (es[i]? = (some (AV.agg [.v (.int .i64 x.fst), .v (.int .i64 x.snd.fst), .v (.bool x.snd.snd.fst), .v (.bool x.snd.snd.snd)]))) (.need (EntClosed [(false, .arr 1 [.v (.int .i64 (adjV x))] false)]) (.done (some ((.nrm, [.fn (Fn.func 127) [] [], .sl 19 0 1 0 1, .rsl 4 es false, .v (.int .i64 (Int.ofNat n)), .v (.int .i64 (IntKind.i64.wrap (Int.ofNat i + 1)))], [(false, .arr 1 [.v (.int .i64 (adjV x))] false)])))))) else (.need (EntClosed []) (.done (some (((.exit 0), [.v (.slice none 0 0)], [])))))) := by kernel_rfl
set_option maxRecDepth 100000 in
theorem r123b127 (es rs : List AV) (n i k : Nat) (x : Va) : roundD (CS V1) 60 0 123 0 22 22 false (loopOf (CS V1) 123 0) [1, 5, 8, 9, 10] [19] [1, 5, 8, 9, 10] [19] [5] [19] (mapIn (fnV 127) (.sl 19 0 1 0 k) 4 es n i) [(false, .arr 1 rs false)] [.chk [vaC.enc x], .chk rs] =
    (bif decide (Int.ofNat i < Int.ofNat n) then (.need (es[i]? = (some (AV.agg [.v (.int .i64 x.fst), .v (.int .i64 x.snd.fst), .v (.bool x.snd.snd.fst), .v (.bool x.snd.snd.snd)]))) (.need (k = rs.length ∧ true = true ∧ 1 = 1 ∧ (rs ++ ([.v (.int .i64 (adjV x))] : List AV)).length * 8 ≤ 35184372088832 ∧ (rs ++ ([.v (.int .i64 (adjV x))] : List AV)).length ≤ 35184372088832 ∧ 8 ≠ 0) (.need (EntClosed [(false, .arr 1 (rs ++ ([.v (.int .i64 (adjV x))] : List AV)) false)]) (.done (some ((.nrm, [.fn (Fn.func 127) [] [], .sl 19 0 1 0 ((rs ++ ([.v (.int .i64 (adjV x))] : List AV)).length), .rsl 4 es false, .v (.int .i64 (Int.ofNat n)), .v (.int .i64 (IntKind.i64.wrap (Int.ofNat i + 1)))], [(false, .arr 1 (rs ++ ([.v (.int .i64 (adjV x))] : List AV)) false)]))))))) else (.need (EntClosed [(false, .arr 1 rs false)]) (.done (some (((.exit 0), [.sl 19 0 1 0 k], [(false, .arr 1 rs false)])))))) := by kernel_rfl
set_option maxRecDepth 100000 in
theorem t123127 (es rs : List AV) : evTreeD (CS V1) 60 123 [.rsl 4 es false, (fnV 127)] [.loop 0 [1, 5, 8, 9, 10] [] [5] [] (.exit 0) [.rsl 1 rs false] []] =
    (.need (EntClosed [] ∧ EntClosed [] ∧ Says (CS V1) 0 22 false (.loop (loopOf (CS V1) 123 0)) (mkSt [1, 5, 8, 9, 10] [] 22 [.fn (Fn.func 127) [] [], .v (.slice none 0 0), .rsl 4 es false, .v (.int .i64 (Int.ofNat es.length)), .v (.int .i64 0)] []) (.exit 0) (mkSt [5] [] 22 [.rsl 1 rs false] [])) (.done (some (.rsl 1 rs false)))) := by kernel_rfl
set_option maxRecDepth 100000 in
theorem r123a135 (es : List AV) (n i : Nat) (x : Va) : roundD (CS V1) 60 0 123 0 22 22 false (loopOf (CS V1) 123 0) [1, 5, 8, 9, 10] [] [1, 5, 8, 9, 10] [19] [5] [] (mapIn (fnV 135) nilS 4 es n i) [] [.chk [vaC.enc x]] =
    (bif decide (Int.ofNat i < Int.ofNat n) then (.need (es[i]? = (some (AV.agg [.v (.int .i64 x.fst), .v (.int .i64 x.snd.fst), .v (.bool x.snd.snd.fst), .v (.bool x.snd.snd.snd)]))) (.need (EntClosed [(false, .arr 1 [.v (.int .i64 (leastV x))] false)]) (.done (some ((.nrm, [.fn (Fn.func 135) [] [], .sl 19 0 1 0 1, .rsl 4 es false, .v (.int .i64 (Int.ofNat n)), .v (.int .i64 (IntKind.i64.wrap (Int.ofNat i + 1)))], [(false, .arr 1 [.v (.int .i64 (leastV x))] false)])))))) else (.need (EntClosed []) (.done (some (((.exit 0), [.v (.slice none 0 0)], [])))))) := by kernel_rfl
set_option maxRecDepth 100000 in
theorem r123b135 (es rs : List AV) (n i k : Nat) (x : Va) : roundD (CS V1) 60 0 123 0 22 22 false (loopOf (CS V1) 123 0) [1, 5, 8, 9, 10] [19] [1, 5, 8, 9, 10] [19] [5] [19] (mapIn (fnV 135) (.sl 19 0 1 0 k) 4 es n i) [(false, .arr 1 rs false)] [.chk [vaC.enc x], .chk rs] =
    (bif decide (Int.ofNat i < Int.ofNat n) then (.need (es[i]? = (some (AV.agg [.v (.int .i64 x.fst), .v (.int .i64 x.snd.fst), .v (.bool x.snd.snd.fst), .v (.bool x.snd.snd.snd)]))) (.need (k = rs.length ∧ true = true ∧ 1 = 1 ∧ (rs ++ ([.v (.int .i64 (leastV x))] : List AV)).length * 8 ≤ 35184372088832 ∧ (rs ++ ([.v (.int .i64 (leastV x))] : List AV)).length ≤ 35184372088832 ∧ 8 ≠ 0) (.need (EntClosed [(false, .arr 1 (rs ++ ([.v (.int .i64 (leastV x))] : List AV)) false)]) (.done (some ((.nrm, [.fn (Fn.func 135) [] [], .sl 19 0 1 0 ((rs ++ ([.v (.int .i64 (leastV x))] : List AV)).length), .rsl 4 es false, .v (.int .i64 (Int.ofNat n)), .v (.int .i64 (IntKind.i64.wrap (Int.ofNat i + 1)))], [(false, .arr 1 (rs ++ ([.v (.int .i64 (leastV x))] : List AV)) false)]))))))) else (.need (EntClosed [(false, .arr 1 rs false)]) (.done (some (((.exit 0), [.sl 19 0 1 0 k], [(false, .arr 1 rs false)])))))) := by kernel_rfl
set_option maxRecDepth 100000 in
theorem t123135 (es rs : List AV) : evTreeD (CS V1) 60 123 [.rsl 4 es false, (fnV 135)] [.loop 0 [1, 5, 8, 9, 10] [] [5] [] (.exit 0) [.rsl 1 rs false] []] =
    (.need (EntClosed [] ∧ EntClosed [] ∧ Says (CS V1) 0 22 false (.loop (loopOf (CS V1) 123 0)) (mkSt [1, 5, 8, 9, 10] [] 22 [.fn (Fn.func 135) [] [], .v (.slice none 0 0), .rsl 4 es false, .v (.int .i64 (Int.ofNat es.length)), .v (.int .i64 0)] []) (.exit 0) (mkSt [5] [] 22 [.rsl 1 rs false] [])) (.done (some (.rsl 1 rs false)))) := by kernel_rfl
set_option maxRecDepth 100000 in
theorem r123a136 (es : List AV) (n i : Nat) (x : Va) : roundD (CS V1) 60 0 123 0 22 22 false (loopOf (CS V1) 123 0) [1, 5, 8, 9, 10] [] [1, 5, 8, 9, 10] [19] [5] [] (mapIn (fnV 136) nilS 4 es n i) [] [.chk [vaC.enc x]] =
    (bif decide (Int.ofNat i < Int.ofNat n) then (.need (es[i]? = (some (AV.agg [.v (.int .i64 x.fst), .v (.int .i64 x.snd.fst), .v (.bool x.snd.snd.fst), .v (.bool x.snd.snd.snd)]))) (.need (EntClosed [(false, .arr 1 [.v (.int .i64 (mostV x))] false)]) (.done (some ((.nrm, [.fn (Fn.func 136) [] [], .sl 19 0 1 0 1, .rsl 4 es false, .v (.int .i64 (Int.ofNat n)), .v (.int .i64 (IntKind.i64.wrap (Int.ofNat i + 1)))], [(false, .arr 1 [.v (.int .i64 (mostV x))] false)])))))) else (.need (EntClosed []) (.done (some (((.exit 0), [.v (.slice none 0 0)], [])))))) := by kernel_rfl
set_option maxRecDepth 100000 in
theorem r123b136 (es rs : List AV) (n i k : Nat) (x : Va) : roundD (CS V1) 60 0 123 0 22 22 false (loopOf (CS V1) 123 0) [1, 5, 8, 9, 10] [19] [1, 5, 8, 9, 10] [19] [5] [19] (mapIn (fnV 136) (.sl 19 0 1 0 k) 4 es n i) [(false, .arr 1 rs false)] [.chk [vaC.enc x], .chk rs] =
    (bif decide (Int.ofNat i < Int.ofNat n) then (.need (es[i]? = (some (AV.agg [.v (.int .i64 x.fst), .v (.int .i64 x.snd.fst), .v (.bool x.snd.snd.fst), .v (.bool x.snd.snd.snd)]))) (.need (k = rs.length ∧ true = true ∧ 1 = 1 ∧ (rs ++ ([.v (.int .i64 (mostV x))] : List AV)).length * 8 ≤ 35184372088832 ∧ (rs ++ ([.v (.int .i64 (mostV x))] : List AV)).length ≤ 35184372088832 ∧ 8 ≠ 0) (.need (EntClosed [(false, .arr 1 (rs ++ ([.v (.int .i64 (mostV x))] : List AV)) false)]) (.done (some ((.nrm, [.fn (Fn.func 136) [] [], .sl 19 0 1 0 ((rs ++ ([.v (.int .i64 (mostV x))] : List AV)).length), .rsl 4 es false, .v (.int .i64 (Int.ofNat n)), .v (.int .i64 (IntKind.i64.wrap (Int.ofNat i + 1)))], [(false, .arr 1 (rs ++ ([.v (.int .i64 (mostV x))] : List AV)) false)]))))))) else (.need (EntClosed [(false, .arr 1 rs false)]) (.done (some (((.exit 0), [.sl 19 0 1 0 k], [(false, .arr 1 rs false)])))))) := by kernel_rfl
set_option maxRecDepth 100000 in
theorem t123136 (es rs : List AV) : evTreeD (CS V1) 60 123 [.rsl 4 es false, (fnV 136)] [.loop 0 [1, 5, 8, 9, 10] [] [5] [] (.exit 0) [.rsl 1 rs false] []] =
    (.need (EntClosed [] ∧ EntClosed [] ∧ Says (CS V1) 0 22 false (.loop (loopOf (CS V1) 123 0)) (mkSt [1, 5, 8, 9, 10] [] 22 [.fn (Fn.func 136) [] [], .v (.slice none 0 0), .rsl 4 es false, .v (.int .i64 (Int.ofNat es.length)), .v (.int .i64 0)] []) (.exit 0) (mkSt [5] [] 22 [.rsl 1 rs false] [])) (.done (some (.rsl 1 rs false)))) := by kernel_rfl
set_option maxRecDepth 100000 in
theorem r133a (es : List AV) (n i : Nat) (x : Va) : roundD (CS V1) 60 0 133 0 22 22 false (loopOf (CS V1) 133 0) [1, 5, 8, 9, 10] [] [1, 5, 8, 9, 10] [19] [5] [] (mapIn (fnV 134) nilS 4 es n i) [] [.chk [vaC.enc x]] =
    (bif decide (Int.ofNat i < Int.ofNat n) then (.need (es[i]? = (some (AV.agg [.v (.int .i64 x.fst), .v (.int .i64 x.snd.fst), .v (.bool x.snd.snd.fst), .v (.bool x.snd.snd.snd)]))) (.need (EntClosed [(false, .arr 1 [.v (.int .i64 (vchk x))] false)]) (.done (some ((.nrm, [.fn (Fn.func 134) [] [], .sl 19 0 1 0 1, .rsl 4 es false, .v (.int .i64 (Int.ofNat n)), .v (.int .i64 (IntKind.i64.wrap (Int.ofNat i + 1)))], [(false, .arr 1 [.v (.int .i64 (vchk x))] false)])))))) else (.need (EntClosed []) (.done (some (((.exit 0), [.v (.slice none 0 0)], [])))))) := by kernel_rfl
set_option maxRecDepth 100000 in
theorem r133b (es rs : List AV) (n i k : Nat) (x : Va) : roundD (CS V1) 60 0 133 0 22 22 false (loopOf (CS V1) 133 0) [1, 5, 8, 9, 10] [19] [1, 5, 8, 9, 10] [19] [5] [19] (mapIn (fnV 134) (.sl 19 0 1 0 k) 4 es n i) [(false, .arr 1 rs false)] [.chk [vaC.enc x], .chk rs] =
    (bif decide (Int.ofNat i < Int.ofNat n) then (.need (es[i]? = (some (AV.agg [.v (.int .i64 x.fst), .v (.int .i64 x.snd.fst), .v (.bool x.snd.snd.fst), .v (.bool x.snd.snd.snd)]))) (.need (k = rs.length ∧ true = true ∧ 1 = 1 ∧ (rs ++ ([.v (.int .i64 (vchk x))] : List AV)).length * 8 ≤ 35184372088832 ∧ (rs ++ ([.v (.int .i64 (vchk x))] : List AV)).length ≤ 35184372088832 ∧ 8 ≠ 0) (.need (EntClosed [(false, .arr 1 (rs ++ ([.v (.int .i64 (vchk x))] : List AV)) false)]) (.done (some ((.nrm, [.fn (Fn.func 134) [] [], .sl 19 0 1 0 ((rs ++ ([.v (.int .i64 (vchk x))] : List AV)).length), .rsl 4 es false, .v (.int .i64 (Int.ofNat n)), .v (.int .i64 (IntKind.i64.wrap (Int.ofNat i + 1)))], [(false, .arr 1 (rs ++ ([.v (.int .i64 (vchk x))] : List AV)) false)]))))))) else (.need (EntClosed [(false, .arr 1 rs false)]) (.done (some (((.exit 0), [.sl 19 0 1 0 k], [(false, .arr 1 rs false)])))))) := by kernel_rfl
set_option maxRecDepth 100000 in
theorem t133 (es rs : List AV) : evTreeD (CS V1) 60 133 [.rsl 4 es false, (fnV 134)] [.loop 0 [1, 5, 8, 9, 10] [] [5] [] (.exit 0) [.rsl 1 rs false] []] =
    (.need (EntClosed [] ∧ EntClosed [] ∧ Says (CS V1) 0 22 false (.loop (loopOf (CS V1) 133 0)) (mkSt [1, 5, 8, 9, 10] [] 22 [.fn (Fn.func 134) [] [], .v (.slice none 0 0), .rsl 4 es false, .v (.int .i64 (Int.ofNat es.length)), .v (.int .i64 0)] []) (.exit 0) (mkSt [5] [] 22 [.rsl 1 rs false] [])) (.done (some (.rsl 1 rs false)))) := by kernel_rfl
set_option maxRecDepth 100000 in
theorem r163x122 (es : List AV) (n i : Nat) (x : Va) : roundD (CS V1) 60 0 163 0 19 19 false (loopOf (CS V1) 163 0) [0, 1, 7, 8] [] [0, 1, 7, 8] [] [4] [] [.rsl 4 es false, fnV 122, intA (Int.ofNat n), intA (Int.ofNat i)] [] [.chk [vaC.enc x]] =
    (bif decide (Int.ofNat i < Int.ofNat n) then (.need (es[i]? = (some (AV.agg [.v (.int .i64 x.fst), .v (.int .i64 x.snd.fst), .v (.bool x.snd.snd.fst), .v (.bool x.snd.snd.snd)]))) (bif underV x then (.need (EntClosed []) (.done (some ((.ret, [.v (.int .i64 (Int.ofNat i))], []))))) else (.need (EntClosed []) (.done (some ((.nrm, [.rsl 4 es false, .fn (Fn.func 122) [] [], .v (.int .i64 (Int.ofNat n)), .v (.int .i64 (IntKind.i64.wrap (Int.ofNat i + 1)))], []))))))) else (.need (EntClosed []) (.done (some (((.exit 0), [.bad], [])))))) := by kernel_rfl
set_option maxRecDepth 100000 in
theorem t163r122 (es : List AV) (m : Int) : evTreeD (CS V1) 60 163 [.rsl 4 es false, fnV 122] [.loop 0 [0, 1, 7, 8] [] [4] [] .ret [intA m] []] =
    (.need (EntClosed [] ∧ EntClosed [] ∧ Says (CS V1) 0 19 false (.loop (loopOf (CS V1) 163 0)) (mkSt [0, 1, 7, 8] [] 19 [.rsl 4 es false, .fn (Fn.func 122) [] [], .v (.int .i64 (Int.ofNat es.length)), .v (.int .i64 0)] []) .ret (mkSt [4] [] 19 [.v (.int .i64 m)] [])) (.done (some (.v (.int .i64 m))))) := by kernel_rfl
set_option maxRecDepth 100000 in
theorem t163e122 (es : List AV) : evTreeD (CS V1) 60 163 [.rsl 4 es false, fnV 122] [.loop 0 [0, 1, 7, 8] [] [4] [] (.exit 0) [.bad] []] =
    (.need (EntClosed [] ∧ EntClosed [] ∧ Says (CS V1) 0 19 false (.loop (loopOf (CS V1) 163 0)) (mkSt [0, 1, 7, 8] [] 19 [.rsl 4 es false, .fn (Fn.func 122) [] [], .v (.int .i64 (Int.ofNat es.length)), .v (.int .i64 0)] []) (.exit 0) (mkSt [4] [] 19 [.bad] [])) (.done (some (.v (.int .i64 (-1)))))) := by kernel_rfl
set_option maxRecDepth 100000 in
theorem r163x126 (es : List AV) (n i : Nat) (x : Va) : roundD (CS V1) 60 0 163 0 19 19 false (loopOf (CS V1) 163 0) [0, 1, 7, 8] [] [0, 1, 7, 8] [] [4] [] [.rsl 4 es false, fnV 126, intA (Int.ofNat n), intA (Int.ofNat i)] [] [.chk [vaC.enc x]] =
    (bif decide (Int.ofNat i < Int.ofNat n) then (.need (es[i]? = (some (AV.agg [.v (.int .i64 x.fst), .v (.int .i64 x.snd.fst), .v (.bool x.snd.snd.fst), .v (.bool x.snd.snd.snd)]))) (bif overV x then (.need (EntClosed []) (.done (some ((.ret, [.v (.int .i64 (Int.ofNat i))], []))))) else (.need (EntClosed []) (.done (some ((.nrm, [.rsl 4 es false, .fn (Fn.func 126) [] [], .v (.int .i64 (Int.ofNat n)), .v (.int .i64 (IntKind.i64.wrap (Int.ofNat i + 1)))], []))))))) else (.need (EntClosed []) (.done (some (((.exit 0), [.bad], [])))))) := by kernel_rfl
set_option maxRecDepth 100000 in
theorem t163r126 (es : List AV) (m : Int) : evTreeD (CS V1) 60 163 [.rsl 4 es false, fnV 126] [.loop 0 [0, 1, 7, 8] [] [4] [] .ret [intA m] []] =
    (.need (EntClosed [] ∧ EntClosed [] ∧ Says (CS V1) 0 19 false (.loop (loopOf (CS V1) 163 0)) (mkSt [0, 1, 7, 8] [] 19 [.rsl 4 es false, .fn (Fn.func 126) [] [], .v (.int .i64 (Int.ofNat es.length)), .v (.int .i64 0)] []) .ret (mkSt [4] [] 19 [.v (.int .i64 m)] [])) (.done (some (.v (.int .i64 m))))) := by kernel_rfl
set_option maxRecDepth 100000 in
theorem t163e126 (es : List AV) : evTreeD (CS V1) 60 163 [.rsl 4 es false, fnV 126] [.loop 0 [0, 1, 7, 8] [] [4] [] (.exit 0) [.bad] []] =
    (.need (EntClosed [] ∧ EntClosed [] ∧ Says (CS V1) 0 19 false (.loop (loopOf (CS V1) 163 0)) (mkSt [0, 1, 7, 8] [] 19 [.rsl 4 es false, .fn (Fn.func 126) [] [], .v (.int .i64 (Int.ofNat es.length)), .v (.int .i64 0)] []) (.exit 0) (mkSt [4] [] 19 [.bad] [])) (.done (some (.v (.int .i64 (-1)))))) := by kernel_rfl
set_option maxRecDepth 100000 in
theorem r163x137 (es : List AV) (n i : Nat) (x : Va) : roundD (CS V1) 60 0 163 0 19 19 false (loopOf (CS V1) 163 0) [0, 1, 7, 8] [] [0, 1, 7, 8] [] [4] [] [.rsl 4 es false, fnV 137, intA (Int.ofNat n), intA (Int.ofNat i)] [] [.chk [vaC.enc x]] =
    (bif decide (Int.ofNat i < Int.ofNat n) then (.need (es[i]? = (some (AV.agg [.v (.int .i64 x.fst), .v (.int .i64 x.snd.fst), .v (.bool x.snd.snd.fst), .v (.bool x.snd.snd.snd)]))) (bif anyV x then (.need (EntClosed []) (.done (some ((.ret, [.v (.int .i64 (Int.ofNat i))], []))))) else (.need (EntClosed []) (.done (some ((.nrm, [.rsl 4 es false, .fn (Fn.func 137) [] [], .v (.int .i64 (Int.ofNat n)), .v (.int .i64 (IntKind.i64.wrap (Int.ofNat i + 1)))], []))))))) else (.need (EntClosed []) (.done (some (((.exit 0), [.bad], [])))))) := by kernel_rfl
set_option maxRecDepth 100000 in
theorem t163r137 (es : List AV) (m : Int) : evTreeD (CS V1) 60 163 [.rsl 4 es false, fnV 137] [.loop 0 [0, 1, 7, 8] [] [4] [] .ret [intA m] []] =
    (.need (EntClosed [] ∧ EntClosed [] ∧ Says (CS V1) 0 19 false (.loop (loopOf (CS V1) 163 0)) (mkSt [0, 1, 7, 8] [] 19 [.rsl 4 es false, .fn (Fn.func 137) [] [], .v (.int .i64 (Int.ofNat es.length)), .v (.int .i64 0)] []) .ret (mkSt [4] [] 19 [.v (.int .i64 m)] [])) (.done (some (.v (.int .i64 m))))) := by kernel_rfl
set_option maxRecDepth 100000 in
theorem t163e137 (es : List AV) : evTreeD (CS V1) 60 163 [.rsl 4 es false, fnV 137] [.loop 0 [0, 1, 7, 8] [] [4] [] (.exit 0) [.bad] []] =
    (.need (EntClosed [] ∧ EntClosed [] ∧ Says (CS V1) 0 19 false (.loop (loopOf (CS V1) 163 0)) (mkSt [0, 1, 7, 8] [] 19 [.rsl 4 es false, .fn (Fn.func 137) [] [], .v (.int .i64 (Int.ofNat es.length)), .v (.int .i64 0)] []) (.exit 0) (mkSt [4] [] 19 [.bad] [])) (.done (some (.v (.int .i64 (-1)))))) := by kernel_rfl
/-- Specifications side by side: one function, called with one or another function. -/
def orG (G1 G2 : List AV → Option AV) : List AV → Option AV := fun l => match G1 l with
  | some r => some r
  | none => G2 l
theorem holds_or {f : FuncId} {G1 G2 : List AV → Option AV} (h1 : Holds f G1) (h2 : Holds f G2) : Holds f (orG G1 G2) := fun l r hr => by
  unfold orG at hr
  cases hg : G1 l with
  | some x => rw [hg] at hr; simp only [Option.some.injEq] at hr; subst hr; exact h1 l x hg
  | none => rw [hg] at hr; exact h2 l r hr
theorem or_l {G1 G2 : List AV → Option AV} {l : List AV} {r : AV} (h : G1 l = some r) : orG G1 G2 l = some r := by unfold orG; rw [h]
theorem or_r {G1 G2 : List AV → Option AV} {l : List AV} {r : AV} (h0 : G1 l = none) (h : G2 l = some r) : orG G1 G2 l = some r := by unfold orG; rw [h0]; exact h
theorem fn_ne {α : Type} {A : Cod α} {f g : FuncId} {F : α → Unit → Option AV} {a : AV} (h : Nat.beq g f = false) : sp2 A (fnC f) F [a, fnV g] = none := by
  have hd : (fnC f).dec (fnV g) = none := by
    show (bif isFn f (fnV g) then some () else none) = none
    rw [show isFn f (fnV g) = Nat.beq g f from rfl, h]; rfl
  simp only [sp2, hd]
  cases A.dec a <;> rfl
def mV (f : FuncId) (g : Va → Int) : List AV → Option AV := mapG vaC 4 intC 1 f g
theorem h123_124 : Holds 123 (mV 124 lowV) := mapG_holds fun l hl => mapped_ok (A := vaC) (B := intC) (g := lowV) (fv := fnV 124) (szb := 1) (bb := 8) V1_ok (0, 0, false, false) (fun _ => rfl) ⟨by omega, by omega⟩ r123a124 r123b124 t123124 l hl
theorem h123_125 : Holds 123 (mV 125 highV) := mapG_holds fun l hl => mapped_ok (A := vaC) (B := intC) (g := highV) (fv := fnV 125) (szb := 1) (bb := 8) V1_ok (0, 0, false, false) (fun _ => rfl) ⟨by omega, by omega⟩ r123a125 r123b125 t123125 l hl
theorem h123_127 : Holds 123 (mV 127 adjV) := mapG_holds fun l hl => mapped_ok (A := vaC) (B := intC) (g := adjV) (fv := fnV 127) (szb := 1) (bb := 8) V1_ok (0, 0, false, false) (fun _ => rfl) ⟨by omega, by omega⟩ r123a127 r123b127 t123127 l hl
theorem h123_135 : Holds 123 (mV 135 leastV) := mapG_holds fun l hl => mapped_ok (A := vaC) (B := intC) (g := leastV) (fv := fnV 135) (szb := 1) (bb := 8) V1_ok (0, 0, false, false) (fun _ => rfl) ⟨by omega, by omega⟩ r123a135 r123b135 t123135 l hl
theorem h123_136 : Holds 123 (mV 136 mostV) := mapG_holds fun l hl => mapped_ok (A := vaC) (B := intC) (g := mostV) (fv := fnV 136) (szb := 1) (bb := 8) V1_ok (0, 0, false, false) (fun _ => rfl) ⟨by omega, by omega⟩ r123a136 r123b136 t123136 l hl
def m123G : List AV → Option AV := orG (mV 124 lowV) (orG (mV 125 highV) (orG (mV 127 adjV) (orG (mV 135 leastV) (mV 136 mostV))))
theorem h123 : Holds 123 m123G := holds_or h123_124 (holds_or h123_125 (holds_or h123_127 (holds_or h123_135 h123_136)))
theorem specMV {f : FuncId} {g : Va → Int} {l : List Va} (h : Nat.ble l.length lim = true) : mV f g [slA vaC 4 l, fnV f] = some (slA intC 1 (l.map g)) := by
  have h1 := sp2_at (A := vasC) (B := fnC f) (F := fun l _ => bif Nat.ble l.length lim then some (slA intC 1 (l.map g)) else none) l ()
  rw [h] at h1; exact h1
theorem s124 {l : List Va} (h : Nat.ble l.length lim = true) : m123G [slA vaC 4 l, fnV 124] = some (slA intC 1 (l.map lowV)) := or_l (specMV h)
theorem s125 {l : List Va} (h : Nat.ble l.length lim = true) : m123G [slA vaC 4 l, fnV 125] = some (slA intC 1 (l.map highV)) := or_r (fn_ne rfl) (or_l (specMV h))
theorem s127 {l : List Va} (h : Nat.ble l.length lim = true) : m123G [slA vaC 4 l, fnV 127] = some (slA intC 1 (l.map adjV)) := or_r (fn_ne rfl) (or_r (fn_ne rfl) (or_l (specMV h)))
theorem s135 {l : List Va} (h : Nat.ble l.length lim = true) : m123G [slA vaC 4 l, fnV 135] = some (slA intC 1 (l.map leastV)) := or_r (fn_ne rfl) (or_r (fn_ne rfl) (or_r (fn_ne rfl) (or_l (specMV h))))
theorem s136 {l : List Va} (h : Nat.ble l.length lim = true) : m123G [slA vaC 4 l, fnV 136] = some (slA intC 1 (l.map mostV)) := or_r (fn_ne rfl) (or_r (fn_ne rfl) (or_r (fn_ne rfl) (or_r (fn_ne rfl) (specMV h))))
theorem h133 : Holds 133 (mV 134 vchk) := mapG_holds fun l hl => mapped_ok (A := vaC) (B := intC) (g := vchk) (fv := fnV 134) (szb := 1) (bb := 8) V1_ok (0, 0, false, false) (fun _ => rfl) ⟨by omega, by omega⟩ r133a r133b t133 l hl
/-! ### Where a mark is -/
def idxF (p : Va → Bool) (i : Nat) (x : Va) : Option Int := bif p x then some (Int.ofNat i) else none
def idxM (p : Va → Bool) (l : List Va) : Int := (srch (idxF p) 0 l).getD (-1)
theorem idx_any (p : Va → Bool) : ∀ (l : List Va) (i : Nat), decide ((srch (idxF p) i l).getD (-1) ≥ 0) = l.any p
  | [], _ => rfl
  | x :: r, i => by
    unfold srch
    rw [List.any_cons]
    cases h : p x with
    | true => rw [show idxF p i x = some (Int.ofNat i) by unfold idxF; rw [h]; rfl]; simp
    | false => rw [show idxF p i x = none by unfold idxF; rw [h]; rfl]; exact idx_any p r (i + 1)
def iV (f : FuncId) (p : Va → Bool) : List AV → Option AV := sp2 vasC (fnC f) fun l _ => bif Nat.ble l.length lim then some (intA (idxM p l)) else none
theorem idx_ok {f : FuncId} {p : Va → Bool}
    (r1 : ∀ (es : List AV) (n i : Nat) (x : Va), roundD (CS V1) 60 0 163 0 19 19 false (loopOf (CS V1) 163 0) [0, 1, 7, 8] [] [0, 1, 7, 8] [] [4] [] [.rsl 4 es false, fnV f, intA (Int.ofNat n), intA (Int.ofNat i)] [] [.chk [vaC.enc x]] =
      (bif decide (Int.ofNat i < Int.ofNat n) then (.need (es[i]? = some (vaC.enc x)) (bif p x then (.need (EntClosed []) (.done (some (.ret, [intA (Int.ofNat i)], [])))) else (.need (EntClosed []) (.done (some (.nrm, [.rsl 4 es false, fnV f, intA (Int.ofNat n), intA (IntKind.i64.wrap (Int.ofNat i + 1))], [])))))) else (.need (EntClosed []) (.done (some (.exit 0, [.bad], []))))))
    (tr : ∀ (es : List AV) (m : Int), evTreeD (CS V1) 60 163 [.rsl 4 es false, fnV f] [.loop 0 [0, 1, 7, 8] [] [4] [] .ret [intA m] []] = (.need (EntClosed [] ∧ EntClosed [] ∧ Says (CS V1) 0 19 false (.loop (loopOf (CS V1) 163 0)) (mkSt [0, 1, 7, 8] [] 19 [.rsl 4 es false, fnV f, intA (Int.ofNat es.length), intA 0] []) .ret (mkSt [4] [] 19 [intA m] [])) (.done (some (intA m)))))
    (te : ∀ (es : List AV), evTreeD (CS V1) 60 163 [.rsl 4 es false, fnV f] [.loop 0 [0, 1, 7, 8] [] [4] [] (.exit 0) [.bad] []] = (.need (EntClosed [] ∧ EntClosed [] ∧ Says (CS V1) 0 19 false (.loop (loopOf (CS V1) 163 0)) (mkSt [0, 1, 7, 8] [] 19 [.rsl 4 es false, fnV f, intA (Int.ofNat es.length), intA 0] []) (.exit 0) (mkSt [4] [] 19 [.bad] [])) (.done (some (intA (-1)))))) :
    Holds 163 (iV f p) := holds2 fun l _ r hr => by
  cases hb : Nat.ble l.length lim with
  | false => simp [hb] at hr
  | true =>
    simp only [hb, cond_true, Option.some.injEq] at hr; subst hr
    have hl := limTwo (Nat.le_of_ble_eq_true hb)
    have e := e_len' vaC l
    have h := LoopRun.find (C := CS V1) (p := 0) (nt := 19) (rd := false) (c := loopOf (CS V1) 163 0) (idxF p) (fun i => mkSt [0, 1, 7, 8] [] 19 [.rsl 4 (l.map vaC.enc) false, fnV f, intA (Int.ofNat l.length), intA (Int.ofNat i)] [])
      (fun t => mkSt [4] [] 19 [intA t] []) (mkSt [4] [] 19 [.bad] []) (.exit 0) (fun _ => .ret) l (by simp) (by simp)
      (fun i x hx => by
        have hi := lt_len hx
        have hr := r1 (l.map vaC.enc) l.length i x
        rw [lt_of hi, wrap_ix hi hl] at hr
        unfold idxF
        cases h : p x with
        | true => rw [h] at hr; exact V1_ok.rndR hr ⟨get_map _ hx, trivial, rfl⟩
        | false => rw [h] at hr; exact V1_ok.rndN hr ⟨get_map _ hx, trivial, rfl⟩)
      (V1_ok.rndX (r1 (l.map vaC.enc) l.length l.length (0, 0, false, false)) (by rw [lt_self]; exact ⟨trivial, rfl⟩))
    unfold idxM
    cases hq : srch (idxF p) 0 l with
    | some t => rw [hq] at h; exact V1_ok.tr (tr (l.map vaC.enc) t) ⟨⟨trivial, trivial, by rw [e]; exact h.says⟩, rfl⟩
    | none => rw [hq] at h; exact V1_ok.tr (te (l.map vaC.enc)) ⟨⟨trivial, trivial, by rw [e]; exact h.says⟩, rfl⟩
theorem h163_122 : Holds 163 (iV 122 underV) := idx_ok r163x122 t163r122 t163e122
theorem h163_126 : Holds 163 (iV 126 overV) := idx_ok r163x126 t163r126 t163e126
theorem h163_137 : Holds 163 (iV 137 anyV) := idx_ok r163x137 t163r137 t163e137
def i163G : List AV → Option AV := orG (iV 122 underV) (orG (iV 126 overV) (iV 137 anyV))
theorem h163 : Holds 163 i163G := holds_or h163_122 (holds_or h163_126 h163_137)
theorem specIV {f : FuncId} {p : Va → Bool} {l : List Va} (h : Nat.ble l.length lim = true) : iV f p [slA vaC 4 l, fnV f] = some (intA (idxM p l)) := by
  have h1 := sp2_at (A := vasC) (B := fnC f) (F := fun l _ => bif Nat.ble l.length lim then some (intA (idxM p l)) else none) l ()
  rw [h] at h1; exact h1
theorem i122 {l : List Va} (h : Nat.ble l.length lim = true) : i163G [slA vaC 4 l, fnV 122] = some (intA (idxM underV l)) := or_l (specIV h)
theorem i126 {l : List Va} (h : Nat.ble l.length lim = true) : i163G [slA vaC 4 l, fnV 126] = some (intA (idxM overV l)) := or_r (fn_ne rfl) (or_l (specIV h))
theorem i137 {l : List Va} (h : Nat.ble l.length lim = true) : i163G [slA vaC 4 l, fnV 137] = some (intA (idxM anyV l)) := or_r (fn_ne rfl) (or_r (fn_ne rfl) (specIV h))
def V2 : Specs := ((V1.set 123 m123G).set 133 (mV 134 vchk)).set 163 i163G
theorem V2_ok : Ok V2 := ((V1_ok.set h123).set h133).set h163
end Go.Vm.S6
