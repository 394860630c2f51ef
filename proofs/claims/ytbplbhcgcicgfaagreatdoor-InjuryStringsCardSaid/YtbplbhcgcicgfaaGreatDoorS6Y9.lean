/- Strings: the reference's Parse. -/
import Derived.Test.YtbplbhcgcicgfaaGreatDoorS6YC
namespace Go.Vm.S6
open Go.Proofs Go.RowKit
set_option maxRecDepth 100000 in
theorem r87Ga (ls : List AV) (m i : Nat) (w w0 w1 w2 w3 : ByteArray) (a b c : Int) : roundD (CS Z3) 60 0 87 0 98 98 false (loopOf (CS Z3) 87 0) [5, 6, 7, 8] [] [5, 6, 7, 8] [84] [5, 6, 7] [] [.rsl 1 ls false, intA (Int.ofNat m), nilS, intA (Int.ofNat i)] [] [.as 27 true, .chk [strA w], .sp [strA w, u8A 32] (.rsl 1 [strA w0, strA w1, strA w2, strA w3] false), .chk [strA w0], .as 43 false, .chk [strA w1], .sp [strA w1] (.tup [intA a, boolA true]), .chk [strA w2], .sp [strA w2] (.tup [intA b, boolA true]), .chk [strA w3], .sp [strA w3] (.tup [intA c, boolA true])] =
    (.need ((decide (Int.ofNat i < Int.ofNat m)) = true) (.need (ls[i]? = (some (AV.v (.string w)))) (.need (([.v (.string w), .v (.int .u8 32)] : List AV) = ([.v (.string w), .v (.int .u8 32)] : List AV) ∧ (Cx.spec (CS Z3) 91 ([.v (.string w), .v (.int .u8 32)] : List AV)) = (some (AV.rsl 1 [.v (.string w0), .v (.string w1), .v (.string w2), .v (.string w3)] false))) (.need (([.v (.string w0), .v (.string w1), .v (.string w2), .v (.string w3)] : List AV)[0]? = (some (AV.v (.string w0)))) (.need ((!(w0.toList == (ByteArray.mk #[115, 116, 101, 112]).toList)) = false) (.need (([.v (.string w0), .v (.string w1), .v (.string w2), .v (.string w3)] : List AV)[1]? = (some (AV.v (.string w1)))) (.need (([.v (.string w1)] : List AV) = ([.v (.string w1)] : List AV) ∧ (Cx.spec (CS Z3) 156 ([.v (.string w1)] : List AV)) = (some (AV.tup [intA a, boolA true]))) (.need (([.v (.string w0), .v (.string w1), .v (.string w2), .v (.string w3)] : List AV)[2]? = (some (AV.v (.string w2)))) (.need (([.v (.string w2)] : List AV) = ([.v (.string w2)] : List AV) ∧ (Cx.spec (CS Z3) 156 ([.v (.string w2)] : List AV)) = (some (AV.tup [intA b, boolA true]))) (.need (([.v (.string w0), .v (.string w1), .v (.string w2), .v (.string w3)] : List AV)[3]? = (some (AV.v (.string w3)))) (.need (([.v (.string w3)] : List AV) = ([.v (.string w3)] : List AV) ∧ (Cx.spec (CS Z3) 156 ([.v (.string w3)] : List AV)) = (some (AV.tup [intA c, boolA true]))) (.need (EntClosed [(false, .arr 3 [.agg [intA a, intA b, intA c]] false)]) (.done (some ((.nrm, [.rsl 1 ls false, intA (Int.ofNat m), .sl 84 0 3 0 1, intA (IntKind.i64.wrap (Int.ofNat i + 1))], [(false, .arr 3 [.agg [intA a, intA b, intA c]] false)])))))))))))))))) := by kernel_rfl
set_option maxRecDepth 100000 in
theorem r87Xa (ls : List AV) (m i : Nat) : roundD (CS Z3) 60 0 87 0 98 98 false (loopOf (CS Z3) 87 0) [5, 6, 7, 8] [] [5, 6, 7, 8] [] [5, 6, 7] [] [.rsl 1 ls false, intA (Int.ofNat m), nilS, intA (Int.ofNat i)] [] [.as 27 false] =
    (.need ((decide (Int.ofNat i < Int.ofNat m)) = false) (.need (EntClosed []) (.done (some (((.exit 0), [.rsl 1 ls false, intA (Int.ofNat m), .v (.slice none 0 0)], [])))))) := by kernel_rfl
set_option maxRecDepth 100000 in
theorem r87Na (ls : List AV) (m i : Nat) (ws : List AV) (w : ByteArray) : roundD (CS Z3) 60 0 87 0 98 98 false (loopOf (CS Z3) 87 0) [5, 6, 7, 8] [] [5, 6, 7, 8] [] [2, 3, 4] [] [.rsl 1 ls false, intA (Int.ofNat m), nilS, intA (Int.ofNat i)] [] [.as 27 true, .chk [strA w], .sp [strA w, u8A 32] (.rsl 1 ws false), .as 38 true] =
    (.need ((decide (Int.ofNat i < Int.ofNat m)) = true) (.need (ls[i]? = (some (AV.v (.string w)))) (.need (([.v (.string w), .v (.int .u8 32)] : List AV) = ([.v (.string w), .v (.int .u8 32)] : List AV) ∧ (Cx.spec (CS Z3) 91 ([.v (.string w), .v (.int .u8 32)] : List AV)) = (some (AV.rsl 1 ws false))) (.need ((Int.ofNat ws.length != 4) = true) (.need (EntClosed []) (.done (some ((.ret, [.v (.slice none 0 0), intA (Int.ofNat i), intA 25], []))))))))) := by kernel_rfl
set_option maxRecDepth 100000 in
theorem r87Wa (ls : List AV) (m i : Nat) (w w0 w1 w2 w3 : ByteArray) : roundD (CS Z3) 60 0 87 0 98 98 false (loopOf (CS Z3) 87 0) [5, 6, 7, 8] [] [5, 6, 7, 8] [] [2, 3, 4] [] [.rsl 1 ls false, intA (Int.ofNat m), nilS, intA (Int.ofNat i)] [] [.as 27 true, .chk [strA w], .sp [strA w, u8A 32] (.rsl 1 [strA w0, strA w1, strA w2, strA w3] false), .chk [strA w0], .as 43 true] =
    (.need ((decide (Int.ofNat i < Int.ofNat m)) = true) (.need (ls[i]? = (some (AV.v (.string w)))) (.need (([.v (.string w), .v (.int .u8 32)] : List AV) = ([.v (.string w), .v (.int .u8 32)] : List AV) ∧ (Cx.spec (CS Z3) 91 ([.v (.string w), .v (.int .u8 32)] : List AV)) = (some (AV.rsl 1 [.v (.string w0), .v (.string w1), .v (.string w2), .v (.string w3)] false))) (.need (([.v (.string w0), .v (.string w1), .v (.string w2), .v (.string w3)] : List AV)[0]? = (some (AV.v (.string w0)))) (.need ((!(w0.toList == (ByteArray.mk #[115, 116, 101, 112]).toList)) = true) (.need (EntClosed []) (.done (some ((.ret, [.v (.slice none 0 0), intA (Int.ofNat i), intA 25], [])))))))))) := by kernel_rfl
set_option maxRecDepth 100000 in
theorem r87B1a (ls : List AV) (m i : Nat) (w w0 w1 w2 w3 : ByteArray) (a b c : Int) (q p : Bool) : roundD (CS Z3) 60 0 87 0 98 98 false (loopOf (CS Z3) 87 0) [5, 6, 7, 8] [] [5, 6, 7, 8] [] [2, 3, 4] [] [.rsl 1 ls false, intA (Int.ofNat m), nilS, intA (Int.ofNat i)] [] [.as 27 true, .chk [strA w], .sp [strA w, u8A 32] (.rsl 1 [strA w0, strA w1, strA w2, strA w3] false), .chk [strA w0], .as 43 false, .chk [strA w1], .sp [strA w1] (.tup [intA a, boolA false]), .chk [strA w2], .sp [strA w2] (.tup [intA b, boolA q]), .chk [strA w3], .sp [strA w3] (.tup [intA c, boolA p])] =
    (.need ((decide (Int.ofNat i < Int.ofNat m)) = true) (.need (ls[i]? = (some (AV.v (.string w)))) (.need (([.v (.string w), .v (.int .u8 32)] : List AV) = ([.v (.string w), .v (.int .u8 32)] : List AV) ∧ (Cx.spec (CS Z3) 91 ([.v (.string w), .v (.int .u8 32)] : List AV)) = (some (AV.rsl 1 [.v (.string w0), .v (.string w1), .v (.string w2), .v (.string w3)] false))) (.need (([.v (.string w0), .v (.string w1), .v (.string w2), .v (.string w3)] : List AV)[0]? = (some (AV.v (.string w0)))) (.need ((!(w0.toList == (ByteArray.mk #[115, 116, 101, 112]).toList)) = false) (.need (([.v (.string w0), .v (.string w1), .v (.string w2), .v (.string w3)] : List AV)[1]? = (some (AV.v (.string w1)))) (.need (([.v (.string w1)] : List AV) = ([.v (.string w1)] : List AV) ∧ (Cx.spec (CS Z3) 156 ([.v (.string w1)] : List AV)) = (some (AV.tup [intA a, boolA false]))) (.need (([.v (.string w0), .v (.string w1), .v (.string w2), .v (.string w3)] : List AV)[2]? = (some (AV.v (.string w2)))) (.need (([.v (.string w2)] : List AV) = ([.v (.string w2)] : List AV) ∧ (Cx.spec (CS Z3) 156 ([.v (.string w2)] : List AV)) = (some (AV.tup [intA b, boolA q]))) (.need (([.v (.string w0), .v (.string w1), .v (.string w2), .v (.string w3)] : List AV)[3]? = (some (AV.v (.string w3)))) (.need (([.v (.string w3)] : List AV) = ([.v (.string w3)] : List AV) ∧ (Cx.spec (CS Z3) 156 ([.v (.string w3)] : List AV)) = (some (AV.tup [intA c, boolA p]))) (.need (EntClosed []) (.done (some ((.ret, [.v (.slice none 0 0), intA (Int.ofNat i), intA 25], [])))))))))))))))) := by kernel_rfl
set_option maxRecDepth 100000 in
theorem r87B2a (ls : List AV) (m i : Nat) (w w0 w1 w2 w3 : ByteArray) (a b c : Int) (q p : Bool) : roundD (CS Z3) 60 0 87 0 98 98 false (loopOf (CS Z3) 87 0) [5, 6, 7, 8] [] [5, 6, 7, 8] [] [2, 3, 4] [] [.rsl 1 ls false, intA (Int.ofNat m), nilS, intA (Int.ofNat i)] [] [.as 27 true, .chk [strA w], .sp [strA w, u8A 32] (.rsl 1 [strA w0, strA w1, strA w2, strA w3] false), .chk [strA w0], .as 43 false, .chk [strA w1], .sp [strA w1] (.tup [intA a, boolA true]), .chk [strA w2], .sp [strA w2] (.tup [intA b, boolA false]), .chk [strA w3], .sp [strA w3] (.tup [intA c, boolA p])] =
    (.need ((decide (Int.ofNat i < Int.ofNat m)) = true) (.need (ls[i]? = (some (AV.v (.string w)))) (.need (([.v (.string w), .v (.int .u8 32)] : List AV) = ([.v (.string w), .v (.int .u8 32)] : List AV) ∧ (Cx.spec (CS Z3) 91 ([.v (.string w), .v (.int .u8 32)] : List AV)) = (some (AV.rsl 1 [.v (.string w0), .v (.string w1), .v (.string w2), .v (.string w3)] false))) (.need (([.v (.string w0), .v (.string w1), .v (.string w2), .v (.string w3)] : List AV)[0]? = (some (AV.v (.string w0)))) (.need ((!(w0.toList == (ByteArray.mk #[115, 116, 101, 112]).toList)) = false) (.need (([.v (.string w0), .v (.string w1), .v (.string w2), .v (.string w3)] : List AV)[1]? = (some (AV.v (.string w1)))) (.need (([.v (.string w1)] : List AV) = ([.v (.string w1)] : List AV) ∧ (Cx.spec (CS Z3) 156 ([.v (.string w1)] : List AV)) = (some (AV.tup [intA a, boolA true]))) (.need (([.v (.string w0), .v (.string w1), .v (.string w2), .v (.string w3)] : List AV)[2]? = (some (AV.v (.string w2)))) (.need (([.v (.string w2)] : List AV) = ([.v (.string w2)] : List AV) ∧ (Cx.spec (CS Z3) 156 ([.v (.string w2)] : List AV)) = (some (AV.tup [intA b, boolA false]))) (.need (([.v (.string w0), .v (.string w1), .v (.string w2), .v (.string w3)] : List AV)[3]? = (some (AV.v (.string w3)))) (.need (([.v (.string w3)] : List AV) = ([.v (.string w3)] : List AV) ∧ (Cx.spec (CS Z3) 156 ([.v (.string w3)] : List AV)) = (some (AV.tup [intA c, boolA p]))) (.need (EntClosed []) (.done (some ((.ret, [.v (.slice none 0 0), intA (Int.ofNat i), intA 25], [])))))))))))))))) := by kernel_rfl
set_option maxRecDepth 100000 in
theorem r87B3a (ls : List AV) (m i : Nat) (w w0 w1 w2 w3 : ByteArray) (a b c : Int) (q p : Bool) : roundD (CS Z3) 60 0 87 0 98 98 false (loopOf (CS Z3) 87 0) [5, 6, 7, 8] [] [5, 6, 7, 8] [] [2, 3, 4] [] [.rsl 1 ls false, intA (Int.ofNat m), nilS, intA (Int.ofNat i)] [] [.as 27 true, .chk [strA w], .sp [strA w, u8A 32] (.rsl 1 [strA w0, strA w1, strA w2, strA w3] false), .chk [strA w0], .as 43 false, .chk [strA w1], .sp [strA w1] (.tup [intA a, boolA true]), .chk [strA w2], .sp [strA w2] (.tup [intA b, boolA true]), .chk [strA w3], .sp [strA w3] (.tup [intA c, boolA false])] =
    (.need ((decide (Int.ofNat i < Int.ofNat m)) = true) (.need (ls[i]? = (some (AV.v (.string w)))) (.need (([.v (.string w), .v (.int .u8 32)] : List AV) = ([.v (.string w), .v (.int .u8 32)] : List AV) ∧ (Cx.spec (CS Z3) 91 ([.v (.string w), .v (.int .u8 32)] : List AV)) = (some (AV.rsl 1 [.v (.string w0), .v (.string w1), .v (.string w2), .v (.string w3)] false))) (.need (([.v (.string w0), .v (.string w1), .v (.string w2), .v (.string w3)] : List AV)[0]? = (some (AV.v (.string w0)))) (.need ((!(w0.toList == (ByteArray.mk #[115, 116, 101, 112]).toList)) = false) (.need (([.v (.string w0), .v (.string w1), .v (.string w2), .v (.string w3)] : List AV)[1]? = (some (AV.v (.string w1)))) (.need (([.v (.string w1)] : List AV) = ([.v (.string w1)] : List AV) ∧ (Cx.spec (CS Z3) 156 ([.v (.string w1)] : List AV)) = (some (AV.tup [intA a, boolA true]))) (.need (([.v (.string w0), .v (.string w1), .v (.string w2), .v (.string w3)] : List AV)[2]? = (some (AV.v (.string w2)))) (.need (([.v (.string w2)] : List AV) = ([.v (.string w2)] : List AV) ∧ (Cx.spec (CS Z3) 156 ([.v (.string w2)] : List AV)) = (some (AV.tup [intA b, boolA true]))) (.need (([.v (.string w0), .v (.string w1), .v (.string w2), .v (.string w3)] : List AV)[3]? = (some (AV.v (.string w3)))) (.need (([.v (.string w3)] : List AV) = ([.v (.string w3)] : List AV) ∧ (Cx.spec (CS Z3) 156 ([.v (.string w3)] : List AV)) = (some (AV.tup [intA c, boolA false]))) (.need (EntClosed []) (.done (some ((.ret, [.v (.slice none 0 0), intA (Int.ofNat i), intA 25], [])))))))))))))))) := by kernel_rfl
set_option maxRecDepth 100000 in
theorem r87Gb (ls : List AV) (m i : Nat) (rs : List AV) (k : Nat) (w w0 w1 w2 w3 : ByteArray) (a b c : Int) : roundD (CS Z3) 60 0 87 0 98 98 false (loopOf (CS Z3) 87 0) [5, 6, 7, 8] [84] [5, 6, 7, 8] [84] [5, 6, 7] [84] [.rsl 1 ls false, intA (Int.ofNat m), .sl 84 0 3 0 k, intA (Int.ofNat i)] [(false, .arr 3 rs false)] [.as 27 true, .chk [strA w], .sp [strA w, u8A 32] (.rsl 1 [strA w0, strA w1, strA w2, strA w3] false), .chk [strA w0], .as 43 false, .chk [strA w1], .sp [strA w1] (.tup [intA a, boolA true]), .chk [strA w2], .sp [strA w2] (.tup [intA b, boolA true]), .chk [strA w3], .sp [strA w3] (.tup [intA c, boolA true]), .chk rs] =
    (.need ((decide (Int.ofNat i < Int.ofNat m)) = true) (.need (ls[i]? = (some (AV.v (.string w)))) (.need (([.v (.string w), .v (.int .u8 32)] : List AV) = ([.v (.string w), .v (.int .u8 32)] : List AV) ∧ (Cx.spec (CS Z3) 91 ([.v (.string w), .v (.int .u8 32)] : List AV)) = (some (AV.rsl 1 [.v (.string w0), .v (.string w1), .v (.string w2), .v (.string w3)] false))) (.need (([.v (.string w0), .v (.string w1), .v (.string w2), .v (.string w3)] : List AV)[0]? = (some (AV.v (.string w0)))) (.need ((!(w0.toList == (ByteArray.mk #[115, 116, 101, 112]).toList)) = false) (.need (([.v (.string w0), .v (.string w1), .v (.string w2), .v (.string w3)] : List AV)[1]? = (some (AV.v (.string w1)))) (.need (([.v (.string w1)] : List AV) = ([.v (.string w1)] : List AV) ∧ (Cx.spec (CS Z3) 156 ([.v (.string w1)] : List AV)) = (some (AV.tup [intA a, boolA true]))) (.need (([.v (.string w0), .v (.string w1), .v (.string w2), .v (.string w3)] : List AV)[2]? = (some (AV.v (.string w2)))) (.need (([.v (.string w2)] : List AV) = ([.v (.string w2)] : List AV) ∧ (Cx.spec (CS Z3) 156 ([.v (.string w2)] : List AV)) = (some (AV.tup [intA b, boolA true]))) (.need (([.v (.string w0), .v (.string w1), .v (.string w2), .v (.string w3)] : List AV)[3]? = (some (AV.v (.string w3)))) (.need (([.v (.string w3)] : List AV) = ([.v (.string w3)] : List AV) ∧ (Cx.spec (CS Z3) 156 ([.v (.string w3)] : List AV)) = (some (AV.tup [intA c, boolA true]))) (.need (k = rs.length ∧ true = true ∧ 3 = 3 ∧ (rs ++ ([.agg [intA a, intA b, intA c]] : List AV)).length * 24 ≤ 35184372088832 ∧ (rs ++ ([.agg [intA a, intA b, intA c]] : List AV)).length ≤ 35184372088832 ∧ 24 ≠ 0) (.need (EntClosed [(false, .arr 3 (rs ++ ([.agg [intA a, intA b, intA c]] : List AV)) false)]) (.done (some ((.nrm, [.rsl 1 ls false, intA (Int.ofNat m), .sl 84 0 3 0 ((rs ++ ([.agg [intA a, intA b, intA c]] : List AV)).length), intA (IntKind.i64.wrap (Int.ofNat i + 1))], [(false, .arr 3 (rs ++ ([.agg [intA a, intA b, intA c]] : List AV)) false)]))))))))))))))))) := by kernel_rfl
set_option maxRecDepth 100000 in
theorem r87Xb (ls : List AV) (m i : Nat) (rs : List AV) (k : Nat) : roundD (CS Z3) 60 0 87 0 98 98 false (loopOf (CS Z3) 87 0) [5, 6, 7, 8] [84] [5, 6, 7, 8] [84] [5, 6, 7] [84] [.rsl 1 ls false, intA (Int.ofNat m), .sl 84 0 3 0 k, intA (Int.ofNat i)] [(false, .arr 3 rs false)] [.as 27 false] =
    (.need ((decide (Int.ofNat i < Int.ofNat m)) = false) (.need (EntClosed [(false, .arr 3 rs false)]) (.done (some (((.exit 0), [.rsl 1 ls false, intA (Int.ofNat m), .sl 84 0 3 0 k], [(false, .arr 3 rs false)])))))) := by kernel_rfl
set_option maxRecDepth 100000 in
theorem r87Nb (ls : List AV) (m i : Nat) (rs : List AV) (k : Nat) (ws : List AV) (w : ByteArray) : roundD (CS Z3) 60 0 87 0 98 98 false (loopOf (CS Z3) 87 0) [5, 6, 7, 8] [84] [5, 6, 7, 8] [84] [2, 3, 4] [] [.rsl 1 ls false, intA (Int.ofNat m), .sl 84 0 3 0 k, intA (Int.ofNat i)] [(false, .arr 3 rs false)] [.as 27 true, .chk [strA w], .sp [strA w, u8A 32] (.rsl 1 ws false), .as 38 true] =
    (.need ((decide (Int.ofNat i < Int.ofNat m)) = true) (.need (ls[i]? = (some (AV.v (.string w)))) (.need (([.v (.string w), .v (.int .u8 32)] : List AV) = ([.v (.string w), .v (.int .u8 32)] : List AV) ∧ (Cx.spec (CS Z3) 91 ([.v (.string w), .v (.int .u8 32)] : List AV)) = (some (AV.rsl 1 ws false))) (.need ((Int.ofNat ws.length != 4) = true) (.need (EntClosed []) (.done (some ((.ret, [.v (.slice none 0 0), intA (Int.ofNat i), intA 25], []))))))))) := by kernel_rfl
set_option maxRecDepth 100000 in
theorem r87Wb (ls : List AV) (m i : Nat) (rs : List AV) (k : Nat) (w w0 w1 w2 w3 : ByteArray) : roundD (CS Z3) 60 0 87 0 98 98 false (loopOf (CS Z3) 87 0) [5, 6, 7, 8] [84] [5, 6, 7, 8] [84] [2, 3, 4] [] [.rsl 1 ls false, intA (Int.ofNat m), .sl 84 0 3 0 k, intA (Int.ofNat i)] [(false, .arr 3 rs false)] [.as 27 true, .chk [strA w], .sp [strA w, u8A 32] (.rsl 1 [strA w0, strA w1, strA w2, strA w3] false), .chk [strA w0], .as 43 true] =
    (.need ((decide (Int.ofNat i < Int.ofNat m)) = true) (.need (ls[i]? = (some (AV.v (.string w)))) (.need (([.v (.string w), .v (.int .u8 32)] : List AV) = ([.v (.string w), .v (.int .u8 32)] : List AV) ∧ (Cx.spec (CS Z3) 91 ([.v (.string w), .v (.int .u8 32)] : List AV)) = (some (AV.rsl 1 [.v (.string w0), .v (.string w1), .v (.string w2), .v (.string w3)] false))) (.need (([.v (.string w0), .v (.string w1), .v (.string w2), .v (.string w3)] : List AV)[0]? = (some (AV.v (.string w0)))) (.need ((!(w0.toList == (ByteArray.mk #[115, 116, 101, 112]).toList)) = true) (.need (EntClosed []) (.done (some ((.ret, [.v (.slice none 0 0), intA (Int.ofNat i), intA 25], [])))))))))) := by kernel_rfl
set_option maxRecDepth 100000 in
theorem r87B1b (ls : List AV) (m i : Nat) (rs : List AV) (k : Nat) (w w0 w1 w2 w3 : ByteArray) (a b c : Int) (q p : Bool) : roundD (CS Z3) 60 0 87 0 98 98 false (loopOf (CS Z3) 87 0) [5, 6, 7, 8] [84] [5, 6, 7, 8] [84] [2, 3, 4] [] [.rsl 1 ls false, intA (Int.ofNat m), .sl 84 0 3 0 k, intA (Int.ofNat i)] [(false, .arr 3 rs false)] [.as 27 true, .chk [strA w], .sp [strA w, u8A 32] (.rsl 1 [strA w0, strA w1, strA w2, strA w3] false), .chk [strA w0], .as 43 false, .chk [strA w1], .sp [strA w1] (.tup [intA a, boolA false]), .chk [strA w2], .sp [strA w2] (.tup [intA b, boolA q]), .chk [strA w3], .sp [strA w3] (.tup [intA c, boolA p])] =
    (.need ((decide (Int.ofNat i < Int.ofNat m)) = true) (.need (ls[i]? = (some (AV.v (.string w)))) (.need (([.v (.string w), .v (.int .u8 32)] : List AV) = ([.v (.string w), .v (.int .u8 32)] : List AV) ∧ (Cx.spec (CS Z3) 91 ([.v (.string w), .v (.int .u8 32)] : List AV)) = (some (AV.rsl 1 [.v (.string w0), .v (.string w1), .v (.string w2), .v (.string w3)] false))) (.need (([.v (.string w0), .v (.string w1), .v (.string w2), .v (.string w3)] : List AV)[0]? = (some (AV.v (.string w0)))) (.need ((!(w0.toList == (ByteArray.mk #[115, 116, 101, 112]).toList)) = false) (.need (([.v (.string w0), .v (.string w1), .v (.string w2), .v (.string w3)] : List AV)[1]? = (some (AV.v (.string w1)))) (.need (([.v (.string w1)] : List AV) = ([.v (.string w1)] : List AV) ∧ (Cx.spec (CS Z3) 156 ([.v (.string w1)] : List AV)) = (some (AV.tup [intA a, boolA false]))) (.need (([.v (.string w0), .v (.string w1), .v (.string w2), .v (.string w3)] : List AV)[2]? = (some (AV.v (.string w2)))) (.need (([.v (.string w2)] : List AV) = ([.v (.string w2)] : List AV) ∧ (Cx.spec (CS Z3) 156 ([.v (.string w2)] : List AV)) = (some (AV.tup [intA b, boolA q]))) (.need (([.v (.string w0), .v (.string w1), .v (.string w2), .v (.string w3)] : List AV)[3]? = (some (AV.v (.string w3)))) (.need (([.v (.string w3)] : List AV) = ([.v (.string w3)] : List AV) ∧ (Cx.spec (CS Z3) 156 ([.v (.string w3)] : List AV)) = (some (AV.tup [intA c, boolA p]))) (.need (EntClosed []) (.done (some ((.ret, [.v (.slice none 0 0), intA (Int.ofNat i), intA 25], [])))))))))))))))) := by kernel_rfl
set_option maxRecDepth 100000 in
theorem r87B2b (ls : List AV) (m i : Nat) (rs : List AV) (k : Nat) (w w0 w1 w2 w3 : ByteArray) (a b c : Int) (q p : Bool) : roundD (CS Z3) 60 0 87 0 98 98 false (loopOf (CS Z3) 87 0) [5, 6, 7, 8] [84] [5, 6, 7, 8] [84] [2, 3, 4] [] [.rsl 1 ls false, intA (Int.ofNat m), .sl 84 0 3 0 k, intA (Int.ofNat i)] [(false, .arr 3 rs false)] [.as 27 true, .chk [strA w], .sp [strA w, u8A 32] (.rsl 1 [strA w0, strA w1, strA w2, strA w3] false), .chk [strA w0], .as 43 false, .chk [strA w1], .sp [strA w1] (.tup [intA a, boolA true]), .chk [strA w2], .sp [strA w2] (.tup [intA b, boolA false]), .chk [strA w3], .sp [strA w3] (.tup [intA c, boolA p])] =
    (.need ((decide (Int.ofNat i < Int.ofNat m)) = true) (.need (ls[i]? = (some (AV.v (.string w)))) (.need (([.v (.string w), .v (.int .u8 32)] : List AV) = ([.v (.string w), .v (.int .u8 32)] : List AV) ∧ (Cx.spec (CS Z3) 91 ([.v (.string w), .v (.int .u8 32)] : List AV)) = (some (AV.rsl 1 [.v (.string w0), .v (.string w1), .v (.string w2), .v (.string w3)] false))) (.need (([.v (.string w0), .v (.string w1), .v (.string w2), .v (.string w3)] : List AV)[0]? = (some (AV.v (.string w0)))) (.need ((!(w0.toList == (ByteArray.mk #[115, 116, 101, 112]).toList)) = false) (.need (([.v (.string w0), .v (.string w1), .v (.string w2), .v (.string w3)] : List AV)[1]? = (some (AV.v (.string w1)))) (.need (([.v (.string w1)] : List AV) = ([.v (.string w1)] : List AV) ∧ (Cx.spec (CS Z3) 156 ([.v (.string w1)] : List AV)) = (some (AV.tup [intA a, boolA true]))) (.need (([.v (.string w0), .v (.string w1), .v (.string w2), .v (.string w3)] : List AV)[2]? = (some (AV.v (.string w2)))) (.need (([.v (.string w2)] : List AV) = ([.v (.string w2)] : List AV) ∧ (Cx.spec (CS Z3) 156 ([.v (.string w2)] : List AV)) = (some (AV.tup [intA b, boolA false]))) (.need (([.v (.string w0), .v (.string w1), .v (.string w2), .v (.string w3)] : List AV)[3]? = (some (AV.v (.string w3)))) (.need (([.v (.string w3)] : List AV) = ([.v (.string w3)] : List AV) ∧ (Cx.spec (CS Z3) 156 ([.v (.string w3)] : List AV)) = (some (AV.tup [intA c, boolA p]))) (.need (EntClosed []) (.done (some ((.ret, [.v (.slice none 0 0), intA (Int.ofNat i), intA 25], [])))))))))))))))) := by kernel_rfl
set_option maxRecDepth 100000 in
theorem r87B3b (ls : List AV) (m i : Nat) (rs : List AV) (k : Nat) (w w0 w1 w2 w3 : ByteArray) (a b c : Int) (q p : Bool) : roundD (CS Z3) 60 0 87 0 98 98 false (loopOf (CS Z3) 87 0) [5, 6, 7, 8] [84] [5, 6, 7, 8] [84] [2, 3, 4] [] [.rsl 1 ls false, intA (Int.ofNat m), .sl 84 0 3 0 k, intA (Int.ofNat i)] [(false, .arr 3 rs false)] [.as 27 true, .chk [strA w], .sp [strA w, u8A 32] (.rsl 1 [strA w0, strA w1, strA w2, strA w3] false), .chk [strA w0], .as 43 false, .chk [strA w1], .sp [strA w1] (.tup [intA a, boolA true]), .chk [strA w2], .sp [strA w2] (.tup [intA b, boolA true]), .chk [strA w3], .sp [strA w3] (.tup [intA c, boolA false])] =
    (.need ((decide (Int.ofNat i < Int.ofNat m)) = true) (.need (ls[i]? = (some (AV.v (.string w)))) (.need (([.v (.string w), .v (.int .u8 32)] : List AV) = ([.v (.string w), .v (.int .u8 32)] : List AV) ∧ (Cx.spec (CS Z3) 91 ([.v (.string w), .v (.int .u8 32)] : List AV)) = (some (AV.rsl 1 [.v (.string w0), .v (.string w1), .v (.string w2), .v (.string w3)] false))) (.need (([.v (.string w0), .v (.string w1), .v (.string w2), .v (.string w3)] : List AV)[0]? = (some (AV.v (.string w0)))) (.need ((!(w0.toList == (ByteArray.mk #[115, 116, 101, 112]).toList)) = false) (.need (([.v (.string w0), .v (.string w1), .v (.string w2), .v (.string w3)] : List AV)[1]? = (some (AV.v (.string w1)))) (.need (([.v (.string w1)] : List AV) = ([.v (.string w1)] : List AV) ∧ (Cx.spec (CS Z3) 156 ([.v (.string w1)] : List AV)) = (some (AV.tup [intA a, boolA true]))) (.need (([.v (.string w0), .v (.string w1), .v (.string w2), .v (.string w3)] : List AV)[2]? = (some (AV.v (.string w2)))) (.need (([.v (.string w2)] : List AV) = ([.v (.string w2)] : List AV) ∧ (Cx.spec (CS Z3) 156 ([.v (.string w2)] : List AV)) = (some (AV.tup [intA b, boolA true]))) (.need (([.v (.string w0), .v (.string w1), .v (.string w2), .v (.string w3)] : List AV)[3]? = (some (AV.v (.string w3)))) (.need (([.v (.string w3)] : List AV) = ([.v (.string w3)] : List AV) ∧ (Cx.spec (CS Z3) 156 ([.v (.string w3)] : List AV)) = (some (AV.tup [intA c, boolA false]))) (.need (EntClosed []) (.done (some ((.ret, [.v (.slice none 0 0), intA (Int.ofNat i), intA 25], [])))))))))))))))) := by kernel_rfl
set_option maxRecDepth 100000 in
theorem t87l (s : ByteArray) : evTreeD (CS Z3) 60 87 [strA s] [.as 19 true] =
    (.need ((decide (Int.ofNat s.size > 4096)) = true) (.done (some (.tup [.v (.slice none 0 0), intA 0, intA 26])))) := by kernel_rfl
set_option maxRecDepth 100000 in
theorem t87r (s : ByteArray) (ls : List AV) (m i : Nat) : evTreeD (CS Z3) 60 87 [strA s] [.as 19 false, .sp [strA s, u8A 10] (.rsl 1 ls false), .ar (intA (Int.ofNat m)), .loop 0 [5, 6, 7, 8] [] [2, 3, 4] [] .ret [nilS, intA (Int.ofNat i), intA 25] []] =
    (.need ((decide (Int.ofNat s.size > 4096)) = false) (.need (([.v (.string s), .v (.int .u8 10)] : List AV) = ([.v (.string s), .v (.int .u8 10)] : List AV) ∧ (Cx.spec (CS Z3) 91 ([.v (.string s), .v (.int .u8 10)] : List AV)) = (some (AV.rsl 1 ls false))) (.need ((abin (CS Z3) BinOp.sub 3 (Operand.tmp 23) (Operand.const (Value.int IntKind.i64 1)) (AV.v (.int .i64 (Int.ofNat ls.length))) (AV.v (.int .i64 1))) = (some (AV.v (.int .i64 (Int.ofNat m))))) (.need (EntClosed [] ∧ EntClosed [] ∧ Says (CS Z3) 0 98 false (.loop (loopOf (CS Z3) 87 0)) (mkSt [5, 6, 7, 8] [] 98 [.rsl 1 ls false, intA (Int.ofNat m), .v (.slice none 0 0), intA 0] []) .ret (mkSt [2, 3, 4] [] 98 [.v (.slice none 0 0), intA (Int.ofNat i), intA 25] [])) (.done (some (.tup [.v (.slice none 0 0), intA (Int.ofNat i), intA 25]))))))) := by kernel_rfl
set_option maxRecDepth 100000 in
theorem t87na (s w : ByteArray) (ls : List AV) (m : Nat) : evTreeD (CS Z3) 60 87 [strA s] [.as 19 false, .sp [strA s, u8A 10] (.rsl 1 ls false), .ar (intA (Int.ofNat m)), .loop 0 [5, 6, 7, 8] [] [5, 6, 7] [] (.exit 0) [.rsl 1 ls false, intA (Int.ofNat m), nilS] [], .chk [strA w], .as 89 true] =
    (.need ((decide (Int.ofNat s.size > 4096)) = false) (.need (([.v (.string s), .v (.int .u8 10)] : List AV) = ([.v (.string s), .v (.int .u8 10)] : List AV) ∧ (Cx.spec (CS Z3) 91 ([.v (.string s), .v (.int .u8 10)] : List AV)) = (some (AV.rsl 1 ls false))) (.need ((abin (CS Z3) BinOp.sub 3 (Operand.tmp 23) (Operand.const (Value.int IntKind.i64 1)) (AV.v (.int .i64 (Int.ofNat ls.length))) (AV.v (.int .i64 1))) = (some (AV.v (.int .i64 (Int.ofNat m))))) (.need (EntClosed [] ∧ EntClosed [] ∧ Says (CS Z3) 0 98 false (.loop (loopOf (CS Z3) 87 0)) (mkSt [5, 6, 7, 8] [] 98 [.rsl 1 ls false, intA (Int.ofNat m), .v (.slice none 0 0), intA 0] []) (.exit 0) (mkSt [5, 6, 7] [] 98 [.rsl 1 ls false, intA (Int.ofNat m), .v (.slice none 0 0)] [])) (.need (ls[m]? = (some (AV.v (.string w)))) (.need ((!(w.toList == (ByteArray.mk #[]).toList)) = true) (.done (some (.tup [.v (.slice none 0 0), intA (Int.ofNat m), intA 25]))))))))) := by kernel_rfl
set_option maxRecDepth 100000 in
theorem t87ca (s w : ByteArray) (ls : List AV) (m : Nat) (e : Int) : evTreeD (CS Z3) 60 87 [strA s] [.as 19 false, .sp [strA s, u8A 10] (.rsl 1 ls false), .ar (intA (Int.ofNat m)), .loop 0 [5, 6, 7, 8] [] [5, 6, 7] [] (.exit 0) [.rsl 1 ls false, intA (Int.ofNat m), nilS] [], .chk [strA w], .as 89 false, .sp [nilS] (intA e), .as 94 true] =
    (.need ((decide (Int.ofNat s.size > 4096)) = false) (.need (([.v (.string s), .v (.int .u8 10)] : List AV) = ([.v (.string s), .v (.int .u8 10)] : List AV) ∧ (Cx.spec (CS Z3) 91 ([.v (.string s), .v (.int .u8 10)] : List AV)) = (some (AV.rsl 1 ls false))) (.need ((abin (CS Z3) BinOp.sub 3 (Operand.tmp 23) (Operand.const (Value.int IntKind.i64 1)) (AV.v (.int .i64 (Int.ofNat ls.length))) (AV.v (.int .i64 1))) = (some (AV.v (.int .i64 (Int.ofNat m))))) (.need (EntClosed [] ∧ EntClosed [] ∧ Says (CS Z3) 0 98 false (.loop (loopOf (CS Z3) 87 0)) (mkSt [5, 6, 7, 8] [] 98 [.rsl 1 ls false, intA (Int.ofNat m), .v (.slice none 0 0), intA 0] []) (.exit 0) (mkSt [5, 6, 7] [] 98 [.rsl 1 ls false, intA (Int.ofNat m), .v (.slice none 0 0)] [])) (.need (ls[m]? = (some (AV.v (.string w)))) (.need ((!(w.toList == (ByteArray.mk #[]).toList)) = false) (.need (([.v (.slice none 0 0)] : List AV) = ([.v (.slice none 0 0)] : List AV) ∧ (Cx.spec (CS Z3) 68 ([.v (.slice none 0 0)] : List AV)) = (some (AV.v (.int .i64 e)))) (.need ((e != 0) = true) (.done (some (.tup [.v (.slice none 0 0), intA (Int.ofNat m), intA e]))))))))))) := by kernel_rfl
set_option maxRecDepth 100000 in
theorem t87nb (s w : ByteArray) (ls : List AV) (m : Nat) (rs : List AV) (k : Nat) : evTreeD (CS Z3) 60 87 [strA s] [.as 19 false, .sp [strA s, u8A 10] (.rsl 1 ls false), .ar (intA (Int.ofNat m)), .loop 0 [5, 6, 7, 8] [] [5, 6, 7] [84] (.exit 0) [.rsl 1 ls false, intA (Int.ofNat m), .sl 84 0 3 0 k] [(false, .arr 3 rs false)], .chk [strA w], .as 89 true] =
    (.need ((decide (Int.ofNat s.size > 4096)) = false) (.need (([.v (.string s), .v (.int .u8 10)] : List AV) = ([.v (.string s), .v (.int .u8 10)] : List AV) ∧ (Cx.spec (CS Z3) 91 ([.v (.string s), .v (.int .u8 10)] : List AV)) = (some (AV.rsl 1 ls false))) (.need ((abin (CS Z3) BinOp.sub 3 (Operand.tmp 23) (Operand.const (Value.int IntKind.i64 1)) (AV.v (.int .i64 (Int.ofNat ls.length))) (AV.v (.int .i64 1))) = (some (AV.v (.int .i64 (Int.ofNat m))))) (.need (EntClosed [] ∧ EntClosed [(false, .arr 3 rs false)] ∧ Says (CS Z3) 0 98 false (.loop (loopOf (CS Z3) 87 0)) (mkSt [5, 6, 7, 8] [] 98 [.rsl 1 ls false, intA (Int.ofNat m), .v (.slice none 0 0), intA 0] []) (.exit 0) (mkSt [5, 6, 7] [84] 98 [.rsl 1 ls false, intA (Int.ofNat m), .sl 84 0 3 0 k] [(false, .arr 3 rs false)])) (.need (ls[m]? = (some (AV.v (.string w)))) (.need ((!(w.toList == (ByteArray.mk #[]).toList)) = true) (.done (some (.tup [.v (.slice none 0 0), intA (Int.ofNat m), intA 25]))))))))) := by kernel_rfl
set_option maxRecDepth 100000 in
theorem t87cb (s w : ByteArray) (ls : List AV) (m : Nat) (e : Int) (rs : List AV) (k : Nat) : evTreeD (CS Z3) 60 87 [strA s] [.as 19 false, .sp [strA s, u8A 10] (.rsl 1 ls false), .ar (intA (Int.ofNat m)), .loop 0 [5, 6, 7, 8] [] [5, 6, 7] [84] (.exit 0) [.rsl 1 ls false, intA (Int.ofNat m), .sl 84 0 3 0 k] [(false, .arr 3 rs false)], .chk [strA w], .as 89 false, .fz 7, .sp [.rsl 3 rs false] (intA e), .as 94 true] =
    (.need ((decide (Int.ofNat s.size > 4096)) = false) (.need (([.v (.string s), .v (.int .u8 10)] : List AV) = ([.v (.string s), .v (.int .u8 10)] : List AV) ∧ (Cx.spec (CS Z3) 91 ([.v (.string s), .v (.int .u8 10)] : List AV)) = (some (AV.rsl 1 ls false))) (.need ((abin (CS Z3) BinOp.sub 3 (Operand.tmp 23) (Operand.const (Value.int IntKind.i64 1)) (AV.v (.int .i64 (Int.ofNat ls.length))) (AV.v (.int .i64 1))) = (some (AV.v (.int .i64 (Int.ofNat m))))) (.need (EntClosed [] ∧ EntClosed [(false, .arr 3 rs false)] ∧ Says (CS Z3) 0 98 false (.loop (loopOf (CS Z3) 87 0)) (mkSt [5, 6, 7, 8] [] 98 [.rsl 1 ls false, intA (Int.ofNat m), .v (.slice none 0 0), intA 0] []) (.exit 0) (mkSt [5, 6, 7] [84] 98 [.rsl 1 ls false, intA (Int.ofNat m), .sl 84 0 3 0 k] [(false, .arr 3 rs false)])) (.need (ls[m]? = (some (AV.v (.string w)))) (.need ((!(w.toList == (ByteArray.mk #[]).toList)) = false) (.need (ClosedL rs ∧ k = rs.length) (.need (([.rsl 3 rs false] : List AV) = ([.rsl 3 rs false] : List AV) ∧ (Cx.spec (CS Z3) 68 ([.rsl 3 rs false] : List AV)) = (some (AV.v (.int .i64 e)))) (.need ((e != 0) = true) (.done (some (.tup [.v (.slice none 0 0), intA (Int.ofNat m), intA e])))))))))))) := by kernel_rfl
set_option maxRecDepth 100000 in
theorem t87ob (s w : ByteArray) (ls : List AV) (m : Nat) (e : Int) (rs : List AV) (k : Nat) : evTreeD (CS Z3) 60 87 [strA s] [.as 19 false, .sp [strA s, u8A 10] (.rsl 1 ls false), .ar (intA (Int.ofNat m)), .loop 0 [5, 6, 7, 8] [] [5, 6, 7] [84] (.exit 0) [.rsl 1 ls false, intA (Int.ofNat m), .sl 84 0 3 0 k] [(false, .arr 3 rs false)], .chk [strA w], .as 89 false, .fz 7, .sp [.rsl 3 rs false] (intA e), .as 94 false] =
    (.need ((decide (Int.ofNat s.size > 4096)) = false) (.need (([.v (.string s), .v (.int .u8 10)] : List AV) = ([.v (.string s), .v (.int .u8 10)] : List AV) ∧ (Cx.spec (CS Z3) 91 ([.v (.string s), .v (.int .u8 10)] : List AV)) = (some (AV.rsl 1 ls false))) (.need ((abin (CS Z3) BinOp.sub 3 (Operand.tmp 23) (Operand.const (Value.int IntKind.i64 1)) (AV.v (.int .i64 (Int.ofNat ls.length))) (AV.v (.int .i64 1))) = (some (AV.v (.int .i64 (Int.ofNat m))))) (.need (EntClosed [] ∧ EntClosed [(false, .arr 3 rs false)] ∧ Says (CS Z3) 0 98 false (.loop (loopOf (CS Z3) 87 0)) (mkSt [5, 6, 7, 8] [] 98 [.rsl 1 ls false, intA (Int.ofNat m), .v (.slice none 0 0), intA 0] []) (.exit 0) (mkSt [5, 6, 7] [84] 98 [.rsl 1 ls false, intA (Int.ofNat m), .sl 84 0 3 0 k] [(false, .arr 3 rs false)])) (.need (ls[m]? = (some (AV.v (.string w)))) (.need ((!(w.toList == (ByteArray.mk #[]).toList)) = false) (.need (ClosedL rs ∧ k = rs.length) (.need (([.rsl 3 rs false] : List AV) = ([.rsl 3 rs false] : List AV) ∧ (Cx.spec (CS Z3) 68 ([.rsl 3 rs false] : List AV)) = (some (AV.v (.int .i64 e)))) (.need ((e != 0) = false) (.done (some (.tup [.rsl 3 rs false, intA 0, intA 0])))))))))))) := by kernel_rfl
open Go.Lib
def isStep (w : ByteArray) : Bool := w.toList == (ByteArray.mk #[115, 116, 101, 112]).toList
def lnP : List ByteArray → Option St3
  | [w0, w1, w2, w3] => bif isStep w0 then (match okN w1, okN w2, okN w3 with | some a, some b, some c => some (a, b, c) | _, _, _ => none) else none
  | _ => none
def lineP (w : ByteArray) : Option St3 := lnP (partsB 32 w)
def stp87 (i : Nat) (w : ByteArray) (rs : List St3) : List St3 ⊕ (Nat ⊕ List St3) := match lineP w with
  | some v => .inl (rs ++ [v])
  | none => .inr (.inl i)
def st87 (ts : List Tmp) (vs : AV → List AV) : List St3 → St
  | [] => mkSt ts [] 98 (vs nilS) []
  | a :: r => mkSt ts [84] 98 (vs (.sl 84 0 3 0 ((a :: r).map stepC.enc).length)) [(false, .arr 3 ((a :: r).map stepC.enc) false)]
theorem spSpl {s : ByteArray} {c : UInt8} (h : Nat.ble s.size 100000 = true) : spltG [strA s, u8A (Int.ofNat c.toNat)] = some (slA strC 1 (partsB c s)) := by
  have := sp2_at (A := strC) (B := byC) (F := fun s c => bif Nat.ble s.size 100000 then some (slA strC 1 (partsB c s)) else none) s c
  rw [h] at this; exact this
theorem spLng (w : ByteArray) : lngNG [strA w] = some (lngT w) := sp1_at (A := strC) (F := fun s => some (lngT s)) w
theorem stCl (l : List St3) : ClosedL (l.map stepC.enc) := ClosedL.map fun _ => rfl
theorem loop87 (ls : List ByteArray) (l : List ByteArray) (hl : ∀ (i : Nat) (w : ByteArray), l[i]? = some w → ls[i]? = some w) (hn : l.length ≤ 5000) (hw : ∀ w ∈ l, Nat.ble w.size 100000 = true) :
    LoopRun (CS Z3) 0 98 false (loopOf (CS Z3) 87 0) (mkSt [5, 6, 7, 8] [] 98 [.rsl 1 (ls.map strC.enc) false, intA (Int.ofNat l.length), nilS, intA 0] [])
      (match goL stp87 .inr 0 l [] with | .inl _ => .ret | .inr _ => .exit 0)
      (match goL stp87 .inr 0 l [] with | .inl i => mkSt [2, 3, 4] [] 98 [nilS, intA (Int.ofNat i), intA 25] [] | .inr rs => st87 [5, 6, 7] (fun a => [.rsl 1 (ls.map strC.enc) false, intA (Int.ofNat l.length), a]) rs) := by
  have hl63 : l.length < two63 := by have : (5000 : Nat) < two63 := by decide
                                     omega
  have h := LoopRun.list (C := CS Z3) (p := 0) (nt := 98) (rd := false) (c := loopOf (CS Z3) 87 0) (step := stp87) (fin := .inr) (enc := fun i rs => st87 [5, 6, 7, 8] (fun a => [.rsl 1 (ls.map strC.enc) false, intA (Int.ofNat l.length), a, intA (Int.ofNat i)]) rs)
    (ex := fun t => match t with | .inl _ => .ret | .inr _ => .exit 0) (out := fun t => match t with | .inl i => mkSt [2, 3, 4] [] 98 [nilS, intA (Int.ofNat i), intA 25] [] | .inr rs => st87 [5, 6, 7] (fun a => [.rsl 1 (ls.map strC.enc) false, intA (Int.ofNat l.length), a]) rs) (l := l) (fun i rs => rs.length ≤ i)
    (fun i w rs hx hrs => by
      have hi := lt_len hx
      have hg : (ls.map strC.enc)[i]? = some (AV.v (.string w)) := get_map strC.enc (hl i w hx)
      have hsp := spSpl (c := 32) (hw w (List.mem_of_getElem? hx))
      have hlt := lt_of hi
      have hwr := wrap_ix hi hl63
      unfold stp87 lineP
      generalize partsB 32 w = ws at hsp
      have bad : (Int.ofNat (ws.map strC.enc).length != 4) = true → Says (CS Z3) 0 98 false (loopOf (CS Z3) 87 0) (st87 [5, 6, 7, 8] (fun a => [.rsl 1 (ls.map strC.enc) false, intA (Int.ofNat l.length), a, intA (Int.ofNat i)]) rs) .ret (mkSt [2, 3, 4] [] 98 [nilS, intA (Int.ofNat i), intA 25] []) := fun hlen => by
        cases rs with
        | nil => exact Z3_ok.rndR (r87Na (ls.map strC.enc) l.length i (ws.map strC.enc) w) ⟨hlt, hg, ⟨rfl, hsp⟩, hlen, trivial, rfl⟩
        | cons q r => exact Z3_ok.rndR (r87Nb (ls.map strC.enc) l.length i ((q :: r).map stepC.enc) ((q :: r).map stepC.enc).length (ws.map strC.enc) w) ⟨hlt, hg, ⟨rfl, hsp⟩, hlen, trivial, rfl⟩
      match ws, hsp, bad with
      | [], _, bad => exact ⟨bad rfl, by simp⟩
      | [_], _, bad => exact ⟨bad rfl, by simp⟩
      | [_, _], _, bad => exact ⟨bad rfl, by simp⟩
      | [_, _, _], _, bad => exact ⟨bad rfl, by simp⟩
      | _ :: _ :: _ :: _ :: _ :: t, _, bad => exact ⟨bad (by simp only [bne_iff_ne, ne_eq, List.length_map, List.length_cons, Int.ofNat_eq_natCast]; omega), by simp⟩
      | [w0, w1, w2, w3], hsp, _ =>
        unfold lnP
        have k1 := spLng w1
        have k2 := spLng w2
        have k3 := spLng w3
        unfold lngT at k1 k2 k3
        cases hq : isStep w0 with
        | false =>
          have hq' : (!(w0.toList == (ByteArray.mk #[115, 116, 101, 112]).toList)) = true := by
            show (!isStep w0) = true
            rw [hq]; rfl
          simp only [hq, cond_false]
          cases rs with
          | nil => exact ⟨Z3_ok.rndR (r87Wa (ls.map strC.enc) l.length i w w0 w1 w2 w3) ⟨hlt, hg, ⟨rfl, hsp⟩, rfl, hq', trivial, rfl⟩, by simp⟩
          | cons q r => exact ⟨Z3_ok.rndR (r87Wb (ls.map strC.enc) l.length i ((q :: r).map stepC.enc) ((q :: r).map stepC.enc).length w w0 w1 w2 w3) ⟨hlt, hg, ⟨rfl, hsp⟩, rfl, hq', trivial, rfl⟩, by simp⟩
        | true =>
          have hq' : (!(w0.toList == (ByteArray.mk #[115, 116, 101, 112]).toList)) = false := by
            show (!isStep w0) = false
            rw [hq]; rfl
          simp only [hq, cond_true]
          cases e1 : okN w1 with
          | none =>
            rw [e1] at k1
            obtain ⟨b, q2, k2⟩ : ∃ b q, lngNG [strA w2] = some (.tup [intA b, boolA q]) := by
              cases e2 : okN w2 with
              | none => rw [e2] at k2; exact ⟨_, _, k2⟩
              | some v => rw [e2] at k2; exact ⟨_, _, k2⟩
            obtain ⟨c, q3, k3⟩ : ∃ c q, lngNG [strA w3] = some (.tup [intA c, boolA q]) := by
              cases e3 : okN w3 with
              | none => rw [e3] at k3; exact ⟨_, _, k3⟩
              | some v => rw [e3] at k3; exact ⟨_, _, k3⟩
            cases rs with
            | nil => exact ⟨Z3_ok.rndR (r87B1a (ls.map strC.enc) l.length i w w0 w1 w2 w3 0 b c q2 q3) ⟨hlt, hg, ⟨rfl, hsp⟩, rfl, hq', rfl, ⟨rfl, k1⟩, rfl, ⟨rfl, k2⟩, rfl, ⟨rfl, k3⟩, trivial, rfl⟩, by simp⟩
            | cons q r => exact ⟨Z3_ok.rndR (r87B1b (ls.map strC.enc) l.length i ((q :: r).map stepC.enc) ((q :: r).map stepC.enc).length w w0 w1 w2 w3 0 b c q2 q3) ⟨hlt, hg, ⟨rfl, hsp⟩, rfl, hq', rfl, ⟨rfl, k1⟩, rfl, ⟨rfl, k2⟩, rfl, ⟨rfl, k3⟩, trivial, rfl⟩, by simp⟩
          | some a =>
            rw [e1] at k1
            cases e2 : okN w2 with
            | none =>
              rw [e2] at k2
              obtain ⟨c, q3, k3⟩ : ∃ c q, lngNG [strA w3] = some (.tup [intA c, boolA q]) := by
                cases e3 : okN w3 with
                | none => rw [e3] at k3; exact ⟨_, _, k3⟩
                | some v => rw [e3] at k3; exact ⟨_, _, k3⟩
              cases rs with
              | nil => exact ⟨Z3_ok.rndR (r87B2a (ls.map strC.enc) l.length i w w0 w1 w2 w3 a 0 c true q3) ⟨hlt, hg, ⟨rfl, hsp⟩, rfl, hq', rfl, ⟨rfl, k1⟩, rfl, ⟨rfl, k2⟩, rfl, ⟨rfl, k3⟩, trivial, rfl⟩, by simp⟩
              | cons q r => exact ⟨Z3_ok.rndR (r87B2b (ls.map strC.enc) l.length i ((q :: r).map stepC.enc) ((q :: r).map stepC.enc).length w w0 w1 w2 w3 a 0 c true q3) ⟨hlt, hg, ⟨rfl, hsp⟩, rfl, hq', rfl, ⟨rfl, k1⟩, rfl, ⟨rfl, k2⟩, rfl, ⟨rfl, k3⟩, trivial, rfl⟩, by simp⟩
            | some b =>
              rw [e2] at k2
              cases e3 : okN w3 with
              | none =>
                rw [e3] at k3
                cases rs with
                | nil => exact ⟨Z3_ok.rndR (r87B3a (ls.map strC.enc) l.length i w w0 w1 w2 w3 a b 0 true true) ⟨hlt, hg, ⟨rfl, hsp⟩, rfl, hq', rfl, ⟨rfl, k1⟩, rfl, ⟨rfl, k2⟩, rfl, ⟨rfl, k3⟩, trivial, rfl⟩, by simp⟩
                | cons q r => exact ⟨Z3_ok.rndR (r87B3b (ls.map strC.enc) l.length i ((q :: r).map stepC.enc) ((q :: r).map stepC.enc).length w w0 w1 w2 w3 a b 0 true true) ⟨hlt, hg, ⟨rfl, hsp⟩, rfl, hq', rfl, ⟨rfl, k1⟩, rfl, ⟨rfl, k2⟩, rfl, ⟨rfl, k3⟩, trivial, rfl⟩, by simp⟩
              | some c =>
                rw [e3] at k3
                cases rs with
                | nil =>
                  have hr := r87Ga (ls.map strC.enc) l.length i w w0 w1 w2 w3 a b c
                  rw [hwr] at hr
                  exact ⟨Z3_ok.rndN hr ⟨hlt, hg, ⟨rfl, hsp⟩, rfl, hq', rfl, ⟨rfl, k1⟩, rfl, ⟨rfl, k2⟩, rfl, ⟨rfl, k3⟩, ⟨stCl [(a, b, c)], trivial⟩, rfl⟩, by simp⟩
                | cons q r =>
                  have hr := r87Gb (ls.map strC.enc) l.length i ((q :: r).map stepC.enc) ((q :: r).map stepC.enc).length w w0 w1 w2 w3 a b c
                  have hap : (q :: r).map stepC.enc ++ [AV.agg [.v (.int .i64 a), .v (.int .i64 b), .v (.int .i64 c)]] = ((q :: r) ++ [(a, b, c)]).map stepC.enc := by rw [List.map_append]; rfl
                  rw [hwr, hap] at hr
                  have h2 : (((q :: r) ++ [(a, b, c)]).map stepC.enc).length ≤ 5001 := by rw [List.length_map, List.length_append]; simp only [List.length_cons, List.length_nil] at hrs ⊢; omega
                  exact ⟨Z3_ok.rndN hr ⟨hlt, hg, ⟨rfl, hsp⟩, rfl, hq', rfl, ⟨rfl, k1⟩, rfl, ⟨rfl, k2⟩, rfl, ⟨rfl, k3⟩, ⟨rfl, rfl, rfl, by omega, by omega, by decide⟩, ⟨stCl _, trivial⟩, rfl⟩, by simp only [List.length_append, List.length_cons, List.length_nil] at hrs ⊢; omega⟩)
    (fun rs _ => by
      cases rs with
      | nil => exact ⟨Z3_ok.rndX (r87Xa (ls.map strC.enc) l.length l.length) ⟨lt_self _, trivial, rfl⟩, by simp⟩
      | cons q r => exact ⟨Z3_ok.rndX (r87Xb (ls.map strC.enc) l.length l.length ((q :: r).map stepC.enc) ((q :: r).map stepC.enc).length) ⟨lt_self _, ⟨stCl _, trivial⟩, rfl⟩, by simp⟩)
    l [] [] rfl (Nat.zero_le _)
  exact h
def lastB (s : ByteArray) : ByteArray := (partsB 10 s).getLastD ⟨#[]⟩
def notNil (w : ByteArray) : Bool := !(w.toList == (ByteArray.mk #[]).toList)
def rows87 (s : ByteArray) : Nat ⊕ List St3 := goL stp87 .inr 0 (partsB 10 s).dropLast []
def prsT (s : ByteArray) : AV := bif decide (Int.ofNat s.size > 4096) then .tup [nilS, intA 0, intA 26] else match rows87 s with
  | .inl i => .tup [nilS, intA (Int.ofNat i), intA 25]
  | .inr rs => bif notNil (lastB s) then .tup [nilS, intA (Int.ofNat (partsB 10 s).dropLast.length), intA 25] else bif tblM rs != 0 then .tup [nilS, intA (Int.ofNat (partsB 10 s).dropLast.length), intA (tblM rs)] else .tup [slA stepC 3 rs, intA 0, intA 0]
def prsG : List AV → Option AV := sp1 strC fun s => bif Nat.ble s.size 4097 then some (prsT s) else none
theorem parts_last (s : ByteArray) : partsB 10 s = (partsB 10 s).dropLast ++ [lastB s] := by
  unfold lastB
  have h : partsB 10 s = (dP 10 s.data.toList).map bA ++ [bA (aP 10 s.data.toList)] := by unfold partsB; rw [P_eq, List.map_append]; rfl
  rw [h]; simp
theorem rows_len : ∀ (l : List ByteArray) (i : Nat) (acc rs : List St3), goL stp87 .inr i l acc = .inr rs → rs.length = acc.length + l.length
  | [], _, acc, rs, h => by simp only [goL, Sum.inr.injEq] at h; subst h; simp
  | w :: l, i, acc, rs, h => by
    rw [goL, stp87] at h
    cases hl : lineP w with
    | none => rw [hl] at h; simp at h
    | some v =>
      rw [hl] at h
      have := rows_len l (i + 1) (acc ++ [v]) rs h
      rw [this, List.length_append, List.length_cons]; simp; omega
theorem splitL_part (c : UInt8) : ∀ (l a : List UInt8), a ∈ splitL c l → a.length ≤ l.length
  | [], a, h => by simp [splitL] at h; subst h; simp
  | x :: l, a, h => by
    cases hx : x == c with
    | true =>
      rw [splitL_hit l hx] at h
      rcases List.mem_cons.1 h with rfl | h
      · simp
      · have := splitL_part c l a h; simp only [List.length_cons]; omega
    | false =>
      cases hr : splitL c l with
      | nil => exact absurd hr (splitL_ne c l)
      | cons b t =>
        rw [splitL_miss hx hr] at h
        rcases List.mem_cons.1 h with rfl | h
        · have := splitL_part c l b (by rw [hr]; simp); simp only [List.length_cons]; omega
        · have := splitL_part c l a (by rw [hr]; simp [h]); simp only [List.length_cons]; omega
theorem h87 : Holds 87 prsG := holds1 fun s r hr => by
  cases hb : Nat.ble s.size 4097 with
  | false => simp [hb] at hr
  | true =>
    simp only [hb, cond_true, Option.some.injEq] at hr; subst hr
    have hs := Nat.le_of_ble_eq_true hb
    unfold prsT
    cases h1 : decide (Int.ofNat s.size > 4096) with
    | true => exact Z3_ok.tr (t87l s) ⟨h1, rfl⟩
    | false =>
      rw [cond_false]
      have hsp := spSpl (s := s) (c := 10) (Nat.ble_eq_true_of_le (by omega))
      have hpl := parts_last s
      have hcnt : (partsB 10 s).length ≤ s.size + 1 := by unfold partsB; rw [List.length_map]; exact splitL_len 10 s.data.toList
      have hm : (partsB 10 s).length = (partsB 10 s).dropLast.length + 1 := by conv => lhs; rw [hpl]
                                                                               simp
      have hsz : ∀ w ∈ (partsB 10 s).dropLast, Nat.ble w.size 100000 = true := fun w hw => by
        have hw := List.dropLast_subset _ hw
        unfold partsB at hw
        obtain ⟨a, ha, rfl⟩ := List.mem_map.1 hw
        have h3 := splitL_part 10 _ a ha
        have h4 : (bA a).size = a.length := by show a.toArray.size = _; simp
        have h5 : s.data.toList.length = s.size := rfl
        exact Nat.ble_eq_true_of_le (by omega)
      have hl := loop87 (partsB 10 s) (partsB 10 s).dropLast (fun i w h => by rw [hpl]; rw [List.getElem?_append_left (List.getElem?_eq_some_iff.1 h).1]; exact h) (by omega) hsz
      have hlast : ((partsB 10 s).map strC.enc)[(partsB 10 s).dropLast.length]? = some (AV.v (.string (lastB s))) := by
        refine get_map strC.enc ?_
        conv => lhs; rw [hpl]
        simp
      have hsub : abin (CS Z3) BinOp.sub 3 (Operand.tmp 23) (Operand.const (Value.int IntKind.i64 1)) (AV.v (.int .i64 (Int.ofNat ((partsB 10 s).map strC.enc).length))) (AV.v (.int .i64 1)) = some (AV.v (.int .i64 (Int.ofNat (partsB 10 s).dropLast.length))) := by
        rw [List.length_map, hm]
        exact abSub1 (by have : (5000 : Nat) < two63 := by decide
                         omega)
      unfold rows87
      cases hg : goL stp87 .inr 0 (partsB 10 s).dropLast [] with
      | inl i => rw [hg] at hl; exact Z3_ok.tr (t87r s ((partsB 10 s).map strC.enc) _ i) ⟨h1, ⟨rfl, hsp⟩, hsub, ⟨trivial, trivial, hl.says⟩, rfl⟩
      | inr rs =>
        rw [hg] at hl
        have hrl := rows_len _ _ _ _ hg
        have htb := specTbl (l := rs) (Nat.ble_eq_true_of_le (by simp at hrl; unfold lim; omega))
        simp only
        cases hn : notNil (lastB s) with
        | true =>
          cases rs with
          | nil => exact Z3_ok.tr (t87na s (lastB s) ((partsB 10 s).map strC.enc) _) ⟨h1, ⟨rfl, hsp⟩, hsub, ⟨trivial, trivial, hl.says⟩, hlast, hn, rfl⟩
          | cons q r => exact Z3_ok.tr (t87nb s (lastB s) ((partsB 10 s).map strC.enc) _ ((q :: r).map stepC.enc) _) ⟨h1, ⟨rfl, hsp⟩, hsub, ⟨trivial, ⟨stCl _, trivial⟩, hl.says⟩, hlast, hn, rfl⟩
        | false =>
          rw [cond_false]
          cases rs with
          | nil =>
            have h0 : tblG [nilS] = some (intA (tblM [])) := rfl
            have hne : (tblM [] != 0) = true := rfl
            rw [hne]
            exact Z3_ok.tr (t87ca s (lastB s) ((partsB 10 s).map strC.enc) _ (tblM [])) ⟨h1, ⟨rfl, hsp⟩, hsub, ⟨trivial, trivial, hl.says⟩, hlast, hn, ⟨rfl, h0⟩, hne, rfl⟩
          | cons q r =>
            cases hc : tblM (q :: r) != 0 with
            | true => exact Z3_ok.tr (t87cb s (lastB s) ((partsB 10 s).map strC.enc) _ (tblM (q :: r)) ((q :: r).map stepC.enc) _) ⟨h1, ⟨rfl, hsp⟩, hsub, ⟨trivial, ⟨stCl _, trivial⟩, hl.says⟩, hlast, hn, ⟨stCl _, rfl⟩, ⟨rfl, htb⟩, hc, rfl⟩
            | false => exact Z3_ok.tr (t87ob s (lastB s) ((partsB 10 s).map strC.enc) _ (tblM (q :: r)) ((q :: r).map stepC.enc) _) ⟨h1, ⟨rfl, hsp⟩, hsub, ⟨trivial, ⟨stCl _, trivial⟩, hl.says⟩, hlast, hn, ⟨stCl _, rfl⟩, ⟨rfl, htb⟩, hc, rfl⟩
end Go.Vm.S6
