/- Parts of a dummy: the frame that adds up places. -/
import Derived.Test.YtliikgffjphhjaaGreatDoorS3GE
namespace Go.Vm.S3
open Go.Proofs Go.RowKit
abbrev LB102 (C : Cx) : Bool × Blk := (false, .loop 102 0 35 (mkT [4, 5] [.ptr 4 0 0, .ptr 5 1 0] .leaf) [10] (rangeOf C 102 10).1 (rangeOf C 102 10).2 none)
abbrev bb102 (C : Cx) (es : List AV) (t : AV) (v : V3) : List (Bool × Blk) := [(false, .box [intA 0, intA 0, intA 0]), (false, .box [intA v.1, intA v.2.1, intA v.2.2]), LB102 C, (false, .box [.rsl 7 es false]), (false, .box [t])]
end Go.Vm.S3

namespace Go.Vm.S3
open Go.Proofs Go.RowKit
set_option maxRecDepth 100000 in
theorem r102t (es ks vs : List AV) (t : ByteArray) (n : Nat) (v : V3) (a b : ByteArray) (m x y z : Int) (cs : List AV) : roundD (CS P9) 60 5 176 41 22 63 false (loopOf (CS P9) 176 0) [0, 1, 2, 4] [4, 5, 10, 37, 38] [0, 1, 2, 4] [4, 5, 10, 37, 38] [] [4, 5, 10, 37, 38] [.yld 10 2, .ptr 37 3 0, .ptr 38 4 0, .rmp ks vs] (bb102 (CS P9) es (strA t) v) [.as 9 true, .chk [intA (Int.ofNat n)], .chk [.agg [strA a, strA b, intA m, intA x, intA y, intA z, .rsl 2 cs false]], .eq (boolA true)] =
    (.need ((!(t.toList == (ByteArray.mk #[]).toList)) = true) (.need ((alookup (CS P9) Tr.leaf 196 (AV.rmp ks vs) (AV.v (.string t)) false) = (some (AV.v (.int .i64 (Int.ofNat n))))) (.need (es[n]? = (some (AV.agg [.v (.string a), .v (.string b), .v (.int .i64 m), .v (.int .i64 x), .v (.int .i64 y), .v (.int .i64 z), .rsl 2 cs false]))) (.need ((abin (CS P9) BinOp.eql 32 (Operand.tmp 12) (Operand.tmp 13) (AV.agg [.v (.int .i64 x), .v (.int .i64 y), .v (.int .i64 z)]) (AV.agg [.v (.int .i64 0), .v (.int .i64 0), .v (.int .i64 0)])) = (some (AV.v (.bool true)))) (.need (EntClosed [(false, .box [.v (.int .i64 0), .v (.int .i64 0), .v (.int .i64 0)]), (false, .box [.v (.int .i64 v.fst), .v (.int .i64 v.snd.fst), .v (.int .i64 v.snd.snd)]), LB102 (CS P9), (false, .box [.rsl 7 es false]), (false, .box [.v (.string b)])]) (.done (some ((.nrm, [.yld 10 2, .ptr 37 3 0, .ptr 38 4 0, .rmp ks vs], [(false, .box [.v (.int .i64 0), .v (.int .i64 0), .v (.int .i64 0)]), (false, .box [.v (.int .i64 v.fst), .v (.int .i64 v.snd.fst), .v (.int .i64 v.snd.snd)]), LB102 (CS P9), (false, .box [.rsl 7 es false]), (false, .box [.v (.string b)])]))))))))) := by kernel_rfl
set_option maxRecDepth 100000 in
theorem r102f (es ks vs : List AV) (t : ByteArray) (n : Nat) (v : V3) (a b : ByteArray) (m x y z : Int) (cs : List AV) (u : V3) : roundD (CS P9) 60 5 176 41 22 63 false (loopOf (CS P9) 176 0) [0, 1, 2, 4] [4, 5, 10, 37, 38] [0, 1, 2, 4] [4, 5, 10, 37, 38] [] [4, 5, 10, 37, 38] [.yld 10 2, .ptr 37 3 0, .ptr 38 4 0, .rmp ks vs] (bb102 (CS P9) es (strA t) v) [.as 9 true, .chk [intA (Int.ofNat n)], .chk [.agg [strA a, strA b, intA m, intA x, intA y, intA z, .rsl 2 cs false]], .eq (boolA false), .ar (intA u.1), .ar (intA u.2.1), .ar (intA u.2.2)] =
    (.need ((!(t.toList == (ByteArray.mk #[]).toList)) = true) (.need ((alookup (CS P9) Tr.leaf 196 (AV.rmp ks vs) (AV.v (.string t)) false) = (some (AV.v (.int .i64 (Int.ofNat n))))) (.need (es[n]? = (some (AV.agg [.v (.string a), .v (.string b), .v (.int .i64 m), .v (.int .i64 x), .v (.int .i64 y), .v (.int .i64 z), .rsl 2 cs false]))) (.need ((abin (CS P9) BinOp.eql 32 (Operand.tmp 12) (Operand.tmp 13) (AV.agg [.v (.int .i64 x), .v (.int .i64 y), .v (.int .i64 z)]) (AV.agg [.v (.int .i64 0), .v (.int .i64 0), .v (.int .i64 0)])) = (some (AV.v (.bool false)))) (.need ((abin (CS P9) BinOp.add 3 (Operand.tmp 16) (Operand.tmp 19) (AV.v (.int .i64 v.fst)) (AV.v (.int .i64 x))) = (some (AV.v (.int .i64 u.fst)))) (.need ((abin (CS P9) BinOp.add 3 (Operand.tmp 22) (Operand.tmp 25) (AV.v (.int .i64 v.snd.fst)) (AV.v (.int .i64 y))) = (some (AV.v (.int .i64 u.snd.fst)))) (.need ((abin (CS P9) BinOp.add 3 (Operand.tmp 28) (Operand.tmp 31) (AV.v (.int .i64 v.snd.snd)) (AV.v (.int .i64 z))) = (some (AV.v (.int .i64 u.snd.snd)))) (.need (EntClosed [(false, .box [.v (.int .i64 0), .v (.int .i64 0), .v (.int .i64 0)]), (false, .box [.v (.int .i64 u.fst), .v (.int .i64 u.snd.fst), .v (.int .i64 u.snd.snd)]), LB102 (CS P9), (false, .box [.rsl 7 es false]), (false, .box [.v (.string b)])]) (.done (some ((.nrm, [.yld 10 2, .ptr 37 3 0, .ptr 38 4 0, .rmp ks vs], [(false, .box [.v (.int .i64 0), .v (.int .i64 0), .v (.int .i64 0)]), (false, .box [.v (.int .i64 u.fst), .v (.int .i64 u.snd.fst), .v (.int .i64 u.snd.snd)]), LB102 (CS P9), (false, .box [.rsl 7 es false]), (false, .box [.v (.string b)])])))))))))))) := by kernel_rfl
set_option maxRecDepth 100000 in
theorem r102x (es ks vs : List AV) (t : ByteArray) (_n : Nat) (v : V3) : roundD (CS P9) 60 5 176 41 22 63 false (loopOf (CS P9) 176 0) [0, 1, 2, 4] [4, 5, 10, 37, 38] [0, 1, 2, 4] [4, 5, 10, 37, 38] [] [4, 5, 10, 37, 38] [.yld 10 2, .ptr 37 3 0, .ptr 38 4 0, .rmp ks vs] (bb102 (CS P9) es (strA t) v) [.as 9 false] =
    (.need ((!(t.toList == (ByteArray.mk #[]).toList)) = false) (.need (EntClosed [(false, .box [.v (.int .i64 0), .v (.int .i64 0), .v (.int .i64 0)]), (false, .box [.v (.int .i64 v.fst), .v (.int .i64 v.snd.fst), .v (.int .i64 v.snd.snd)]), LB102 (CS P9), (false, .box [.rsl 7 es false]), (false, .box [.v (.string t)])]) (.done (some (((.exit 0), [], [(false, .box [.v (.int .i64 0), .v (.int .i64 0), .v (.int .i64 0)]), (false, .box [.v (.int .i64 v.fst), .v (.int .i64 v.snd.fst), .v (.int .i64 v.snd.snd)]), LB102 (CS P9), (false, .box [.rsl 7 es false]), (false, .box [.v (.string t)])])))))) := by kernel_rfl
set_option maxRecDepth 100000 in
theorem t102 (es ks vs : List AV) (s : ByteArray) (v : V3) : evTreeD (CS P9) 60 102 [.rsl 7 es false, strA s] [.sp [.rsl 7 es false] (.rmp ks vs), .loop 5 [0, 1, 2, 4] [4, 5, 10, 37, 38] [] [4, 5, 10, 37, 38] (.exit 0) [] (bb102 (CS P9) es .bad v)] =
    (.need (([.rsl 7 es false] : List AV) = ([.rsl 7 es false] : List AV) ∧ (Cx.spec (CS P9) 127 ([.rsl 7 es false] : List AV)) = (some (AV.rmp ks vs))) (.need (EntClosed [(false, .box [.v (.int .i64 0), .v (.int .i64 0), .v (.int .i64 0)]), (false, .box [.v (.int .i64 0), .v (.int .i64 0), .v (.int .i64 0)]), LB102 (CS P9), (false, .box [.rsl 7 es false]), (false, .box [.v (.string s)])] ∧ EntClosed [(false, .box [.v (.int .i64 0), .v (.int .i64 0), .v (.int .i64 0)]), (false, .box [.v (.int .i64 v.fst), .v (.int .i64 v.snd.fst), .v (.int .i64 v.snd.snd)]), LB102 (CS P9), (false, .box [.rsl 7 es false]), (false, .box [.bad])] ∧ Says (CS P9) 5 22 false (.loop (loopOf (CS P9) 176 0)) (mkSt [0, 1, 2, 4] [4, 5, 10, 37, 38] 63 [.yld 10 2, .ptr 37 3 0, .ptr 38 4 0, .rmp ks vs] [(false, .box [.v (.int .i64 0), .v (.int .i64 0), .v (.int .i64 0)]), (false, .box [.v (.int .i64 0), .v (.int .i64 0), .v (.int .i64 0)]), LB102 (CS P9), (false, .box [.rsl 7 es false]), (false, .box [.v (.string s)])]) (.exit 0) (mkSt [] [4, 5, 10, 37, 38] 63 [] [(false, .box [.v (.int .i64 0), .v (.int .i64 0), .v (.int .i64 0)]), (false, .box [.v (.int .i64 v.fst), .v (.int .i64 v.snd.fst), .v (.int .i64 v.snd.snd)]), LB102 (CS P9), (false, .box [.rsl 7 es false]), (false, .box [.bad])])) (.done (some (.agg [.v (.int .i64 v.fst), .v (.int .i64 v.snd.fst), .v (.int .i64 v.snd.snd)]))))) := by kernel_rfl
set_option maxRecDepth 100000 in
theorem r27n (es ns : List AV) (i : Nat) (v : V3) (w : ByteArray) (k : Nat) (u : V3) (a b : ByteArray) (m x y z : Int) (cs : List AV) : roundD (CS P9) 60 0 27 0 45 45 false (loopOf (CS P9) 27 0) [0, 4, 5, 6, 7] [4, 5] [0, 4, 5, 6, 7] [4, 5] [4, 5] [4, 5] [.rsl 7 es false, .ptr 4 0 0, .ptr 5 1 0, .rsl 1 ns false, intA (Int.ofNat i)] [(false, .box [intA 0, intA 0, intA 0]), (false, .box [intA v.1, intA v.2.1, intA v.2.2])] [.as 15 true, .chk [strA w], .sp [.rsl 7 es false, strA w] (intA (Int.ofNat k)), .chk [.agg [strA a, strA b, intA m, intA x, intA y, intA z, .rsl 2 cs false]], .ar (intA u.1), .ar (intA u.2.1), .ar (intA u.2.2)] =
    (.need ((decide (Int.ofNat i < Int.ofNat ns.length)) = true) (.need (ns[i]? = (some (AV.v (.string w)))) (.need (([.rsl 7 es false, .v (.string w)] : List AV) = ([.rsl 7 es false, .v (.string w)] : List AV) ∧ (Cx.spec (CS P9) 24 ([.rsl 7 es false, .v (.string w)] : List AV)) = (some (AV.v (.int .i64 (Int.ofNat k))))) (.need (es[k]? = (some (AV.agg [.v (.string a), .v (.string b), .v (.int .i64 m), .v (.int .i64 x), .v (.int .i64 y), .v (.int .i64 z), .rsl 2 cs false]))) (.need ((abin (CS P9) BinOp.add 3 (Operand.tmp 29) (Operand.tmp 31) (AV.v (.int .i64 v.fst)) (AV.v (.int .i64 x))) = (some (AV.v (.int .i64 u.fst)))) (.need ((abin (CS P9) BinOp.add 3 (Operand.tmp 34) (Operand.tmp 36) (AV.v (.int .i64 v.snd.fst)) (AV.v (.int .i64 y))) = (some (AV.v (.int .i64 u.snd.fst)))) (.need ((abin (CS P9) BinOp.add 3 (Operand.tmp 39) (Operand.tmp 41) (AV.v (.int .i64 v.snd.snd)) (AV.v (.int .i64 z))) = (some (AV.v (.int .i64 u.snd.snd)))) (.need (EntClosed [(false, .box [.v (.int .i64 0), .v (.int .i64 0), .v (.int .i64 0)]), (false, .box [.v (.int .i64 u.fst), .v (.int .i64 u.snd.fst), .v (.int .i64 u.snd.snd)])]) (.done (some ((.nrm, [.rsl 7 es false, .ptr 4 0 0, .ptr 5 1 0, .rsl 1 ns false, .v (.int .i64 (IntKind.i64.wrap (Int.ofNat i + 1)))], [(false, .box [.v (.int .i64 0), .v (.int .i64 0), .v (.int .i64 0)]), (false, .box [.v (.int .i64 u.fst), .v (.int .i64 u.snd.fst), .v (.int .i64 u.snd.snd)])])))))))))))) := by kernel_rfl
set_option maxRecDepth 100000 in
theorem r27x (es ns : List AV) (i : Nat) (v : V3) : roundD (CS P9) 60 0 27 0 45 45 false (loopOf (CS P9) 27 0) [0, 4, 5, 6, 7] [4, 5] [0, 4, 5, 6, 7] [4, 5] [4, 5] [4, 5] [.rsl 7 es false, .ptr 4 0 0, .ptr 5 1 0, .rsl 1 ns false, intA (Int.ofNat i)] [(false, .box [intA 0, intA 0, intA 0]), (false, .box [intA v.1, intA v.2.1, intA v.2.2])] [.as 15 false] =
    (.need ((decide (Int.ofNat i < Int.ofNat ns.length)) = false) (.need (EntClosed [(false, .box [.v (.int .i64 0), .v (.int .i64 0), .v (.int .i64 0)]), (false, .box [.v (.int .i64 v.fst), .v (.int .i64 v.snd.fst), .v (.int .i64 v.snd.snd)])]) (.done (some (((.exit 0), [.ptr 4 0 0, .ptr 5 1 0], [(false, .box [.v (.int .i64 0), .v (.int .i64 0), .v (.int .i64 0)]), (false, .box [.v (.int .i64 v.fst), .v (.int .i64 v.snd.fst), .v (.int .i64 v.snd.snd)])])))))) := by kernel_rfl
set_option maxRecDepth 100000 in
theorem t27 (es ns : List AV) (s : ByteArray) (v : V3) : evTreeD (CS P9) 60 27 [.rsl 7 es false, strA s] [.sp [.rsl 7 es false, strA s] (.rsl 1 ns false), .loop 0 [0, 4, 5, 6, 7] [4, 5] [4, 5] [4, 5] (.exit 0) [.ptr 4 0 0, .ptr 5 1 0] [(false, .box [intA 0, intA 0, intA 0]), (false, .box [intA v.1, intA v.2.1, intA v.2.2])]] =
    (.need (([.rsl 7 es false, .v (.string s)] : List AV) = ([.rsl 7 es false, .v (.string s)] : List AV) ∧ (Cx.spec (CS P9) 25 ([.rsl 7 es false, .v (.string s)] : List AV)) = (some (AV.rsl 1 ns false))) (.need (EntClosed [(false, .box [.v (.int .i64 0), .v (.int .i64 0), .v (.int .i64 0)]), (false, .box [.v (.int .i64 0), .v (.int .i64 0), .v (.int .i64 0)])] ∧ EntClosed [(false, .box [.v (.int .i64 0), .v (.int .i64 0), .v (.int .i64 0)]), (false, .box [.v (.int .i64 v.fst), .v (.int .i64 v.snd.fst), .v (.int .i64 v.snd.snd)])] ∧ Says (CS P9) 0 45 false (.loop (loopOf (CS P9) 27 0)) (mkSt [0, 4, 5, 6, 7] [4, 5] 45 [.rsl 7 es false, .ptr 4 0 0, .ptr 5 1 0, .rsl 1 ns false, .v (.int .i64 0)] [(false, .box [.v (.int .i64 0), .v (.int .i64 0), .v (.int .i64 0)]), (false, .box [.v (.int .i64 0), .v (.int .i64 0), .v (.int .i64 0)])]) (.exit 0) (mkSt [4, 5] [4, 5] 45 [.ptr 4 0 0, .ptr 5 1 0] [(false, .box [.v (.int .i64 0), .v (.int .i64 0), .v (.int .i64 0)]), (false, .box [.v (.int .i64 v.fst), .v (.int .i64 v.snd.fst), .v (.int .i64 v.snd.snd)])])) (.done (some (.agg [.v (.int .i64 v.fst), .v (.int .i64 v.snd.fst), .v (.int .i64 v.snd.snd)]))))) := by kernel_rfl
set_option maxRecDepth 100000 in
theorem r26ya (es ns : List AV) (i : Nat) (s : ByteArray) (a b : ByteArray) (m x y z : Int) (cs : List AV) : roundD (CS P9) 60 0 26 0 31 31 false (loopOf (CS P9) 26 0) [0, 1, 5, 6] [] [0, 1, 5, 6] [29] [5] [] [.rsl 7 es false, strA s, nilS, intA (Int.ofNat i)] [] [.as 10 true, .chk [.agg [strA a, strA b, intA m, intA x, intA y, intA z, .rsl 2 cs false]], .sp [.rsl 7 es false, strA a] (.rsl 1 ns false), .sp [.rsl 1 ns false, strA s] (boolA true), .chk [.agg [strA a, strA b, intA m, intA x, intA y, intA z, .rsl 2 cs false]], .skip] =
    (.need ((decide (Int.ofNat i < Int.ofNat es.length)) = true) (.need (es[i]? = (some (AV.agg [.v (.string a), .v (.string b), .v (.int .i64 m), .v (.int .i64 x), .v (.int .i64 y), .v (.int .i64 z), .rsl 2 cs false]))) (.need (([.rsl 7 es false, .v (.string a)] : List AV) = ([.rsl 7 es false, .v (.string a)] : List AV) ∧ (Cx.spec (CS P9) 25 ([.rsl 7 es false, .v (.string a)] : List AV)) = (some (AV.rsl 1 ns false))) (.need (([.rsl 1 ns false, .v (.string s)] : List AV) = ([.rsl 1 ns false, .v (.string s)] : List AV) ∧ (Cx.spec (CS P9) 77 ([.rsl 1 ns false, .v (.string s)] : List AV)) = (some (AV.v (.bool true)))) (.need (es[i]? = (some (AV.agg [.v (.string a), .v (.string b), .v (.int .i64 m), .v (.int .i64 x), .v (.int .i64 y), .v (.int .i64 z), .rsl 2 cs false]))) (.need (EntClosed [(false, .arr 1 [.v (.string a)] false)]) (.done (some ((.nrm, [.rsl 7 es false, .v (.string s), .sl 29 0 1 0 1, .v (.int .i64 (IntKind.i64.wrap (Int.ofNat i + 1)))], [(false, .arr 1 [.v (.string a)] false)])))))))))) := by kernel_rfl
set_option maxRecDepth 100000 in
theorem r26na (es ns : List AV) (i : Nat) (s : ByteArray) (a b : ByteArray) (m x y z : Int) (cs : List AV) : roundD (CS P9) 60 0 26 0 31 31 false (loopOf (CS P9) 26 0) [0, 1, 5, 6] [] [0, 1, 5, 6] [] [5] [] [.rsl 7 es false, strA s, nilS, intA (Int.ofNat i)] [] [.as 10 true, .chk [.agg [strA a, strA b, intA m, intA x, intA y, intA z, .rsl 2 cs false]], .sp [.rsl 7 es false, strA a] (.rsl 1 ns false), .sp [.rsl 1 ns false, strA s] (boolA false)] =
    (.need ((decide (Int.ofNat i < Int.ofNat es.length)) = true) (.need (es[i]? = (some (AV.agg [.v (.string a), .v (.string b), .v (.int .i64 m), .v (.int .i64 x), .v (.int .i64 y), .v (.int .i64 z), .rsl 2 cs false]))) (.need (([.rsl 7 es false, .v (.string a)] : List AV) = ([.rsl 7 es false, .v (.string a)] : List AV) ∧ (Cx.spec (CS P9) 25 ([.rsl 7 es false, .v (.string a)] : List AV)) = (some (AV.rsl 1 ns false))) (.need (([.rsl 1 ns false, .v (.string s)] : List AV) = ([.rsl 1 ns false, .v (.string s)] : List AV) ∧ (Cx.spec (CS P9) 77 ([.rsl 1 ns false, .v (.string s)] : List AV)) = (some (AV.v (.bool false)))) (.need (EntClosed []) (.done (some ((.nrm, [.rsl 7 es false, .v (.string s), .v (.slice none 0 0), .v (.int .i64 (IntKind.i64.wrap (Int.ofNat i + 1)))], []))))))))) := by kernel_rfl
set_option maxRecDepth 100000 in
theorem r26xa (es : List AV) (i : Nat) (s : ByteArray) : roundD (CS P9) 60 0 26 0 31 31 false (loopOf (CS P9) 26 0) [0, 1, 5, 6] [] [0, 1, 5, 6] [] [5] [] [.rsl 7 es false, strA s, nilS, intA (Int.ofNat i)] [] [.as 10 false] =
    (.need ((decide (Int.ofNat i < Int.ofNat es.length)) = false) (.need (EntClosed []) (.done (some (((.exit 0), [.v (.slice none 0 0)], [])))))) := by kernel_rfl
set_option maxRecDepth 100000 in
theorem r26yb (es ns : List AV) (i : Nat) (s : ByteArray) (rs : List AV) (k : Nat) (a b : ByteArray) (m x y z : Int) (cs : List AV) : roundD (CS P9) 60 0 26 0 31 31 false (loopOf (CS P9) 26 0) [0, 1, 5, 6] [29] [0, 1, 5, 6] [29] [5] [29] [.rsl 7 es false, strA s, .sl 29 0 1 0 k, intA (Int.ofNat i)] [(false, .arr 1 rs false)] [.as 10 true, .chk [.agg [strA a, strA b, intA m, intA x, intA y, intA z, .rsl 2 cs false]], .sp [.rsl 7 es false, strA a] (.rsl 1 ns false), .sp [.rsl 1 ns false, strA s] (boolA true), .chk [.agg [strA a, strA b, intA m, intA x, intA y, intA z, .rsl 2 cs false]], .chk rs] =
    (.need ((decide (Int.ofNat i < Int.ofNat es.length)) = true) (.need (es[i]? = (some (AV.agg [.v (.string a), .v (.string b), .v (.int .i64 m), .v (.int .i64 x), .v (.int .i64 y), .v (.int .i64 z), .rsl 2 cs false]))) (.need (([.rsl 7 es false, .v (.string a)] : List AV) = ([.rsl 7 es false, .v (.string a)] : List AV) ∧ (Cx.spec (CS P9) 25 ([.rsl 7 es false, .v (.string a)] : List AV)) = (some (AV.rsl 1 ns false))) (.need (([.rsl 1 ns false, .v (.string s)] : List AV) = ([.rsl 1 ns false, .v (.string s)] : List AV) ∧ (Cx.spec (CS P9) 77 ([.rsl 1 ns false, .v (.string s)] : List AV)) = (some (AV.v (.bool true)))) (.need (es[i]? = (some (AV.agg [.v (.string a), .v (.string b), .v (.int .i64 m), .v (.int .i64 x), .v (.int .i64 y), .v (.int .i64 z), .rsl 2 cs false]))) (.need (k = rs.length ∧ true = true ∧ 1 = 1 ∧ (rs ++ ([.v (.string a)] : List AV)).length * 16 ≤ 35184372088832 ∧ (rs ++ ([.v (.string a)] : List AV)).length ≤ 35184372088832 ∧ 16 ≠ 0) (.need (EntClosed [(false, .arr 1 (rs ++ ([.v (.string a)] : List AV)) false)]) (.done (some ((.nrm, [.rsl 7 es false, .v (.string s), .sl 29 0 1 0 ((rs ++ ([.v (.string a)] : List AV)).length), .v (.int .i64 (IntKind.i64.wrap (Int.ofNat i + 1)))], [(false, .arr 1 (rs ++ ([.v (.string a)] : List AV)) false)]))))))))))) := by kernel_rfl
set_option maxRecDepth 100000 in
theorem r26nb (es ns : List AV) (i : Nat) (s : ByteArray) (rs : List AV) (k : Nat) (a b : ByteArray) (m x y z : Int) (cs : List AV) : roundD (CS P9) 60 0 26 0 31 31 false (loopOf (CS P9) 26 0) [0, 1, 5, 6] [29] [0, 1, 5, 6] [29] [5] [29] [.rsl 7 es false, strA s, .sl 29 0 1 0 k, intA (Int.ofNat i)] [(false, .arr 1 rs false)] [.as 10 true, .chk [.agg [strA a, strA b, intA m, intA x, intA y, intA z, .rsl 2 cs false]], .sp [.rsl 7 es false, strA a] (.rsl 1 ns false), .sp [.rsl 1 ns false, strA s] (boolA false)] =
    (.need ((decide (Int.ofNat i < Int.ofNat es.length)) = true) (.need (es[i]? = (some (AV.agg [.v (.string a), .v (.string b), .v (.int .i64 m), .v (.int .i64 x), .v (.int .i64 y), .v (.int .i64 z), .rsl 2 cs false]))) (.need (([.rsl 7 es false, .v (.string a)] : List AV) = ([.rsl 7 es false, .v (.string a)] : List AV) ∧ (Cx.spec (CS P9) 25 ([.rsl 7 es false, .v (.string a)] : List AV)) = (some (AV.rsl 1 ns false))) (.need (([.rsl 1 ns false, .v (.string s)] : List AV) = ([.rsl 1 ns false, .v (.string s)] : List AV) ∧ (Cx.spec (CS P9) 77 ([.rsl 1 ns false, .v (.string s)] : List AV)) = (some (AV.v (.bool false)))) (.need (EntClosed [(false, .arr 1 rs false)]) (.done (some ((.nrm, [.rsl 7 es false, .v (.string s), .sl 29 0 1 0 k, .v (.int .i64 (IntKind.i64.wrap (Int.ofNat i + 1)))], [(false, .arr 1 rs false)]))))))))) := by kernel_rfl
set_option maxRecDepth 100000 in
theorem r26xb (es : List AV) (i : Nat) (s : ByteArray) (rs : List AV) (k : Nat) : roundD (CS P9) 60 0 26 0 31 31 false (loopOf (CS P9) 26 0) [0, 1, 5, 6] [29] [0, 1, 5, 6] [29] [5] [29] [.rsl 7 es false, strA s, .sl 29 0 1 0 k, intA (Int.ofNat i)] [(false, .arr 1 rs false)] [.as 10 false] =
    (.need ((decide (Int.ofNat i < Int.ofNat es.length)) = false) (.need (EntClosed [(false, .arr 1 rs false)]) (.done (some (((.exit 0), [.sl 29 0 1 0 k], [(false, .arr 1 rs false)])))))) := by kernel_rfl
set_option maxRecDepth 100000 in
theorem t26 (es rs : List AV) (s : ByteArray) : evTreeD (CS P9) 60 26 [.rsl 7 es false, strA s] [.loop 0 [0, 1, 5, 6] [] [5] [] (.exit 0) [.rsl 1 rs false] []] =
    (.need (EntClosed [] ∧ EntClosed [] ∧ Says (CS P9) 0 31 false (.loop (loopOf (CS P9) 26 0)) (mkSt [0, 1, 5, 6] [] 31 [.rsl 7 es false, .v (.string s), .v (.slice none 0 0), .v (.int .i64 0)] []) (.exit 0) (mkSt [5] [] 31 [.rsl 1 rs false] [])) (.done (some (.rsl 1 rs false)))) := by kernel_rfl
/-! ### Places -/
def addV (v : V3) (p : Pt) : V3 := (v.1 + p.2.2.2.1, v.2.1 + p.2.2.2.2.1, v.2.2 + p.2.2.2.2.2.1)
def placeM' (l : List Pt) (s : ByteArray) : V3 := (cI l s).foldl (fun v k => addV v (atP l k)) (0, 0, 0)
def VB (n : Nat) (v : V3) : Prop := (-10000 * (n : Int) ≤ v.1 ∧ v.1 ≤ 10000 * (n : Int)) ∧ (-10000 * (n : Int) ≤ v.2.1 ∧ v.2.1 ≤ 10000 * (n : Int)) ∧ -10000 * (n : Int) ≤ v.2.2 ∧ v.2.2 ≤ 10000 * (n : Int)
theorem VB_next {l : List Pt} (h0 : partsM l = 0) {k j : Nat} (hk : k < l.length) {v : V3} (hv : VB j v) : VB (j + 1) (addV v (atP l k)) := by
  have g := goodP h0 (atP_get hk)
  obtain ⟨a1, a2⟩ := g.jx
  obtain ⟨b1, b2⟩ := g.jy
  obtain ⟨c1, c2⟩ := g.jz
  obtain ⟨⟨v1, v2⟩, ⟨v3, v4⟩, v5, v6⟩ := hv
  unfold VB addV
  simp only
  omega
theorem addM (x y : Operand) {v z : Int} (h1 : -1000000000000 ≤ v + z) (h2 : v + z ≤ 1000000000000) : abin (CS P9) BinOp.add 3 x y (AV.v (.int .i64 v)) (AV.v (.int .i64 z)) = some (AV.v (.int .i64 (v + z))) := by
  show some (AV.v (.int .i64 (IntKind.i64.wrap (v + z)))) = _
  rw [wrap_in (by omega) (by omega)]
theorem add3 {l : List Pt} (h0 : partsM l = 0) {k j : Nat} (hk : k < l.length) (hj : j ≤ 16) {v : V3} (hv : VB j v) :
    (∀ x y, abin (CS P9) BinOp.add 3 x y (AV.v (.int .i64 v.1)) (AV.v (.int .i64 (atP l k).2.2.2.1)) = some (AV.v (.int .i64 (addV v (atP l k)).1))) ∧
    (∀ x y, abin (CS P9) BinOp.add 3 x y (AV.v (.int .i64 v.2.1)) (AV.v (.int .i64 (atP l k).2.2.2.2.1)) = some (AV.v (.int .i64 (addV v (atP l k)).2.1))) ∧
    ∀ x y, abin (CS P9) BinOp.add 3 x y (AV.v (.int .i64 v.2.2)) (AV.v (.int .i64 (atP l k).2.2.2.2.2.1)) = some (AV.v (.int .i64 (addV v (atP l k)).2.2)) := by
  have hn := VB_next h0 hk hv
  unfold VB at hn
  unfold addV at hn ⊢
  simp only at hn ⊢
  exact ⟨fun x y => addM x y (by omega) (by omega), fun x y => addM x y (by omega) (by omega), fun x y => addM x y (by omega) (by omega)⟩
theorem look9 {l : List Pt} (h0 : partsM l = 0) (S : Specs) {s : ByteArray} {j k : Nat} (hk : orb l s j = some k) : alookup (CS S) Tr.leaf 196 (AV.rmp ((nms l).map strA) (idxA l.length)) (AV.v (.string (sO l s j))) false = some (AV.v (.int .i64 (Int.ofNat k))) := by
  have h := lookP S l (sO l s j) false
  have hso : sO l s j = (atP l k).1 := by unfold sO; rw [hk]
  rw [hso, find_own h0 (orb_lt hk)] at h
  rw [hso]; exact h
theorem ne9 {l : List Pt} (h0 : partsM l = 0) {s : ByteArray} {j k : Nat} (hk : orb l s j = some k) : (!((sO l s j).toList == (ByteArray.mk #[]).toList)) = true := by
  have hso : sO l s j = (atP l k).1 := by unfold sO; rw [hk]
  rw [hso]; exact name_some h0 (orb_lt hk)
theorem end9 (l : List Pt) (s : ByteArray) : (!((sO l s (cI l s).length).toList == (ByteArray.mk #[]).toList)) = false := by
  have : sO l s (cI l s).length = ⟨#[]⟩ := by unfold sO; rw [cI_end]
  rw [this]; simp
def place102G : List AV → Option AV := sp2 ptsC strC fun l s => bif decide (partsM l = 0) && hasP l s then some (vA (placeM' l s)) else none
theorem h102 : Holds 102 place102G := holds2 fun l s r hr => by
  cases hb : decide (partsM l = 0) && hasP l s with
  | false => simp [hb] at hr
  | true =>
    simp only [hb, cond_true, Option.some.injEq] at hr; subst hr
    rw [Bool.and_eq_true] at hb
    have h0 : partsM l = 0 := of_decide_eq_true hb.1
    have hs := hb.2
    have hlen := parts_len h0
    have hcl := cI_len l s
    have h := LoopRun.list (C := CS P9) (p := 5) (nt := 22) (rd := false) (c := loopOf (CS P9) 176 0) (step := fun _ k v => (.inl (addV v (atP l k)) : V3 ⊕ V3)) (fin := id)
      (enc := fun j v => mkSt [0, 1, 2, 4] [4, 5, 10, 37, 38] 63 [.yld 10 2, .ptr 37 3 0, .ptr 38 4 0, .rmp ((nms l).map strA) (idxA l.length)] (bb102 (CS P9) (l.map ptC.enc) (strA (sO l s j)) v))
      (ex := fun _ => .exit 0) (out := fun v => mkSt [] [4, 5, 10, 37, 38] 63 [] (bb102 (CS P9) (l.map ptC.enc) .bad v)) (l := cI l s) (fun j v => VB j v)
      (fun j k v hx hv => by
        have hj := lt_len hx
        rw [cI_at] at hx
        have hk := orb_lt hx
        have hg : (l.map ptC.enc)[k]? = some (ptC.enc (atP l k)) := get_map _ (atP_get hk)
        have he := vec_eq P9 (.tmp 12) (.tmp 13) (atP l k).2.2.2.1 (atP l k).2.2.2.2.1 (atP l k).2.2.2.2.2.1 0 0 0
        refine ⟨?_, VB_next h0 hk hv⟩
        rw [sO_next h0 hx]
        cases hz : ((atP l k).2.2.2.1 == 0 && ((atP l k).2.2.2.2.1 == 0 && (atP l k).2.2.2.2.2.1 == 0)) with
        | true =>
          rw [hz] at he
          have e2 : addV v (atP l k) = v := by
            simp only [Bool.and_eq_true, beq_iff_eq] at hz
            unfold addV
            rw [hz.1, hz.2.1, hz.2.2]; simp
          rw [e2]
          exact P9_ok.rndN (r102t (l.map ptC.enc) ((nms l).map strA) (idxA l.length) (sO l s j) k v (atP l k).1 (atP l k).2.1 (atP l k).2.2.1 (atP l k).2.2.2.1 (atP l k).2.2.2.2.1 (atP l k).2.2.2.2.2.1 ((atP l k).co.map ivC.enc))
            ⟨ne9 h0 hx, look9 h0 P9 hx, hg, he, trivial, rfl⟩
        | false =>
          rw [hz] at he
          obtain ⟨q1, q2, q3⟩ := add3 h0 hk (by omega) hv
          exact P9_ok.rndN (r102f (l.map ptC.enc) ((nms l).map strA) (idxA l.length) (sO l s j) k v (atP l k).1 (atP l k).2.1 (atP l k).2.2.1 (atP l k).2.2.2.1 (atP l k).2.2.2.2.1 (atP l k).2.2.2.2.2.1 ((atP l k).co.map ivC.enc) (addV v (atP l k)))
            ⟨ne9 h0 hx, look9 h0 P9 hx, hg, he, q1 _ _, q2 _ _, q3 _ _, trivial, rfl⟩)
      (fun v _ => ⟨Says.weakG (P9_ok.rndX (r102x (l.map ptC.enc) ((nms l).map strA) (idxA l.length) (sO l s (cI l s).length) 0 v) ⟨end9 l s, trivial, rfl⟩) (by decide) .nil (.cons .rfl (.cons .rfl (.cons .rfl (.cons .rfl (.cons (.box (.cons (weakBad _) .nil)) .nil))))), by simp⟩)
      (cI l s) [] (0, 0, 0) rfl (by unfold VB; simp)
    rw [show ([] : List Nat).length = 0 from rfl, goL_all (fun v k => addV v (atP l k)) id, sO_zero hs] at h
    exact P9_ok.tr (t102 (l.map ptC.enc) ((nms l).map strA) (idxA l.length) s (placeM' l s)) ⟨⟨rfl, spBy h0⟩, ⟨trivial, trivial, h.says⟩, rfl⟩
theorem spChain {l : List Pt} (s : ByteArray) (h : l.length ≤ lim) : chainG [slA ptC 7 l, strA s] = some (slA strC 1 (chainN l s)) := by
  have := sp2_at (A := ptsC) (B := strC) (F := fun l s => bif Nat.ble l.length lim then some (slA strC 1 ((cI l s).map fun k => (atP l k).1)) else none) l s
  rw [Nat.ble_eq_true_of_le h] at this; exact this
def place27G : List AV → Option AV := sp2 ptsC strC fun l s => bif decide (partsM l = 0) then some (vA (placeM' l s)) else none
theorem h27 : Holds 27 place27G := holds2 fun l s r hr => by
  cases hb : decide (partsM l = 0) with
  | false => simp [hb] at hr
  | true =>
    simp only [hb, cond_true, Option.some.injEq] at hr; subst hr
    have h0 : partsM l = 0 := of_decide_eq_true hb
    have hlen := parts_len h0
    have hcl := cI_len l s
    have hns : ((chainN l s).map strC.enc).length = (cI l s).length := by unfold chainN; simp
    have h63 : Nat.blt l.length two63 = true := Nat.ble_eq_true_of_le (Nat.lt_of_le_of_lt hlen.2 (by decide))
    have h := LoopRun.list (C := CS P9) (p := 0) (nt := 45) (rd := false) (c := loopOf (CS P9) 27 0) (step := fun _ k v => (.inl (addV v (atP l k)) : V3 ⊕ V3)) (fin := id)
      (enc := fun j v => mkSt [0, 4, 5, 6, 7] [4, 5] 45 [.rsl 7 (l.map ptC.enc) false, .ptr 4 0 0, .ptr 5 1 0, .rsl 1 ((chainN l s).map strC.enc) false, intA (Int.ofNat j)] [(false, .box [intA 0, intA 0, intA 0]), (false, .box [intA v.1, intA v.2.1, intA v.2.2])])
      (ex := fun _ => .exit 0) (out := fun v => mkSt [4, 5] [4, 5] 45 [.ptr 4 0 0, .ptr 5 1 0] [(false, .box [intA 0, intA 0, intA 0]), (false, .box [intA v.1, intA v.2.1, intA v.2.2])]) (l := cI l s) (fun j v => VB j v)
      (fun j k v hx hv => by
        have hj := lt_len hx
        have hnm : ((chainN l s).map strC.enc)[j]? = some (strA (atP l k).1) := by
          unfold chainN
          rw [List.map_map]
          exact get_map _ hx
        rw [cI_at] at hx
        have hk := orb_lt hx
        have hg : (l.map ptC.enc)[k]? = some (ptC.enc (atP l k)) := get_map _ (atP_get hk)
        have hf := spFindP (l := l) (atP l k).1 h63
        rw [findP_o, find_own h0 hk] at hf
        obtain ⟨q1, q2, q3⟩ := add3 h0 hk (by omega) hv
        have hr := r27n (l.map ptC.enc) ((chainN l s).map strC.enc) j v (atP l k).1 k (addV v (atP l k)) (atP l k).1 (atP l k).2.1 (atP l k).2.2.1 (atP l k).2.2.2.1 (atP l k).2.2.2.2.1 (atP l k).2.2.2.2.2.1 ((atP l k).co.map ivC.enc)
        rw [wrap_ix hj (Nat.lt_of_le_of_lt (by omega : _ ≤ 16) (by decide))] at hr
        exact ⟨P9_ok.rndN hr ⟨by rw [hns]; exact lt_of hj, hnm, ⟨rfl, hf⟩, hg, q1 _ _, q2 _ _, q3 _ _, trivial, rfl⟩, VB_next h0 hk hv⟩)
      (fun v _ => ⟨P9_ok.rndX (r27x (l.map ptC.enc) ((chainN l s).map strC.enc) (cI l s).length v) ⟨by rw [hns]; exact lt_self _, trivial, rfl⟩, by simp⟩)
      (cI l s) [] (0, 0, 0) rfl (by unfold VB; simp)
    rw [show ([] : List Nat).length = 0 from rfl, goL_all (fun v k => addV v (atP l k)) id] at h
    exact P9_ok.tr (t27 (l.map ptC.enc) ((chainN l s).map strC.enc) s (placeM' l s)) ⟨⟨rfl, spChain s (by unfold lim; omega)⟩, ⟨trivial, trivial, h.says⟩, rfl⟩
/-! ### The branch, of the reference -/
def brG (l : List Pt) (s : ByteArray) (_i : Nat) (x : Pt) : List ByteArray := bif hasWordM (chainN l x.1) s then [x.1] else []
def branchN (l : List Pt) (s : ByteArray) : List ByteArray := gath (brG l s) 0 l
def branch26G : List AV → Option AV := sp2 ptsC strC fun l s => bif Nat.ble l.length lim then some (slA strC 1 (branchN l s)) else none
theorem spWord {l : List ByteArray} (s : ByteArray) (h : Nat.blt l.length two63 = true) : sp2 (listC strC 1) strC (fun l s => bif Nat.blt l.length two63 then some (boolA (hasWordM l s)) else none) [slA strC 1 l, strA s] = some (boolA (hasWordM l s)) := by
  have := sp2_at (A := listC strC 1) (B := strC) (F := fun l s => bif Nat.blt l.length two63 then some (boolA (hasWordM l s)) else none) l s
  rw [h] at this; exact this
theorem h26 : Holds 26 branch26G := holds2 fun l s r hr => by
  cases hb : Nat.ble l.length lim with
  | false => simp [hb] at hr
  | true =>
    simp only [hb, cond_true, Option.some.injEq] at hr; subst hr
    have hlim := Nat.le_of_ble_eq_true hb
    have hl := limTwo hlim
    have e := e_pt l
    have hw : ∀ x : Pt, sp2 (listC strC 1) strC (fun l s => bif Nat.blt l.length two63 then some (boolA (hasWordM l s)) else none) [slA strC 1 (chainN l x.1), strA s] = some (boolA (hasWordM (chainN l x.1) s)) := fun x => by
      refine spWord s (Nat.ble_eq_true_of_le ?_)
      have := cI_len l x.1
      unfold chainN; rw [List.length_map]; unfold two63 at *; omega
    have hgl : ∀ i x, (brG l s i x).length ≤ 1 := fun i x => by unfold brG; cases hasWordM (chainN l x.1) s <;> simp
    have hno : ∀ {i x}, brG l s i x = [] → hasWordM (chainN l x.1) s = false := fun {i x} h => by
      unfold brG at h
      cases hq : hasWordM (chainN l x.1) s with
      | false => rfl
      | true => rw [hq] at h; cases h
    have hyes : ∀ {i x y}, brG l s i x = [y] → hasWordM (chainN l x.1) s = true ∧ y = x.1 := fun {i x y} h => by
      unfold brG at h
      cases hq : hasWordM (chainN l x.1) s with
      | false => rw [hq] at h; cases h
      | true => rw [hq] at h; simp only [cond_true, List.cons.injEq, and_true] at h; exact ⟨rfl, h.symm⟩
    have h := LoopRun.pushes (C := CS P9) (p := 0) (nt := 31) (rd := false) (c := loopOf (CS P9) 26 0) strC.enc (brG l s) hgl (key := 29) (sz := 1) (ts := [0, 1, 5, 6]) (ks := []) (fun i a => [.rsl 7 (l.map ptC.enc) false, strA s, a, intA (Int.ofNat i)]) (fun _ => [])
      (nf := 31) (ts2 := [5]) (fun a => [a]) (ex := .exit 0) l (by simp) (by decide) (by decide) (fun _ => rfl) (fun _ => rfl)
      (fun es n hn => .cons (FzS.sl hn) .nil) (fun es n hn => .nil) (.cons Weak.nilSl .nil) .nil
      (fun i x hx hg => by
        have hi := lt_len hx
        have f := hw x
        rw [hno hg] at f
        have hr := r26na (l.map ptC.enc) ((chainN l x.1).map strC.enc) i s x.1 x.2.1 x.2.2.1 x.2.2.2.1 x.2.2.2.2.1 x.2.2.2.2.2.1 (x.co.map ivC.enc)
        rw [wrap_ix hi hl] at hr
        exact P9_ok.rndN hr ⟨by rw [e]; exact lt_of hi, get_map _ hx, ⟨rfl, spChain x.1 hlim⟩, ⟨rfl, f⟩, trivial, rfl⟩)
      (fun i x rs hx hg hc => by
        have hi := lt_len hx
        have f := hw x
        rw [hno hg] at f
        have hr := r26nb (l.map ptC.enc) ((chainN l x.1).map strC.enc) i s rs rs.length x.1 x.2.1 x.2.2.1 x.2.2.2.1 x.2.2.2.2.1 x.2.2.2.2.2.1 (x.co.map ivC.enc)
        rw [wrap_ix hi hl] at hr
        exact P9_ok.rndN hr ⟨by rw [e]; exact lt_of hi, get_map _ hx, ⟨rfl, spChain x.1 hlim⟩, ⟨rfl, f⟩, ⟨hc, trivial⟩, rfl⟩)
      (fun i x y hx hg => by
        have hi := lt_len hx
        obtain ⟨h1, rfl⟩ := hyes hg
        have f := hw x
        rw [h1] at f
        have hr := r26ya (l.map ptC.enc) ((chainN l x.1).map strC.enc) i s x.1 x.2.1 x.2.2.1 x.2.2.2.1 x.2.2.2.2.1 x.2.2.2.2.2.1 (x.co.map ivC.enc)
        rw [wrap_ix hi hl] at hr
        exact P9_ok.rndN hr ⟨by rw [e]; exact lt_of hi, get_map _ hx, ⟨rfl, spChain x.1 hlim⟩, ⟨rfl, f⟩, get_map _ hx, ⟨closedStr [x.1], trivial⟩, rfl⟩)
      (fun i x y rs hx hg hc hrs => by
        have hi := lt_len hx
        obtain ⟨h1, rfl⟩ := hyes hg
        have f := hw x
        rw [h1] at f
        have hlen : (rs ++ [strC.enc x.1]).length ≤ 1000001 := by rw [List.length_append]; unfold lim at hlim; simp; omega
        have hr := r26yb (l.map ptC.enc) ((chainN l x.1).map strC.enc) i s rs rs.length x.1 x.2.1 x.2.2.1 x.2.2.2.1 x.2.2.2.2.1 x.2.2.2.2.2.1 (x.co.map ivC.enc)
        rw [wrap_ix hi hl] at hr
        exact P9_ok.rndN hr ⟨by rw [e]; exact lt_of hi, get_map _ hx, ⟨rfl, spChain x.1 hlim⟩, ⟨rfl, f⟩, get_map _ hx, ⟨rfl, rfl, rfl, by show (rs ++ [strC.enc x.1]).length * 16 ≤ _; omega, by show (rs ++ [strC.enc x.1]).length ≤ _; omega, by decide⟩, ⟨hc.append (closedStr [x.1]), trivial⟩, rfl⟩)
      (P9_ok.rndX (r26xa (l.map ptC.enc) l.length s) ⟨by rw [e]; exact lt_self _, trivial, rfl⟩)
      (fun rs hc => P9_ok.rndX (r26xb (l.map ptC.enc) l.length s rs rs.length) ⟨by rw [e]; exact lt_self _, ⟨hc, trivial⟩, rfl⟩)
    exact P9_ok.tr (t26 (l.map ptC.enc) ((branchN l s).map strC.enc) s) ⟨⟨trivial, trivial, h.says⟩, rfl⟩
def P10 : Specs := (((P9.set 102 place102G).set 27 place27G).set 26 branch26G)
theorem P10_ok : Ok P10 := (((P9_ok.set h102).set h27).set h26)
end Go.Vm.S3

namespace Go.Vm.S3
open Go.Proofs Go.RowKit
abbrev LB178 (C : Cx) (s : AV) (pd : Option (Option Code)) : Bool × Blk := (false, .loop 178 0 15 (mkT [2, 4] [.rptr [s], .ptr 4 0 0] .leaf) [10] (rangeOf C 178 10).1 (rangeOf C 178 10).2 pd)
abbrev bb178 (C : Cx) (es : List AV) (s t : AV) (v : Bool) (pd : Option (Option Code)) : List (Bool × Blk) := [(false, .box [boolA v]), LB178 C s pd, (false, .box [.rsl 7 es false]), (false, .box [t])]
end Go.Vm.S3

namespace Go.Vm.S3
open Go.Proofs Go.RowKit
set_option maxRecDepth 100000 in
theorem r178n (es ks vs : List AV) (s t : ByteArray) (n : Nat) (a b : ByteArray) (m x y z : Int) (cs : List AV) : roundD (CS P10) 60 4 176 21 22 43 false (loopOf (CS P10) 176 0) [0, 1, 2, 4] [4, 10, 17, 18] [0, 1, 2, 4] [4, 10, 17, 18] [] [4, 10, 17, 18] [.yld 10 1, .ptr 17 2 0, .ptr 18 3 0, .rmp ks vs] (bb178 (CS P10) es (strA s) (strA t) false none) [.as 9 true, .chk [intA (Int.ofNat n)], .chk [.agg [strA a, strA b, intA m, intA x, intA y, intA z, .rsl 2 cs false]], .as 14 false] =
    (.need ((!(t.toList == (ByteArray.mk #[]).toList)) = true) (.need ((alookup (CS P10) Tr.leaf 196 (AV.rmp ks vs) (AV.v (.string t)) false) = (some (AV.v (.int .i64 (Int.ofNat n))))) (.need (es[n]? = (some (AV.agg [.v (.string a), .v (.string b), .v (.int .i64 m), .v (.int .i64 x), .v (.int .i64 y), .v (.int .i64 z), .rsl 2 cs false]))) (.need ((a.toList == s.toList) = false) (.need (EntClosed [(false, .box [.v (.bool false)]), (false, .loop 178 0 15 (mkT [2, 4] [.rptr [.v (.string s)], .ptr 4 0 0] .leaf) [10] (rangeOf (CS P10) 178 10).1 (rangeOf (CS P10) 178 10).2 none), (false, .box [.rsl 7 es false]), (false, .box [.v (.string b)])]) (.done (some ((.nrm, [.yld 10 1, .ptr 17 2 0, .ptr 18 3 0, .rmp ks vs], [(false, .box [.v (.bool false)]), (false, .loop 178 0 15 (mkT [2, 4] [.rptr [.v (.string s)], .ptr 4 0 0] .leaf) [10] (rangeOf (CS P10) 178 10).1 (rangeOf (CS P10) 178 10).2 none), (false, .box [.rsl 7 es false]), (false, .box [.v (.string b)])]))))))))) := by kernel_rfl
set_option maxRecDepth 100000 in
theorem r178y (es ks vs : List AV) (s t : ByteArray) (n : Nat) (a b : ByteArray) (m x y z : Int) (cs : List AV) : roundD (CS P10) 60 4 176 21 22 43 false (loopOf (CS P10) 176 0) [0, 1, 2, 4] [4, 10, 17, 18] [0, 1, 2, 4] [4, 10, 17, 18] [] [4, 10, 17, 18] [.yld 10 1, .ptr 17 2 0, .ptr 18 3 0, .rmp ks vs] (bb178 (CS P10) es (strA s) (strA t) false none) [.as 9 true, .chk [intA (Int.ofNat n)], .chk [.agg [strA a, strA b, intA m, intA x, intA y, intA z, .rsl 2 cs false]], .as 14 true] =
    (.need ((!(t.toList == (ByteArray.mk #[]).toList)) = true) (.need ((alookup (CS P10) Tr.leaf 196 (AV.rmp ks vs) (AV.v (.string t)) false) = (some (AV.v (.int .i64 (Int.ofNat n))))) (.need (es[n]? = (some (AV.agg [.v (.string a), .v (.string b), .v (.int .i64 m), .v (.int .i64 x), .v (.int .i64 y), .v (.int .i64 z), .rsl 2 cs false]))) (.need ((a.toList == s.toList) = true) (.need (EntClosed [(false, .box [.v (.bool false)]), (false, .loop 178 0 15 (mkT [2, 4] [.rptr [.v (.string s)], .ptr 4 0 0] .leaf) [10] (rangeOf (CS P10) 178 10).1 (rangeOf (CS P10) 178 10).2 (some (some Code.ret))), (false, .box [.rsl 7 es false]), (false, .box [.v (.string t)])]) (.done (some ((.ret, [], [(false, .box [.v (.bool false)]), (false, .loop 178 0 15 (mkT [2, 4] [.rptr [.v (.string s)], .ptr 4 0 0] .leaf) [10] (rangeOf (CS P10) 178 10).1 (rangeOf (CS P10) 178 10).2 (some (some Code.ret))), (false, .box [.rsl 7 es false]), (false, .box [.v (.string t)])]))))))))) := by kernel_rfl
set_option maxRecDepth 100000 in
theorem r178x (es ks vs : List AV) (s t : ByteArray) : roundD (CS P10) 60 4 176 21 22 43 false (loopOf (CS P10) 176 0) [0, 1, 2, 4] [4, 10, 17, 18] [0, 1, 2, 4] [4, 10, 17, 18] [] [4, 10, 17, 18] [.yld 10 1, .ptr 17 2 0, .ptr 18 3 0, .rmp ks vs] (bb178 (CS P10) es (strA s) (strA t) false none) [.as 9 false] =
    (.need ((!(t.toList == (ByteArray.mk #[]).toList)) = false) (.need (EntClosed [(false, .box [.v (.bool false)]), (false, .loop 178 0 15 (mkT [2, 4] [.rptr [.v (.string s)], .ptr 4 0 0] .leaf) [10] (rangeOf (CS P10) 178 10).1 (rangeOf (CS P10) 178 10).2 none), (false, .box [.rsl 7 es false]), (false, .box [.v (.string t)])]) (.done (some (((.exit 0), [], [(false, .box [.v (.bool false)]), (false, .loop 178 0 15 (mkT [2, 4] [.rptr [.v (.string s)], .ptr 4 0 0] .leaf) [10] (rangeOf (CS P10) 178 10).1 (rangeOf (CS P10) 178 10).2 none), (false, .box [.rsl 7 es false]), (false, .box [.v (.string t)])])))))) := by kernel_rfl
set_option maxRecDepth 100000 in
theorem t178n (es ks vs : List AV) (s : ByteArray) (a b : ByteArray) (m x y z : Int) (cs : List AV) : evTreeD (CS P10) 60 178 [.agg [strA a, strA b, intA m, intA x, intA y, intA z, .rsl 2 cs false], .rptr [.rsl 7 es false], .rptr [strA s]] [.sp [.rsl 7 es false] (.rmp ks vs), .loop 4 [0, 1, 2, 4] [4, 10, 17, 18] [] [4, 10, 17, 18] (.exit 0) [] (bb178 (CS P10) es (strA s) .bad false none)] =
    (.need (([.rsl 7 es false] : List AV) = ([.rsl 7 es false] : List AV) ∧ (Cx.spec (CS P10) 127 ([.rsl 7 es false] : List AV)) = (some (AV.rmp ks vs))) (.need (EntClosed [(false, .box [.v (.bool false)]), (false, .loop 178 0 15 (mkT [2, 4] [.rptr [.v (.string s)], .ptr 4 0 0] .leaf) [10] (rangeOf (CS P10) 178 10).1 (rangeOf (CS P10) 178 10).2 none), (false, .box [.rsl 7 es false]), (false, .box [.v (.string a)])] ∧ EntClosed [(false, .box [.v (.bool false)]), (false, .loop 178 0 15 (mkT [2, 4] [.rptr [.v (.string s)], .ptr 4 0 0] .leaf) [10] (rangeOf (CS P10) 178 10).1 (rangeOf (CS P10) 178 10).2 none), (false, .box [.rsl 7 es false]), (false, .box [.bad])] ∧ Says (CS P10) 4 22 false (.loop (loopOf (CS P10) 176 0)) (mkSt [0, 1, 2, 4] [4, 10, 17, 18] 43 [.yld 10 1, .ptr 17 2 0, .ptr 18 3 0, .rmp ks vs] [(false, .box [.v (.bool false)]), (false, .loop 178 0 15 (mkT [2, 4] [.rptr [.v (.string s)], .ptr 4 0 0] .leaf) [10] (rangeOf (CS P10) 178 10).1 (rangeOf (CS P10) 178 10).2 none), (false, .box [.rsl 7 es false]), (false, .box [.v (.string a)])]) (.exit 0) (mkSt [] [4, 10, 17, 18] 43 [] [(false, .box [.v (.bool false)]), (false, .loop 178 0 15 (mkT [2, 4] [.rptr [.v (.string s)], .ptr 4 0 0] .leaf) [10] (rangeOf (CS P10) 178 10).1 (rangeOf (CS P10) 178 10).2 none), (false, .box [.rsl 7 es false]), (false, .box [.bad])])) (.done (some (.v (.bool true)))))) := by kernel_rfl
set_option maxRecDepth 100000 in
theorem t178y (es ks vs : List AV) (s : ByteArray) (a b : ByteArray) (m x y z : Int) (cs : List AV) : evTreeD (CS P10) 60 178 [.agg [strA a, strA b, intA m, intA x, intA y, intA z, .rsl 2 cs false], .rptr [.rsl 7 es false], .rptr [strA s]] [.sp [.rsl 7 es false] (.rmp ks vs), .loop 4 [0, 1, 2, 4] [4, 10, 17, 18] [] [4, 10, 17, 18] .ret [] (bb178 (CS P10) es (strA s) .bad false (some (some .ret)))] =
    (.need (([.rsl 7 es false] : List AV) = ([.rsl 7 es false] : List AV) ∧ (Cx.spec (CS P10) 127 ([.rsl 7 es false] : List AV)) = (some (AV.rmp ks vs))) (.need (EntClosed [(false, .box [.v (.bool false)]), (false, .loop 178 0 15 (mkT [2, 4] [.rptr [.v (.string s)], .ptr 4 0 0] .leaf) [10] (rangeOf (CS P10) 178 10).1 (rangeOf (CS P10) 178 10).2 none), (false, .box [.rsl 7 es false]), (false, .box [.v (.string a)])] ∧ EntClosed [(false, .box [.v (.bool false)]), (false, .loop 178 0 15 (mkT [2, 4] [.rptr [.v (.string s)], .ptr 4 0 0] .leaf) [10] (rangeOf (CS P10) 178 10).1 (rangeOf (CS P10) 178 10).2 (some (some Code.ret))), (false, .box [.rsl 7 es false]), (false, .box [.bad])] ∧ Says (CS P10) 4 22 false (.loop (loopOf (CS P10) 176 0)) (mkSt [0, 1, 2, 4] [4, 10, 17, 18] 43 [.yld 10 1, .ptr 17 2 0, .ptr 18 3 0, .rmp ks vs] [(false, .box [.v (.bool false)]), (false, .loop 178 0 15 (mkT [2, 4] [.rptr [.v (.string s)], .ptr 4 0 0] .leaf) [10] (rangeOf (CS P10) 178 10).1 (rangeOf (CS P10) 178 10).2 none), (false, .box [.rsl 7 es false]), (false, .box [.v (.string a)])]) .ret (mkSt [] [4, 10, 17, 18] 43 [] [(false, .box [.v (.bool false)]), (false, .loop 178 0 15 (mkT [2, 4] [.rptr [.v (.string s)], .ptr 4 0 0] .leaf) [10] (rangeOf (CS P10) 178 10).1 (rangeOf (CS P10) 178 10).2 (some (some Code.ret))), (false, .box [.rsl 7 es false]), (false, .box [.bad])])) (.done (some (.v (.bool false)))))) := by kernel_rfl
/-! ### Whether a part is to be dropped -/
def stay178G : List AV → Option AV := sp3 ptC (rptrC ptsC) (rptrC strC) fun p l s => bif decide (partsM l = 0) && hasP l p.1 then some (boolA (!hasWordM (chainN l p.1) s)) else none
theorem h178 : Holds 178 stay178G := holds3 fun p l s r hr => by
  cases hb : decide (partsM l = 0) && hasP l p.1 with
  | false => simp [hb] at hr
  | true =>
    simp only [hb, cond_true, Option.some.injEq] at hr; subst hr
    rw [Bool.and_eq_true] at hb
    have h0 : partsM l = 0 := of_decide_eq_true hb.1
    have hs := hb.2
    have h := LoopRun.find (C := CS P10) (p := 4) (nt := 22) (rd := false) (c := loopOf (CS P10) 176 0) (fun _ k => bif seq (atP l k).1 s then some () else none)
      (fun j => mkSt [0, 1, 2, 4] [4, 10, 17, 18] 43 [.yld 10 1, .ptr 17 2 0, .ptr 18 3 0, .rmp ((nms l).map strA) (idxA l.length)] (bb178 (CS P10) (l.map ptC.enc) (strA s) (strA (sO l p.1 j)) false none))
      (fun _ => mkSt [] [4, 10, 17, 18] 43 [] (bb178 (CS P10) (l.map ptC.enc) (strA s) .bad false (some (some .ret)))) (mkSt [] [4, 10, 17, 18] 43 [] (bb178 (CS P10) (l.map ptC.enc) (strA s) .bad false none)) (.exit 0) (fun _ => .ret) (cI l p.1) (by simp) (by simp)
      (fun j k hx => by
        have hj := lt_len hx
        rw [cI_at] at hx
        have hk := orb_lt hx
        have hg : (l.map ptC.enc)[k]? = some (ptC.enc (atP l k)) := get_map _ (atP_get hk)
        cases hq : seq (atP l k).1 s with
        | true =>
          exact Says.weakG (P10_ok.rndR (r178y (l.map ptC.enc) ((nms l).map strA) (idxA l.length) s (sO l p.1 j) k (atP l k).1 (atP l k).2.1 (atP l k).2.2.1 (atP l k).2.2.2.1 (atP l k).2.2.2.2.1 (atP l k).2.2.2.2.2.1 ((atP l k).co.map ivC.enc))
            ⟨ne9 h0 hx, look9 h0 P10 hx, hg, hq, trivial, rfl⟩) (by decide) .nil (.cons .rfl (.cons .rfl (.cons .rfl (.cons (.box (.cons (weakBad _) .nil)) .nil))))
        | false =>
          rw [sO_next h0 hx]
          exact P10_ok.rndN (r178n (l.map ptC.enc) ((nms l).map strA) (idxA l.length) s (sO l p.1 j) k (atP l k).1 (atP l k).2.1 (atP l k).2.2.1 (atP l k).2.2.2.1 (atP l k).2.2.2.2.1 (atP l k).2.2.2.2.2.1 ((atP l k).co.map ivC.enc))
            ⟨ne9 h0 hx, look9 h0 P10 hx, hg, hq, trivial, rfl⟩)
      (Says.weakG (P10_ok.rndX (r178x (l.map ptC.enc) ((nms l).map strA) (idxA l.length) s (sO l p.1 (cI l p.1).length)) ⟨end9 l p.1, trivial, rfl⟩) (by decide) .nil (.cons .rfl (.cons .rfl (.cons .rfl (.cons (.box (.cons (weakBad _) .nil)) .nil)))))
    have hw : hasWordM (chainN l p.1) s = (cI l p.1).any fun k => seq (atP l k).1 s := by unfold hasWordM chainN; rw [List.any_map]; rfl
    rw [srch_any, sO_zero hs] at h
    rw [hw]
    cases hq : (cI l p.1).any fun k => seq (atP l k).1 s with
    | true =>
      rw [hq] at h
      exact P10_ok.tr (t178y (l.map ptC.enc) ((nms l).map strA) (idxA l.length) s p.1 p.2.1 p.2.2.1 p.2.2.2.1 p.2.2.2.2.1 p.2.2.2.2.2.1 (p.co.map ivC.enc)) ⟨⟨rfl, spBy h0⟩, ⟨trivial, trivial, h.says⟩, rfl⟩
    | false =>
      rw [hq] at h
      exact P10_ok.tr (t178n (l.map ptC.enc) ((nms l).map strA) (idxA l.length) s p.1 p.2.1 p.2.2.1 p.2.2.2.1 p.2.2.2.2.1 p.2.2.2.2.2.1 (p.co.map ivC.enc)) ⟨⟨rfl, spBy h0⟩, ⟨trivial, trivial, h.says⟩, rfl⟩
def P11 : Specs := (P10.set 178 stay178G)
theorem P11_ok : Ok P11 := (P10_ok.set h178)
end Go.Vm.S3

namespace Go.Vm.S3
open Go.Proofs Go.RowKit
set_option maxRecDepth 100000 in
theorem r218n (es : List AV) (s : ByteArray) (n j : Nat) (a b : ByteArray) (m x y z : Int) (cs : List AV) : roundD (CS P11) 60 3 218 57 19 76 false (loopOf (CS P11) 218 0) [0, 1, 7, 8] [2, 3, 8] [0, 1, 7, 8] [2, 3, 8] [4] [2, 3, 8] [.sl 8 2 7 0 n, .fn (.func 178) [] [.ptr 2 0 0, .ptr 3 1 0], intA (Int.ofNat n), intA (Int.ofNat j)] [(false, .box [.rsl 7 es false]), (false, .box [strA s]), (false, .arr 7 es true)] [.as 9 true, .chk [], .ld (.agg [strA a, strA b, intA m, intA x, intA y, intA z, .rsl 2 cs false]), .sp [.agg [strA a, strA b, intA m, intA x, intA y, intA z, .rsl 2 cs false], .rptr [.rsl 7 es false], .rptr [strA s]] (boolA false), .ar (intA (Int.ofNat (j + 1)))] =
    (.need ((decide (Int.ofNat j < Int.ofNat n)) = true) (.need (j < n) (.need (es[(0 + j)]? = (some (AV.agg [.v (.string a), .v (.string b), .v (.int .i64 m), .v (.int .i64 x), .v (.int .i64 y), .v (.int .i64 z), .rsl 2 cs false]))) (.need (([.agg [.v (.string a), .v (.string b), .v (.int .i64 m), .v (.int .i64 x), .v (.int .i64 y), .v (.int .i64 z), .rsl 2 cs false], .rptr [.rsl 7 es false], .rptr [.v (.string s)]] : List AV) = ([.agg [.v (.string a), .v (.string b), .v (.int .i64 m), .v (.int .i64 x), .v (.int .i64 y), .v (.int .i64 z), .rsl 2 cs false], .rptr [.rsl 7 es false], .rptr [.v (.string s)]] : List AV) ∧ (Cx.spec (CS P11) 178 ([.agg [.v (.string a), .v (.string b), .v (.int .i64 m), .v (.int .i64 x), .v (.int .i64 y), .v (.int .i64 z), .rsl 2 cs false], .rptr [.rsl 7 es false], .rptr [.v (.string s)]] : List AV)) = (some (AV.v (.bool false)))) (.need ((abin (CS P11) BinOp.add 3 (Operand.tmp 8) (Operand.const (Value.int IntKind.i64 1)) (AV.v (.int .i64 (Int.ofNat j))) (AV.v (.int .i64 1))) = (some (AV.v (.int .i64 (Int.ofNat (j + 1)))))) (.need (EntClosed [(false, .box [.rsl 7 es false]), (false, .box [.v (.string s)]), (false, .arr 7 es true)]) (.done (some ((.nrm, [.sl 8 2 7 0 n, .fn (Fn.func 178) [] [.ptr 2 0 0, .ptr 3 1 0], .v (.int .i64 (Int.ofNat n)), .v (.int .i64 (Int.ofNat (j + 1)))], [(false, .box [.rsl 7 es false]), (false, .box [.v (.string s)]), (false, .arr 7 es true)])))))))))) := by kernel_rfl
set_option maxRecDepth 100000 in
theorem r218y (es : List AV) (s : ByteArray) (n j : Nat) (a b : ByteArray) (m x y z : Int) (cs : List AV) : roundD (CS P11) 60 3 218 57 19 76 false (loopOf (CS P11) 218 0) [0, 1, 7, 8] [2, 3, 8] [0, 1, 7, 8] [2, 3, 8] [4] [2, 3, 8] [.sl 8 2 7 0 n, .fn (.func 178) [] [.ptr 2 0 0, .ptr 3 1 0], intA (Int.ofNat n), intA (Int.ofNat j)] [(false, .box [.rsl 7 es false]), (false, .box [strA s]), (false, .arr 7 es true)] [.as 9 true, .chk [], .ld (.agg [strA a, strA b, intA m, intA x, intA y, intA z, .rsl 2 cs false]), .sp [.agg [strA a, strA b, intA m, intA x, intA y, intA z, .rsl 2 cs false], .rptr [.rsl 7 es false], .rptr [strA s]] (boolA true)] =
    (.need ((decide (Int.ofNat j < Int.ofNat n)) = true) (.need (j < n) (.need (es[(0 + j)]? = (some (AV.agg [.v (.string a), .v (.string b), .v (.int .i64 m), .v (.int .i64 x), .v (.int .i64 y), .v (.int .i64 z), .rsl 2 cs false]))) (.need (([.agg [.v (.string a), .v (.string b), .v (.int .i64 m), .v (.int .i64 x), .v (.int .i64 y), .v (.int .i64 z), .rsl 2 cs false], .rptr [.rsl 7 es false], .rptr [.v (.string s)]] : List AV) = ([.agg [.v (.string a), .v (.string b), .v (.int .i64 m), .v (.int .i64 x), .v (.int .i64 y), .v (.int .i64 z), .rsl 2 cs false], .rptr [.rsl 7 es false], .rptr [.v (.string s)]] : List AV) ∧ (Cx.spec (CS P11) 178 ([.agg [.v (.string a), .v (.string b), .v (.int .i64 m), .v (.int .i64 x), .v (.int .i64 y), .v (.int .i64 z), .rsl 2 cs false], .rptr [.rsl 7 es false], .rptr [.v (.string s)]] : List AV)) = (some (AV.v (.bool true)))) (.need (EntClosed [(false, .box [.rsl 7 es false]), (false, .box [.v (.string s)]), (false, .arr 7 es true)]) (.done (some ((.ret, [.v (.int .i64 (Int.ofNat j))], [(false, .box [.rsl 7 es false]), (false, .box [.v (.string s)]), (false, .arr 7 es true)]))))))))) := by kernel_rfl
set_option maxRecDepth 100000 in
theorem r218x (es : List AV) (s : ByteArray) (n j : Nat) : roundD (CS P11) 60 3 218 57 19 76 false (loopOf (CS P11) 218 0) [0, 1, 7, 8] [2, 3, 8] [0, 1, 7, 8] [2, 3, 8] [] [2, 3, 8] [.sl 8 2 7 0 n, .fn (.func 178) [] [.ptr 2 0 0, .ptr 3 1 0], intA (Int.ofNat n), intA (Int.ofNat j)] [(false, .box [.rsl 7 es false]), (false, .box [strA s]), (false, .arr 7 es true)] [.as 9 false] =
    (.need ((decide (Int.ofNat j < Int.ofNat n)) = false) (.need (EntClosed [(false, .box [.rsl 7 es false]), (false, .box [.v (.string s)]), (false, .arr 7 es true)]) (.done (some (((.exit 0), [], [(false, .box [.rsl 7 es false]), (false, .box [.v (.string s)]), (false, .arr 7 es true)])))))) := by kernel_rfl
set_option maxRecDepth 100000 in
theorem r177d (es us : List AV) (s : ByteArray) (n i j : Nat) (a b : ByteArray) (m x y z : Int) (cs : List AV) : roundD (CS P11) 60 3 177 15 42 76 false (loopOf (CS P11) 177 0) [0, 1, 5, 6] [2, 3, 8] [0, 1, 5, 6] [2, 3, 8] [0, 5] [2, 3, 8] [.sl 8 2 7 0 n, .fn (.func 178) [] [.ptr 2 0 0, .ptr 3 1 0], intA (Int.ofNat i), intA (Int.ofNat j)] [(false, .box [.rsl 7 es false]), (false, .box [strA s]), (false, .arr 7 us true)] [.as 19 true, .chk [], .ld (.agg [strA a, strA b, intA m, intA x, intA y, intA z, .rsl 2 cs false]), .sp [.agg [strA a, strA b, intA m, intA x, intA y, intA z, .rsl 2 cs false], .rptr [.rsl 7 es false], .rptr [strA s]] (boolA true), .ar (intA (Int.ofNat (j + 1)))] =
    (.need ((decide (Int.ofNat j < Int.ofNat n)) = true) (.need (j < n) (.need (us[(0 + j)]? = (some (AV.agg [.v (.string a), .v (.string b), .v (.int .i64 m), .v (.int .i64 x), .v (.int .i64 y), .v (.int .i64 z), .rsl 2 cs false]))) (.need (([.agg [.v (.string a), .v (.string b), .v (.int .i64 m), .v (.int .i64 x), .v (.int .i64 y), .v (.int .i64 z), .rsl 2 cs false], .rptr [.rsl 7 es false], .rptr [.v (.string s)]] : List AV) = ([.agg [.v (.string a), .v (.string b), .v (.int .i64 m), .v (.int .i64 x), .v (.int .i64 y), .v (.int .i64 z), .rsl 2 cs false], .rptr [.rsl 7 es false], .rptr [.v (.string s)]] : List AV) ∧ (Cx.spec (CS P11) 178 ([.agg [.v (.string a), .v (.string b), .v (.int .i64 m), .v (.int .i64 x), .v (.int .i64 y), .v (.int .i64 z), .rsl 2 cs false], .rptr [.rsl 7 es false], .rptr [.v (.string s)]] : List AV)) = (some (AV.v (.bool true)))) (.need ((abin (CS P11) BinOp.add 3 (Operand.tmp 20) (Operand.const (Value.int IntKind.i64 1)) (AV.v (.int .i64 (Int.ofNat j))) (AV.v (.int .i64 1))) = (some (AV.v (.int .i64 (Int.ofNat (j + 1)))))) (.need (EntClosed [(false, .box [.rsl 7 es false]), (false, .box [.v (.string s)]), (false, .arr 7 us true)]) (.done (some ((.nrm, [.sl 8 2 7 0 n, .fn (Fn.func 178) [] [.ptr 2 0 0, .ptr 3 1 0], .v (.int .i64 (Int.ofNat i)), .v (.int .i64 (Int.ofNat (j + 1)))], [(false, .box [.rsl 7 es false]), (false, .box [.v (.string s)]), (false, .arr 7 us true)])))))))))) := by kernel_rfl
set_option maxRecDepth 100000 in
theorem r177k (es us : List AV) (s : ByteArray) (n i j : Nat) (a b : ByteArray) (m x y z : Int) (cs : List AV) (a2 b2 : ByteArray) (m2 x2 y2 z2 : Int) (cs2 : List AV) : roundD (CS P11) 60 3 177 15 42 76 false (loopOf (CS P11) 177 0) [0, 1, 5, 6] [2, 3, 8] [0, 1, 5, 6] [2, 3, 8] [0, 5] [2, 3, 8] [.sl 8 2 7 0 n, .fn (.func 178) [] [.ptr 2 0 0, .ptr 3 1 0], intA (Int.ofNat i), intA (Int.ofNat j)] [(false, .box [.rsl 7 es false]), (false, .box [strA s]), (false, .arr 7 us true)] [.as 19 true, .chk [], .ld (.agg [strA a, strA b, intA m, intA x, intA y, intA z, .rsl 2 cs false]), .sp [.agg [strA a, strA b, intA m, intA x, intA y, intA z, .rsl 2 cs false], .rptr [.rsl 7 es false], .rptr [strA s]] (boolA false), .chk [], .st (.agg [strA a2, strA b2, intA m2, intA x2, intA y2, intA z2, .rsl 2 cs2 false]), .ar (intA (Int.ofNat (i + 1))), .ar (intA (Int.ofNat (j + 1)))] =
    (.need ((decide (Int.ofNat j < Int.ofNat n)) = true) (.need (j < n) (.need (us[(0 + j)]? = (some (AV.agg [.v (.string a), .v (.string b), .v (.int .i64 m), .v (.int .i64 x), .v (.int .i64 y), .v (.int .i64 z), .rsl 2 cs false]))) (.need (([.agg [.v (.string a), .v (.string b), .v (.int .i64 m), .v (.int .i64 x), .v (.int .i64 y), .v (.int .i64 z), .rsl 2 cs false], .rptr [.rsl 7 es false], .rptr [.v (.string s)]] : List AV) = ([.agg [.v (.string a), .v (.string b), .v (.int .i64 m), .v (.int .i64 x), .v (.int .i64 y), .v (.int .i64 z), .rsl 2 cs false], .rptr [.rsl 7 es false], .rptr [.v (.string s)]] : List AV) ∧ (Cx.spec (CS P11) 178 ([.agg [.v (.string a), .v (.string b), .v (.int .i64 m), .v (.int .i64 x), .v (.int .i64 y), .v (.int .i64 z), .rsl 2 cs false], .rptr [.rsl 7 es false], .rptr [.v (.string s)]] : List AV)) = (some (AV.v (.bool false)))) (.need (i < n) (.need (us[(0 + i)]? = (some (AV.agg [.v (.string a2), .v (.string b2), .v (.int .i64 m2), .v (.int .i64 x2), .v (.int .i64 y2), .v (.int .i64 z2), .rsl 2 cs2 false]))) (.need ((abin (CS P11) BinOp.add 3 (Operand.tmp 34) (Operand.const (Value.int IntKind.i64 1)) (AV.v (.int .i64 (Int.ofNat i))) (AV.v (.int .i64 1))) = (some (AV.v (.int .i64 (Int.ofNat (i + 1)))))) (.need ((abin (CS P11) BinOp.add 3 (Operand.tmp 20) (Operand.const (Value.int IntKind.i64 1)) (AV.v (.int .i64 (Int.ofNat j))) (AV.v (.int .i64 1))) = (some (AV.v (.int .i64 (Int.ofNat (j + 1)))))) (.need (EntClosed [(false, .box [.rsl 7 es false]), (false, .box [.v (.string s)]), (false, .arr 7 (us.set ((0 + i)) (.agg [.v (.string a), .v (.string b), .v (.int .i64 m), .v (.int .i64 x), .v (.int .i64 y), .v (.int .i64 z), .rsl 2 cs false])) true)]) (.done (some ((.nrm, [.sl 8 2 7 0 n, .fn (Fn.func 178) [] [.ptr 2 0 0, .ptr 3 1 0], .v (.int .i64 (Int.ofNat (i + 1))), .v (.int .i64 (Int.ofNat (j + 1)))], [(false, .box [.rsl 7 es false]), (false, .box [.v (.string s)]), (false, .arr 7 (us.set ((0 + i)) (.agg [.v (.string a), .v (.string b), .v (.int .i64 m), .v (.int .i64 x), .v (.int .i64 y), .v (.int .i64 z), .rsl 2 cs false])) true)]))))))))))))) := by kernel_rfl
set_option maxRecDepth 100000 in
theorem r177x (es us : List AV) (s : ByteArray) (n i j : Nat) : roundD (CS P11) 60 3 177 15 42 76 false (loopOf (CS P11) 177 0) [0, 1, 5, 6] [2, 3, 8] [0, 1, 5, 6] [2, 3, 8] [0, 5] [2, 3, 8] [.sl 8 2 7 0 n, .fn (.func 178) [] [.ptr 2 0 0, .ptr 3 1 0], intA (Int.ofNat i), intA (Int.ofNat j)] [(false, .box [.rsl 7 es false]), (false, .box [strA s]), (false, .arr 7 us true)] [.as 19 false] =
    (.need ((decide (Int.ofNat j < Int.ofNat n)) = false) (.need (EntClosed [(false, .box [.rsl 7 es false]), (false, .box [.v (.string s)]), (false, .arr 7 us true)]) (.done (some (((.exit 0), [.sl 8 2 7 0 n, .v (.int .i64 (Int.ofNat i))], [(false, .box [.rsl 7 es false]), (false, .box [.v (.string s)]), (false, .arr 7 us true)])))))) := by kernel_rfl
set_option maxRecDepth 100000 in
theorem t101n (es : List AV) (s : ByteArray) (_n : Nat) : evTreeD (CS P11) 60 101 [.rsl 7 es false, strA s] [.mk, .cp, .loop 3 [0, 1, 7, 8] [2, 3, 8] [] [2, 3, 8] (.exit 0) [] [(false, .box [.rsl 7 es false]), (false, .box [strA s]), (false, .arr 7 es true)], .as 12 true, .fp 0] =
    (.need (es.length ≤ es.length ∧ es.length * 88 ≤ 35184372088832 ∧ es.length ≤ 35184372088832 ∧ 7 = 7 ∧ 7 ≠ 0) (.need ((allSz 7 es) = true ∧ es.length = (List.replicate es.length (.agg [.v (.string (ByteArray.mk #[])), .v (.string (ByteArray.mk #[])), .v (.int .i64 0), .v (.int .i64 0), .v (.int .i64 0), .v (.int .i64 0), .v (.slice none 0 0)] : AV)).length ∧ es.length = es.length) (.need (EntClosed [(false, .box [.rsl 7 es false]), (false, .box [.v (.string s)]), (false, .arr 7 es true)] ∧ EntClosed [(false, .box [.rsl 7 es false]), (false, .box [.v (.string s)]), (false, .arr 7 es true)] ∧ Says (CS P11) 3 19 false (.loop (loopOf (CS P11) 218 0)) (mkSt [0, 1, 7, 8] [2, 3, 8] 76 [.sl 8 2 7 0 es.length, .fn (Fn.func 178) [] [.ptr 2 0 0, .ptr 3 1 0], .v (.int .i64 (Int.ofNat es.length)), .v (.int .i64 0)] [(false, .box [.rsl 7 es false]), (false, .box [.v (.string s)]), (false, .arr 7 es true)]) (.exit 0) (mkSt [] [2, 3, 8] 76 [] [(false, .box [.rsl 7 es false]), (false, .box [.v (.string s)]), (false, .arr 7 es true)])) (.need (true = true) (.need (ClosedL es ∧ es.length ≤ es.length) (.done (some (.rsl 7 (List.take es.length es) false)))))))) := by kernel_rfl
set_option maxRecDepth 100000 in
theorem t101y (es us : List AV) (s : ByteArray) (n i0 i : Nat) : evTreeD (CS P11) 60 101 [.rsl 7 es false, strA s] [.mk, .cp, .loop 3 [0, 1, 7, 8] [2, 3, 8] [4] [2, 3, 8] .ret [intA (Int.ofNat i0)] [(false, .box [.rsl 7 es false]), (false, .box [strA s]), (false, .arr 7 es true)], .as 12 false, .ar (intA (Int.ofNat (i0 + 1))), .loop 3 [0, 1, 5, 6] [2, 3, 8] [0, 5] [2, 3, 8] (.exit 0) [.sl 8 2 7 0 n, intA (Int.ofNat i)] [(false, .box [.rsl 7 es false]), (false, .box [strA s]), (false, .arr 7 us true)], .sc, .cp, .sc, .fp 4] =
    (.need (es.length ≤ es.length ∧ es.length * 88 ≤ 35184372088832 ∧ es.length ≤ 35184372088832 ∧ 7 = 7 ∧ 7 ≠ 0) (.need ((allSz 7 es) = true ∧ es.length = (List.replicate es.length (.agg [.v (.string (ByteArray.mk #[])), .v (.string (ByteArray.mk #[])), .v (.int .i64 0), .v (.int .i64 0), .v (.int .i64 0), .v (.int .i64 0), .v (.slice none 0 0)] : AV)).length ∧ es.length = es.length) (.need (EntClosed [(false, .box [.rsl 7 es false]), (false, .box [.v (.string s)]), (false, .arr 7 es true)] ∧ EntClosed [(false, .box [.rsl 7 es false]), (false, .box [.v (.string s)]), (false, .arr 7 es true)] ∧ Says (CS P11) 3 19 false (.loop (loopOf (CS P11) 218 0)) (mkSt [0, 1, 7, 8] [2, 3, 8] 76 [.sl 8 2 7 0 es.length, .fn (Fn.func 178) [] [.ptr 2 0 0, .ptr 3 1 0], .v (.int .i64 (Int.ofNat es.length)), .v (.int .i64 0)] [(false, .box [.rsl 7 es false]), (false, .box [.v (.string s)]), (false, .arr 7 es true)]) .ret (mkSt [4] [2, 3, 8] 76 [.v (.int .i64 (Int.ofNat i0))] [(false, .box [.rsl 7 es false]), (false, .box [.v (.string s)]), (false, .arr 7 es true)])) (.need ((Int.ofNat i0 == -1) = false) (.need ((abin (CS P11) BinOp.add 3 (Operand.tmp 14) (Operand.const (Value.int IntKind.i64 1)) (AV.v (.int .i64 (Int.ofNat i0))) (AV.v (.int .i64 1))) = (some (AV.v (.int .i64 (Int.ofNat (i0 + 1)))))) (.need (EntClosed [(false, .box [.rsl 7 es false]), (false, .box [.v (.string s)]), (false, .arr 7 es true)] ∧ EntClosed [(false, .box [.rsl 7 es false]), (false, .box [.v (.string s)]), (false, .arr 7 us true)] ∧ Says (CS P11) 3 42 false (.loop (loopOf (CS P11) 177 0)) (mkSt [0, 1, 5, 6] [2, 3, 8] 76 [.sl 8 2 7 0 es.length, .fn (Fn.func 178) [] [.ptr 2 0 0, .ptr 3 1 0], .v (.int .i64 (Int.ofNat i0)), .v (.int .i64 (Int.ofNat (i0 + 1)))] [(false, .box [.rsl 7 es false]), (false, .box [.v (.string s)]), (false, .arr 7 es true)]) (.exit 0) (mkSt [0, 5] [2, 3, 8] 76 [.sl 8 2 7 0 n, .v (.int .i64 (Int.ofNat i))] [(false, .box [.rsl 7 es false]), (false, .box [.v (.string s)]), (false, .arr 7 us true)])) (.need (i ≤ n ∧ n ≤ n ∧ (0 + n) ≤ us.length) (.need (((0 + i) + (n - i)) ≤ us.length ∧ (allSz 7 (List.replicate (n - i) (.agg [.v (.string (ByteArray.mk #[])), .v (.string (ByteArray.mk #[])), .v (.int .i64 0), .v (.int .i64 0), .v (.int .i64 0), .v (.int .i64 0), .v (.slice none 0 0)] : AV))) = true) (.need (0 ≤ i ∧ i ≤ n ∧ (0 + i) ≤ (splice us (0 + i) (List.replicate (n - i) (ofV (Value.agg #[Value.string (ByteArray.mk #[]), Value.string (ByteArray.mk #[]), Value.int IntKind.i64 0, Value.int IntKind.i64 0, Value.int IntKind.i64 0, Value.int IntKind.i64 0, Value.slice none 0 0])))).length) (.need (ClosedL (splice us (0 + i) (List.replicate (n - i) (ofV (Value.agg #[Value.string (ByteArray.mk #[]), Value.string (ByteArray.mk #[]), Value.int IntKind.i64 0, Value.int IntKind.i64 0, Value.int IntKind.i64 0, Value.int IntKind.i64 0, Value.slice none 0 0])))) ∧ i - 0 ≤ (splice us (0 + i) (List.replicate (n - i) (ofV (Value.agg #[Value.string (ByteArray.mk #[]), Value.string (ByteArray.mk #[]), Value.int IntKind.i64 0, Value.int IntKind.i64 0, Value.int IntKind.i64 0, Value.int IntKind.i64 0, Value.slice none 0 0])))).length) (.done (some (.rsl 7 (List.take (i - 0) (splice us (0 + i) (List.replicate (n - i) (ofV (Value.agg #[Value.string (ByteArray.mk #[]), Value.string (ByteArray.mk #[]), Value.int IntKind.i64 0, Value.int IntKind.i64 0, Value.int IntKind.i64 0, Value.int IntKind.i64 0, Value.slice none 0 0]))))) false))))))))))))) := by kernel_rfl
/-! ### Deleting from a list -/
theorem srch_hit {α : Type} {p : α → Bool} : ∀ {l : List α} {k i : Nat}, srch (fun i x => bif p x then some i else none) k l = some i → ∃ m x, i = k + m ∧ l[m]? = some x ∧ p x = true ∧ ∀ y ∈ l.take m, p y = false
  | [], k, i, h => by simp [srch] at h
  | x :: r, k, i, h => by
    unfold srch at h
    cases hp : p x with
    | true =>
      rw [hp] at h
      simp only [cond_true, Option.some.injEq] at h
      exact ⟨0, x, by omega, rfl, hp, fun y hy => by simp at hy⟩
    | false =>
      rw [hp] at h
      simp only [cond_false] at h
      obtain ⟨m, y, h1, h2, h3, h4⟩ := srch_hit h
      refine ⟨m + 1, y, by omega, by rw [List.getElem?_cons_succ]; exact h2, h3, fun z hz => ?_⟩
      rw [List.take_succ_cons, List.mem_cons] at hz
      rcases hz with rfl | hz
      · exact hp
      · exact h4 z hz
theorem srch_miss {α : Type} {p : α → Bool} : ∀ {l : List α} {k : Nat}, srch (fun i x => bif p x then some i else none) k l = none → ∀ y ∈ l, p y = false
  | [], k, h => fun y hy => by simp at hy
  | x :: r, k, h => by
    unfold srch at h
    cases hp : p x with
    | true => rw [hp] at h; simp at h
    | false =>
      rw [hp] at h
      simp only [cond_false] at h
      intro y hy
      rcases List.mem_cons.1 hy with rfl | hy
      · exact hp
      · exact srch_miss h y hy
section
variable {α : Type} (q : α → Bool)
def dl (v : Nat × List α) (x : α) : Nat × List α := bif q x then (v.1 + 1, v.2.set v.1 x) else v
def DelI (l : List α) (j : Nat) (v : Nat × List α) : Prop := v.1 ≤ j ∧ v.2.length = l.length ∧ v.2.drop j = l.drop j ∧ v.2.take v.1 = (l.take j).filter q
variable {q}
theorem DelI.get {l : List α} {j : Nat} {v : Nat × List α} (h : DelI q l j v) : v.2[j]? = l[j]? := by
  have := congrArg (fun z => z[0]?) h.2.2.1
  simpa only [List.getElem?_drop, Nat.add_zero] using this
theorem DelI.step {l : List α} {j : Nat} {x : α} {v : Nat × List α} (hx : l[j]? = some x) (h : DelI q l j v) : DelI q l (j + 1) (dl q v x) := by
  obtain ⟨i, us⟩ := v
  obtain ⟨h1, h2, h3, h4⟩ := h
  simp only at h1 h2 h3 h4
  have hj := lt_len hx
  have hd : us.drop (j + 1) = l.drop (j + 1) := by
    have := congrArg (List.drop 1) h3
    simpa only [List.drop_drop] using this
  have ht : (l.take (j + 1)).filter q = (l.take j).filter q ++ [x].filter q := by rw [List.take_add_one, hx, List.filter_append]; rfl
  unfold dl DelI
  cases hq : q x with
  | true =>
    simp only [cond_true]
    refine ⟨by omega, by rw [List.length_set]; exact h2, ?_, ?_⟩
    · rw [List.drop_set_of_lt (by omega)]; exact hd
    · rw [ht, List.take_add_one, List.take_set_of_le (Nat.le_refl _), List.getElem?_set_self (by omega), h4]
      simp [hq]
  | false =>
    simp only [cond_false]
    refine ⟨by omega, h2, hd, ?_⟩
    rw [ht, h4]; simp [hq]
theorem DelI.fold {l : List α} : ∀ (rest pre : List α) (v : Nat × List α), pre ++ rest = l → DelI q l pre.length v → DelI q l l.length (rest.foldl (dl q) v)
  | [], pre, v, h, hv => by rw [List.append_nil] at h; subst h; exact hv
  | x :: r, pre, v, h, hv => by
    have hx : l[pre.length]? = some x := by rw [← h]; simp
    refine DelI.fold r (pre ++ [x]) _ (by rw [List.append_assoc]; exact h) ?_
    rw [List.length_append]
    exact hv.step hx
theorem DelI.start {l : List α} {i : Nat} {x : α} (hx : l[i]? = some x) (hq : q x = false) (hb : ∀ y ∈ l.take i, q y = true) : DelI q l (i + 1) (i, l) := by
  refine ⟨by simp, rfl, rfl, ?_⟩
  rw [List.take_add_one, hx, List.filter_append, List.filter_eq_self.2 hb]
  simp [hq]
end
theorem closedRep {n : Nat} {z : AV} (h : closed z = true) : ClosedL (List.replicate n z) := .of (by
  rw [List.all_eq_true]; intro x hx; rw [List.eq_of_mem_replicate hx]; exact h)
theorem allSzPt (l : List Pt) : allSz 7 (l.map ptC.enc) = true := by
  unfold allSz
  rw [List.all_eq_true]
  intro x hx
  obtain ⟨p, _, rfl⟩ := List.mem_map.1 hx
  rfl
theorem allSzRep {n sz : Nat} {z : AV} (h : (match cells? z with | some cs => Nat.beq cs.length sz | none => false) = true) : allSz sz (List.replicate n z) = true := by
  unfold allSz
  rw [List.all_eq_true]
  intro x hx
  rw [List.eq_of_mem_replicate hx]; exact h
/-! ### The branch -/
def brM (l : List Pt) (s : ByteArray) : List Pt := l.filter fun p => hasWordM (chainN l p.1) s
theorem spStay {l : List Pt} (h0 : partsM l = 0) {p : Pt} (hp : hasP l p.1 = true) (s : ByteArray) : stay178G [ptA p, .rptr [slA ptC 7 l], .rptr [strA s]] = some (boolA (!hasWordM (chainN l p.1) s)) := by
  have := sp3_at (A := ptC) (B := rptrC ptsC) (D := rptrC strC) (F := fun p l s => bif decide (partsM l = 0) && hasP l p.1 then some (boolA (!hasWordM (chainN l p.1) s)) else none) p l s
  rw [decide_eq_true h0, hp] at this; exact this
theorem hasOwn {l : List Pt} (h0 : partsM l = 0) {k : Nat} {p : Pt} (hk : l[k]? = some p) : hasP l p.1 = true := by
  have h1 := find_own h0 (lt_len hk)
  have h2 := atP_get (lt_len hk)
  rw [hk, Option.some.injEq] at h2
  rw [hasP_ix, h2, h1]; rfl
abbrev fn178 : AV := .fn (.func 178) [] [.ptr 2 0 0, .ptr 3 1 0]
abbrev bb101 (es us : List AV) (s : ByteArray) : List (Bool × Blk) := [(false, .box [.rsl 7 es false]), (false, .box [strA s]), (false, .arr 7 us true)]
def branch101G : List AV → Option AV := sp2 ptsC strC fun l s => bif decide (partsM l = 0) then some (slA ptC 7 (brM l s)) else none
theorem addIx (S : Specs) (x y : Operand) {j : Nat} (h : j ≤ 1000) : abin (CS S) BinOp.add 3 x y (AV.v (.int .i64 (Int.ofNat j))) (AV.v (.int .i64 1)) = some (AV.v (.int .i64 (Int.ofNat (j + 1)))) := by
  show some (AV.v (.int .i64 (IntKind.i64.wrap (Int.ofNat j + 1)))) = _
  rw [wrap_in (by simp only [Int.ofNat_eq_natCast]; omega) (by simp only [Int.ofNat_eq_natCast]; omega)]
  rfl
theorem h101 : Holds 101 branch101G := holds2 fun l s r hr => by
  cases hb : decide (partsM l = 0) with
  | false => simp [hb] at hr
  | true =>
    simp only [hb, cond_true, Option.some.injEq] at hr; subst hr
    have h0 : partsM l = 0 := of_decide_eq_true hb
    have hlen := parts_len h0
    have e := e_pt l
    have hL : (l.map ptC.enc).length = l.length := List.length_map ..
    have hq : ∀ {k p}, l[k]? = some p → stay178G [ptA p, .rptr [slA ptC 7 l], .rptr [strA s]] = some (boolA (!hasWordM (chainN l p.1) s)) := fun hk => spStay h0 (hasOwn h0 hk) s
    have h := LoopRun.find (C := CS P11) (p := 3) (nt := 19) (rd := false) (c := loopOf (CS P11) 218 0) (fun i (x : Pt) => bif !hasWordM (chainN l x.1) s then some i else none)
      (fun j => mkSt [0, 1, 7, 8] [2, 3, 8] 76 [.sl 8 2 7 0 (l.map ptC.enc).length, fn178, intA (Int.ofNat (l.map ptC.enc).length), intA (Int.ofNat j)] (bb101 (l.map ptC.enc) (l.map ptC.enc) s))
      (fun i => mkSt [4] [2, 3, 8] 76 [intA (Int.ofNat i)] (bb101 (l.map ptC.enc) (l.map ptC.enc) s)) (mkSt [] [2, 3, 8] 76 [] (bb101 (l.map ptC.enc) (l.map ptC.enc) s)) (.exit 0) (fun _ => .ret) l (by simp) (by simp)
      (fun j x hx => by
        have hj := lt_len hx
        have f := hq hx
        cases hw : hasWordM (chainN l x.1) s with
        | true =>
          rw [hw] at f
          exact P11_ok.rndN (r218n (l.map ptC.enc) s (l.map ptC.enc).length j x.1 x.2.1 x.2.2.1 x.2.2.2.1 x.2.2.2.2.1 x.2.2.2.2.2.1 (x.co.map ivC.enc))
            ⟨by rw [e]; exact lt_of hj, by rw [hL]; exact hj, by rw [Nat.zero_add]; exact get_map _ hx, ⟨rfl, f⟩, addIx _ _ _ (by omega), ⟨closedPt l, trivial⟩, rfl⟩
        | false =>
          rw [hw] at f
          exact P11_ok.rndR (r218y (l.map ptC.enc) s (l.map ptC.enc).length j x.1 x.2.1 x.2.2.1 x.2.2.2.1 x.2.2.2.2.1 x.2.2.2.2.2.1 (x.co.map ivC.enc))
            ⟨by rw [e]; exact lt_of hj, by rw [hL]; exact hj, by rw [Nat.zero_add]; exact get_map _ hx, ⟨rfl, f⟩, ⟨closedPt l, trivial⟩, rfl⟩)
      (P11_ok.rndX (r218x (l.map ptC.enc) s (l.map ptC.enc).length l.length) ⟨by rw [e]; exact lt_self _, ⟨closedPt l, trivial⟩, rfl⟩)
    have n1 : (l.map ptC.enc).length ≤ (l.map ptC.enc).length ∧ (l.map ptC.enc).length * 88 ≤ 35184372088832 ∧ (l.map ptC.enc).length ≤ 35184372088832 ∧ 7 = 7 ∧ 7 ≠ 0 := by rw [hL]; omega
    cases hs : srch (fun i (x : Pt) => bif !hasWordM (chainN l x.1) s then some i else none) 0 l with
    | none =>
      rw [hs] at h
      have hf : brM l s = l := List.filter_eq_self.2 fun y hy => by have := srch_miss hs y hy; simpa using this
      rw [hf]
      have ht := t101n (l.map ptC.enc) s 0
      rw [List.take_length] at ht
      exact P11_ok.tr ht ⟨n1, ⟨allSzPt l, by rw [List.length_replicate], rfl⟩, ⟨⟨closedPt l, trivial⟩, ⟨closedPt l, trivial⟩, h.says⟩, rfl, ⟨closedPt l, Nat.le_refl _⟩, rfl⟩
    | some i0 =>
      rw [hs] at h
      obtain ⟨m, x0, hm, hx0, hp0, hb0⟩ := srch_hit hs
      rw [Nat.zero_add] at hm
      subst hm
      have hm := lt_len hx0
      have st := DelI.start (q := fun p : Pt => hasWordM (chainN l p.1) s) hx0 (by simpa using hp0) (fun y hy => by simpa using hb0 y hy)
      have hpl : (l.take (i0 + 1)).length = i0 + 1 := by rw [List.length_take]; omega
      have h2 := LoopRun.list (C := CS P11) (p := 3) (nt := 42) (rd := false) (c := loopOf (CS P11) 177 0) (step := fun _ x v => (.inl (dl (fun p : Pt => hasWordM (chainN l p.1) s) v x) : (Nat × List Pt) ⊕ (Nat × List Pt))) (fin := id)
        (enc := fun j v => mkSt [0, 1, 5, 6] [2, 3, 8] 76 [.sl 8 2 7 0 (l.map ptC.enc).length, fn178, intA (Int.ofNat v.1), intA (Int.ofNat j)] (bb101 (l.map ptC.enc) (v.2.map ptC.enc) s))
        (ex := fun _ => .exit 0) (out := fun v => mkSt [0, 5] [2, 3, 8] 76 [.sl 8 2 7 0 (l.map ptC.enc).length, intA (Int.ofNat v.1)] (bb101 (l.map ptC.enc) (v.2.map ptC.enc) s)) (l := l) (fun j v => DelI (fun p : Pt => hasWordM (chainN l p.1) s) l j v)
        (fun j x v hx hv => by
          have hj := lt_len hx
          have f := hq hx
          refine ⟨?_, hv.step hx⟩
          have hg : (v.2.map ptC.enc)[0 + j]? = some (ptC.enc x) := by rw [Nat.zero_add]; exact get_map _ (hv.get.trans hx)
          have hi := hv.1
          rw [show dl (fun p : Pt => hasWordM (chainN l p.1) s) v x = bif hasWordM (chainN l x.1) s then (v.1 + 1, v.2.set v.1 x) else v from rfl]
          cases hw : hasWordM (chainN l x.1) s with
          | false =>
            rw [hw] at f
            exact P11_ok.rndN (r177d (l.map ptC.enc) (v.2.map ptC.enc) s (l.map ptC.enc).length v.1 j x.1 x.2.1 x.2.2.1 x.2.2.2.1 x.2.2.2.2.1 x.2.2.2.2.2.1 (x.co.map ivC.enc))
              ⟨by rw [e]; exact lt_of hj, by rw [hL]; exact hj, hg, ⟨rfl, f⟩, addIx _ _ _ (by omega), ⟨closedPt _, trivial⟩, rfl⟩
          | true =>
            rw [hw] at f
            have hy : v.2[v.1]? = some (atP v.2 v.1) := atP_get (by rw [hv.2.1]; omega)
            have hr := r177k (l.map ptC.enc) (v.2.map ptC.enc) s (l.map ptC.enc).length v.1 j x.1 x.2.1 x.2.2.1 x.2.2.2.1 x.2.2.2.2.1 x.2.2.2.2.2.1 (x.co.map ivC.enc) (atP v.2 v.1).1 (atP v.2 v.1).2.1 (atP v.2 v.1).2.2.1 (atP v.2 v.1).2.2.2.1 (atP v.2 v.1).2.2.2.2.1 (atP v.2 v.1).2.2.2.2.2.1 ((atP v.2 v.1).co.map ivC.enc)
            have hst : (v.2.map ptC.enc).set (0 + v.1) (ptA x) = (v.2.set v.1 x).map ptC.enc := by rw [Nat.zero_add, List.map_set]; rfl
            rw [hst] at hr
            exact P11_ok.rndN hr
              ⟨by rw [e]; exact lt_of hj, by rw [hL]; exact hj, hg, ⟨rfl, f⟩, by rw [hL]; omega, by rw [Nat.zero_add]; exact get_map _ hy, addIx _ _ _ (by omega), addIx _ _ _ (by omega), ⟨closedPt _, trivial⟩, rfl⟩)
        (fun v hv => ⟨P11_ok.rndX (r177x (l.map ptC.enc) (v.2.map ptC.enc) s (l.map ptC.enc).length v.1 l.length) ⟨by rw [e]; exact lt_self _, ⟨closedPt _, trivial⟩, rfl⟩, by simp⟩)
        (l.drop (i0 + 1)) (l.take (i0 + 1)) (i0, l) (List.take_append_drop ..) (by rw [hpl]; exact st)
      have fin := DelI.fold (q := fun p : Pt => hasWordM (chainN l p.1) s) (l.drop (i0 + 1)) (l.take (i0 + 1)) (i0, l) (List.take_append_drop ..) (by rw [hpl]; exact st)
      rw [goL_all (fun v x => dl (fun p : Pt => hasWordM (chainN l p.1) s) v x) id, hpl] at h2
      generalize hv : (l.drop (i0 + 1)).foldl (dl fun p : Pt => hasWordM (chainN l p.1) s) (i0, l) = v at fin h2
      obtain ⟨i, us⟩ := v
      obtain ⟨f1, f2, f3, f4⟩ := fin
      simp only [List.take_length] at f1 f2 f4
      have hU : (us.map ptC.enc).length = l.length := by rw [List.length_map]; exact f2
      have hsl : ∀ z : AV, (splice (us.map ptC.enc) (0 + i) (List.replicate ((l.map ptC.enc).length - i) z)).length = l.length := fun z => by
        unfold splice
        simp only [List.length_append, List.length_take, List.length_drop, List.length_replicate, hU, hL]; omega
      have hcl : ∀ z : AV, closed z = true → ClosedL (splice (us.map ptC.enc) (0 + i) (List.replicate ((l.map ptC.enc).length - i) z)) := fun z hz => by
        unfold splice
        rw [← List.map_take, ← List.map_drop]
        exact ((closedPt _).append (closedRep hz)).append (closedPt _)
      have htk : ∀ z : AV, (splice (us.map ptC.enc) (0 + i) (List.replicate ((l.map ptC.enc).length - i) z)).take (i - 0) = (brM l s).map ptC.enc := fun z => by
        unfold splice
        rw [Nat.sub_zero, Nat.zero_add, List.append_assoc, List.take_append_of_le_length (by rw [List.length_take, hU]; omega), List.take_take, Nat.min_self, ← List.map_take, f4]
        rfl
      have ht := t101y (l.map ptC.enc) (us.map ptC.enc) s (l.map ptC.enc).length i0 i
      rw [htk] at ht
      exact P11_ok.tr ht ⟨n1, ⟨allSzPt l, by rw [List.length_replicate], rfl⟩, ⟨⟨closedPt l, trivial⟩, ⟨closedPt l, trivial⟩, h.says⟩, by simp, addIx _ _ _ (by omega), ⟨⟨closedPt l, trivial⟩, ⟨closedPt us, trivial⟩, h2.says⟩,
        ⟨by rw [hL]; exact f1, Nat.le_refl _, by rw [hU, hL]; omega⟩, ⟨by rw [hU, hL]; omega, allSzRep rfl⟩, ⟨Nat.zero_le _, by rw [hL]; exact f1, by rw [hsl]; omega⟩, ⟨hcl _ rfl, by rw [hsl]; omega⟩, rfl⟩
def P12 : Specs := (P11.set 101 branch101G)
theorem P12_ok : Ok P12 := (P11_ok.set h101)
end Go.Vm.S3

namespace Go.Vm.S3
open Go.Proofs Go.RowKit
set_option maxRecDepth 100000 in
theorem t18a (es : List AV) (s : ByteArray) (e : Int) : evTreeD (CS P12) 60 18 [.rsl 7 es false, strA s] [.sp [.rsl 7 es false, strA s] (intA e), .as 11 true] =
    (.need (([.rsl 7 es false, .v (.string s)] : List AV) = ([.rsl 7 es false, .v (.string s)] : List AV) ∧ (Cx.spec (CS P12) 100 ([.rsl 7 es false, .v (.string s)] : List AV)) = (some (AV.v (.int .i64 e)))) (.need ((e != 0) = true) (.done (some (.tup [.agg [.v (.int .i64 0), .v (.int .i64 0), .v (.int .i64 0)], .v (.int .i64 e)]))))) := by kernel_rfl
set_option maxRecDepth 100000 in
theorem t17a (es : List AV) (s : ByteArray) (e : Int) : evTreeD (CS P12) 60 17 [.rsl 7 es false, strA s] [.sp [.rsl 7 es false, strA s] (intA e), .as 11 true] =
    (.need (([.rsl 7 es false, .v (.string s)] : List AV) = ([.rsl 7 es false, .v (.string s)] : List AV) ∧ (Cx.spec (CS P12) 100 ([.rsl 7 es false, .v (.string s)] : List AV)) = (some (AV.v (.int .i64 e)))) (.need ((e != 0) = true) (.done (some (.tup [.v (.slice none 0 0), .v (.int .i64 e)]))))) := by kernel_rfl
set_option maxRecDepth 100000 in
theorem t19a (es : List AV) (s : ByteArray) (e : Int) : evTreeD (CS P12) 60 19 [.rsl 7 es false, strA s] [.sp [.rsl 7 es false, strA s] (intA e), .as 11 true] =
    (.need (([.rsl 7 es false, .v (.string s)] : List AV) = ([.rsl 7 es false, .v (.string s)] : List AV) ∧ (Cx.spec (CS P12) 100 ([.rsl 7 es false, .v (.string s)] : List AV)) = (some (AV.v (.int .i64 e)))) (.need ((e != 0) = true) (.done (some (.tup [.v (.int .i64 0), .v (.int .i64 e)]))))) := by kernel_rfl
set_option maxRecDepth 100000 in
theorem t18b (es : List AV) (s : ByteArray) (e : Int) (v : V3) : evTreeD (CS P12) 60 18 [.rsl 7 es false, strA s] [.sp [.rsl 7 es false, strA s] (intA e), .as 11 false, .sp [.rsl 7 es false, strA s] (vA v)] =
    (.need (([.rsl 7 es false, .v (.string s)] : List AV) = ([.rsl 7 es false, .v (.string s)] : List AV) ∧ (Cx.spec (CS P12) 100 ([.rsl 7 es false, .v (.string s)] : List AV)) = (some (AV.v (.int .i64 e)))) (.need ((e != 0) = false) (.need (([.rsl 7 es false, .v (.string s)] : List AV) = ([.rsl 7 es false, .v (.string s)] : List AV) ∧ (Cx.spec (CS P12) 102 ([.rsl 7 es false, .v (.string s)] : List AV)) = (some (AV.agg [.v (.int .i64 v.fst), .v (.int .i64 v.snd.fst), .v (.int .i64 v.snd.snd)]))) (.done (some (.tup [.agg [.v (.int .i64 v.fst), .v (.int .i64 v.snd.fst), .v (.int .i64 v.snd.snd)], .v (.int .i64 0)])))))) := by kernel_rfl
set_option maxRecDepth 100000 in
theorem t17b (es rs ns : List AV) (s : ByteArray) (e : Int) : evTreeD (CS P12) 60 17 [.rsl 7 es false, strA s] [.sp [.rsl 7 es false, strA s] (intA e), .as 11 false, .sp [.rsl 7 es false, strA s] (.rsl 7 rs false), .sp [.rsl 7 rs false] (.rsl 1 ns false)] =
    (.need (([.rsl 7 es false, .v (.string s)] : List AV) = ([.rsl 7 es false, .v (.string s)] : List AV) ∧ (Cx.spec (CS P12) 100 ([.rsl 7 es false, .v (.string s)] : List AV)) = (some (AV.v (.int .i64 e)))) (.need ((e != 0) = false) (.need (([.rsl 7 es false, .v (.string s)] : List AV) = ([.rsl 7 es false, .v (.string s)] : List AV) ∧ (Cx.spec (CS P12) 101 ([.rsl 7 es false, .v (.string s)] : List AV)) = (some (AV.rsl 7 rs false))) (.need (([.rsl 7 rs false] : List AV) = ([.rsl 7 rs false] : List AV) ∧ (Cx.spec (CS P12) 96 ([.rsl 7 rs false] : List AV)) = (some (AV.rsl 1 ns false))) (.done (some (.tup [.rsl 1 ns false, .v (.int .i64 0)]))))))) := by kernel_rfl
set_option maxRecDepth 100000 in
theorem t19b (es rs : List AV) (s : ByteArray) (e m : Int) : evTreeD (CS P12) 60 19 [.rsl 7 es false, strA s] [.sp [.rsl 7 es false, strA s] (intA e), .as 11 false, .sp [.rsl 7 es false, strA s] (.rsl 7 rs false), .sp [.rsl 7 rs false] (intA m)] =
    (.need (([.rsl 7 es false, .v (.string s)] : List AV) = ([.rsl 7 es false, .v (.string s)] : List AV) ∧ (Cx.spec (CS P12) 100 ([.rsl 7 es false, .v (.string s)] : List AV)) = (some (AV.v (.int .i64 e)))) (.need ((e != 0) = false) (.need (([.rsl 7 es false, .v (.string s)] : List AV) = ([.rsl 7 es false, .v (.string s)] : List AV) ∧ (Cx.spec (CS P12) 101 ([.rsl 7 es false, .v (.string s)] : List AV)) = (some (AV.rsl 7 rs false))) (.need (([.rsl 7 rs false] : List AV) = ([.rsl 7 rs false] : List AV) ∧ (Cx.spec (CS P12) 103 ([.rsl 7 rs false] : List AV)) = (some (AV.v (.int .i64 m)))) (.done (some (.tup [.v (.int .i64 m), .v (.int .i64 0)]))))))) := by kernel_rfl
set_option maxRecDepth 100000 in
theorem r28n (es ns : List AV) (i : Nat) (t : Int) (w : ByteArray) (k : Nat) (a b : ByteArray) (m x y z : Int) (cs : List AV) : roundD (CS P12) 60 0 28 0 30 30 false (loopOf (CS P12) 28 0) [0, 5, 6, 7] [] [0, 5, 6, 7] [] [5] [] [.rsl 7 es false, intA t, .rsl 1 ns false, intA (Int.ofNat i)] [] [.as 14 true, .chk [strA w], .sp [.rsl 7 es false, strA w] (intA (Int.ofNat k)), .chk [.agg [strA a, strA b, intA m, intA x, intA y, intA z, .rsl 2 cs false]]] =
    (.need ((decide (Int.ofNat i < Int.ofNat ns.length)) = true) (.need (ns[i]? = (some (AV.v (.string w)))) (.need (([.rsl 7 es false, .v (.string w)] : List AV) = ([.rsl 7 es false, .v (.string w)] : List AV) ∧ (Cx.spec (CS P12) 24 ([.rsl 7 es false, .v (.string w)] : List AV)) = (some (AV.v (.int .i64 (Int.ofNat k))))) (.need (es[k]? = (some (AV.agg [.v (.string a), .v (.string b), .v (.int .i64 m), .v (.int .i64 x), .v (.int .i64 y), .v (.int .i64 z), .rsl 2 cs false]))) (.need (EntClosed []) (.done (some ((.nrm, [.rsl 7 es false, .v (.int .i64 (IntKind.i64.wrap (t + m))), .rsl 1 ns false, .v (.int .i64 (IntKind.i64.wrap (Int.ofNat i + 1)))], []))))))))) := by kernel_rfl
set_option maxRecDepth 100000 in
theorem r28x (es ns : List AV) (i : Nat) (t : Int) : roundD (CS P12) 60 0 28 0 30 30 false (loopOf (CS P12) 28 0) [0, 5, 6, 7] [] [0, 5, 6, 7] [] [5] [] [.rsl 7 es false, intA t, .rsl 1 ns false, intA (Int.ofNat i)] [] [.as 14 false] =
    (.need ((decide (Int.ofNat i < Int.ofNat ns.length)) = false) (.need (EntClosed []) (.done (some (((.exit 0), [.v (.int .i64 t)], [])))))) := by kernel_rfl
set_option maxRecDepth 100000 in
theorem t28 (es ns : List AV) (s : ByteArray) (t : Int) : evTreeD (CS P12) 60 28 [.rsl 7 es false, strA s] [.sp [.rsl 7 es false, strA s] (.rsl 1 ns false), .loop 0 [0, 5, 6, 7] [] [5] [] (.exit 0) [intA t] []] =
    (.need (([.rsl 7 es false, .v (.string s)] : List AV) = ([.rsl 7 es false, .v (.string s)] : List AV) ∧ (Cx.spec (CS P12) 26 ([.rsl 7 es false, .v (.string s)] : List AV)) = (some (AV.rsl 1 ns false))) (.need (EntClosed [] ∧ EntClosed [] ∧ Says (CS P12) 0 30 false (.loop (loopOf (CS P12) 28 0)) (mkSt [0, 5, 6, 7] [] 30 [.rsl 7 es false, .v (.int .i64 0), .rsl 1 ns false, .v (.int .i64 0)] []) (.exit 0) (mkSt [5] [] 30 [.v (.int .i64 t)] [])) (.done (some (.v (.int .i64 t)))))) := by kernel_rfl
/-! ### Place, Branch, Mass -/
theorem branch_names (l : List Pt) (s : ByteArray) : branchN l s = nms (brM l s) := gath_filter (fun p : Pt => hasWordM (chainN l p.1) s) (fun p => p.1) l 0
theorem brM_len (l : List Pt) (s : ByteArray) : (brM l s).length ≤ l.length := List.length_filter_le _ _
/-- A part of the branch, where it stands. -/
theorem br_at {l : List Pt} (h0 : partsM l = 0) {s : ByteArray} {x : Pt} (h : x ∈ brM l s) : ∃ k, l[k]? = some x ∧ findIx x.1 (nms l) 0 = some k := by
  obtain ⟨k, hk⟩ := List.getElem?_of_mem (List.mem_filter.1 h).1
  have h1 := find_own h0 (lt_len hk)
  have h2 := atP_get (lt_len hk)
  rw [hk, Option.some.injEq] at h2
  rw [← h2] at h1
  exact ⟨k, hk, h1⟩
theorem spCp {l : List Pt} (s : ByteArray) (h : okPts l = true) : cpG [slA ptC 7 l, strA s] = some (intA (cpM l s)) := by
  have := sp2_at (A := ptsC) (B := strC) (F := fun l s => bif okPts l then some (intA (cpM l s)) else none) l s
  rw [h] at this; exact this
theorem cp_zero {l : List Pt} {s : ByteArray} (h : (cpM l s != 0) = false) : partsM l = 0 ∧ hasP l s = true := by
  have h : cpM l s = 0 := by simpa using h
  unfold cpM at h
  cases hp : partsM l != 0 with
  | true =>
    rw [hp] at h
    simp only [cond_true] at h
    rw [h] at hp; cases hp
  | false =>
    rw [hp] at h
    simp only [cond_false] at h
    refine ⟨by simpa using hp, ?_⟩
    cases hh : hasP l s with
    | true => rfl
    | false => rw [hh] at h; cases h
theorem spBr {l : List Pt} (s : ByteArray) (h : partsM l = 0) : branch101G [slA ptC 7 l, strA s] = some (slA ptC 7 (brM l s)) := by
  have := sp2_at (A := ptsC) (B := strC) (F := fun l s => bif decide (partsM l = 0) then some (slA ptC 7 (brM l s)) else none) l s
  rw [decide_eq_true h] at this; exact this
theorem spPl {l : List Pt} {s : ByteArray} (h : partsM l = 0) (hs : hasP l s = true) : place102G [slA ptC 7 l, strA s] = some (vA (placeM' l s)) := by
  have := sp2_at (A := ptsC) (B := strC) (F := fun l s => bif decide (partsM l = 0) && hasP l s then some (vA (placeM' l s)) else none) l s
  rw [decide_eq_true h, hs] at this; exact this
theorem spMass {l : List Pt} (h : l.length < two63) : massG [slA ptC 7 l] = some (intA (massM l)) := by
  have := sp1_at (A := ptsC) (F := fun l => bif Nat.blt l.length two63 then some (intA (massM l)) else none) l
  rw [show Nat.blt l.length two63 = true from Nat.ble_eq_true_of_le h] at this; exact this
theorem spNames {l : List Pt} (h : l.length ≤ lim) : namesG [slA ptC 7 l] = some (slA strC 1 (nms l)) := by
  have := sp1_at (A := ptsC) (F := fun l => bif Nat.ble l.length lim then some (slA strC 1 (nms l)) else none) l
  rw [Nat.ble_eq_true_of_le h] at this; exact this
theorem spBrN {l : List Pt} (s : ByteArray) (h : l.length ≤ lim) : branch26G [slA ptC 7 l, strA s] = some (slA strC 1 (branchN l s)) := by
  have := sp2_at (A := ptsC) (B := strC) (F := fun l s => bif Nat.ble l.length lim then some (slA strC 1 (branchN l s)) else none) l s
  rw [Nat.ble_eq_true_of_le h] at this; exact this
/-- What a function answers for a name: an error, or what is made of the parts. -/
def ansP (z : AV) (f : List Pt → ByteArray → AV) (l : List Pt) (s : ByteArray) : AV := bif cpM l s != 0 then .tup [z, intA (cpM l s)] else .tup [f l s, intA 0]
def ansG (z : AV) (f : List Pt → ByteArray → AV) : List AV → Option AV := sp2 ptsC strC fun l s => bif okPts l then some (ansP z f l s) else none
theorem ans_holds {fid : FuncId} {z : AV} {f : List Pt → ByteArray → AV} (h1 : ∀ l s, okPts l = true → (cpM l s != 0) = true → Cmp fid [slA ptC 7 l, strA s] (.tup [z, intA (cpM l s)]))
    (h2 : ∀ l s, okPts l = true → (cpM l s != 0) = false → partsM l = 0 → hasP l s = true → Cmp fid [slA ptC 7 l, strA s] (.tup [f l s, intA 0])) : Holds fid (ansG z f) := holds2 fun l s r hr => by
  cases hb : okPts l with
  | false => simp [hb] at hr
  | true =>
    simp only [hb, cond_true, Option.some.injEq] at hr; subst hr
    unfold ansP
    cases hc : cpM l s != 0 with
    | true => exact h1 l s hb hc
    | false => exact h2 l s hb hc (cp_zero hc).1 (cp_zero hc).2
def place18G := ansG (vA (0, 0, 0)) fun l s => vA (placeM' l s)
def branch17G := ansG nilS fun l s => slA strC 1 (nms (brM l s))
def mass19G := ansG (intA 0) fun l s => intA (massM (brM l s))
theorem h18 : Holds 18 place18G := ans_holds
  (fun l s ho hc => P12_ok.tr (t18a (l.map ptC.enc) s (cpM l s)) ⟨⟨rfl, spCp s ho⟩, hc, rfl⟩)
  (fun l s ho hc h0 hs => P12_ok.tr (t18b (l.map ptC.enc) s (cpM l s) (placeM' l s)) ⟨⟨rfl, spCp s ho⟩, hc, ⟨rfl, spPl h0 hs⟩, rfl⟩)
theorem br_lim {l : List Pt} (h0 : partsM l = 0) (s : ByteArray) : (brM l s).length ≤ 16 := Nat.le_trans (brM_len l s) (parts_len h0).2
theorem h17 : Holds 17 branch17G := ans_holds
  (fun l s ho hc => P12_ok.tr (t17a (l.map ptC.enc) s (cpM l s)) ⟨⟨rfl, spCp s ho⟩, hc, rfl⟩)
  (fun l s ho hc h0 _ => P12_ok.tr (t17b (l.map ptC.enc) ((brM l s).map ptC.enc) ((nms (brM l s)).map strC.enc) s (cpM l s)) ⟨⟨rfl, spCp s ho⟩, hc, ⟨rfl, spBr s h0⟩, ⟨rfl, spNames (by have := br_lim h0 s; unfold lim; omega)⟩, rfl⟩)
theorem h19 : Holds 19 mass19G := ans_holds
  (fun l s ho hc => P12_ok.tr (t19a (l.map ptC.enc) s (cpM l s)) ⟨⟨rfl, spCp s ho⟩, hc, rfl⟩)
  (fun l s ho hc h0 _ => P12_ok.tr (t19b (l.map ptC.enc) ((brM l s).map ptC.enc) s (cpM l s) (massM (brM l s))) ⟨⟨rfl, spCp s ho⟩, hc, ⟨rfl, spBr s h0⟩, ⟨rfl, spMass (Nat.lt_of_le_of_lt (br_lim h0 s) (by decide))⟩, rfl⟩)
def mass28G : List AV → Option AV := sp2 ptsC strC fun l s => bif decide (partsM l = 0) then some (intA (massM (brM l s))) else none
theorem h28 : Holds 28 mass28G := holds2 fun l s r hr => by
  cases hb : decide (partsM l = 0) with
  | false => simp [hb] at hr
  | true =>
    simp only [hb, cond_true, Option.some.injEq] at hr; subst hr
    have h0 : partsM l = 0 := of_decide_eq_true hb
    have hlen := parts_len h0
    have h16 := br_lim h0 s
    have h63 : Nat.blt l.length two63 = true := Nat.ble_eq_true_of_le (Nat.lt_of_le_of_lt hlen.2 (by decide))
    have hns : ((nms (brM l s)).map strC.enc).length = (brM l s).length := by unfold nms; simp
    have h := LoopRun.list (C := CS P12) (p := 0) (nt := 30) (rd := false) (c := loopOf (CS P12) 28 0) (step := fun _ (p : Pt) (v : Int) => (.inl (IntKind.i64.wrap (v + p.2.2.1)) : Int ⊕ Int)) (fin := id)
      (enc := fun j v => mkSt [0, 5, 6, 7] [] 30 [.rsl 7 (l.map ptC.enc) false, intA v, .rsl 1 ((nms (brM l s)).map strC.enc) false, intA (Int.ofNat j)] [])
      (ex := fun _ => .exit 0) (out := fun v => mkSt [5] [] 30 [intA v] []) (l := brM l s) (fun _ _ => True)
      (fun j x v hx _ => by
        have hj := lt_len hx
        have hnm : ((nms (brM l s)).map strC.enc)[j]? = some (strA x.1) := by
          unfold nms
          rw [List.map_map]
          exact get_map _ hx
        obtain ⟨k, hk, hf0⟩ := br_at h0 (List.mem_of_getElem? hx)
        have hf := spFindP (l := l) x.1 h63
        rw [findP_o, hf0] at hf
        have hr := r28n (l.map ptC.enc) ((nms (brM l s)).map strC.enc) j v x.1 k x.1 x.2.1 x.2.2.1 x.2.2.2.1 x.2.2.2.2.1 x.2.2.2.2.2.1 (x.co.map ivC.enc)
        rw [wrap_ix hj (Nat.lt_of_le_of_lt h16 (by decide))] at hr
        exact ⟨P12_ok.rndN hr ⟨by rw [hns]; exact lt_of hj, hnm, ⟨rfl, hf⟩, get_map _ hk, trivial, rfl⟩, trivial⟩)
      (fun v _ => ⟨P12_ok.rndX (r28x (l.map ptC.enc) ((nms (brM l s)).map strC.enc) (brM l s).length v) ⟨by rw [hns]; exact lt_self _, trivial, rfl⟩, by simp⟩)
      (brM l s) [] 0 rfl trivial
    rw [show ([] : List Pt).length = 0 from rfl, goL_all (fun (v : Int) (p : Pt) => IntKind.i64.wrap (v + p.2.2.1)) id] at h
    have hsp := spBrN (l := l) s (by unfold lim; omega)
    rw [branch_names] at hsp
    exact P12_ok.tr (t28 (l.map ptC.enc) ((nms (brM l s)).map strC.enc) s (massM (brM l s))) ⟨⟨rfl, hsp⟩, ⟨trivial, trivial, h.says⟩, rfl⟩
def P13 : Specs := ((((P12.set 18 place18G).set 17 branch17G).set 19 mass19G).set 28 mass28G)
theorem P13_ok : Ok P13 := ((((P12_ok.set h18).set h17).set h19).set h28)
end Go.Vm.S3
