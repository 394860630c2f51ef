/- Labs: fittings; a calibration or a test by its name. -/
import Derived.Test.YtliikgffjphhjaaGreatDoorS3GF
namespace Go.Vm.S3
open Go.Proofs Go.RowKit
set_option maxRecDepth 100000
variable (ps fs cs ts : List AV) (d u : Int)
abbrev cQ3_6 (ps fs cs ts : List AV) (d u : Int) (i : Nat) (n : Int) (a b : ByteArray) (k e1 e2 e3 : Int) (h9 : List Hn) (a9 : List An) (x9 : Ex) (v9 : List AV) (e9 : List (Bool × Blk)) : Prop := Lr Q2 124 56 0 [1, 3] [1] [1, 3] [1] [2] [] [.ptr 1 0 0, iA (Int.ofNat i)] [lbX ps fs cs ts d u] ([.as 14 true, .chk [.agg [iA n, sA a, sA b]], .sp [iA n] (iA e1), .sp [.rsl 7 ps false, sA a] (iA k), .sp [bA (decide (k < 0)), iA 10] (iA e2), .sp [sA b] (iA e3)] ++ h9) ([.t i fs.length, .g fs i, .f 43, .f 24, .f 46, .f 106] ++ a9) x9 v9 e9
theorem r124zr (i : Nat) (n : Int) (a b : ByteArray) (k : Int) (e1 e2 e3 e4 e : Int) : cQ3_6 ps fs cs ts d u i n a b k e1 e2 e3 [.as 37 false, .sp [bA false, iA 11] (iA e4), .sp [.rsl 1 [iA e1, iA e2, iA e3, iA e4] true] (iA e), .as 54 true] [.b (decide (Int.ofNat i > 0)), .f 46, .f 105, .b (e != 0)] .ret [iA e] [] := kN (by kernel_rfl)
theorem r124zn (i : Nat) (n : Int) (a b : ByteArray) (k : Int) (e1 e2 e3 e4 e : Int) : cQ3_6 ps fs cs ts d u i n a b k e1 e2 e3 [.as 37 false, .sp [bA false, iA 11] (iA e4), .sp [.rsl 1 [iA e1, iA e2, iA e3, iA e4] true] (iA e), .as 54 false] [.b (decide (Int.ofNat i > 0)), .f 46, .f 105, .b (e != 0)] .nrm [.ptr 1 0 0, iA (IntKind.i64.wrap (Int.ofNat i + 1))] [lbX ps fs cs ts d u] := kN (by kernel_rfl)
theorem r124sr (i : Nat) (n : Int) (a b : ByteArray) (j : Nat) (n2 : Int) (a2 b2 : ByteArray) (k : Int) (e1 e2 e3 e4 e : Int) : cQ3_6 ps fs cs ts d u i n a b k e1 e2 e3 [.as 37 true, .ar (iA (Int.ofNat j)), .ar (iA (Int.ofNat j)), .chk [.agg [iA n2, sA a2, sA b2]], .sp [bA (decide (n < n2)), iA 11] (iA e4), .sp [.rsl 1 [iA e1, iA e2, iA e3, iA e4] true] (iA e), .as 54 true] [.b (decide (Int.ofNat i > 0)), .k ((abin (CS Q2) BinOp.sub 3 (Operand.tmp 42) (Operand.const (Value.int IntKind.i64 1)) (iA (Int.ofNat i)) (iA 1)) = (some (iA (Int.ofNat j)))), .k ((pureOp (CS Q2) (Builtin.max_ #[3, 3] 3 #[Value.int IntKind.i64 0, Value.int IntKind.i64 (Int.ofNat j)])) = (some (iA (Int.ofNat j)))), .g fs j, .f 46, .f 105, .b (e != 0)] .ret [iA e] [] := kN (by kernel_rfl)
theorem r124sn (i : Nat) (n : Int) (a b : ByteArray) (j : Nat) (n2 : Int) (a2 b2 : ByteArray) (k : Int) (e1 e2 e3 e4 e : Int) : cQ3_6 ps fs cs ts d u i n a b k e1 e2 e3 [.as 37 true, .ar (iA (Int.ofNat j)), .ar (iA (Int.ofNat j)), .chk [.agg [iA n2, sA a2, sA b2]], .sp [bA (decide (n < n2)), iA 11] (iA e4), .sp [.rsl 1 [iA e1, iA e2, iA e3, iA e4] true] (iA e), .as 54 false] [.b (decide (Int.ofNat i > 0)), .k ((abin (CS Q2) BinOp.sub 3 (Operand.tmp 42) (Operand.const (Value.int IntKind.i64 1)) (iA (Int.ofNat i)) (iA 1)) = (some (iA (Int.ofNat j)))), .k ((pureOp (CS Q2) (Builtin.max_ #[3, 3] 3 #[Value.int IntKind.i64 0, Value.int IntKind.i64 (Int.ofNat j)])) = (some (iA (Int.ofNat j)))), .g fs j, .f 46, .f 105, .b (e != 0)] .nrm [.ptr 1 0 0, iA (IntKind.i64.wrap (Int.ofNat i + 1))] [lbX ps fs cs ts d u] := kN (by kernel_rfl)
theorem r124x (i : Nat) : Lr Q2 124 56 0 [1, 3] [1] [1, 3] [1] [] [] [.ptr 1 0 0, iA (Int.ofNat i)] [lbX ps fs cs ts d u] [.as 14 false] [.t i fs.length] (.exit 0) [] [] := kN (by kernel_rfl)
theorem t124l : L Q2 124 [lbE ps fs cs ts d u] [.as 9 true] [.b (decide (Int.ofNat fs.length > 64))] (iA 5) := kR (by kernel_rfl)
theorem t124r (e : Int) : L Q2 124 [lbE ps fs cs ts d u] [.as 9 false, .loop 0 [1, 3] [1] [2] [] .ret [iA e] []] [.b (decide (Int.ofNat fs.length > 64)), .l 56 124 0 56 [.ptr 1 0 0, iA 0] [lbX ps fs cs ts d u]] (iA e) := kR (by kernel_rfl)
theorem t124e : L Q2 124 [lbE ps fs cs ts d u] [.as 9 false, .loop 0 [1, 3] [1] [] [] (.exit 0) [] []] [.b (decide (Int.ofNat fs.length > 64)), .l 56 124 0 56 [.ptr 1 0 0, iA 0] [lbX ps fs cs ts d u]] (iA 0) := kR (by kernel_rfl)
abbrev cQ3_7 (ks vs fs : List AV) (p : Int) (n0 i : Nat) (n : Int) (a b : ByteArray) (k : Int) (w : Bool) (e1 e2 e3 e4 e : Int) (h9 : List Hn) (a9 : List An) (x9 : Ex) (v9 : List AV) (e9 : List (Bool × Blk)) : Prop := Lr Q2 128 51 0 [1, 5, 16, 17, 18] [] [1, 5, 16, 17, 18] [] [4] [] [.rmp ks vs, iA p, .rsl 3 fs false, iA (Int.ofNat n0), iA (Int.ofNat i)] [] ([.as 19 true, .chk [.agg [iA n, sA a, sA b]], .chk [.tup [iA k, bA w]], .sp [iA n] (iA e1), .sp [bA (!w), iA 10] (iA e2), .sp [sA b] (iA e3), .sp [bA (decide (n < p)), iA 11] (iA e4), .sp [.rsl 1 [iA e1, iA e2, iA e3, iA e4] true] (iA e)] ++ h9) ([.t i n0, .g fs i, .k ((alookup (CS Q2) Tr.leaf 196 (AV.rmp ks vs) (sA a) true) = (some (AV.tup [iA k, bA w]))), .f 112, .f 109, .f 154, .f 109, .f 108] ++ a9) x9 v9 e9
theorem r128r (ks vs fs : List AV) (p : Int) (n0 i : Nat) (n : Int) (a b : ByteArray) (k : Int) (w : Bool) (e1 e2 e3 e4 e : Int) : cQ3_7 ks vs fs p n0 i n a b k w e1 e2 e3 e4 e [.as 46 true] [.b (e != 0)] .ret [iA e] [] := kN (by kernel_rfl)
theorem r128n (ks vs fs : List AV) (p : Int) (n0 i : Nat) (n : Int) (a b : ByteArray) (k : Int) (w : Bool) (e1 e2 e3 e4 e : Int) : cQ3_7 ks vs fs p n0 i n a b k w e1 e2 e3 e4 e [.as 46 false] [.b (e != 0)] .nrm [.rmp ks vs, iA n, .rsl 3 fs false, iA (Int.ofNat n0), iA (IntKind.i64.wrap (Int.ofNat i + 1))] [] := kN (by kernel_rfl)
theorem r128x (ks vs fs : List AV) (p : Int) (n0 i : Nat) : Lr Q2 128 51 0 [1, 5, 16, 17, 18] [] [1, 5, 16, 17, 18] [] [] [] [.rmp ks vs, iA p, .rsl 3 fs false, iA (Int.ofNat n0), iA (Int.ofNat i)] [] [.as 19 false] [.t i n0] (.exit 0) [] [] := kN (by kernel_rfl)
theorem t128l (ks vs : List AV) : L Q2 128 [lbE ps fs cs ts d u, .rmp ks vs] [.as 14 true] [.b (decide (Int.ofNat fs.length > 64))] (iA 5) := kR (by kernel_rfl)
theorem t128r (ks vs : List AV) (e : Int) : L Q2 128 [lbE ps fs cs ts d u, .rmp ks vs] [.as 14 false, .loop 0 [1, 5, 16, 17, 18] [] [4] [] .ret [iA e] []] [.b (decide (Int.ofNat fs.length > 64)), .l 51 128 0 51 [.rmp ks vs, iA 0, .rsl 3 fs false, iA (Int.ofNat fs.length), iA 0] []] (iA e) := kR (by kernel_rfl)
theorem t128e (ks vs : List AV) : L Q2 128 [lbE ps fs cs ts d u, .rmp ks vs] [.as 14 false, .loop 0 [1, 5, 16, 17, 18] [] [] [] (.exit 0) [] []] [.b (decide (Int.ofNat fs.length > 64)), .l 51 128 0 51 [.rmp ks vs, iA 0, .rsl 3 fs false, iA (Int.ofNat fs.length), iA 0] []] (iA 0) := kR (by kernel_rfl)
theorem r191n (es : List AV) (m i : Nat) (s b0 c0 : ByteArray) (n0 : Int) (us0 : List AV) (a b c : ByteArray) (n : Int) (us : List AV) : Lq Q2 0 186 9 19 28 0 [0, 1, 7, 8] [] [0, 1, 7, 8] [] [4] [] [.rsl 5 es false, .fn (.func 192) [] [.rptr [sA s, sA b0, sA c0, iA n0, .rsl 1 us0 false]], iA (Int.ofNat m), iA (Int.ofNat i)] [] [.as 9 true, .chk [.agg [sA a, sA b, sA c, iA n, .rsl 1 us false]], .as 16 false] [.t i m, .g es i, .b (a.toList == s.toList)] .nrm [.rsl 5 es false, .fn (Fn.func 192) [] [.rptr [sA s, sA b0, sA c0, iA n0, .rsl 1 us0 false]], iA (Int.ofNat m), iA (IntKind.i64.wrap (Int.ofNat i + 1))] [] := kQ (by kernel_rfl)
theorem r191y (es : List AV) (m i : Nat) (s b0 c0 : ByteArray) (n0 : Int) (us0 : List AV) (a b c : ByteArray) (n : Int) (us : List AV) : Lq Q2 0 186 9 19 28 0 [0, 1, 7, 8] [] [0, 1, 7, 8] [] [4] [] [.rsl 5 es false, .fn (.func 192) [] [.rptr [sA s, sA b0, sA c0, iA n0, .rsl 1 us0 false]], iA (Int.ofNat m), iA (Int.ofNat i)] [] [.as 9 true, .chk [.agg [sA a, sA b, sA c, iA n, .rsl 1 us false]], .as 16 true] [.t i m, .g es i, .b (a.toList == s.toList)] .ret [iA (Int.ofNat i)] [] := kQ (by kernel_rfl)
theorem r191x (es : List AV) (m i : Nat) (s b0 c0 : ByteArray) (n0 : Int) (us0 : List AV) : Lq Q2 0 186 9 19 28 0 [0, 1, 7, 8] [] [0, 1, 7, 8] [] [] [] [.rsl 5 es false, .fn (.func 192) [] [.rptr [sA s, sA b0, sA c0, iA n0, .rsl 1 us0 false]], iA (Int.ofNat m), iA (Int.ofNat i)] [] [.as 9 false] [.t i m] (.exit 0) [] [] := kQ (by kernel_rfl)
theorem t191r (es : List AV) (t : Int) (s b0 c0 : ByteArray) (n0 : Int) (us0 : List AV) : L Q2 191 [.rsl 5 es false, .fn (.func 192) [] [.rptr [sA s, sA b0, sA c0, iA n0, .rsl 1 us0 false]]] [.loop 0 [0, 1, 7, 8] [] [4] [] .ret [iA t] []] [.l 19 186 0 28 [.rsl 5 es false, .fn (Fn.func 192) [] [.rptr [sA s, sA b0, sA c0, iA n0, .rsl 1 us0 false]], iA (Int.ofNat es.length), iA 0] []] (bA (decide (t ≥ 0))) := kR (by kernel_rfl)
theorem t191e (es : List AV) (s b0 c0 : ByteArray) (n0 : Int) (us0 : List AV) : L Q2 191 [.rsl 5 es false, .fn (.func 192) [] [.rptr [sA s, sA b0, sA c0, iA n0, .rsl 1 us0 false]]] [.loop 0 [0, 1, 7, 8] [] [] [] (.exit 0) [] []] [.l 19 186 0 28 [.rsl 5 es false, .fn (Fn.func 192) [] [.rptr [sA s, sA b0, sA c0, iA n0, .rsl 1 us0 false]], iA (Int.ofNat es.length), iA 0] []] (bA (decide (-1 ≥ 0))) := kR (by kernel_rfl)
theorem r219n (es : List AV) (m i : Nat) (s : ByteArray) (n0 : Int) (us0 : List AV) (a : ByteArray) (n : Int) (us : List AV) : Lq Q2 0 143 9 19 28 0 [0, 1, 7, 8] [] [0, 1, 7, 8] [] [4] [] [.rsl 3 es false, .fn (.func 220) [] [.rptr [sA s, iA n0, .rsl 1 us0 false]], iA (Int.ofNat m), iA (Int.ofNat i)] [] [.as 9 true, .chk [.agg [sA a, iA n, .rsl 1 us false]], .as 16 false] [.t i m, .g es i, .b (a.toList == s.toList)] .nrm [.rsl 3 es false, .fn (Fn.func 220) [] [.rptr [sA s, iA n0, .rsl 1 us0 false]], iA (Int.ofNat m), iA (IntKind.i64.wrap (Int.ofNat i + 1))] [] := kQ (by kernel_rfl)
theorem r219y (es : List AV) (m i : Nat) (s : ByteArray) (n0 : Int) (us0 : List AV) (a : ByteArray) (n : Int) (us : List AV) : Lq Q2 0 143 9 19 28 0 [0, 1, 7, 8] [] [0, 1, 7, 8] [] [4] [] [.rsl 3 es false, .fn (.func 220) [] [.rptr [sA s, iA n0, .rsl 1 us0 false]], iA (Int.ofNat m), iA (Int.ofNat i)] [] [.as 9 true, .chk [.agg [sA a, iA n, .rsl 1 us false]], .as 16 true] [.t i m, .g es i, .b (a.toList == s.toList)] .ret [iA (Int.ofNat i)] [] := kQ (by kernel_rfl)
theorem r219x (es : List AV) (m i : Nat) (s : ByteArray) (n0 : Int) (us0 : List AV) : Lq Q2 0 143 9 19 28 0 [0, 1, 7, 8] [] [0, 1, 7, 8] [] [] [] [.rsl 3 es false, .fn (.func 220) [] [.rptr [sA s, iA n0, .rsl 1 us0 false]], iA (Int.ofNat m), iA (Int.ofNat i)] [] [.as 9 false] [.t i m] (.exit 0) [] [] := kQ (by kernel_rfl)
theorem t219r (es : List AV) (t : Int) (s : ByteArray) (n0 : Int) (us0 : List AV) : L Q2 219 [.rsl 3 es false, .fn (.func 220) [] [.rptr [sA s, iA n0, .rsl 1 us0 false]]] [.loop 0 [0, 1, 7, 8] [] [4] [] .ret [iA t] []] [.l 19 143 0 28 [.rsl 3 es false, .fn (Fn.func 220) [] [.rptr [sA s, iA n0, .rsl 1 us0 false]], iA (Int.ofNat es.length), iA 0] []] (bA (decide (t ≥ 0))) := kR (by kernel_rfl)
theorem t219e (es : List AV) (s : ByteArray) (n0 : Int) (us0 : List AV) : L Q2 219 [.rsl 3 es false, .fn (.func 220) [] [.rptr [sA s, iA n0, .rsl 1 us0 false]]] [.loop 0 [0, 1, 7, 8] [] [] [] (.exit 0) [] []] [.l 19 143 0 28 [.rsl 3 es false, .fn (Fn.func 220) [] [.rptr [sA s, iA n0, .rsl 1 us0 false]], iA (Int.ofNat es.length), iA 0] []] (bA (decide (-1 ≥ 0))) := kR (by kernel_rfl)
theorem r186n (es : List AV) (m i : Nat) (s : ByteArray) (a b c : ByteArray) (n : Int) (us : List AV) : Lr Q2 186 19 0 [0, 1, 7, 8] [] [0, 1, 7, 8] [] [4] [] [.rsl 5 es false, .fn (.func 187) [] [.rptr [sA s]], iA (Int.ofNat m), iA (Int.ofNat i)] [] [.as 9 true, .chk [.agg [sA a, sA b, sA c, iA n, .rsl 1 us false]], .as 16 false] [.t i m, .g es i, .b (a.toList == s.toList)] .nrm [.rsl 5 es false, .fn (Fn.func 187) [] [.rptr [sA s]], iA (Int.ofNat m), iA (IntKind.i64.wrap (Int.ofNat i + 1))] [] := kN (by kernel_rfl)
theorem r186y (es : List AV) (m i : Nat) (s : ByteArray) (a b c : ByteArray) (n : Int) (us : List AV) : Lr Q2 186 19 0 [0, 1, 7, 8] [] [0, 1, 7, 8] [] [4] [] [.rsl 5 es false, .fn (.func 187) [] [.rptr [sA s]], iA (Int.ofNat m), iA (Int.ofNat i)] [] [.as 9 true, .chk [.agg [sA a, sA b, sA c, iA n, .rsl 1 us false]], .as 16 true] [.t i m, .g es i, .b (a.toList == s.toList)] .ret [iA (Int.ofNat i)] [] := kN (by kernel_rfl)
theorem r186x (es : List AV) (m i : Nat) (s : ByteArray) : Lr Q2 186 19 0 [0, 1, 7, 8] [] [0, 1, 7, 8] [] [] [] [.rsl 5 es false, .fn (.func 187) [] [.rptr [sA s]], iA (Int.ofNat m), iA (Int.ofNat i)] [] [.as 9 false] [.t i m] (.exit 0) [] [] := kN (by kernel_rfl)
theorem t186r (es : List AV) (t : Int) (s : ByteArray) : L Q2 186 [.rsl 5 es false, .fn (.func 187) [] [.rptr [sA s]]] [.loop 0 [0, 1, 7, 8] [] [4] [] .ret [iA t] []] [.l 19 186 0 19 [.rsl 5 es false, .fn (Fn.func 187) [] [.rptr [sA s]], iA (Int.ofNat es.length), iA 0] []] (iA t) := kR (by kernel_rfl)
theorem t186e (es : List AV) (s : ByteArray) : L Q2 186 [.rsl 5 es false, .fn (.func 187) [] [.rptr [sA s]]] [.loop 0 [0, 1, 7, 8] [] [] [] (.exit 0) [] []] [.l 19 186 0 19 [.rsl 5 es false, .fn (Fn.func 187) [] [.rptr [sA s]], iA (Int.ofNat es.length), iA 0] []] (iA (-1)) := kR (by kernel_rfl)
theorem r143n (es : List AV) (m i : Nat) (s : ByteArray) (a : ByteArray) (n : Int) (us : List AV) : Lr Q2 143 19 0 [0, 1, 7, 8] [] [0, 1, 7, 8] [] [4] [] [.rsl 3 es false, .fn (.func 196) [] [.rptr [sA s]], iA (Int.ofNat m), iA (Int.ofNat i)] [] [.as 9 true, .chk [.agg [sA a, iA n, .rsl 1 us false]], .as 16 false] [.t i m, .g es i, .b (a.toList == s.toList)] .nrm [.rsl 3 es false, .fn (Fn.func 196) [] [.rptr [sA s]], iA (Int.ofNat m), iA (IntKind.i64.wrap (Int.ofNat i + 1))] [] := kN (by kernel_rfl)
theorem r143y (es : List AV) (m i : Nat) (s : ByteArray) (a : ByteArray) (n : Int) (us : List AV) : Lr Q2 143 19 0 [0, 1, 7, 8] [] [0, 1, 7, 8] [] [4] [] [.rsl 3 es false, .fn (.func 196) [] [.rptr [sA s]], iA (Int.ofNat m), iA (Int.ofNat i)] [] [.as 9 true, .chk [.agg [sA a, iA n, .rsl 1 us false]], .as 16 true] [.t i m, .g es i, .b (a.toList == s.toList)] .ret [iA (Int.ofNat i)] [] := kN (by kernel_rfl)
theorem r143x (es : List AV) (m i : Nat) (s : ByteArray) : Lr Q2 143 19 0 [0, 1, 7, 8] [] [0, 1, 7, 8] [] [] [] [.rsl 3 es false, .fn (.func 196) [] [.rptr [sA s]], iA (Int.ofNat m), iA (Int.ofNat i)] [] [.as 9 false] [.t i m] (.exit 0) [] [] := kN (by kernel_rfl)
theorem t143r (es : List AV) (t : Int) (s : ByteArray) : L Q2 143 [.rsl 3 es false, .fn (.func 196) [] [.rptr [sA s]]] [.loop 0 [0, 1, 7, 8] [] [4] [] .ret [iA t] []] [.l 19 143 0 19 [.rsl 3 es false, .fn (Fn.func 196) [] [.rptr [sA s]], iA (Int.ofNat es.length), iA 0] []] (iA t) := kR (by kernel_rfl)
theorem t143e (es : List AV) (s : ByteArray) : L Q2 143 [.rsl 3 es false, .fn (.func 196) [] [.rptr [sA s]]] [.loop 0 [0, 1, 7, 8] [] [] [] (.exit 0) [] []] [.l 19 143 0 19 [.rsl 3 es false, .fn (Fn.func 196) [] [.rptr [sA s]], iA (Int.ofNat es.length), iA 0] []] (iA (-1)) := kR (by kernel_rfl)
theorem pos_succ (j : Nat) : decide (Int.ofNat (j + 1) > 0) = true := by
 simp only [gt_iff_lt, decide_eq_true_eq, Int.ofNat_eq_natCast]; omega
theorem prevIx (S : Specs) (x y : Operand) {j n : Nat} (hi : j + 1 < n) (hl : n < two63) : abin (CS S) .sub 3 x y (AV.v (.int .i64 (Int.ofNat (j + 1)))) (AV.v (.int .i64 1)) = some (AV.v (.int .i64 (Int.ofNat j))) := by
 show some (AV.v (.int .i64 (IntKind.i64.wrap (Int.ofNat (j + 1) - 1)))) = _
 rw [show Int.ofNat (j + 1) - 1 = Int.ofNat j by simp only [Int.ofNat_eq_natCast]; omega]
 rw [wrap_in (by simp only [Int.ofNat_eq_natCast]; omega) (by unfold two63 at hl; simp only [Int.ofNat_eq_natCast]; omega)]
theorem max_nat (S : Specs) (j : Nat) : pureOp (CS S) (Builtin.max_ #[3, 3] 3 #[.int .i64 0, .int .i64 (Int.ofNat j)]) = some (AV.v (.int .i64 (Int.ofNat j))) := by
 have h : Builtin.max_ #[3, 3] 3 #[.int .i64 0, .int .i64 (Int.ofNat j)] = (pure (Value.int .i64 (if Int.ofNat j > 0 then Int.ofNat j else 0)) : Sem Value) := rfl
 rw [h]
 have : (if Int.ofNat j > 0 then Int.ofNat j else 0) = Int.ofNat j := by
  cases j with
  | zero => rfl
  | succ j => rw [if_pos (by simp only [gt_iff_lt, Int.ofNat_eq_natCast]; omega)]
 rw [this]
 rfl
def okLb (x : Lb) : Bool := okPts x.1 && (Nat.ble x.2.1.length lim && (Nat.ble x.2.2.1.length lim && (Nat.ble x.2.2.2.1.length lim && (x.2.2.1.all (fun c => Nat.ble c.2.2.2.2.length lim) && x.2.2.2.1.all fun t => Nat.ble t.2.2.length lim))))
structure OkLb (x : Lb) : Prop where
 ps : okPts x.1 = true
 p63 : Nat.blt x.1.length two63 = true
 fs : x.2.1.length ≤ lim
 cs : x.2.2.1.length ≤ lim
 ts : x.2.2.2.1.length ≤ lim
 vs : ∀ c ∈ x.2.2.1, Nat.ble c.2.2.2.2.length lim = true
 ws : ∀ t ∈ x.2.2.2.1, Nat.ble t.2.2.length lim = true
theorem okLb_at {x : Lb} (h : okLb x = true) : OkLb x := by
 unfold okLb at h
 simp only [Bool.and_eq_true, List.all_eq_true] at h
 obtain ⟨h1, h2, h3, h4, h5, h6⟩ := h
 exact ⟨h1, Nat.ble_eq_true_of_le (limTwo (okPts_at h1).1), Nat.le_of_ble_eq_true h2, Nat.le_of_ble_eq_true h3, Nat.le_of_ble_eq_true h4, h5, h6⟩
def prevD {α : Type} (f : α → Int) (l : List α) : Nat → Int
 | 0 => 0
 | j + 1 => ((l[j]?).map f).getD 0
theorem prevD_at {α : Type} {f : α → Int} {l : List α} {j : Nat} {z : α} (h : l[j]? = some z) : prevD f l (j + 1) = f z := by
 show ((l[j]?).map f).getD 0 = _
 rw [h]; rfl
theorem has_lt (l : List Pt) (s : ByteArray) : (!hasP l s) = decide (findP l s < 0) := by
 unfold hasP
 by_cases h : findP l s < 0
 ·rw [decide_eq_true h, decide_eq_false (by omega)]; rfl
 ·rw [decide_eq_false h, decide_eq_true (by omega)]; rfl
def fitE (x : Lb) (i : Nat) (y : Ft) : List Int := [dayM y.1, whenM (!hasP x.1 y.2.1) 10, nameErr y.2.2, whenM (decide (y.1 < prevD (fun z : Ft => z.1) x.2.1 i)) 11]
def fitM (x : Lb) (i : Nat) (y : Ft) : Int := firstM (fitE x i y)
def fitsM (x : Lb) : Int := bif decide (Int.ofNat x.2.1.length > 64) then 5 else srchE (fitM x) x.2.1
theorem dayM_zero {n : Int} (h : dayM n = 0) : 1 ≤ n ∧ n ≤ 100000 := by
 unfold dayM withinM whenM at h
 by_cases h1 : n < 1
 ·rw [decide_eq_true h1] at h; cases h
 ·by_cases h2 : n > 100000
  ·rw [decide_eq_true h2, Bool.or_true] at h; cases h
  ·omega
theorem day_zero {n : Int} : ∀ l : List Int, firstM (dayM n :: (l ++ [whenM (decide (n < 0)) 11])) = firstM (dayM n :: (l ++ [whenM false 11])) := fun l => by
 unfold firstM
 cases h : dayM n != 0 with
 | true => rfl
 | false =>
  simp only [bne_eq_false_iff_eq] at h
  have := dayM_zero h
  rw [decide_eq_false (by omega)]
def fitsG : List AV → Option AV := sp1 labC fun x => bif okLb x then some (iA (fitsM x)) else none
theorem spDay (n : Int) : dayG [iA n] = some (iA (dayM n)) := sp1_at (A := intC) (F := fun n => some (iA (dayM n))) n
def rptrR {α : Type} (R : RC α) : Cod α where
  dec | .rptr cs => R.decs cs
      | _ => none
  enc x := .rptr (R.encs x)
  weak a x h := by
    split at h
    · intro M y hy
      unfold Rep at hy ⊢
      obtain ⟨bl, o, l, rfl, hl, hrow⟩ := hy
      exact ⟨bl, o, l, rfl, R.weak _ _ h _ _ hl, hrow⟩
    · cases h
  rt x := R.rt x
def cbR : RC Cb := RC.cons strC (RC.cons strC (RC.cons strC (RC.cons intC (RC.one intsC))))
def tsR : RC Ts := RC.cons strC (RC.cons intC (RC.one strsC))
def cloC {α : Type} (f : FuncId) (A : Cod α) : Cod α where
  dec | .fn (.func f') [] [a] => bif Nat.beq f' f then A.dec a else none
      | _ => none
  enc x := .fn (.func f) [] [A.enc x]
  weak a x h := by
    split at h
    · rename_i f' a'
      cases hb : Nat.beq f' f with
      | false => simp [hb] at h
      | true =>
        simp only [hb, cond_true] at h
        have hf := Nat.eq_of_beq_eq_true hb
        subst hf
        intro M y hy
        unfold Rep at hy ⊢
        obtain ⟨l, c, rfl, h1, h2⟩ := hy
        refine ⟨l, c, rfl, h1, ?_⟩
        simp only [RepL.cons_iff, RepL.nil_iff] at h2 ⊢
        obtain ⟨z, zs, hz0, hz, hz1⟩ := h2
        exact ⟨z, zs, hz0, A.weak _ _ h _ _ hz, hz1⟩
    · cases h
  rt x := by simp [A.rt]
def idxI (n : Nat) : List Int := (List.range n).map Int.ofNat
theorem idxI_enc (n : Nat) : (idxI n).map intC.enc = idxA n := by unfold idxI idxA; rw [List.map_map]; rfl
abbrev mapC : Cod (List ByteArray × List Int) := rmapC strC intC
abbrev knows (l : List Pt) : List ByteArray × List Int := (nms l, idxI l.length)
theorem mapC_enc (l : List Pt) : mapC.enc (knows l) = .rmp ((nms l).map sA) (idxA l.length) := by
 show AV.rmp _ ((idxI l.length).map intC.enc) = _
 rw [idxI_enc]; rfl
abbrev stpF (x : Lb) : Nat → Ft → Option Int := fun i y => bif fitM x i y != 0 then some (fitM x i y) else none
theorem h124 : Holds 124 fitsG := holds1 fun x r hr => by
 cases hb : okLb x with
 | false => simp [hb] at hr
 | true =>
  simp only [hb, cond_true, Option.some.injEq] at hr; subst hr
  have K := okLb_at hb
  have hl := limTwo K.fs
  have h := LoopRun.find (C := CS Q2) (p := 0) (nt := 56) (rd := false) (c := lO (CS Q2) 124 0) (stpF x) (fun i => mkSt [1, 3] [1] 56 [.ptr 1 0 0, iA (Int.ofNat i)] [lbY x])
   (fun t => mkSt [2] [] 56 [iA t] []) (mkSt [] [] 56 [] []) (.exit 0) (fun _ => .ret) x.2.1 (by simp) (by simp)
   (fun i y hy => by
    have hi := lt_len hy
    have hlt : decide (Int.ofNat i < Int.ofNat (x.2.1.map ftC.enc).length) = true := by rw [e_ft]; exact lt_of hi
    have hg := get_map ftC.enc hy
    unfold stpF
    cases i with
    | zero =>
     have hf : fitM x 0 y = firstM [dayM y.1, whenM (decide (findP x.1 y.2.1 < 0)) 10, nameErr y.2.2, whenM false 11] := by
      unfold fitM fitE
      rw [has_lt]
      exact day_zero [_, _]
     have fr : firstG [.rsl 1 [iA (dayM y.1), iA (whenM (decide (findP x.1 y.2.1 < 0)) 10), iA (nameErr y.2.2), iA (whenM false 11)] true] = some (iA (fitM x 0 y)) := by rw [hf]; rfl
     cases he : fitM x 0 y != 0 with
     | true => exact Q2_ok.rndR ((lx x r124zr) 0 y.1 y.2.1 y.2.2 (findP x.1 y.2.1) _ _ _ _ (fitM x 0 y)) ⟨hlt, hg, ⟨rfl, spDay _⟩, ⟨rfl, spFindP _ K.p63⟩, ⟨rfl, spWhen _ 10⟩, ⟨rfl, spName _⟩, rfl, ⟨rfl, spWhen _ 11⟩, ⟨rfl, fr⟩, he, trivial, rfl⟩
     | false =>
      have hr := (lx x r124zn) 0 y.1 y.2.1 y.2.2 (findP x.1 y.2.1) (dayM y.1) (whenM (decide (findP x.1 y.2.1 < 0)) 10) (nameErr y.2.2) (whenM false 11) (fitM x 0 y)
      rw [wrap_ix hi hl] at hr
      exact Q2_ok.rndN hr ⟨hlt, hg, ⟨rfl, spDay _⟩, ⟨rfl, spFindP _ K.p63⟩, ⟨rfl, spWhen _ 10⟩, ⟨rfl, spName _⟩, rfl, ⟨rfl, spWhen _ 11⟩, ⟨rfl, fr⟩, he, trivial, rfl⟩
    | succ j =>
     obtain ⟨z, hz⟩ : ∃ z, x.2.1[j]? = some z := ⟨_, List.getElem?_eq_getElem (by omega)⟩
     have hgz := get_map ftC.enc hz
     have hf : fitM x (j + 1) y = firstM [dayM y.1, whenM (decide (findP x.1 y.2.1 < 0)) 10, nameErr y.2.2, whenM (decide (y.1 < z.1)) 11] := by
      unfold fitM fitE
      rw [has_lt, prevD_at hz]
     have fr : firstG [.rsl 1 [iA (dayM y.1), iA (whenM (decide (findP x.1 y.2.1 < 0)) 10), iA (nameErr y.2.2), iA (whenM (decide (y.1 < z.1)) 11)] true] = some (iA (fitM x (j + 1) y)) := by rw [hf]; rfl
     cases he : fitM x (j + 1) y != 0 with
     | true => exact Q2_ok.rndR ((lx x r124sr) (j + 1) y.1 y.2.1 y.2.2 j z.1 z.2.1 z.2.2 (findP x.1 y.2.1) _ _ _ _ (fitM x (j + 1) y)) ⟨hlt, hg, ⟨rfl, spDay _⟩, ⟨rfl, spFindP _ K.p63⟩, ⟨rfl, spWhen _ 10⟩, ⟨rfl, spName _⟩, pos_succ j, prevIx Q2 _ _ hi hl, max_nat Q2 j, hgz, ⟨rfl, spWhen _ 11⟩, ⟨rfl, fr⟩, he, trivial, rfl⟩
     | false =>
      have hr := (lx x r124sn) (j + 1) y.1 y.2.1 y.2.2 j z.1 z.2.1 z.2.2 (findP x.1 y.2.1) (dayM y.1) (whenM (decide (findP x.1 y.2.1 < 0)) 10) (nameErr y.2.2) (whenM (decide (y.1 < z.1)) 11) (fitM x (j + 1) y)
      rw [wrap_ix hi hl] at hr
      exact Q2_ok.rndN hr ⟨hlt, hg, ⟨rfl, spDay _⟩, ⟨rfl, spFindP _ K.p63⟩, ⟨rfl, spWhen _ 10⟩, ⟨rfl, spName _⟩, pos_succ j, prevIx Q2 _ _ hi hl, max_nat Q2 j, hgz, ⟨rfl, spWhen _ 11⟩, ⟨rfl, fr⟩, he, trivial, rfl⟩)
   (Q2_ok.rndX ((lx x r124x) x.2.1.length) ⟨by rw [e_ft]; exact lt_self _, trivial, rfl⟩)
  unfold fitsM srchE
  cases h64 : decide (Int.ofNat x.2.1.length > 64) with
  | true => exact Q2_ok.tr ((lx x t124l)) ⟨by rw [e_ft]; exact h64, rfl⟩
  | false =>
   cases hq : srch (stpF x) 0 x.2.1 with
   | some t => rw [hq] at h; exact Q2_ok.tr ((lx x t124r) t) ⟨by rw [e_ft]; exact h64, ⟨trivial, trivial, h.says⟩, rfl⟩
   | none => rw [hq] at h; exact Q2_ok.tr ((lx x t124e)) ⟨by rw [e_ft]; exact h64, ⟨trivial, trivial, h.says⟩, rfl⟩
def fitsPG : List AV → Option AV := sp2 labC mapC fun x m => bif okLb x && decide (m = knows x.1) then some (iA (fitsM x)) else none
theorem h128 : Holds 128 fitsPG := holds2 fun x m r hr => by
 cases hb : okLb x && decide (m = knows x.1) with
 | false => simp [hb] at hr
 | true =>
  simp only [hb, cond_true, Option.some.injEq] at hr; subst hr
  rw [Bool.and_eq_true] at hb
  have hm : m = knows x.1 := of_decide_eq_true hb.2
  subst hm
  have K := okLb_at hb.1
  have hl := limTwo K.fs
  rw [mapC_enc]
  have h := LoopRun.find (C := CS Q2) (p := 0) (nt := 51) (rd := false) (c := lO (CS Q2) 128 0) (stpF x)
   (fun i => mkSt [1, 5, 16, 17, 18] [] 51 [.rmp ((nms x.1).map sA) (idxA x.1.length), iA (prevD (fun z : Ft => z.1) x.2.1 i), .rsl 3 (x.2.1.map ftC.enc) false, iA (Int.ofNat (x.2.1.map ftC.enc).length), iA (Int.ofNat i)] [])
   (fun t => mkSt [4] [] 51 [iA t] []) (mkSt [] [] 51 [] []) (.exit 0) (fun _ => .ret) x.2.1 (by simp) (by simp)
   (fun i y hy => by
    have hi := lt_len hy
    have hlt : decide (Int.ofNat i < Int.ofNat (x.2.1.map ftC.enc).length) = true := by rw [e_ft]; exact lt_of hi
    have hg := get_map ftC.enc hy
    have hk := lookP Q2 x.1 y.2.1 true
    rw [cond_true, ← hasP_ix] at hk
    have fr : firstG [.rsl 1 [iA (dayM y.1), iA (whenM (!hasP x.1 y.2.1) 10), iA (nameErr y.2.2), iA (whenM (decide (y.1 < prevD (fun z : Ft => z.1) x.2.1 i)) 11)] true] = some (iA (fitM x i y)) := rfl
    unfold stpF
    cases he : fitM x i y != 0 with
    | true => exact Q2_ok.rndR (r128r ((nms x.1).map sA) (idxA x.1.length) (x.2.1.map ftC.enc) _ (x.2.1.map ftC.enc).length i y.1 y.2.1 y.2.2 _ (hasP x.1 y.2.1) _ _ _ _ (fitM x i y)) ⟨hlt, hg, hk, ⟨rfl, spDay _⟩, ⟨rfl, spWhen _ 10⟩, ⟨rfl, spName _⟩, ⟨rfl, spWhen _ 11⟩, ⟨rfl, fr⟩, he, trivial, rfl⟩
    | false =>
     have hr := r128n ((nms x.1).map sA) (idxA x.1.length) (x.2.1.map ftC.enc) (prevD (fun z : Ft => z.1) x.2.1 i) (x.2.1.map ftC.enc).length i y.1 y.2.1 y.2.2 (Int.ofNat ((findIx y.2.1 (nms x.1) 0).getD 0)) (hasP x.1 y.2.1) (dayM y.1) (whenM (!hasP x.1 y.2.1) 10) (nameErr y.2.2) (whenM (decide (y.1 < prevD (fun z : Ft => z.1) x.2.1 i)) 11) (fitM x i y)
     rw [wrap_ix hi hl] at hr
     show Says (CS Q2) 0 51 false (lO (CS Q2) 128 0) _ .nrm (mkSt [1, 5, 16, 17, 18] [] 51 [_, iA (prevD (fun z : Ft => z.1) x.2.1 (i + 1)), _, _, _] [])
     rw [prevD_at (f := fun z : Ft => z.1) hy]
     exact Q2_ok.rndN hr ⟨hlt, hg, hk, ⟨rfl, spDay _⟩, ⟨rfl, spWhen _ 10⟩, ⟨rfl, spName _⟩, ⟨rfl, spWhen _ 11⟩, ⟨rfl, fr⟩, he, trivial, rfl⟩)
   (Q2_ok.rndX (r128x ((nms x.1).map sA) (idxA x.1.length) (x.2.1.map ftC.enc) (prevD (fun z : Ft => z.1) x.2.1 x.2.1.length) (x.2.1.map ftC.enc).length x.2.1.length) ⟨by rw [e_ft]; exact lt_self _, trivial, rfl⟩)
  unfold fitsM srchE
  cases h64 : decide (Int.ofNat x.2.1.length > 64) with
  | true => exact Q2_ok.tr ((lx x t128l) _ _) ⟨by rw [e_ft]; exact h64, rfl⟩
  | false =>
   cases hq : srch (stpF x) 0 x.2.1 with
   | some t => rw [hq] at h; exact Q2_ok.tr ((lx x t128r) _ _ t) ⟨by rw [e_ft]; exact h64, ⟨trivial, trivial, h.says⟩, rfl⟩
   | none => rw [hq] at h; exact Q2_ok.tr ((lx x t128e) _ _) ⟨by rw [e_ft]; exact h64, ⟨trivial, trivial, h.says⟩, rfl⟩
def hasC (l : List Cb) (s : ByteArray) : Bool := decide (findC l s ≥ 0)
def hasT (l : List Ts) (s : ByteArray) : Bool := decide (findT l s ≥ 0)
def ix187G : List AV → Option AV := sp2 cbsC (cloC 187 (rptrC strC)) fun l s => bif Nat.blt l.length two63 then some (iA (findC l s)) else none
def ix196G : List AV → Option AV := sp2 tssC (cloC 196 (rptrC strC)) fun l s => bif Nat.blt l.length two63 then some (iA (findT l s)) else none
def has192G : List AV → Option AV := sp2 cbsC (cloC 192 (rptrR cbR)) fun l c => bif Nat.blt l.length two63 then some (bA (hasC l c.1)) else none
def has220G : List AV → Option AV := sp2 tssC (cloC 220 (rptrR tsR)) fun l c => bif Nat.blt l.length two63 then some (bA (hasT l c.1)) else none
theorem h191 : Holds 191 has192G := holds2 fun l c r hr => by
 cases hb : Nat.blt l.length two63 with
 | false => simp [hb] at hr
 | true =>
  simp only [hb, cond_true, Option.some.injEq] at hr; subst hr
  have hl : l.length < two63 := Nat.le_of_ble_eq_true hb
  have e := e_cb l
  have h := LoopRun.find (C := CS Q2) (p := 0) (nt := 19) (rd := false) (c := lO (CS Q2) 186 0) (fun i (x : Cb) => bif seq x.1 c.1 then some (Int.ofNat i) else none) (fun i => mkSt [0, 1, 7, 8] [] 28 [.rsl 5 (l.map cbC.enc) false, .fn (.func 192) [] [.rptr (cbR.encs c)], iA (Int.ofNat l.length), iA (Int.ofNat i)] [])
   (fun t => mkSt [4] [] 28 [iA t] []) (mkSt [] [] 28 [] []) (.exit 0) (fun _ => .ret) l (by simp) (by simp)
   (fun i x hx => by
    have hi := lt_len hx
    have hr := r191n (l.map cbC.enc) l.length i c.1 c.2.1 c.2.2.1 c.2.2.2.1 (c.2.2.2.2.map intC.enc) x.1 x.2.1 x.2.2.1 x.2.2.2.1 (x.2.2.2.2.map intC.enc)
    rw [wrap_ix hi hl] at hr
    cases h : seq x.1 c.1 with
    | true => exact Q2_ok.rndR (r191y (l.map cbC.enc) l.length i c.1 c.2.1 c.2.2.1 c.2.2.2.1 (c.2.2.2.2.map intC.enc) x.1 x.2.1 x.2.2.1 x.2.2.2.1 (x.2.2.2.2.map intC.enc)) ⟨lt_of hi, get_map _ hx, h, trivial, rfl⟩
    | false => exact Q2_ok.rndN hr ⟨lt_of hi, get_map _ hx, h, trivial, rfl⟩)
   (Q2_ok.rndX (r191x (l.map cbC.enc) l.length l.length c.1 c.2.1 c.2.2.1 c.2.2.2.1 (c.2.2.2.2.map intC.enc)) ⟨lt_self _, trivial, rfl⟩)
  unfold hasC findC
  rw [find_ix fun x : Cb => x.1] at h
  rw [← e] at h
  cases hq : findIx c.1 (nmc l) 0 with
  | some t => rw [hq] at h; exact Q2_ok.tr (t191r (l.map cbC.enc) (Int.ofNat t) c.1 c.2.1 c.2.2.1 c.2.2.2.1 (c.2.2.2.2.map intC.enc)) ⟨⟨trivial, trivial, h.says⟩, rfl⟩
  | none => rw [hq] at h; exact Q2_ok.tr (t191e (l.map cbC.enc) c.1 c.2.1 c.2.2.1 c.2.2.2.1 (c.2.2.2.2.map intC.enc)) ⟨⟨trivial, trivial, h.says⟩, rfl⟩
theorem h219 : Holds 219 has220G := holds2 fun l c r hr => by
 cases hb : Nat.blt l.length two63 with
 | false => simp [hb] at hr
 | true =>
  simp only [hb, cond_true, Option.some.injEq] at hr; subst hr
  have hl : l.length < two63 := Nat.le_of_ble_eq_true hb
  have e := e_ts l
  have h := LoopRun.find (C := CS Q2) (p := 0) (nt := 19) (rd := false) (c := lO (CS Q2) 143 0) (fun i (x : Ts) => bif seq x.1 c.1 then some (Int.ofNat i) else none) (fun i => mkSt [0, 1, 7, 8] [] 28 [.rsl 3 (l.map tsC.enc) false, .fn (.func 220) [] [.rptr (tsR.encs c)], iA (Int.ofNat l.length), iA (Int.ofNat i)] [])
   (fun t => mkSt [4] [] 28 [iA t] []) (mkSt [] [] 28 [] []) (.exit 0) (fun _ => .ret) l (by simp) (by simp)
   (fun i x hx => by
    have hi := lt_len hx
    have hr := r219n (l.map tsC.enc) l.length i c.1 c.2.1 (c.2.2.map strC.enc) x.1 x.2.1 (x.2.2.map strC.enc)
    rw [wrap_ix hi hl] at hr
    cases h : seq x.1 c.1 with
    | true => exact Q2_ok.rndR (r219y (l.map tsC.enc) l.length i c.1 c.2.1 (c.2.2.map strC.enc) x.1 x.2.1 (x.2.2.map strC.enc)) ⟨lt_of hi, get_map _ hx, h, trivial, rfl⟩
    | false => exact Q2_ok.rndN hr ⟨lt_of hi, get_map _ hx, h, trivial, rfl⟩)
   (Q2_ok.rndX (r219x (l.map tsC.enc) l.length l.length c.1 c.2.1 (c.2.2.map strC.enc)) ⟨lt_self _, trivial, rfl⟩)
  unfold hasT findT
  rw [find_ix fun x : Ts => x.1] at h
  rw [← e] at h
  cases hq : findIx c.1 (nmt l) 0 with
  | some t => rw [hq] at h; exact Q2_ok.tr (t219r (l.map tsC.enc) (Int.ofNat t) c.1 c.2.1 (c.2.2.map strC.enc)) ⟨⟨trivial, trivial, h.says⟩, rfl⟩
  | none => rw [hq] at h; exact Q2_ok.tr (t219e (l.map tsC.enc) c.1 c.2.1 (c.2.2.map strC.enc)) ⟨⟨trivial, trivial, h.says⟩, rfl⟩
theorem h186 : Holds 186 ix187G := holds2 fun l s r hr => by
 cases hb : Nat.blt l.length two63 with
 | false => simp [hb] at hr
 | true =>
  simp only [hb, cond_true, Option.some.injEq] at hr; subst hr
  have hl : l.length < two63 := Nat.le_of_ble_eq_true hb
  have e := e_cb l
  have h := LoopRun.find (C := CS Q2) (p := 0) (nt := 19) (rd := false) (c := lO (CS Q2) 186 0) (fun i (x : Cb) => bif seq x.1 s then some (Int.ofNat i) else none) (fun i => mkSt [0, 1, 7, 8] [] 19 [.rsl 5 (l.map cbC.enc) false, .fn (.func 187) [] [.rptr [sA s]], iA (Int.ofNat l.length), iA (Int.ofNat i)] [])
   (fun t => mkSt [4] [] 19 [iA t] []) (mkSt [] [] 19 [] []) (.exit 0) (fun _ => .ret) l (by simp) (by simp)
   (fun i x hx => by
    have hi := lt_len hx
    have hr := r186n (l.map cbC.enc) l.length i s x.1 x.2.1 x.2.2.1 x.2.2.2.1 (x.2.2.2.2.map intC.enc)
    rw [wrap_ix hi hl] at hr
    cases h : seq x.1 s with
    | true => exact Q2_ok.rndR (r186y (l.map cbC.enc) l.length i s x.1 x.2.1 x.2.2.1 x.2.2.2.1 (x.2.2.2.2.map intC.enc)) ⟨lt_of hi, get_map _ hx, h, trivial, rfl⟩
    | false => exact Q2_ok.rndN hr ⟨lt_of hi, get_map _ hx, h, trivial, rfl⟩)
   (Q2_ok.rndX (r186x (l.map cbC.enc) l.length l.length s) ⟨lt_self _, trivial, rfl⟩)
  unfold findC
  rw [find_ix fun x : Cb => x.1] at h
  rw [← e] at h
  cases hq : findIx s (nmc l) 0 with
  | some t => rw [hq] at h; exact Q2_ok.tr (t186r (l.map cbC.enc) (Int.ofNat t) s) ⟨⟨trivial, trivial, h.says⟩, rfl⟩
  | none => rw [hq] at h; exact Q2_ok.tr (t186e (l.map cbC.enc) s) ⟨⟨trivial, trivial, h.says⟩, rfl⟩
theorem h143 : Holds 143 ix196G := holds2 fun l s r hr => by
 cases hb : Nat.blt l.length two63 with
 | false => simp [hb] at hr
 | true =>
  simp only [hb, cond_true, Option.some.injEq] at hr; subst hr
  have hl : l.length < two63 := Nat.le_of_ble_eq_true hb
  have e := e_ts l
  have h := LoopRun.find (C := CS Q2) (p := 0) (nt := 19) (rd := false) (c := lO (CS Q2) 143 0) (fun i (x : Ts) => bif seq x.1 s then some (Int.ofNat i) else none) (fun i => mkSt [0, 1, 7, 8] [] 19 [.rsl 3 (l.map tsC.enc) false, .fn (.func 196) [] [.rptr [sA s]], iA (Int.ofNat l.length), iA (Int.ofNat i)] [])
   (fun t => mkSt [4] [] 19 [iA t] []) (mkSt [] [] 19 [] []) (.exit 0) (fun _ => .ret) l (by simp) (by simp)
   (fun i x hx => by
    have hi := lt_len hx
    have hr := r143n (l.map tsC.enc) l.length i s x.1 x.2.1 (x.2.2.map strC.enc)
    rw [wrap_ix hi hl] at hr
    cases h : seq x.1 s with
    | true => exact Q2_ok.rndR (r143y (l.map tsC.enc) l.length i s x.1 x.2.1 (x.2.2.map strC.enc)) ⟨lt_of hi, get_map _ hx, h, trivial, rfl⟩
    | false => exact Q2_ok.rndN hr ⟨lt_of hi, get_map _ hx, h, trivial, rfl⟩)
   (Q2_ok.rndX (r143x (l.map tsC.enc) l.length l.length s) ⟨lt_self _, trivial, rfl⟩)
  unfold findT
  rw [find_ix fun x : Ts => x.1] at h
  rw [← e] at h
  cases hq : findIx s (nmt l) 0 with
  | some t => rw [hq] at h; exact Q2_ok.tr (t143r (l.map tsC.enc) (Int.ofNat t) s) ⟨⟨trivial, trivial, h.says⟩, rfl⟩
  | none => rw [hq] at h; exact Q2_ok.tr (t143e (l.map tsC.enc) s) ⟨⟨trivial, trivial, h.says⟩, rfl⟩
def Q3 : Specs := ((((((Q2.set 124 fitsG).set 128 fitsPG).set 191 has192G).set 219 has220G).set 186 ix187G).set 143 ix196G)
theorem Q3_ok : Ok Q3 := ((((((Q2_ok.set h124).set h128).set h191).set h219).set h186).set h143)
end Go.Vm.S3

namespace Go.Vm.S3
open Go.Proofs Go.RowKit
set_option maxRecDepth 100000
variable (ps fs cs ts : List AV) (d u : Int)
theorem r125ir (i j : Nat) (a b c : ByteArray) (n : Int) (vs : List AV) (v e : Int) : Lr Q3 125 99 2 [1, 3, 4, 6] [1, 4] [1, 3, 4, 6] [1, 4] [2] [] [.ptr 1 0 0, iA (Int.ofNat i), .ptr 4 1 0, iA (Int.ofNat j)] [lbX ps fs cs ts d u, (false, .box [sA a, sA b, sA c, iA n, .rsl 1 vs false])] [.as 73 true, .chk [iA v], .sp [iA v, iA (-1000000), iA 1000000] (iA e), .as 83 true] [.t j vs.length, .g vs j, .f 89, .b (e != 0)] .ret [iA e] [] := kN (by kernel_rfl)
theorem r125in (i j : Nat) (a b c : ByteArray) (n : Int) (vs : List AV) (v e : Int) : Lr Q3 125 99 2 [1, 3, 4, 6] [1, 4] [1, 3, 4, 6] [1, 4] [1, 3, 4] [1, 4] [.ptr 1 0 0, iA (Int.ofNat i), .ptr 4 1 0, iA (Int.ofNat j)] [lbX ps fs cs ts d u, (false, .box [sA a, sA b, sA c, iA n, .rsl 1 vs false])] [.as 73 true, .chk [iA v], .sp [iA v, iA (-1000000), iA 1000000] (iA e), .as 83 false] [.t j vs.length, .g vs j, .f 89, .b (e != 0)] .nrm [.ptr 1 0 0, iA (Int.ofNat i), .ptr 4 1 0, iA (IntKind.i64.wrap (Int.ofNat j + 1))] [lbX ps fs cs ts d u, (false, .box [sA a, sA b, sA c, iA n, .rsl 1 vs false])] := kN (by kernel_rfl)
theorem r125ix (i j : Nat) (a b c : ByteArray) (n : Int) (vs : List AV) : Lr Q3 125 99 2 [1, 3, 4, 6] [1, 4] [1, 3, 4, 6] [1, 4] [1, 3, 4] [1, 4] [.ptr 1 0 0, iA (Int.ofNat i), .ptr 4 1 0, iA (Int.ofNat j)] [lbX ps fs cs ts d u, (false, .box [sA a, sA b, sA c, iA n, .rsl 1 vs false])] [.as 73 false] [.t j vs.length] (.exit 2) [.ptr 1 0 0, iA (Int.ofNat i), .ptr 4 1 0] [lbX ps fs cs ts d u, (false, .box [sA a, sA b, sA c, iA n, .rsl 1 vs false])] := kN (by kernel_rfl)
theorem r125a (i : Nat) (a b c : ByteArray) (n : Int) (vs : List AV) (cs1 : List AV) (k1 k2 e1 e2 e3 e4 e5 e : Int) : Lr Q3 125 99 0 [1, 3] [1] [1, 3] [1] [2] [] [.ptr 1 0 0, iA (Int.ofNat i)] [lbX ps fs cs ts d u] [.as 16 true, .chk [.agg [sA a, sA b, sA c, iA n, .rsl 1 vs false]], .sp [sA a] (iA e1), .chk [], .sp [.rsl 5 cs1 false, sA a] (iA k1), .sp [bA (decide (k1 ≥ 0)), iA 9] (iA e2), .sp [.rsl 7 ps false, sA b] (iA k2), .sp [bA (decide (k2 < 0)), iA 10] (iA e3), .sp [sA c] (iA e4), .sp [iA n] (iA e5), .sp [.rsl 1 [iA e1, iA e2, iA e3, iA e4, iA e5] true] (iA e), .as 52 true] [.t i cs.length, .g cs i, .f 106, .k (0 ≤ i ∧ i ≤ cs.length), .q 44 [.rsl 5 (List.take (i - 0) (List.drop 0 cs)) false, sA a], .f 46, .f 24, .f 46, .f 106, .f 43, .f 105, .b (e != 0)] .ret [iA e] [] := kN (by kernel_rfl)
theorem r125b (i : Nat) (a b c : ByteArray) (n : Int) (vs : List AV) (cs1 : List AV) (k1 k2 e1 e2 e3 e4 e5 e : Int) (k : Nat) (pa pb : ByteArray) (pm px py pz : Int) (co : List AV) : Lr Q3 125 99 0 [1, 3] [1] [1, 3] [1] [2] [] [.ptr 1 0 0, iA (Int.ofNat i)] [lbX ps fs cs ts d u] [.as 16 true, .chk [.agg [sA a, sA b, sA c, iA n, .rsl 1 vs false]], .sp [sA a] (iA e1), .chk [], .sp [.rsl 5 cs1 false, sA a] (iA k1), .sp [bA (decide (k1 ≥ 0)), iA 9] (iA e2), .sp [.rsl 7 ps false, sA b] (iA k2), .sp [bA (decide (k2 < 0)), iA 10] (iA e3), .sp [sA c] (iA e4), .sp [iA n] (iA e5), .sp [.rsl 1 [iA e1, iA e2, iA e3, iA e4, iA e5] true] (iA e), .as 52 false, .sp [.rsl 7 ps false, sA b] (iA (Int.ofNat k)), .chk [.agg [sA pa, sA pb, iA pm, iA px, iA py, iA pz, .rsl 2 co false]], .as 68 true] [.t i cs.length, .g cs i, .f 106, .k (0 ≤ i ∧ i ≤ cs.length), .q 44 [.rsl 5 (List.take (i - 0) (List.drop 0 cs)) false, sA a], .f 46, .f 24, .f 46, .f 106, .f 43, .f 105, .b (e != 0), .f 24, .g ps k, .b (Int.ofNat vs.length != Int.ofNat co.length)] .ret [iA 2] [] := kN (by kernel_rfl)
theorem r125c (i : Nat) (a b c : ByteArray) (n : Int) (vs : List AV) (cs1 : List AV) (k1 k2 e1 e2 e3 e4 e5 e : Int) (k : Nat) (pa pb : ByteArray) (pm px py pz : Int) (co : List AV) (t : Int) : Lr Q3 125 99 0 [1, 3] [1] [1, 3] [1] [2] [] [.ptr 1 0 0, iA (Int.ofNat i)] [lbX ps fs cs ts d u] [.as 16 true, .chk [.agg [sA a, sA b, sA c, iA n, .rsl 1 vs false]], .sp [sA a] (iA e1), .chk [], .sp [.rsl 5 cs1 false, sA a] (iA k1), .sp [bA (decide (k1 ≥ 0)), iA 9] (iA e2), .sp [.rsl 7 ps false, sA b] (iA k2), .sp [bA (decide (k2 < 0)), iA 10] (iA e3), .sp [sA c] (iA e4), .sp [iA n] (iA e5), .sp [.rsl 1 [iA e1, iA e2, iA e3, iA e4, iA e5] true] (iA e), .as 52 false, .sp [.rsl 7 ps false, sA b] (iA (Int.ofNat k)), .chk [.agg [sA pa, sA pb, iA pm, iA px, iA py, iA pz, .rsl 2 co false]], .as 68 false, .loop 0 [1, 3, 4, 6] [1, 4] [2] [] .ret [iA t] [], ] [.t i cs.length, .g cs i, .f 106, .k (0 ≤ i ∧ i ≤ cs.length), .q 44 [.rsl 5 (List.take (i - 0) (List.drop 0 cs)) false, sA a], .f 46, .f 24, .f 46, .f 106, .f 43, .f 105, .b (e != 0), .f 24, .g ps k, .b (Int.ofNat vs.length != Int.ofNat co.length), .l 99 125 2 99 [.ptr 1 0 0, iA (Int.ofNat i), .ptr 4 1 0, iA 0] [lbX ps fs cs ts d u, (false, .box [sA a, sA b, sA c, iA n, .rsl 1 vs false])]] .ret [iA t] [] := kN (by kernel_rfl)
abbrev cQ4_8 (ps fs cs ts : List AV) (d u : Int) (i : Nat) (a b c : ByteArray) (n : Int) (vs cs1 : List AV) (k1 k2 e1 e2 e3 e4 e5 e : Int) (k : Nat) (pa pb : ByteArray) (pm px py pz : Int) (co : List AV) (h9 : List Hn) (a9 : List An) (x9 : Ex) (v9 : List AV) (e9 : List (Bool × Blk)) : Prop := Lr Q3 125 99 0 [1, 3] [1] [1, 3] [1] [2] [] [.ptr 1 0 0, iA (Int.ofNat i)] [lbX ps fs cs ts d u] ([.as 16 true, .chk [.agg [sA a, sA b, sA c, iA n, .rsl 1 vs false]], .sp [sA a] (iA e1), .chk [], .sp [.rsl 5 cs1 false, sA a] (iA k1), .sp [bA (decide (k1 ≥ 0)), iA 9] (iA e2), .sp [.rsl 7 ps false, sA b] (iA k2), .sp [bA (decide (k2 < 0)), iA 10] (iA e3), .sp [sA c] (iA e4), .sp [iA n] (iA e5), .sp [.rsl 1 [iA e1, iA e2, iA e3, iA e4, iA e5] true] (iA e), .as 52 false, .sp [.rsl 7 ps false, sA b] (iA (Int.ofNat k)), .chk [.agg [sA pa, sA pb, iA pm, iA px, iA py, iA pz, .rsl 2 co false]], .as 68 false, .loop 0 [1, 3, 4, 6] [1, 4] [1, 3, 4] [1, 4] (.exit 2) [.ptr 1 0 0, iA (Int.ofNat i), .ptr 4 1 0] [lbX ps fs cs ts d u, (false, .box [sA a, sA b, sA c, iA n, .rsl 1 vs false])]] ++ h9) ([.t i cs.length, .g cs i, .f 106, .k (0 ≤ i ∧ i ≤ cs.length), .q 44 [.rsl 5 (List.take (i - 0) (List.drop 0 cs)) false, sA a], .f 46, .f 24, .f 46, .f 106, .f 43, .f 105, .b (e != 0), .f 24, .g ps k, .b (Int.ofNat vs.length != Int.ofNat co.length), .l 99 125 2 99 [.ptr 1 0 0, iA (Int.ofNat i), .ptr 4 1 0, iA 0] [lbX ps fs cs ts d u, (false, .box [sA a, sA b, sA c, iA n, .rsl 1 vs false])]] ++ a9) x9 v9 e9
theorem r125z (i : Nat) (a b c : ByteArray) (n : Int) (vs : List AV) (cs1 : List AV) (k1 k2 e1 e2 e3 e4 e5 e : Int) (k : Nat) (pa pb : ByteArray) (pm px py pz : Int) (co : List AV) : cQ4_8 ps fs cs ts d u i a b c n vs cs1 k1 k2 e1 e2 e3 e4 e5 e k pa pb pm px py pz co [.as 87 false, .as 98 false] [.b (decide (Int.ofNat i > 0)), .b false] .nrm [.ptr 1 0 0, iA (IntKind.i64.wrap (Int.ofNat i + 1))] [lbX ps fs cs ts d u] := kN (by kernel_rfl)
theorem r125s (i : Nat) (a b c : ByteArray) (n : Int) (vs : List AV) (cs1 : List AV) (k1 k2 e1 e2 e3 e4 e5 e : Int) (k : Nat) (pa pb : ByteArray) (pm px py pz : Int) (co : List AV) (j : Nat) (a2 b2 c2 : ByteArray) (n2 : Int) (vs2 : List AV) : cQ4_8 ps fs cs ts d u i a b c n vs cs1 k1 k2 e1 e2 e3 e4 e5 e k pa pb pm px py pz co [.as 87 true, .ar (iA (Int.ofNat j)), .chk [.agg [sA a2, sA b2, sA c2, iA n2, .rsl 1 vs2 false]], .as 98 false] [.b (decide (Int.ofNat i > 0)), .k ((abin (CS Q3) BinOp.sub 3 (Operand.tmp 92) (Operand.const (Value.int IntKind.i64 1)) (iA (Int.ofNat i)) (iA 1)) = (some (iA (Int.ofNat j)))), .g cs j, .b (decide (n < n2))] .nrm [.ptr 1 0 0, iA (IntKind.i64.wrap (Int.ofNat i + 1))] [lbX ps fs cs ts d u] := kN (by kernel_rfl)
theorem r125t (i : Nat) (a b c : ByteArray) (n : Int) (vs : List AV) (cs1 : List AV) (k1 k2 e1 e2 e3 e4 e5 e : Int) (k : Nat) (pa pb : ByteArray) (pm px py pz : Int) (co : List AV) (j : Nat) (a2 b2 c2 : ByteArray) (n2 : Int) (vs2 : List AV) : cQ4_8 ps fs cs ts d u i a b c n vs cs1 k1 k2 e1 e2 e3 e4 e5 e k pa pb pm px py pz co [.as 87 true, .ar (iA (Int.ofNat j)), .chk [.agg [sA a2, sA b2, sA c2, iA n2, .rsl 1 vs2 false]], .as 98 true] [.b (decide (Int.ofNat i > 0)), .k ((abin (CS Q3) BinOp.sub 3 (Operand.tmp 92) (Operand.const (Value.int IntKind.i64 1)) (iA (Int.ofNat i)) (iA 1)) = (some (iA (Int.ofNat j)))), .g cs j, .b (decide (n < n2))] .ret [iA 11] [] := kN (by kernel_rfl)
theorem r125x (i : Nat) : Lr Q3 125 99 0 [1, 3] [1] [1, 3] [1] [] [] [.ptr 1 0 0, iA (Int.ofNat i)] [lbX ps fs cs ts d u] [.as 16 false] [.t i cs.length] (.exit 0) [] [] := kN (by kernel_rfl)
theorem t125l : L Q3 125 [lbE ps fs cs ts d u] [.as 11 true] [.b (decide (Int.ofNat cs.length > 64))] (iA 5) := kR (by kernel_rfl)
theorem t125r (e : Int) : L Q3 125 [lbE ps fs cs ts d u] [.as 11 false, .loop 0 [1, 3] [1] [2] [] .ret [iA e] []] [.b (decide (Int.ofNat cs.length > 64)), .l 99 125 0 99 [.ptr 1 0 0, iA 0] [lbX ps fs cs ts d u]] (iA e) := kR (by kernel_rfl)
theorem t125e : L Q3 125 [lbE ps fs cs ts d u] [.as 11 false, .loop 0 [1, 3] [1] [] [] (.exit 0) [] []] [.b (decide (Int.ofNat cs.length > 64)), .l 99 125 0 99 [.ptr 1 0 0, iA 0] [lbX ps fs cs ts d u]] (iA 0) := kR (by kernel_rfl)
theorem t194 (n e : Int) : L Q3 194 [iA n] [.sp [iA n, iA (-1000000), iA 1000000] (iA e)] [.f 131] (iA e) := kR (by kernel_rfl)
theorem firstM_c0 (x : Int) (r : List Int) : firstM (x :: r) = 0 ↔ x = 0 ∧ firstM r = 0 := by
 by_cases hx : x = 0
 ·subst hx
  show firstM r = 0 ↔ _
  simp
 ·have : (x != 0) = true := by simp [hx]
  unfold firstM
  rw [this]
  simp [hx]
theorem firstM_step (x : Int) (r : List Int) : firstM (x :: r) = bif x != 0 then x else firstM r := rfl
theorem firstM_app : ∀ l m : List Int, firstM (l ++ m) = bif firstM l != 0 then firstM l else firstM m
 | [], m => rfl
 | x :: l, m => by
  rw [List.cons_append, firstM_step, firstM_step]
  cases h : x != 0 with
  | true => simp only [cond_true]; rw [h]; rfl
  | false => simp only [cond_false]; exact firstM_app l m
def valM (v : Int) : Int := withinM v (-1000000) 1000000
def calE (x : Lb) (i : Nat) (c : Cb) : List Int := [nameErr c.1, whenM (hasC (x.2.2.1.take i) c.1) 9, whenM (!hasP x.1 c.2.1) 10, nameErr c.2.2.1, dayM c.2.2.2.1]
def coLen (l : List Pt) (s : ByteArray) : Nat := (atP l ((findIx s (nms l) 0).getD 0)).co.length
def shapeM (x : Lb) (c : Cb) : Int := whenM (Int.ofNat c.2.2.2.2.length != Int.ofNat (coLen x.1 c.2.1)) 2
abbrev dayC (z : Cb) : Int := z.2.2.2.1
def calM (x : Lb) (i : Nat) (c : Cb) : Int := firstM (calE x i c ++ [shapeM x c, firstM (c.2.2.2.2.map valM), whenM (decide (c.2.2.2.1 < prevD dayC x.2.2.1 i)) 11])
def calsM (x : Lb) : Int := bif decide (Int.ofNat x.2.2.1.length > 64) then 5 else srchE (calM x) x.2.2.1
def calsG : List AV → Option AV := sp1 labC fun x => bif okLb x then some (iA (calsM x)) else none
abbrev stpC (x : Lb) : Nat → Cb → Option Int := fun i y => bif calM x i y != 0 then some (calM x i y) else none
theorem calM_e {x : Lb} {i : Nat} {c : Cb} (h : firstM (calE x i c) ≠ 0) : calM x i c = firstM (calE x i c) := by
 unfold calM; rw [firstM_app, show (firstM (calE x i c) != 0) = true by simp [h], cond_true]
theorem calM_z {x : Lb} {i : Nat} {c : Cb} (h : firstM (calE x i c) = 0) : calM x i c = bif Int.ofNat c.2.2.2.2.length != Int.ofNat (coLen x.1 c.2.1) then 2 else bif firstM (c.2.2.2.2.map valM) != 0 then firstM (c.2.2.2.2.map valM) else bif decide (c.2.2.2.1 < prevD dayC x.2.2.1 i) then 11 else 0 := by
 unfold calM; rw [firstM_app, h]
 unfold shapeM whenM
 cases h1 : Int.ofNat c.2.2.2.2.length != Int.ofNat (coLen x.1 c.2.1) with
 | true => rfl
 | false =>
  cases h2 : firstM (c.2.2.2.2.map valM) != 0 with
  | true =>
   show firstM [0, _, _] = _
   rw [firstM_step, firstM_step, h2]; rfl
  | false =>
   have h3 : firstM (c.2.2.2.2.map valM) = 0 := by simpa using h2
   rw [h3]
   cases h4 : decide (c.2.2.2.1 < prevD dayC x.2.2.1 i) <;> rfl
theorem calE_zero {x : Lb} {i : Nat} {c : Cb} (h : firstM (calE x i c) = 0) : nameErr c.1 = 0 ∧ hasC (x.2.2.1.take i) c.1 = false ∧ hasP x.1 c.2.1 = true ∧ nameErr c.2.2.1 = 0 ∧ dayM c.2.2.2.1 = 0 := by
 unfold calE at h
 rw [firstM_c0, firstM_c0, firstM_c0, firstM_c0, firstM_c0] at h
 obtain ⟨h1, h2, h3, h4, h5, _⟩ := h
 refine ⟨h1, ?_, ?_, h4, h5⟩
 ·cases hq : hasC (x.2.2.1.take i) c.1 with
  | false => rfl
  | true => rw [hq] at h2; cases h2
 ·cases hq : hasP x.1 c.2.1 with
  | true => rfl
  | false => rw [hq] at h3; cases h3
theorem spFindC {l : List Cb} (s : ByteArray) (hl : Nat.blt l.length two63 = true) : findCG [slA cbC 5 l, sA s] = some (iA (findC l s)) := by
 have := sp2_at (A := cbsC) (B := strC) (F := fun l s => bif Nat.blt l.length two63 then some (iA (findC l s)) else none) l s
 rw [hl] at this; exact this
theorem spFindT {l : List Ts} (s : ByteArray) (hl : Nat.blt l.length two63 = true) : findTG [slA tsC 3 l, sA s] = some (iA (findT l s)) := by
 have := sp2_at (A := tssC) (B := strC) (F := fun l s => bif Nat.blt l.length two63 then some (iA (findT l s)) else none) l s
 rw [hl] at this; exact this
theorem blt_take {α : Type} {l : List α} (i : Nat) (h : l.length ≤ lim) : Nat.blt (l.take i).length two63 = true := by
 apply Nat.ble_eq_true_of_le
 rw [List.length_take]; unfold lim at h; unfold two63; omega
theorem known_at {l : List Pt} {s : ByteArray} (h : hasP l s = true) : ∃ k, findIx s (nms l) 0 = some k ∧ k < l.length ∧ findP l s = Int.ofNat k := by
 rw [hasP_ix] at h
 cases hf : findIx s (nms l) 0 with
 | none => rw [hf] at h; cases h
 | some k =>
  refine ⟨k, rfl, ?_, ?_⟩
  ·have := find_lt hf
   simpa using this
  ·rw [findP_ix, hf]; rfl
abbrev cbX (c : Cb) : Bool × Blk := (false, .box [sA c.1, sA c.2.1, sA c.2.2.1, iA c.2.2.2.1, .rsl 1 (c.2.2.2.2.map intC.enc) false])
theorem inner125 (x : Lb) (i : Nat) (c : Cb) (hc : Nat.ble c.2.2.2.2.length lim = true) :
  LoopRun (CS Q3) 0 99 false (lO (CS Q3) 125 2) (mkSt [1, 3, 4, 6] [1, 4] 99 [.ptr 1 0 0, iA (Int.ofNat i), .ptr 4 1 0, iA 0] [lbY x, cbX c])
   (bif firstM (c.2.2.2.2.map valM) != 0 then .ret else .exit 2) (bif firstM (c.2.2.2.2.map valM) != 0 then mkSt [2] [] 99 [iA (firstM (c.2.2.2.2.map valM))] [] else mkSt [1, 3, 4] [1, 4] 99 [.ptr 1 0 0, iA (Int.ofNat i), .ptr 4 1 0] [lbY x, cbX c]) := by
 have hl := limTwo (Nat.le_of_ble_eq_true hc)
 have h := LoopRun.find (C := CS Q3) (p := 0) (nt := 99) (rd := false) (c := lO (CS Q3) 125 2) (fun (_ : Nat) (v : Int) => bif valM v != 0 then some (valM v) else none)
  (fun j => mkSt [1, 3, 4, 6] [1, 4] 99 [.ptr 1 0 0, iA (Int.ofNat i), .ptr 4 1 0, iA (Int.ofNat j)] [lbY x, cbX c])
  (fun t => mkSt [2] [] 99 [iA t] []) (mkSt [1, 3, 4] [1, 4] 99 [.ptr 1 0 0, iA (Int.ofNat i), .ptr 4 1 0] [lbY x, cbX c]) (.exit 2) (fun _ => .ret) c.2.2.2.2 (by simp) (by simp)
  (fun j v hv => by
   have hj := lt_len hv
   have hlt : decide (Int.ofNat j < Int.ofNat (c.2.2.2.2.map intC.enc).length) = true := by rw [e_in]; exact lt_of hj
   cases h : valM v != 0 with
   | true => exact Q3_ok.rndR ((lx x r125ir) i j c.1 c.2.1 c.2.2.1 c.2.2.2.1 (c.2.2.2.2.map intC.enc) v (valM v)) ⟨hlt, get_map _ hv, ⟨rfl, spWithin _ _ _⟩, h, trivial, rfl⟩
   | false =>
    have hr := (lx x r125in) i j c.1 c.2.1 c.2.2.1 c.2.2.2.1 (c.2.2.2.2.map intC.enc) v (valM v)
    rw [wrap_ix hj hl] at hr
    exact Q3_ok.rndN hr ⟨hlt, get_map _ hv, ⟨rfl, spWithin _ _ _⟩, h, trivial, rfl⟩)
  (Q3_ok.rndX ((lx x r125ix) i c.2.2.2.2.length c.1 c.2.1 c.2.2.1 c.2.2.2.1 (c.2.2.2.2.map intC.enc)) ⟨by rw [e_in]; exact lt_self _, trivial, rfl⟩)
 rw [srch_err valM c.2.2.2.2 0] at h
 cases hq : firstM (c.2.2.2.2.map valM) != 0 with
 | true => rw [hq] at h; exact h
 | false => rw [hq] at h; exact h
theorem h125 : Holds 125 calsG := holds1 fun x r hr => by
 cases hb : okLb x with
 | false => simp [hb] at hr
 | true =>
  simp only [hb, cond_true, Option.some.injEq] at hr; subst hr
  have K := okLb_at hb
  have hl := limTwo K.cs
  have h := LoopRun.find (C := CS Q3) (p := 0) (nt := 99) (rd := false) (c := lO (CS Q3) 125 0) (stpC x) (fun i => mkSt [1, 3] [1] 99 [.ptr 1 0 0, iA (Int.ofNat i)] [lbY x])
   (fun t => mkSt [2] [] 99 [iA t] []) (mkSt [] [] 99 [] []) (.exit 0) (fun _ => .ret) x.2.2.1 (by simp) (by simp)
   (fun i c hc => by
    have hi := lt_len hc
    have hlt : decide (Int.ofNat i < Int.ofNat (x.2.2.1.map cbC.enc).length) = true := by rw [e_cb]; exact lt_of hi
    have hg := get_map cbC.enc hc
    have q1 : (0 ≤ i ∧ i ≤ (x.2.2.1.map cbC.enc).length) := ⟨Nat.zero_le _, by rw [List.length_map]; omega⟩
    have q2 : ([.rsl 5 (List.take (i - 0) (List.drop 0 (x.2.2.1.map cbC.enc))) false, sA c.1] : List AV) = [slA cbC 5 (x.2.2.1.take i), sA c.1] := by rw [take_map]; rfl
    have q3 : findCG ([.rsl 5 (List.take (i - 0) (List.drop 0 (x.2.2.1.map cbC.enc))) false, sA c.1] : List AV) = some (AV.v (.int .i64 (findC (x.2.2.1.take i) c.1))) := by
     rw [q2]; exact spFindC _ (blt_take i K.cs)
    have hp := has_lt x.1 c.2.1
    have fr : firstG [.rsl 1 [iA (nameErr c.1), iA (whenM (decide (findC (x.2.2.1.take i) c.1 ≥ 0)) 9), iA (whenM (decide (findP x.1 c.2.1 < 0)) 10), iA (nameErr c.2.2.1), iA (dayM c.2.2.2.1)] true] = some (iA (firstM (calE x i c))) := by
     unfold calE hasC; rw [hp]; rfl
    unfold stpC
    cases he : firstM (calE x i c) != 0 with
    | true =>
     rw [calM_e (by simpa using he), he]
     exact Q3_ok.rndR ((lx x r125a) i c.1 c.2.1 c.2.2.1 c.2.2.2.1 (c.2.2.2.2.map intC.enc) ((x.2.2.1.take i).map cbC.enc) (findC (x.2.2.1.take i) c.1) (findP x.1 c.2.1) _ _ _ _ _ (firstM (calE x i c)))
      ⟨hlt, hg, ⟨rfl, spName _⟩, q1, ⟨q2, q3⟩, ⟨rfl, spWhen _ 9⟩, ⟨rfl, spFindP _ K.p63⟩, ⟨rfl, spWhen _ 10⟩, ⟨rfl, spName _⟩, ⟨rfl, spDay _⟩, ⟨rfl, fr⟩, he, trivial, rfl⟩
    | false =>
     have hz : firstM (calE x i c) = 0 := by simpa using he
     obtain ⟨_, _, hpa, _, hday⟩ := calE_zero hz
     obtain ⟨k, hk, hkl, hkp⟩ := known_at hpa
     have hgk := get_map ptC.enc (atP_get hkl)
     have hfk : findPG [slA ptC 7 x.1, sA c.2.1] = some (iA (Int.ofNat k)) := by rw [← hkp]; exact spFindP _ K.p63
     have hco : coLen x.1 c.2.1 = (atP x.1 k).co.length := by unfold coLen; rw [hk]; rfl
     have ec : Int.ofNat ((atP x.1 k).co.map ivC.enc).length = Int.ofNat (coLen x.1 c.2.1) := by rw [hco]; simp
     rw [calM_z hz]
     cases hs : Int.ofNat c.2.2.2.2.length != Int.ofNat (coLen x.1 c.2.1) with
     | true =>
      simp only [cond_true]
      exact Q3_ok.rndR ((lx x r125b) i c.1 c.2.1 c.2.2.1 c.2.2.2.1 (c.2.2.2.2.map intC.enc) ((x.2.2.1.take i).map cbC.enc) (findC (x.2.2.1.take i) c.1) (findP x.1 c.2.1) _ _ _ _ _ (firstM (calE x i c)) k (atP x.1 k).1 (atP x.1 k).2.1 (atP x.1 k).2.2.1 (atP x.1 k).2.2.2.1 (atP x.1 k).2.2.2.2.1 (atP x.1 k).2.2.2.2.2.1 ((atP x.1 k).co.map ivC.enc))
       ⟨hlt, hg, ⟨rfl, spName _⟩, q1, ⟨q2, q3⟩, ⟨rfl, spWhen _ 9⟩, ⟨rfl, spFindP _ K.p63⟩, ⟨rfl, spWhen _ 10⟩, ⟨rfl, spName _⟩, ⟨rfl, spDay _⟩, ⟨rfl, fr⟩, he, ⟨rfl, hfk⟩, hgk, by rw [e_in, ec]; exact hs, trivial, rfl⟩
     | false =>
      simp only [cond_false]
      have hin := inner125 x i c (K.vs c (List.mem_of_getElem? hc))
      have hs' : (Int.ofNat (c.2.2.2.2.map intC.enc).length != Int.ofNat ((atP x.1 k).co.map ivC.enc).length) = false := by rw [e_in, ec]; exact hs
      cases hv : firstM (c.2.2.2.2.map valM) != 0 with
      | true =>
       rw [hv] at hin
       simp only [cond_true, hv]
       exact Q3_ok.rndR ((lx x r125c) i c.1 c.2.1 c.2.2.1 c.2.2.2.1 (c.2.2.2.2.map intC.enc) ((x.2.2.1.take i).map cbC.enc) (findC (x.2.2.1.take i) c.1) (findP x.1 c.2.1) _ _ _ _ _ (firstM (calE x i c)) k (atP x.1 k).1 (atP x.1 k).2.1 (atP x.1 k).2.2.1 (atP x.1 k).2.2.2.1 (atP x.1 k).2.2.2.2.1 (atP x.1 k).2.2.2.2.2.1 ((atP x.1 k).co.map ivC.enc) (firstM (c.2.2.2.2.map valM)))
        ⟨hlt, hg, ⟨rfl, spName _⟩, q1, ⟨q2, q3⟩, ⟨rfl, spWhen _ 9⟩, ⟨rfl, spFindP _ K.p63⟩, ⟨rfl, spWhen _ 10⟩, ⟨rfl, spName _⟩, ⟨rfl, spDay _⟩, ⟨rfl, fr⟩, he, ⟨rfl, hfk⟩, hgk, hs', ⟨trivial, trivial, hin.says⟩, trivial, rfl⟩
      | false =>
       rw [hv] at hin
       simp only [cond_false]
       have hw := wrap_ix hi hl
       cases i with
       | zero =>
        have hd : decide (c.2.2.2.1 < prevD dayC x.2.2.1 0) = false := decide_eq_false (by have := dayM_zero hday; show ¬ (_ < (0 : Int)); omega)
        rw [hd]
        have hr := (lx x r125z) 0 c.1 c.2.1 c.2.2.1 c.2.2.2.1 (c.2.2.2.2.map intC.enc) ((x.2.2.1.take 0).map cbC.enc) (findC (x.2.2.1.take 0) c.1) (findP x.1 c.2.1) (nameErr c.1) (whenM (decide (findC (x.2.2.1.take 0) c.1 ≥ 0)) 9) (whenM (decide (findP x.1 c.2.1 < 0)) 10) (nameErr c.2.2.1) (dayM c.2.2.2.1) (firstM (calE x 0 c)) k (atP x.1 k).1 (atP x.1 k).2.1 (atP x.1 k).2.2.1 (atP x.1 k).2.2.2.1 (atP x.1 k).2.2.2.2.1 (atP x.1 k).2.2.2.2.2.1 ((atP x.1 k).co.map ivC.enc)
        rw [hw] at hr
        exact Q3_ok.rndN hr ⟨hlt, hg, ⟨rfl, spName _⟩, q1, ⟨q2, q3⟩, ⟨rfl, spWhen _ 9⟩, ⟨rfl, spFindP _ K.p63⟩, ⟨rfl, spWhen _ 10⟩, ⟨rfl, spName _⟩, ⟨rfl, spDay _⟩, ⟨rfl, fr⟩, he, ⟨rfl, hfk⟩, hgk, hs', ⟨trivial, trivial, hin.says⟩, rfl, rfl, trivial, rfl⟩
       | succ j =>
        obtain ⟨z, hz2⟩ : ∃ z, x.2.2.1[j]? = some z := ⟨_, List.getElem?_eq_getElem (by omega)⟩
        have hgz := get_map cbC.enc hz2
        rw [prevD_at hz2]
        cases ho : decide (c.2.2.2.1 < dayC z) with
        | true =>
         exact Q3_ok.rndR ((lx x r125t) (j + 1) c.1 c.2.1 c.2.2.1 c.2.2.2.1 (c.2.2.2.2.map intC.enc) ((x.2.2.1.take (j + 1)).map cbC.enc) (findC (x.2.2.1.take (j + 1)) c.1) (findP x.1 c.2.1) (nameErr c.1) (whenM (decide (findC (x.2.2.1.take (j + 1)) c.1 ≥ 0)) 9) (whenM (decide (findP x.1 c.2.1 < 0)) 10) (nameErr c.2.2.1) (dayM c.2.2.2.1) (firstM (calE x (j + 1) c)) k (atP x.1 k).1 (atP x.1 k).2.1 (atP x.1 k).2.2.1 (atP x.1 k).2.2.2.1 (atP x.1 k).2.2.2.2.1 (atP x.1 k).2.2.2.2.2.1 ((atP x.1 k).co.map ivC.enc) j z.1 z.2.1 z.2.2.1 z.2.2.2.1 (z.2.2.2.2.map intC.enc))
          ⟨hlt, hg, ⟨rfl, spName _⟩, q1, ⟨q2, q3⟩, ⟨rfl, spWhen _ 9⟩, ⟨rfl, spFindP _ K.p63⟩, ⟨rfl, spWhen _ 10⟩, ⟨rfl, spName _⟩, ⟨rfl, spDay _⟩, ⟨rfl, fr⟩, he, ⟨rfl, hfk⟩, hgk, hs', ⟨trivial, trivial, hin.says⟩, pos_succ j, prevIx Q3 _ _ hi hl, hgz, ho, trivial, rfl⟩
        | false =>
         have hr := (lx x r125s) (j + 1) c.1 c.2.1 c.2.2.1 c.2.2.2.1 (c.2.2.2.2.map intC.enc) ((x.2.2.1.take (j + 1)).map cbC.enc) (findC (x.2.2.1.take (j + 1)) c.1) (findP x.1 c.2.1) (nameErr c.1) (whenM (decide (findC (x.2.2.1.take (j + 1)) c.1 ≥ 0)) 9) (whenM (decide (findP x.1 c.2.1 < 0)) 10) (nameErr c.2.2.1) (dayM c.2.2.2.1) (firstM (calE x (j + 1) c)) k (atP x.1 k).1 (atP x.1 k).2.1 (atP x.1 k).2.2.1 (atP x.1 k).2.2.2.1 (atP x.1 k).2.2.2.2.1 (atP x.1 k).2.2.2.2.2.1 ((atP x.1 k).co.map ivC.enc) j z.1 z.2.1 z.2.2.1 z.2.2.2.1 (z.2.2.2.2.map intC.enc)
         rw [hw] at hr
         exact Q3_ok.rndN hr ⟨hlt, hg, ⟨rfl, spName _⟩, q1, ⟨q2, q3⟩, ⟨rfl, spWhen _ 9⟩, ⟨rfl, spFindP _ K.p63⟩, ⟨rfl, spWhen _ 10⟩, ⟨rfl, spName _⟩, ⟨rfl, spDay _⟩, ⟨rfl, fr⟩, he, ⟨rfl, hfk⟩, hgk, hs', ⟨trivial, trivial, hin.says⟩, pos_succ j, prevIx Q3 _ _ hi hl, hgz, ho, trivial, rfl⟩)
   (Q3_ok.rndX ((lx x r125x) x.2.2.1.length) ⟨by rw [e_cb]; exact lt_self _, trivial, rfl⟩)
  unfold calsM srchE
  cases h64 : decide (Int.ofNat x.2.2.1.length > 64) with
  | true => exact Q3_ok.tr ((lx x t125l)) ⟨by rw [e_cb]; exact h64, rfl⟩
  | false =>
   cases hq : srch (stpC x) 0 x.2.2.1 with
   | some t => rw [hq] at h; exact Q3_ok.tr ((lx x t125r) t) ⟨by rw [e_cb]; exact h64, ⟨trivial, trivial, h.says⟩, rfl⟩
   | none => rw [hq] at h; exact Q3_ok.tr ((lx x t125e)) ⟨by rw [e_cb]; exact h64, ⟨trivial, trivial, h.says⟩, rfl⟩
def valG : List AV → Option AV := sp1 intC fun n => some (iA (valM n))
theorem h194 : Holds 194 valG := holds1 fun n r hr => by
 simp only [Option.some.injEq] at hr; subst hr
 exact Q3_ok.tr (t194 n (valM n)) ⟨⟨rfl, spWithin n (-1000000) 1000000⟩, rfl⟩
def Q4 : Specs := ((Q3.set 125 calsG).set 194 valG)
theorem Q4_ok : Ok Q4 := ((Q3_ok.set h125).set h194)
end Go.Vm.S3
