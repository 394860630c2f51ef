/- Parts of a dummy: all. -/
import Derived.Test.YtliikgffjphhjaaGreatDoorS3GC
import Derived.Test.YtliikgffjphhjaaGreatDoorVmBuild
namespace Go.Vm.S3
open Go.Proofs Go.RowKit
set_option maxRecDepth 100000
theorem r30 (es ps : List AV) (n i : Nat) (e : Int) (a b : ByteArray) (m x y z : Int) (cs : List AV) : rn P3 30 36 0 [0, 20, 21, 22] [] [0, 20, 21, 22] [] [2] [] [.rsl 7 es false, .rsl 7 es false, iA (Int.ofNat n), iA (Int.ofNat i)] [] [.br [.chk [.agg [sA a, sA b, iA m, iA x, iA y, iA z, .rsl 2 cs false]], .chk [], .sp [.agg [sA a, sA b, iA m, iA x, iA y, iA z, .rsl 2 cs false], .rsl 7 ps false] (iA e), .br [] []] []] =
  (bif decide (Int.ofNat i < Int.ofNat n) then (.need (es[i]? = (some (AV.agg [sA a, sA b, iA m, iA x, iA y, iA z, .rsl 2 cs false]))) (.need (0 ≤ i ∧ i ≤ es.length) (.need (([.agg [sA a, sA b, iA m, iA x, iA y, iA z, .rsl 2 cs false], .rsl 7 (List.take (i - 0) (List.drop 0 es)) false] : List AV) = ([.agg [sA a, sA b, iA m, iA x, iA y, iA z, .rsl 2 cs false], .rsl 7 ps false] : List AV) ∧ (Cx.spec (CS P3) 110 ([.agg [sA a, sA b, iA m, iA x, iA y, iA z, .rsl 2 cs false], .rsl 7 (List.take (i - 0) (List.drop 0 es)) false] : List AV)) = (some (iA e))) (bif e != 0 then (dn [] (.ret, [iA e], [])) else (dn [] (.nrm, [.rsl 7 es false, .rsl 7 es false, iA (Int.ofNat n), iA (IntKind.i64.wrap (Int.ofNat i + 1))], [])))))) else (dn [] ((.exit 0), [.bad], []))) := by kernel_rfl
abbrev cP4_1 (es : List AV) (q1 q2 : Bool) (e1 e2 e : Int) (h9 : List Hn) (a9 : List An) (r9 : AV) : Prop := L P3 30 [.rsl 7 es false] ([.sp [bA q1, iA 12] (iA e1), .sp [bA q2, iA 5] (iA e2), .sp [.rsl 1 [iA e1, iA e2] true] (iA e)] ++ h9) ([.r 109 [bA (Int.ofNat es.length == 0), iA 12], .r 109 [bA (decide (Int.ofNat es.length > 16)), iA 5], .f 108] ++ a9) r9
theorem t30c (es : List AV) (q1 q2 : Bool) (e1 e2 e : Int) : cP4_1 es q1 q2 e1 e2 e [.as 18 true] [.b (e != 0)] (iA e) := kR (by kernel_rfl)
theorem t30r (es : List AV) (q1 q2 : Bool) (e1 e2 e : Int) (t : Int) : cP4_1 es q1 q2 e1 e2 e [.as 18 false, .loop 0 [0, 20, 21, 22] [] [2] [] .ret [iA t] []] [.b (e != 0), .l 36 30 0 36 [.rsl 7 es false, .rsl 7 es false, iA (Int.ofNat es.length), iA 0] []] (iA t) := kR (by kernel_rfl)
theorem t30e (es : List AV) (q1 q2 : Bool) (e1 e2 e : Int) : cP4_1 es q1 q2 e1 e2 e [.as 18 false, .loop 0 [0, 20, 21, 22] [] [2] [] (.exit 0) [.bad] []] [.b (e != 0), .l 36 30 0 36 [.rsl 7 es false, .rsl 7 es false, iA (Int.ofNat es.length), iA 0] []] (iA 0) := kR (by kernel_rfl)
theorem r22i (es : List AV) (i k : Nat) (a b : ByteArray) (m x y z : Int) (cs : List AV) (lo hi e : Int) : Lr P3 22 92 2 [0, 3, 4, 6] [4] [0, 3, 4, 6] [4] [2] [] [.rsl 7 es false, iA (Int.ofNat i), .ptr 4 0 0, iA (Int.ofNat k)] [(false, .box [sA a, sA b, iA m, iA x, iA y, iA z, .rsl 2 cs false])] [.as 80 true, .chk [.agg [iA lo, iA hi]], .sp [.agg [iA lo, iA hi], iA (-1000000), iA 1000000] (iA e), .as 90 true] [.t k cs.length, .g cs k, .f 107, .b (e != 0)] .ret [iA e] [] := kN (by kernel_rfl)
theorem r22j (es : List AV) (i k : Nat) (a b : ByteArray) (m x y z : Int) (cs : List AV) (lo hi e : Int) : Lr P3 22 92 2 [0, 3, 4, 6] [4] [0, 3, 4, 6] [4] [0, 3] [] [.rsl 7 es false, iA (Int.ofNat i), .ptr 4 0 0, iA (Int.ofNat k)] [(false, .box [sA a, sA b, iA m, iA x, iA y, iA z, .rsl 2 cs false])] [.as 80 true, .chk [.agg [iA lo, iA hi]], .sp [.agg [iA lo, iA hi], iA (-1000000), iA 1000000] (iA e), .as 90 false] [.t k cs.length, .g cs k, .f 107, .b (e != 0)] .nrm [.rsl 7 es false, iA (Int.ofNat i), .ptr 4 0 0, iA (IntKind.i64.wrap (Int.ofNat k + 1))] [(false, .box [sA a, sA b, iA m, iA x, iA y, iA z, .rsl 2 cs false])] := kN (by kernel_rfl)
theorem r22k (es : List AV) (i k : Nat) (a b : ByteArray) (m x y z : Int) (cs : List AV) : Lr P3 22 92 2 [0, 3, 4, 6] [4] [0, 3, 4, 6] [4] [0, 3] [] [.rsl 7 es false, iA (Int.ofNat i), .ptr 4 0 0, iA (Int.ofNat k)] [(false, .box [sA a, sA b, iA m, iA x, iA y, iA z, .rsl 2 cs false])] [.as 80 false] [.t k cs.length] (.exit 2) [.rsl 7 es false, iA (Int.ofNat i)] [] := kN (by kernel_rfl)
theorem r22zc (es ps : List AV) (i : Nat) (a b : ByteArray) (m x y z : Int) (cs : List AV) (e1 e2 e3 e4 e5 e6 e7 e8 e : Int) (f1 f2 : Int) (q1 q3 q4 q7 q8 : Bool) : Lr P3 22 92 0 [0, 3] [] [0, 3] [] [2] [] [.rsl 7 es false, iA (Int.ofNat i)] [] [.as 17 true, .chk [.agg [sA a, sA b, iA m, iA x, iA y, iA z, .rsl 2 cs false]], .sp [sA a] (iA e1), .chk [], .sp [.rsl 7 ps false, sA a] (iA f1), .sp [bA q1, iA 9] (iA e2), .as 37 true, .sp [bA q3, iA 24] (iA e3), .as 45 false, .sp [bA false, iA 10] (iA e4), .sp [iA m, iA 1, iA 100000] (iA e5), .sp [.agg [iA x, iA y, iA z], iA 10000] (iA e6), .sp [bA q7, iA 12] (iA e7), .sp [bA q8, iA 5] (iA e8), .sp [.rsl 1 [iA e1, iA e2, iA e3, iA e4, iA e5, iA e6, iA e7, iA e8] true] (iA e), .as 74 true] [.t i es.length, .g es i, .f 106, .k (0 ≤ i ∧ i ≤ es.length), .q 24 [.rsl 7 (List.take (i - 0) (List.drop 0 es)) false, sA a], .q 46 [bA (decide (f1 ≥ 0)), iA 9], .b (Int.ofNat i == 0), .q 46 [bA (!(b.toList == (ByteArray.mk #[]).toList)), iA 24], .b (decide (Int.ofNat i > 0)), .f 46, .f 89, .f 35, .q 46 [bA (Int.ofNat cs.length == 0), iA 12], .q 46 [bA (decide (Int.ofNat cs.length > 8)), iA 5], .f 105, .b (e != 0)] .ret [iA e] [] := kN (by kernel_rfl)
theorem r22zr (es ps : List AV) (i : Nat) (a b : ByteArray) (m x y z : Int) (cs : List AV) (e1 e2 e3 e4 e5 e6 e7 e8 e : Int) (f1 f2 : Int) (q1 q3 q4 q7 q8 : Bool) (t : Int) : Lr P3 22 92 0 [0, 3] [] [0, 3] [] [2] [] [.rsl 7 es false, iA (Int.ofNat i)] [] [.as 17 true, .chk [.agg [sA a, sA b, iA m, iA x, iA y, iA z, .rsl 2 cs false]], .sp [sA a] (iA e1), .chk [], .sp [.rsl 7 ps false, sA a] (iA f1), .sp [bA q1, iA 9] (iA e2), .as 37 true, .sp [bA q3, iA 24] (iA e3), .as 45 false, .sp [bA false, iA 10] (iA e4), .sp [iA m, iA 1, iA 100000] (iA e5), .sp [.agg [iA x, iA y, iA z], iA 10000] (iA e6), .sp [bA q7, iA 12] (iA e7), .sp [bA q8, iA 5] (iA e8), .sp [.rsl 1 [iA e1, iA e2, iA e3, iA e4, iA e5, iA e6, iA e7, iA e8] true] (iA e), .as 74 false, .loop 0 [0, 3, 4, 6] [4] [2] [] .ret [iA t] []] [.t i es.length, .g es i, .f 106, .k (0 ≤ i ∧ i ≤ es.length), .q 24 [.rsl 7 (List.take (i - 0) (List.drop 0 es)) false, sA a], .q 46 [bA (decide (f1 ≥ 0)), iA 9], .b (Int.ofNat i == 0), .q 46 [bA (!(b.toList == (ByteArray.mk #[]).toList)), iA 24], .b (decide (Int.ofNat i > 0)), .f 46, .f 89, .f 35, .q 46 [bA (Int.ofNat cs.length == 0), iA 12], .q 46 [bA (decide (Int.ofNat cs.length > 8)), iA 5], .f 105, .b (e != 0), .l 92 22 2 92 [.rsl 7 es false, iA (Int.ofNat i), .ptr 4 0 0, iA 0] [(false, .box [sA a, sA b, iA m, iA x, iA y, iA z, .rsl 2 cs false])]] .ret [iA t] [] := kN (by kernel_rfl)
abbrev cP4_2 (es ps : List AV) (i : Nat) (a b : ByteArray) (m x y z : Int) (cs : List AV) (e1 e2 f1 : Int) (q1 : Bool) (h9 : List Hn) (a9 : List An) (x9 : Ex) (v9 : List AV) (e9 : List (Bool × Blk)) : Prop := Lr P3 22 92 0 [0, 3] [] [0, 3] [] [] [] [.rsl 7 es false, iA (Int.ofNat i)] [] ([.as 17 true, .chk [.agg [sA a, sA b, iA m, iA x, iA y, iA z, .rsl 2 cs false]], .sp [sA a] (iA e1), .chk [], .sp [.rsl 7 ps false, sA a] (iA f1), .sp [bA q1, iA 9] (iA e2)] ++ h9) ([.t i es.length, .g es i, .f 106, .k (0 ≤ i ∧ i ≤ es.length), .q 24 [.rsl 7 (List.take (i - 0) (List.drop 0 es)) false, sA a], .q 46 [bA (decide (f1 ≥ 0)), iA 9]] ++ a9) x9 v9 e9
theorem r22zj (es ps : List AV) (i : Nat) (a b : ByteArray) (m x y z : Int) (cs : List AV) (e1 e2 e3 e4 e5 e6 e7 e8 e : Int) (f1 f2 : Int) (q1 q3 q4 q7 q8 : Bool) : cP4_2 es ps i a b m x y z cs e1 e2 f1 q1 [.as 37 true, .sp [bA q3, iA 24] (iA e3), .as 45 false, .sp [bA false, iA 10] (iA e4), .sp [iA m, iA 1, iA 100000] (iA e5), .sp [.agg [iA x, iA y, iA z], iA 10000] (iA e6), .sp [bA q7, iA 12] (iA e7), .sp [bA q8, iA 5] (iA e8), .sp [.rsl 1 [iA e1, iA e2, iA e3, iA e4, iA e5, iA e6, iA e7, iA e8] true] (iA e), .as 74 false, .loop 0 [0, 3, 4, 6] [4] [0, 3] [] (.exit 2) [.rsl 7 es false, iA (Int.ofNat i)] []] [.b (Int.ofNat i == 0), .q 46 [bA (!(b.toList == (ByteArray.mk #[]).toList)), iA 24], .b (decide (Int.ofNat i > 0)), .f 46, .f 89, .f 35, .q 46 [bA (Int.ofNat cs.length == 0), iA 12], .q 46 [bA (decide (Int.ofNat cs.length > 8)), iA 5], .f 105, .b (e != 0), .l 92 22 2 92 [.rsl 7 es false, iA (Int.ofNat i), .ptr 4 0 0, iA 0] [(false, .box [sA a, sA b, iA m, iA x, iA y, iA z, .rsl 2 cs false])]] .nrm [.rsl 7 es false, iA (IntKind.i64.wrap (Int.ofNat i + 1))] [] := kN (by kernel_rfl)
theorem r22nc (es ps : List AV) (i : Nat) (a b : ByteArray) (m x y z : Int) (cs : List AV) (e1 e2 e3 e4 e5 e6 e7 e8 e : Int) (f1 f2 : Int) (q1 q3 q4 q7 q8 : Bool) : Lr P3 22 92 0 [0, 3] [] [0, 3] [] [2] [] [.rsl 7 es false, iA (Int.ofNat i)] [] [.as 17 true, .chk [.agg [sA a, sA b, iA m, iA x, iA y, iA z, .rsl 2 cs false]], .sp [sA a] (iA e1), .chk [], .sp [.rsl 7 ps false, sA a] (iA f1), .sp [bA q1, iA 9] (iA e2), .as 37 false, .sp [bA false, iA 24] (iA e3), .as 45 true, .chk [], .sp [.rsl 7 ps false, sA b] (iA f2), .sp [bA q4, iA 10] (iA e4), .sp [iA m, iA 1, iA 100000] (iA e5), .sp [.agg [iA x, iA y, iA z], iA 10000] (iA e6), .sp [bA q7, iA 12] (iA e7), .sp [bA q8, iA 5] (iA e8), .sp [.rsl 1 [iA e1, iA e2, iA e3, iA e4, iA e5, iA e6, iA e7, iA e8] true] (iA e), .as 74 true] [.t i es.length, .g es i, .f 106, .k (0 ≤ i ∧ i ≤ es.length), .q 24 [.rsl 7 (List.take (i - 0) (List.drop 0 es)) false, sA a], .q 46 [bA (decide (f1 ≥ 0)), iA 9], .b (Int.ofNat i == 0), .f 46, .b (decide (Int.ofNat i > 0)), .k (0 ≤ i ∧ i ≤ es.length), .q 24 [.rsl 7 (List.take (i - 0) (List.drop 0 es)) false, sA b], .q 46 [bA (decide (f2 < 0)), iA 10], .f 89, .f 35, .q 46 [bA (Int.ofNat cs.length == 0), iA 12], .q 46 [bA (decide (Int.ofNat cs.length > 8)), iA 5], .f 105, .b (e != 0)] .ret [iA e] [] := kN (by kernel_rfl)
theorem r22nr (es ps : List AV) (i : Nat) (a b : ByteArray) (m x y z : Int) (cs : List AV) (e1 e2 e3 e4 e5 e6 e7 e8 e : Int) (f1 f2 : Int) (q1 q3 q4 q7 q8 : Bool) (t : Int) : Lr P3 22 92 0 [0, 3] [] [0, 3] [] [2] [] [.rsl 7 es false, iA (Int.ofNat i)] [] [.as 17 true, .chk [.agg [sA a, sA b, iA m, iA x, iA y, iA z, .rsl 2 cs false]], .sp [sA a] (iA e1), .chk [], .sp [.rsl 7 ps false, sA a] (iA f1), .sp [bA q1, iA 9] (iA e2), .as 37 false, .sp [bA false, iA 24] (iA e3), .as 45 true, .chk [], .sp [.rsl 7 ps false, sA b] (iA f2), .sp [bA q4, iA 10] (iA e4), .sp [iA m, iA 1, iA 100000] (iA e5), .sp [.agg [iA x, iA y, iA z], iA 10000] (iA e6), .sp [bA q7, iA 12] (iA e7), .sp [bA q8, iA 5] (iA e8), .sp [.rsl 1 [iA e1, iA e2, iA e3, iA e4, iA e5, iA e6, iA e7, iA e8] true] (iA e), .as 74 false, .loop 0 [0, 3, 4, 6] [4] [2] [] .ret [iA t] []] [.t i es.length, .g es i, .f 106, .k (0 ≤ i ∧ i ≤ es.length), .q 24 [.rsl 7 (List.take (i - 0) (List.drop 0 es)) false, sA a], .q 46 [bA (decide (f1 ≥ 0)), iA 9], .b (Int.ofNat i == 0), .f 46, .b (decide (Int.ofNat i > 0)), .k (0 ≤ i ∧ i ≤ es.length), .q 24 [.rsl 7 (List.take (i - 0) (List.drop 0 es)) false, sA b], .q 46 [bA (decide (f2 < 0)), iA 10], .f 89, .f 35, .q 46 [bA (Int.ofNat cs.length == 0), iA 12], .q 46 [bA (decide (Int.ofNat cs.length > 8)), iA 5], .f 105, .b (e != 0), .l 92 22 2 92 [.rsl 7 es false, iA (Int.ofNat i), .ptr 4 0 0, iA 0] [(false, .box [sA a, sA b, iA m, iA x, iA y, iA z, .rsl 2 cs false])]] .ret [iA t] [] := kN (by kernel_rfl)
theorem r22nj (es ps : List AV) (i : Nat) (a b : ByteArray) (m x y z : Int) (cs : List AV) (e1 e2 e3 e4 e5 e6 e7 e8 e : Int) (f1 f2 : Int) (q1 q3 q4 q7 q8 : Bool) : cP4_2 es ps i a b m x y z cs e1 e2 f1 q1 [.as 37 false, .sp [bA false, iA 24] (iA e3), .as 45 true, .chk [], .sp [.rsl 7 ps false, sA b] (iA f2), .sp [bA q4, iA 10] (iA e4), .sp [iA m, iA 1, iA 100000] (iA e5), .sp [.agg [iA x, iA y, iA z], iA 10000] (iA e6), .sp [bA q7, iA 12] (iA e7), .sp [bA q8, iA 5] (iA e8), .sp [.rsl 1 [iA e1, iA e2, iA e3, iA e4, iA e5, iA e6, iA e7, iA e8] true] (iA e), .as 74 false, .loop 0 [0, 3, 4, 6] [4] [0, 3] [] (.exit 2) [.rsl 7 es false, iA (Int.ofNat i)] []] [.b (Int.ofNat i == 0), .f 46, .b (decide (Int.ofNat i > 0)), .k (0 ≤ i ∧ i ≤ es.length), .q 24 [.rsl 7 (List.take (i - 0) (List.drop 0 es)) false, sA b], .q 46 [bA (decide (f2 < 0)), iA 10], .f 89, .f 35, .q 46 [bA (Int.ofNat cs.length == 0), iA 12], .q 46 [bA (decide (Int.ofNat cs.length > 8)), iA 5], .f 105, .b (e != 0), .l 92 22 2 92 [.rsl 7 es false, iA (Int.ofNat i), .ptr 4 0 0, iA 0] [(false, .box [sA a, sA b, iA m, iA x, iA y, iA z, .rsl 2 cs false])]] .nrm [.rsl 7 es false, iA (IntKind.i64.wrap (Int.ofNat i + 1))] [] := kN (by kernel_rfl)
theorem r22x (es : List AV) (i : Nat) : Lr P3 22 92 0 [0, 3] [] [0, 3] [] [2] [] [.rsl 7 es false, iA (Int.ofNat i)] [] [.as 17 false] [.t i es.length] (.exit 0) [.bad] [] := kN (by kernel_rfl)
theorem t22a (es : List AV) : L P3 22 [.rsl 7 es false] [.as 10 true] [.b (Int.ofNat es.length == 0)] (iA 12) := kR (by kernel_rfl)
theorem t22b (es : List AV) : L P3 22 [.rsl 7 es false] [.as 10 false, .as 13 true] [.b (Int.ofNat es.length == 0), .b (decide (Int.ofNat es.length > 16))] (iA 5) := kR (by kernel_rfl)
theorem t22r (es : List AV) (t : Int) : L P3 22 [.rsl 7 es false] [.as 10 false, .as 13 false, .loop 0 [0, 3] [] [2] [] .ret [iA t] []] [.b (Int.ofNat es.length == 0), .b (decide (Int.ofNat es.length > 16)), .l 92 22 0 92 [.rsl 7 es false, iA 0] []] (iA t) := kR (by kernel_rfl)
theorem t22e (es : List AV) : L P3 22 [.rsl 7 es false] [.as 10 false, .as 13 false, .loop 0 [0, 3] [] [2] [] (.exit 0) [.bad] []] [.b (Int.ofNat es.length == 0), .b (decide (Int.ofNat es.length > 16)), .l 92 22 0 92 [.rsl 7 es false, iA 0] []] (iA 0) := kR (by kernel_rfl)
def partsM (l : List Pt) : Int := bif manyM l.length 16 != 0 then manyM l.length 16 else srchE (fun i p => partM (l.take i) p) l
def okPts (l : List Pt) : Bool := Nat.ble l.length lim && l.all okPt
theorem okPts_at {l : List Pt} (h : okPts l = true) : l.length ≤ lim ∧ ∀ p ∈ l, okPt p = true := by
 unfold okPts at h
 rw [Bool.and_eq_true, List.all_eq_true] at h
 exact ⟨Nat.le_of_ble_eq_true h.1, h.2⟩
def partsG : List AV → Option AV := sp1 ptsC fun l => bif okPts l then some (iA (partsM l)) else none
theorem spPart {l : List Pt} {p : Pt} (h1 : l.length ≤ lim) (h2 : okPt p = true) : partG [ptA p, slA ptC 7 l] = some (iA (partM l p)) := by
 have := sp2_at (A := ptC) (B := ptsC) (F := fun p l => bif Nat.ble l.length lim && okPt p then some (iA (partM l p)) else none) p l
 rw [Nat.ble_eq_true_of_le h1, h2] at this; exact this
abbrev stpE (l : List Pt) : Nat → Pt → Option Int := fun i p => bif partM (l.take i) p != 0 then some (partM (l.take i) p) else none
theorem h30 : Holds 30 partsG := holds1 fun l r hr => by
 cases hb : okPts l with
 | false => simp [hb] at hr
 | true =>
  simp only [hb, cond_true, Option.some.injEq] at hr; subst hr
  obtain ⟨hlim, hok⟩ := okPts_at hb
  have hl := limTwo hlim
  have e := e_pt l
  have h := LoopRun.find (C := CS P3) (p := 0) (nt := 36) (rd := false) (c := lO (CS P3) 30 0) (stpE l) (fun i => mkSt [0, 20, 21, 22] [] 36 [.rsl 7 (l.map ptC.enc) false, .rsl 7 (l.map ptC.enc) false, iA (Int.ofNat l.length), iA (Int.ofNat i)] [])
   (fun t => mkSt [2] [] 36 [iA t] []) (mkSt [2] [] 36 [.bad] []) (.exit 0) (fun _ => .ret) l (by simp) (by simp)
   (fun i x hx => by
    have hi := lt_len hx
    have q1 : (0 ≤ i ∧ i ≤ (l.map ptC.enc).length) := ⟨Nat.zero_le _, by rw [List.length_map]; omega⟩
    have q2 : ([ptA x, .rsl 7 (List.take (i - 0) (List.drop 0 (l.map ptC.enc))) false] : List AV) = [ptA x, slA ptC 7 (l.take i)] := by rw [take_map]; rfl
    have q3 : partG ([ptA x, .rsl 7 (List.take (i - 0) (List.drop 0 (l.map ptC.enc))) false] : List AV) = some (AV.v (.int .i64 (partM (l.take i) x))) := by
     rw [q2]
     exact spPart (by rw [List.length_take]; omega) (hok x (List.mem_of_getElem? hx))
    have hr := r30 (l.map ptC.enc) ((l.take i).map ptC.enc) l.length i (partM (l.take i) x) x.1 x.2.1 x.2.2.1 x.2.2.2.1 x.2.2.2.2.1 x.2.2.2.2.2.1 (x.co.map ivC.enc)
    rw [lt_of hi, wrap_ix hi hl] at hr
    unfold stpE
    cases h : partM (l.take i) x != 0 with
    | true => rw [h] at hr; exact P3_ok.rndR hr ⟨get_map _ hx, q1, ⟨q2, q3⟩, trivial, rfl⟩
    | false => rw [h] at hr; exact P3_ok.rndN hr ⟨get_map _ hx, q1, ⟨q2, q3⟩, trivial, rfl⟩)
   (by
    have hr := r30 (l.map ptC.enc) [] l.length l.length 0 ⟨#[]⟩ ⟨#[]⟩ 0 0 0 0 []
    rw [lt_self] at hr
    exact P3_ok.rndX hr ⟨trivial, rfl⟩)
  rw [← e] at h
  have fr : firstG [.rsl 1 [iA (whenM (Int.ofNat l.length == 0) 12), iA (whenM (decide (Int.ofNat l.length > 16)) 5)] true] = some (iA (manyM l.length 16)) := rfl
  rw [← e] at fr
  unfold partsM srchE
  cases hm : manyM l.length 16 != 0 with
  | true => exact P3_ok.tr (t30c (l.map ptC.enc) _ _ _ _ (manyM l.length 16)) ⟨⟨rfl, spWhen _ 12⟩, ⟨rfl, spWhen _ 5⟩, ⟨rfl, fr⟩, hm, rfl⟩
  | false =>
   cases hq : srch (stpE l) 0 l with
   | some t => rw [hq] at h; exact P3_ok.tr (t30r (l.map ptC.enc) _ _ _ _ (manyM l.length 16) t) ⟨⟨rfl, spWhen _ 12⟩, ⟨rfl, spWhen _ 5⟩, ⟨rfl, fr⟩, hm, ⟨trivial, trivial, h.says⟩, rfl⟩
   | none => rw [hq] at h; exact P3_ok.tr (t30e (l.map ptC.enc) _ _ _ _ (manyM l.length 16)) ⟨⟨rfl, spWhen _ 12⟩, ⟨rfl, spWhen _ 5⟩, ⟨rfl, fr⟩, hm, ⟨trivial, trivial, h.says⟩, rfl⟩
theorem firstM_snoc (y : Int) : ∀ l : List Int, firstM (l ++ [y]) = bif firstM l != 0 then firstM l else y
 | [] => by
  show firstM [y] = y
  unfold firstM
  cases h : y != 0 with
  | true => rfl
  | false => simp only [bne_eq_false_iff_eq] at h; subst h; rfl
 | x :: l => by
  rw [List.cons_append]
  unfold firstM
  cases h : x != 0 with
  | true => simp [h]
  | false => simp only [cond_false]; exact firstM_snoc y l
def iv107 (x : I2) : Int := ivM x (-1000000) 1000000
theorem iv_same : iv184 = iv107 := rfl
def ref8 (l : List Pt) (i : Nat) (p : Pt) : List Int :=
 [nameErr p.1, whenM (hasP (l.take i) p.1) 9, whenM (bif Int.ofNat i == 0 then !nilB p.2.1 else false) 24, whenM (bif Int.ofNat i == 0 then false else decide (findP (l.take i) p.2.1 < 0)) 10, withinM p.2.2.1 1 100000, vecM p.jt 10000, whenM (Int.ofNat p.co.length == 0) 12, whenM (decide (Int.ofNat p.co.length > 8)) 5]
theorem ref_eq {l : List Pt} {i : Nat} {p : Pt} (hi : i ≤ l.length) : partM (l.take i) p = bif firstM (ref8 l i p) != 0 then firstM (ref8 l i p) else firstM (p.co.map iv107) := by
 rw [← firstM_snoc]
 unfold partM partE ref8 hasP
 have hl : (l.take i).length = i := by rw [List.length_take]; omega
 have hd : decide (findP (l.take i) p.2.1 < 0) = !decide (findP (l.take i) p.2.1 ≥ 0) := by
  by_cases h : findP (l.take i) p.2.1 < 0
  ·rw [decide_eq_true h, decide_eq_false (by omega)]; rfl
  ·rw [decide_eq_false h, decide_eq_true (by omega)]; rfl
 rw [hl, hd, iv_same]
 rfl
theorem iv_srch (l : List I2) : srch (fun (_ : Nat) (x : I2) => bif iv107 x != 0 then some (iv107 x) else none) 0 l = bif firstM (l.map iv107) != 0 then some (firstM (l.map iv107)) else none := srch_err iv107 l 0
theorem inner22 {es : List AV} {i : Nat} {p : Pt} (hp : okPt p = true) :
  LoopRun (CS P3) 0 92 false (lO (CS P3) 22 2) (mkSt [0, 3, 4, 6] [4] 92 [.rsl 7 es false, iA (Int.ofNat i), .ptr 4 0 0, iA (Int.ofNat 0)] [(false, .box [sA p.1, sA p.2.1, iA p.2.2.1, iA p.2.2.2.1, iA p.2.2.2.2.1, iA p.2.2.2.2.2.1, .rsl 2 (p.co.map ivC.enc) false])])
   (bif firstM (p.co.map iv107) != 0 then .ret else .exit 2) (bif firstM (p.co.map iv107) != 0 then mkSt [2] [] 92 [iA (firstM (p.co.map iv107))] [] else mkSt [0, 3] [] 92 [.rsl 7 es false, iA (Int.ofNat i)] []) := by
 have hl := limTwo (Nat.le_of_ble_eq_true hp)
 have ec : Int.ofNat (p.co.map ivC.enc).length = Int.ofNat p.co.length := by simp
 have h := LoopRun.find (C := CS P3) (p := 0) (nt := 92) (rd := false) (c := lO (CS P3) 22 2) (fun (_ : Nat) (x : I2) => bif iv107 x != 0 then some (iv107 x) else none)
  (fun k => mkSt [0, 3, 4, 6] [4] 92 [.rsl 7 es false, iA (Int.ofNat i), .ptr 4 0 0, iA (Int.ofNat k)] [(false, .box [sA p.1, sA p.2.1, iA p.2.2.1, iA p.2.2.2.1, iA p.2.2.2.2.1, iA p.2.2.2.2.2.1, .rsl 2 (p.co.map ivC.enc) false])])
  (fun t => mkSt [2] [] 92 [iA t] []) (mkSt [0, 3] [] 92 [.rsl 7 es false, iA (Int.ofNat i)] []) (.exit 2) (fun _ => .ret) p.co (by simp) (by simp)
  (fun k x hx => by
   have hk := lt_len hx
   have hg : (p.co.map ivC.enc)[k]? = some (ivC.enc x) := get_map _ hx
   have hlt : decide (Int.ofNat k < Int.ofNat (p.co.map ivC.enc).length) = true := by rw [ec]; exact lt_of hk
   have hs : iv107G [ivA x, iA (-1000000), iA 1000000] = some (iA (iv107 x)) := sp3_at (A := ivC) (B := intC) (D := intC) (F := fun x lo hi => some (iA (ivM x lo hi))) x (-1000000) 1000000
   cases h : iv107 x != 0 with
   | true => exact P3_ok.rndR (r22i es i k p.1 p.2.1 p.2.2.1 p.2.2.2.1 p.2.2.2.2.1 p.2.2.2.2.2.1 (p.co.map ivC.enc) x.1 x.2 (iv107 x)) ⟨hlt, hg, ⟨rfl, hs⟩, h, trivial, rfl⟩
   | false =>
    have hr := r22j es i k p.1 p.2.1 p.2.2.1 p.2.2.2.1 p.2.2.2.2.1 p.2.2.2.2.2.1 (p.co.map ivC.enc) x.1 x.2 (iv107 x)
    rw [wrap_ix hk hl] at hr
    exact P3_ok.rndN hr ⟨hlt, hg, ⟨rfl, hs⟩, h, trivial, rfl⟩)
  (P3_ok.rndX (r22k es i p.co.length p.1 p.2.1 p.2.2.1 p.2.2.2.1 p.2.2.2.2.1 p.2.2.2.2.2.1 (p.co.map ivC.enc)) ⟨by rw [ec]; exact lt_self _, trivial, rfl⟩)
 rw [iv_srch] at h
 cases hq : firstM (p.co.map iv107) != 0 with
 | true => rw [hq] at h; exact h
 | false => rw [hq] at h; exact h
theorem h22 : Holds 22 partsG := holds1 fun l r hr => by
 cases hb : okPts l with
 | false => simp [hb] at hr
 | true =>
  simp only [hb, cond_true, Option.some.injEq] at hr; subst hr
  obtain ⟨hlim, hok⟩ := okPts_at hb
  have hl := limTwo hlim
  have e := e_pt l
  have h := LoopRun.find (C := CS P3) (p := 0) (nt := 92) (rd := false) (c := lO (CS P3) 22 0) (stpE l) (fun i => mkSt [0, 3] [] 92 [.rsl 7 (l.map ptC.enc) false, iA (Int.ofNat i)] [])
   (fun t => mkSt [2] [] 92 [iA t] []) (mkSt [2] [] 92 [.bad] []) (.exit 0) (fun _ => .ret) l (by simp) (by simp)
   (fun i x hx => by
    have hi := lt_len hx
    have hp := hok x (List.mem_of_getElem? hx)
    have hlt : decide (Int.ofNat i < Int.ofNat (l.map ptC.enc).length) = true := by rw [e]; exact lt_of hi
    have hg : (l.map ptC.enc)[i]? = some (ptC.enc x) := get_map _ hx
    have q1 : (0 ≤ i ∧ i ≤ (l.map ptC.enc).length) := ⟨Nat.zero_le _, by rw [List.length_map]; omega⟩
    have q2 : ∀ s : ByteArray, ([.rsl 7 (List.take (i - 0) (List.drop 0 (l.map ptC.enc))) false, sA s] : List AV) = [slA ptC 7 (l.take i), sA s] := fun s => by rw [take_map]; rfl
    have q3 : ∀ s : ByteArray, findPG ([.rsl 7 (List.take (i - 0) (List.drop 0 (l.map ptC.enc))) false, sA s] : List AV) = some (AV.v (.int .i64 (findP (l.take i) s))) := fun s => by
     rw [q2]
     exact spFindP s (Nat.ble_eq_true_of_le (by rw [List.length_take]; unfold two63 at *; omega))
    have ec : Int.ofNat (x.co.map ivC.enc).length = Int.ofNat x.co.length := by simp
    have fr : firstG [.rsl 1 [iA (nameErr x.1), iA (whenM (hasP (l.take i) x.1) 9), iA (whenM (bif Int.ofNat i == 0 then !nilB x.2.1 else false) 24), iA (whenM (bif Int.ofNat i == 0 then false else decide (findP (l.take i) x.2.1 < 0)) 10), iA (withinM x.2.2.1 1 100000), iA (vecM x.jt 10000), iA (whenM (Int.ofNat x.co.length == 0) 12), iA (whenM (decide (Int.ofNat x.co.length > 8)) 5)] true] = some (iA (firstM (ref8 l i x))) := rfl
    have hin := inner22 (es := l.map ptC.enc) (i := i) hp
    unfold stpE
    rw [ref_eq (p := x) (Nat.le_of_lt hi)]
    cases h0 : Int.ofNat i == 0 with
    | true =>
     rw [h0, ← ec] at fr
     have hgt : decide (Int.ofNat i > 0) = false := by rw [eq_of_beq h0]; rfl
     cases h8 : firstM (ref8 l i x) != 0 with
     | true =>
      simp only [cond_true, h8]
      exact P3_ok.rndR (r22zc (l.map ptC.enc) ((l.take i).map ptC.enc) i x.1 x.2.1 x.2.2.1 x.2.2.2.1 x.2.2.2.2.1 x.2.2.2.2.2.1 (x.co.map ivC.enc) _ _ _ _ _ _ _ _ (firstM (ref8 l i x)) (findP (l.take i) x.1) 0 _ (!nilB x.2.1) false _ _)
       ⟨hlt, hg, ⟨rfl, spName x.1⟩, q1, ⟨q2 _, q3 _⟩, ⟨rfl, spWhen _ 9⟩, h0, ⟨rfl, spWhen _ 24⟩, hgt, ⟨rfl, spWhen _ 10⟩, ⟨rfl, spWithin _ _ _⟩, ⟨rfl, spVec x.jt 10000⟩, ⟨rfl, spWhen _ 12⟩, ⟨rfl, spWhen _ 5⟩, ⟨rfl, fr⟩, h8, trivial, rfl⟩
     | false =>
      simp only [cond_false]
      cases h9 : firstM (x.co.map iv107) != 0 with
      | true =>
       rw [h9] at hin
       simp only [cond_true]
       exact P3_ok.rndR (r22zr (l.map ptC.enc) ((l.take i).map ptC.enc) i x.1 x.2.1 x.2.2.1 x.2.2.2.1 x.2.2.2.2.1 x.2.2.2.2.2.1 (x.co.map ivC.enc) _ _ _ _ _ _ _ _ (firstM (ref8 l i x)) (findP (l.take i) x.1) 0 _ (!nilB x.2.1) false _ _ (firstM (x.co.map iv107)))
        ⟨hlt, hg, ⟨rfl, spName x.1⟩, q1, ⟨q2 _, q3 _⟩, ⟨rfl, spWhen _ 9⟩, h0, ⟨rfl, spWhen _ 24⟩, hgt, ⟨rfl, spWhen _ 10⟩, ⟨rfl, spWithin _ _ _⟩, ⟨rfl, spVec x.jt 10000⟩, ⟨rfl, spWhen _ 12⟩, ⟨rfl, spWhen _ 5⟩, ⟨rfl, fr⟩, h8, ⟨trivial, trivial, hin.says⟩, trivial, rfl⟩
      | false =>
       rw [h9] at hin
       simp only [cond_false]
       have hr := r22zj (l.map ptC.enc) ((l.take i).map ptC.enc) i x.1 x.2.1 x.2.2.1 x.2.2.2.1 x.2.2.2.2.1 x.2.2.2.2.2.1 (x.co.map ivC.enc) (nameErr x.1) (whenM (hasP (l.take i) x.1) 9) (whenM (!nilB x.2.1) 24) (whenM false 10) (withinM x.2.2.1 1 100000) (vecM x.jt 10000) (whenM (Int.ofNat (x.co.map ivC.enc).length == 0) 12) (whenM (decide (Int.ofNat (x.co.map ivC.enc).length > 8)) 5) (firstM (ref8 l i x)) (findP (l.take i) x.1) 0 (hasP (l.take i) x.1) (!nilB x.2.1) false (Int.ofNat (x.co.map ivC.enc).length == 0) (decide (Int.ofNat (x.co.map ivC.enc).length > 8))
       rw [wrap_ix hi hl] at hr
       exact P3_ok.rndN hr
        ⟨hlt, hg, ⟨rfl, spName x.1⟩, q1, ⟨q2 _, q3 _⟩, ⟨rfl, spWhen _ 9⟩, h0, ⟨rfl, spWhen _ 24⟩, hgt, ⟨rfl, spWhen _ 10⟩, ⟨rfl, spWithin _ _ _⟩, ⟨rfl, spVec x.jt 10000⟩, ⟨rfl, spWhen _ 12⟩, ⟨rfl, spWhen _ 5⟩, ⟨rfl, fr⟩, h8, ⟨trivial, trivial, hin.says⟩, trivial, rfl⟩
    | false =>
     rw [h0, ← ec] at fr
     have hgt : decide (Int.ofNat i > 0) = true := by
      simp only [beq_eq_false_iff_ne, ne_eq, Int.ofNat_eq_natCast] at h0
      simp only [gt_iff_lt, decide_eq_true_eq, Int.ofNat_eq_natCast]; omega
     cases h8 : firstM (ref8 l i x) != 0 with
     | true =>
      simp only [cond_true, h8]
      exact P3_ok.rndR (r22nc (l.map ptC.enc) ((l.take i).map ptC.enc) i x.1 x.2.1 x.2.2.1 x.2.2.2.1 x.2.2.2.2.1 x.2.2.2.2.2.1 (x.co.map ivC.enc) _ _ _ _ _ _ _ _ (firstM (ref8 l i x)) (findP (l.take i) x.1) (findP (l.take i) x.2.1) _ false _ _ _)
       ⟨hlt, hg, ⟨rfl, spName x.1⟩, q1, ⟨q2 _, q3 _⟩, ⟨rfl, spWhen _ 9⟩, h0, ⟨rfl, spWhen _ 24⟩, hgt, q1, ⟨q2 _, q3 _⟩, ⟨rfl, spWhen _ 10⟩, ⟨rfl, spWithin _ _ _⟩, ⟨rfl, spVec x.jt 10000⟩, ⟨rfl, spWhen _ 12⟩, ⟨rfl, spWhen _ 5⟩, ⟨rfl, fr⟩, h8, trivial, rfl⟩
     | false =>
      simp only [cond_false]
      cases h9 : firstM (x.co.map iv107) != 0 with
      | true =>
       rw [h9] at hin
       simp only [cond_true]
       exact P3_ok.rndR (r22nr (l.map ptC.enc) ((l.take i).map ptC.enc) i x.1 x.2.1 x.2.2.1 x.2.2.2.1 x.2.2.2.2.1 x.2.2.2.2.2.1 (x.co.map ivC.enc) _ _ _ _ _ _ _ _ (firstM (ref8 l i x)) (findP (l.take i) x.1) (findP (l.take i) x.2.1) _ false _ _ _ (firstM (x.co.map iv107)))
        ⟨hlt, hg, ⟨rfl, spName x.1⟩, q1, ⟨q2 _, q3 _⟩, ⟨rfl, spWhen _ 9⟩, h0, ⟨rfl, spWhen _ 24⟩, hgt, q1, ⟨q2 _, q3 _⟩, ⟨rfl, spWhen _ 10⟩, ⟨rfl, spWithin _ _ _⟩, ⟨rfl, spVec x.jt 10000⟩, ⟨rfl, spWhen _ 12⟩, ⟨rfl, spWhen _ 5⟩, ⟨rfl, fr⟩, h8, ⟨trivial, trivial, hin.says⟩, trivial, rfl⟩
      | false =>
       rw [h9] at hin
       simp only [cond_false]
       have hr := r22nj (l.map ptC.enc) ((l.take i).map ptC.enc) i x.1 x.2.1 x.2.2.1 x.2.2.2.1 x.2.2.2.2.1 x.2.2.2.2.2.1 (x.co.map ivC.enc) (nameErr x.1) (whenM (hasP (l.take i) x.1) 9) (whenM false 24) (whenM (decide (findP (l.take i) x.2.1 < 0)) 10) (withinM x.2.2.1 1 100000) (vecM x.jt 10000) (whenM (Int.ofNat (x.co.map ivC.enc).length == 0) 12) (whenM (decide (Int.ofNat (x.co.map ivC.enc).length > 8)) 5) (firstM (ref8 l i x)) (findP (l.take i) x.1) (findP (l.take i) x.2.1) (hasP (l.take i) x.1) false (decide (findP (l.take i) x.2.1 < 0)) (Int.ofNat (x.co.map ivC.enc).length == 0) (decide (Int.ofNat (x.co.map ivC.enc).length > 8))
       rw [wrap_ix hi hl] at hr
       exact P3_ok.rndN hr
        ⟨hlt, hg, ⟨rfl, spName x.1⟩, q1, ⟨q2 _, q3 _⟩, ⟨rfl, spWhen _ 9⟩, h0, ⟨rfl, spWhen _ 24⟩, hgt, q1, ⟨q2 _, q3 _⟩, ⟨rfl, spWhen _ 10⟩, ⟨rfl, spWithin _ _ _⟩, ⟨rfl, spVec x.jt 10000⟩, ⟨rfl, spWhen _ 12⟩, ⟨rfl, spWhen _ 5⟩, ⟨rfl, fr⟩, h8, ⟨trivial, trivial, hin.says⟩, trivial, rfl⟩)
   (P3_ok.rndX (r22x (l.map ptC.enc) l.length) ⟨by rw [e]; exact lt_self _, trivial, rfl⟩)
  unfold partsM srchE
  have hmm : manyM l.length 16 = firstM [whenM (Int.ofNat l.length == 0) 12, whenM (decide (Int.ofNat l.length > 16)) 5] := rfl
  cases h0 : Int.ofNat l.length == 0 with
  | true =>
   rw [hmm, h0]
   exact P3_ok.tr (t22a (l.map ptC.enc)) ⟨by rw [e]; exact h0, rfl⟩
  | false =>
   cases h16 : decide (Int.ofNat l.length > 16) with
   | true =>
    rw [hmm, h0, h16]
    exact P3_ok.tr (t22b (l.map ptC.enc)) ⟨by rw [e]; exact h0, by rw [e]; exact h16, rfl⟩
   | false =>
    rw [hmm, h0, h16]
    have hz : (firstM [whenM false 12, whenM false 5] != 0) = false := rfl
    rw [hz, cond_false]
    cases hq : srch (stpE l) 0 l with
    | some t => rw [hq] at h; exact P3_ok.tr (t22r (l.map ptC.enc) t) ⟨by rw [e]; exact h0, by rw [e]; exact h16, ⟨trivial, trivial, h.says⟩, rfl⟩
    | none => rw [hq] at h; exact P3_ok.tr (t22e (l.map ptC.enc)) ⟨by rw [e]; exact h0, by rw [e]; exact h16, ⟨trivial, trivial, h.says⟩, rfl⟩
def P4 : Specs := ((P3.set 30 partsG).set 22 partsG)
theorem P4_ok : Ok P4 := ((P3_ok.set h30).set h22)
end Go.Vm.S3

namespace Go.Vm.S3
open Go.Proofs Go.RowKit
set_option maxRecDepth 100000
abbrev cP5_3 (es : List AV) (i : Nat) (a b : ByteArray) (m x y z : Int) (cs : List AV) (h9 : List Hn) (a9 : List An) (x9 : Ex) (v9 : List AV) (e9 : List (Bool × Blk)) : Prop := Lr P4 13 43 0 [0, 3] [] [0, 3] [] [2] [] [.rsl 7 es false, iA (Int.ofNat i)] [] ([.as 15 true, .chk [.agg [sA a, sA b, iA m, iA x, iA y, iA z, .rsl 2 cs false]], .as 25 false, .chk [.agg [sA a, sA b, iA m, iA x, iA y, iA z, .rsl 2 cs false]]] ++ h9) ([.t i es.length, .g es i, .b (decide (Int.ofNat a.size > 40)), .g es i] ++ a9) x9 v9 e9
theorem r13n (es : List AV) (i : Nat) (a b : ByteArray) (m x y z : Int) (cs : List AV) : cP5_3 es i a b m x y z cs [.as 34 false, .chk [.agg [sA a, sA b, iA m, iA x, iA y, iA z, .rsl 2 cs false]], .as 42 false] [.b (decide (Int.ofNat b.size > 40)), .g es i, .b (decide (Int.ofNat cs.length > 9))] .nrm [.rsl 7 es false, iA (IntKind.i64.wrap (Int.ofNat i + 1))] [] := kN (by kernel_rfl)
theorem r13a (es : List AV) (i : Nat) (a b : ByteArray) (m x y z : Int) (cs : List AV) : Lr P4 13 43 0 [0, 3] [] [0, 3] [] [2] [] [.rsl 7 es false, iA (Int.ofNat i)] [] [.as 15 true, .chk [.agg [sA a, sA b, iA m, iA x, iA y, iA z, .rsl 2 cs false]], .as 25 true] [.t i es.length, .g es i, .b (decide (Int.ofNat a.size > 40))] .ret [bA false] [] := kN (by kernel_rfl)
theorem r13b (es : List AV) (i : Nat) (a b : ByteArray) (m x y z : Int) (cs : List AV) : cP5_3 es i a b m x y z cs [.as 34 true] [.b (decide (Int.ofNat b.size > 40))] .ret [bA false] [] := kN (by kernel_rfl)
theorem r13c (es : List AV) (i : Nat) (a b : ByteArray) (m x y z : Int) (cs : List AV) : cP5_3 es i a b m x y z cs [.as 34 false, .chk [.agg [sA a, sA b, iA m, iA x, iA y, iA z, .rsl 2 cs false]], .as 42 true] [.b (decide (Int.ofNat b.size > 40)), .g es i, .b (decide (Int.ofNat cs.length > 9))] .ret [bA false] [] := kN (by kernel_rfl)
theorem r13x (es : List AV) (i : Nat) : Lr P4 13 43 0 [0, 3] [] [0, 3] [] [2] [] [.rsl 7 es false, iA (Int.ofNat i)] [] [.as 15 false] [.t i es.length] (.exit 0) [.bad] [] := kN (by kernel_rfl)
theorem t13f (es : List AV) : L P4 13 [.rsl 7 es false] [.as 7 true, .as 11 true] [.b (decide (Int.ofNat es.length > 6)), .b (Int.ofNat es.length != 17)] (bA false) := kR (by kernel_rfl)
theorem t13ra (es : List AV) : L P4 13 [.rsl 7 es false] [.as 7 false, .loop 0 [0, 3] [] [2] [] .ret [bA false] []] [.b (decide (Int.ofNat es.length > 6)), .l 43 13 0 43 [.rsl 7 es false, iA 0] []] (bA false) := kR (by kernel_rfl)
theorem t13ea (es : List AV) : L P4 13 [.rsl 7 es false] [.as 7 false, .loop 0 [0, 3] [] [2] [] (.exit 0) [.bad] []] [.b (decide (Int.ofNat es.length > 6)), .l 43 13 0 43 [.rsl 7 es false, iA 0] []] (bA true) := kR (by kernel_rfl)
theorem t13rb (es : List AV) : L P4 13 [.rsl 7 es false] [.as 7 true, .as 11 false, .loop 0 [0, 3] [] [2] [] .ret [bA false] []] [.b (decide (Int.ofNat es.length > 6)), .b (Int.ofNat es.length != 17), .l 43 13 0 43 [.rsl 7 es false, iA 0] []] (bA false) := kR (by kernel_rfl)
theorem t13eb (es : List AV) : L P4 13 [.rsl 7 es false] [.as 7 true, .as 11 false, .loop 0 [0, 3] [] [2] [] (.exit 0) [.bad] []] [.b (decide (Int.ofNat es.length > 6)), .b (Int.ofNat es.length != 17), .l 43 13 0 43 [.rsl 7 es false, iA 0] []] (bA true) := kR (by kernel_rfl)
theorem r99a (es : List AV) (n i : Nat) (a b : ByteArray) (m x y z : Int) (cs : List AV) : Lr P4 99 26 0 [0, 3, 4] [] [0, 3, 4] [24] [3] [] [.rsl 7 es false, nilS, iA (Int.ofNat i)] [] [.as 9 true, .chk [.agg [sA a, sA b, iA m, iA x, iA y, iA z, .rsl 2 cs false]], .cl] [.t i es.length, .g es i, .k (CloP 2 2 16 cs (([] : List AV) ++ cs))] .nrm [.rsl 7 es false, .sl 24 0 7 0 1, iA (IntKind.i64.wrap (Int.ofNat i + 1))] [(false, .arr 7 [.agg [sA a, sA b, iA m, iA x, iA y, iA z, .rsl 2 (([] : List AV) ++ cs) false]] false)] := kN (by kernel_rfl)
theorem r99xa (es : List AV) (n i : Nat) : Lr P4 99 26 0 [0, 3, 4] [] [0, 3, 4] [] [3] [] [.rsl 7 es false, nilS, iA (Int.ofNat i)] [] [.as 9 false] [.t i es.length] (.exit 0) [.v (.slice none 0 0)] [] := kN (by kernel_rfl)
theorem r99b (es : List AV) (n i : Nat) (rs : List AV) (k : Nat) (a b : ByteArray) (m x y z : Int) (cs : List AV) : Lr P4 99 26 0 [0, 3, 4] [24] [0, 3, 4] [24] [3] [24] [.rsl 7 es false, .sl 24 0 7 0 k, iA (Int.ofNat i)] [(false, .arr 7 rs false)] [.as 9 true, .chk [.agg [sA a, sA b, iA m, iA x, iA y, iA z, .rsl 2 cs false]], .cl, .chk rs] [.t i es.length, .g es i, .k (CloP 2 2 16 cs (([] : List AV) ++ cs)), .k (apn k rs 7 [.agg [sA a, sA b, iA m, iA x, iA y, iA z, .rsl 2 (([] : List AV) ++ cs) false]] 88)] .nrm [.rsl 7 es false, .sl 24 0 7 0 ((rs ++ ([.agg [sA a, sA b, iA m, iA x, iA y, iA z, .rsl 2 (([] : List AV) ++ cs) false]] : List AV)).length), iA (IntKind.i64.wrap (Int.ofNat i + 1))] [(false, .arr 7 (rs ++ ([.agg [sA a, sA b, iA m, iA x, iA y, iA z, .rsl 2 (([] : List AV) ++ cs) false]] : List AV)) false)] := kN (by kernel_rfl)
theorem r99xb (es : List AV) (n i : Nat) (rs : List AV) (k : Nat) : Lr P4 99 26 0 [0, 3, 4] [24] [0, 3, 4] [24] [3] [24] [.rsl 7 es false, .sl 24 0 7 0 k, iA (Int.ofNat i)] [(false, .arr 7 rs false)] [.as 9 false] [.t i es.length] (.exit 0) [.sl 24 0 7 0 k] [(false, .arr 7 rs false)] := kN (by kernel_rfl)
theorem t99 (es rs : List AV) : L P4 99 [.rsl 7 es false] [.loop 0 [0, 3, 4] [] [3] [] (.exit 0) [.rsl 7 rs false] []] [.l 26 99 0 26 [.rsl 7 es false, .v (.slice none 0 0), iA 0] []] (.rsl 7 rs false) := kR (by kernel_rfl)
theorem t174 (a b : ByteArray) (m x y z : Int) (cs : List AV) : L P4 174 [.agg [sA a, sA b, iA m, iA x, iA y, iA z, .rsl 2 cs false]] [] [] (sA a) := kR (by kernel_rfl)
def longP (p : Pt) : Bool := bif decide (Int.ofNat p.1.size > 40) then true else bif decide (Int.ofNat p.2.1.size > 40) then true else decide (Int.ofNat p.co.length > 9)
def lenB (n : Nat) : Bool := bif decide (Int.ofNat n > 6) then Int.ofNat n != 17 else false
def shortP (l : List Pt) : Bool := bif lenB l.length then false else !l.any longP
def shortPG : List AV → Option AV := sp1 ptsC fun l => some (bA (shortP l))
theorem shortP_at {l : List Pt} (h : shortP l = true) : l.length ≤ 17 ∧ (∀ p ∈ l, longP p = false) := by
 unfold shortP at h
 cases hl : lenB l.length with
 | true => rw [hl] at h; cases h
 | false =>
  rw [hl, cond_false] at h
  refine ⟨?_, fun p hp => ?_⟩
  ·unfold lenB at hl
   cases h6 : decide (Int.ofNat l.length > 6) with
   | true =>
    rw [h6, cond_true] at hl
    simp only [bne_eq_false_iff_eq, Int.ofNat_eq_natCast] at hl; omega
   | false => simp only [gt_iff_lt, decide_eq_false_iff_not, Int.ofNat_eq_natCast] at h6; omega
  ·cases hq : longP p with
   | false => rfl
   | true =>
    have : l.any longP = true := List.any_eq_true.2 ⟨p, hp, hq⟩
    rw [this] at h; cases h
theorem longP_co {p : Pt} (h : longP p = false) : p.co.length ≤ 9 ∧ p.1.size ≤ 40 ∧ p.2.1.size ≤ 40 := by
 unfold longP at h
 cases h1 : decide (Int.ofNat p.1.size > 40) with
 | true => rw [h1] at h; cases h
 | false =>
  rw [h1, cond_false] at h
  cases h2 : decide (Int.ofNat p.2.1.size > 40) with
  | true => rw [h2] at h; cases h
  | false =>
   rw [h2, cond_false] at h
   simp only [gt_iff_lt, decide_eq_false_iff_not, Int.ofNat_eq_natCast] at h h1 h2
   omega
theorem shortP_ok {l : List Pt} (h : shortP l = true) : okPts l = true := by
 obtain ⟨h1, h2⟩ := shortP_at h
 unfold okPts
 rw [Bool.and_eq_true, List.all_eq_true]
 exact ⟨Nat.ble_eq_true_of_le (by unfold lim; omega), fun p hp => Nat.ble_eq_true_of_le (by have := longP_co (h2 p hp); unfold lim; omega)⟩
theorem h13 : Holds 13 shortPG := holds1 fun l r hr => by
 simp only [Option.some.injEq] at hr; subst hr
 have e := e_pt l
 unfold shortP
 cases hn : lenB l.length with
 | true =>
  unfold lenB at hn
  cases h6 : decide (Int.ofNat l.length > 6) with
  | false => rw [h6] at hn; cases hn
  | true =>
   rw [h6, cond_true] at hn
   exact P4_ok.tr (t13f (l.map ptC.enc)) ⟨by rw [e]; exact h6, by rw [e]; exact hn, rfl⟩
 | false =>
  rw [cond_false]
  have hle : l.length ≤ 17 := by
   unfold lenB at hn
   cases h6 : decide (Int.ofNat l.length > 6) with
   | true =>
    rw [h6, cond_true] at hn
    simp only [bne_eq_false_iff_eq, Int.ofNat_eq_natCast] at hn; omega
   | false => simp only [gt_iff_lt, decide_eq_false_iff_not, Int.ofNat_eq_natCast] at h6; omega
  have hl : l.length < two63 := Nat.lt_of_le_of_lt hle (by decide)
  have h := LoopRun.find (C := CS P4) (p := 0) (nt := 43) (rd := false) (c := lO (CS P4) 13 0) (fun (_ : Nat) (x : Pt) => bif longP x then some () else none) (fun i => mkSt [0, 3] [] 43 [.rsl 7 (l.map ptC.enc) false, iA (Int.ofNat i)] [])
   (fun _ => mkSt [2] [] 43 [bA false] []) (mkSt [2] [] 43 [.bad] []) (.exit 0) (fun _ => .ret) l (by simp) (by simp)
   (fun i x hx => by
    have hi := lt_len hx
    have hlt : decide (Int.ofNat i < Int.ofNat (l.map ptC.enc).length) = true := by rw [e]; exact lt_of hi
    have hg : (l.map ptC.enc)[i]? = some (ptC.enc x) := get_map _ hx
    have ec : Int.ofNat (x.co.map ivC.enc).length = Int.ofNat x.co.length := by simp
    unfold longP
    cases h1 : decide (Int.ofNat x.1.size > 40) with
    | true => exact P4_ok.rndR (r13a (l.map ptC.enc) i x.1 x.2.1 x.2.2.1 x.2.2.2.1 x.2.2.2.2.1 x.2.2.2.2.2.1 (x.co.map ivC.enc)) ⟨hlt, hg, h1, trivial, rfl⟩
    | false =>
     cases h2 : decide (Int.ofNat x.2.1.size > 40) with
     | true => exact P4_ok.rndR (r13b (l.map ptC.enc) i x.1 x.2.1 x.2.2.1 x.2.2.2.1 x.2.2.2.2.1 x.2.2.2.2.2.1 (x.co.map ivC.enc)) ⟨hlt, hg, h1, hg, h2, trivial, rfl⟩
     | false =>
      cases h3 : decide (Int.ofNat x.co.length > 9) with
      | true => exact P4_ok.rndR (r13c (l.map ptC.enc) i x.1 x.2.1 x.2.2.1 x.2.2.2.1 x.2.2.2.2.1 x.2.2.2.2.2.1 (x.co.map ivC.enc)) ⟨hlt, hg, h1, hg, h2, hg, by rw [ec]; exact h3, trivial, rfl⟩
      | false =>
       have hr := r13n (l.map ptC.enc) i x.1 x.2.1 x.2.2.1 x.2.2.2.1 x.2.2.2.2.1 x.2.2.2.2.2.1 (x.co.map ivC.enc)
       rw [wrap_ix hi hl] at hr
       exact P4_ok.rndN hr ⟨hlt, hg, h1, hg, h2, hg, by rw [ec]; exact h3, trivial, rfl⟩)
   (P4_ok.rndX (r13x (l.map ptC.enc) l.length) ⟨by rw [e]; exact lt_self _, trivial, rfl⟩)
  rw [srch_any] at h
  unfold lenB at hn
  cases h6 : decide (Int.ofNat l.length > 6) with
  | true =>
   rw [h6, cond_true] at hn
   cases ha : l.any longP with
   | true => rw [ha] at h; exact P4_ok.tr (t13rb (l.map ptC.enc)) ⟨by rw [e]; exact h6, by rw [e]; exact hn, ⟨trivial, trivial, h.says⟩, rfl⟩
   | false => rw [ha] at h; exact P4_ok.tr (t13eb (l.map ptC.enc)) ⟨by rw [e]; exact h6, by rw [e]; exact hn, ⟨trivial, trivial, h.says⟩, rfl⟩
  | false =>
   cases ha : l.any longP with
   | true => rw [ha] at h; exact P4_ok.tr (t13ra (l.map ptC.enc)) ⟨by rw [e]; exact h6, ⟨trivial, trivial, h.says⟩, rfl⟩
   | false => rw [ha] at h; exact P4_ok.tr (t13ea (l.map ptC.enc)) ⟨by rw [e]; exact h6, ⟨trivial, trivial, h.says⟩, rfl⟩
theorem closedIv (l : List I2) : ClosedL (l.map ivC.enc) := ClosedL.map fun _ => rfl
theorem closedPtE (p : Pt) : closed (ptC.enc p) = true := rfl
theorem closedPt (l : List Pt) : ClosedL (l.map ptC.enc) := ClosedL.map closedPtE
def ownPG : List AV → Option AV := sp1 ptsC fun l => bif okPts l then some (slA ptC 7 l) else none
theorem h99 : Holds 99 ownPG := holds1 fun l r hr => by
 cases hb : okPts l with
 | false => simp [hb] at hr
 | true =>
  simp only [hb, cond_true, Option.some.injEq] at hr; subst hr
  obtain ⟨hlim, hok⟩ := okPts_at hb
  have hl := limTwo hlim
  have e := e_pt l
  have clo : ∀ x : Pt, x ∈ l → CloP 2 2 16 (x.co.map ivC.enc) (([] : List AV) ++ x.co.map ivC.enc) := fun x hx => by
   have hc := Nat.le_of_ble_eq_true (hok x hx)
   have hlen : (([] : List AV) ++ x.co.map ivC.enc).length = x.co.length := by simp
   exact ⟨allSz_map (f := ivC.enc) (fun _ => rfl) _, rfl, by rw [hlen]; unfold lim at hc; omega, by rw [hlen]; unfold lim at hc; omega, by decide, closedIv x.co⟩
  have h := LoopRun.builds (C := CS P4) (nt := 26) (rd := false) (c := lO (CS P4) 99 0) ptC.enc closedPt (fun x : Pt => x) 24 7 [0, 3, 4] 26 (fun i a => [.rsl 7 (l.map ptC.enc) false, a, iA (Int.ofNat i)]) l (.exit 0) 3 (by simp)
   (fun i x hx => by
    have hi := lt_len hx
    have hr := r99a (l.map ptC.enc) 0 i x.1 x.2.1 x.2.2.1 x.2.2.2.1 x.2.2.2.2.1 x.2.2.2.2.2.1 (x.co.map ivC.enc)
    rw [wrap_ix hi hl] at hr
    exact P4_ok.rndN hr ⟨by rw [e]; exact lt_of hi, get_map _ hx, clo x (List.mem_of_getElem? hx), ⟨closedPt [x], trivial⟩, rfl⟩)
   (fun i x rs hx hrs => by
    have hi := lt_len hx
    have hr := r99b (l.map ptC.enc) 0 i (rs.map ptC.enc) (rs.map ptC.enc).length x.1 x.2.1 x.2.2.1 x.2.2.2.1 x.2.2.2.2.1 x.2.2.2.2.2.1 (x.co.map ivC.enc)
    rw [wrap_ix hi hl] at hr
    have hlen : (rs.map ptC.enc ++ [ptC.enc x]).length ≤ 1000001 := by rw [List.length_append, List.length_map]; unfold lim at hlim; simp; omega
    exact P4_ok.rndN hr ⟨by rw [e]; exact lt_of hi, get_map _ hx, clo x (List.mem_of_getElem? hx), ⟨rfl, rfl, rfl, by show (rs.map ptC.enc ++ [ptC.enc x]).length * 88 ≤ _; omega, by show (rs.map ptC.enc ++ [ptC.enc x]).length ≤ _; omega, by decide⟩, ⟨(closedPt rs).append (closedPt [x]), trivial⟩, rfl⟩)
   (P4_ok.rndX (r99xa (l.map ptC.enc) 0 l.length) ⟨by rw [e]; exact lt_self _, trivial, rfl⟩)
   (fun rs => P4_ok.rndX (r99xb (l.map ptC.enc) 0 l.length (rs.map ptC.enc) (rs.map ptC.enc).length) ⟨by rw [e]; exact lt_self _, ⟨closedPt rs, trivial⟩, rfl⟩)
  rw [List.map_id'] at h
  exact P4_ok.tr (t99 (l.map ptC.enc) (l.map ptC.enc)) ⟨⟨trivial, trivial, h.says⟩, rfl⟩
def name174G : List AV → Option AV := sp1 ptC fun p => some (sA p.1)
theorem h174 : Holds 174 name174G := holds1 fun p r hr => by
 simp only [Option.some.injEq] at hr; subst hr
 exact P4_ok.tr (t174 p.1 p.2.1 p.2.2.1 p.2.2.2.1 p.2.2.2.2.1 p.2.2.2.2.2.1 (p.co.map ivC.enc)) rfl
def P5 : Specs := (((P4.set 13 shortPG).set 99 ownPG).set 174 name174G)
theorem P5_ok : Ok P5 := (((P4_ok.set h13).set h99).set h174)
end Go.Vm.S3

namespace Go.Vm.S3
open Go.Proofs Go.RowKit
set_option maxRecDepth 100000
theorem t16 (es rs : List AV) : L P5 16 [.rsl 7 es false] [.sp [.rsl 7 es false] (.rsl 7 es false), .loop 0 [3, 7, 8, 9] [] [3] [] (.exit 0) [.rsl 7 rs false] []] [.f 99, .l 19 16 0 19 [.v (.slice none 0 0), .rsl 7 es false, iA (Int.ofNat es.length), iA 0] []] (.rsl 7 rs false) := kR (by kernel_rfl)
theorem r16a (es : List AV) (n i : Nat) (a b : ByteArray) (m x y z : Int) (cs : List AV) : Lr P5 16 19 0 [3, 7, 8, 9] [] [3, 7, 8, 9] [16] [3] [] [nilS, .rsl 7 es false, iA (Int.ofNat n), iA (Int.ofNat i)] [] [.as 10 true, .chk [.agg [sA a, sA b, iA m, iA x, iA y, iA z, .rsl 2 cs false]]] [.t i n, .g es i] .nrm [.sl 16 0 7 0 1, .rsl 7 es false, iA (Int.ofNat n), iA (IntKind.i64.wrap (Int.ofNat i + 1))] [(false, .arr 7 [.agg [sA a, sA b, iA m, iA x, iA y, iA z, .rsl 2 cs false]] false)] := kN (by kernel_rfl)
theorem r16xa (es : List AV) (n i : Nat) : Lr P5 16 19 0 [3, 7, 8, 9] [] [3, 7, 8, 9] [] [3] [] [nilS, .rsl 7 es false, iA (Int.ofNat n), iA (Int.ofNat i)] [] [.as 10 false] [.t i n] (.exit 0) [.v (.slice none 0 0)] [] := kN (by kernel_rfl)
theorem r16b (es : List AV) (n i : Nat) (rs : List AV) (k : Nat) (a b : ByteArray) (m x y z : Int) (cs : List AV) : Lr P5 16 19 0 [3, 7, 8, 9] [16] [3, 7, 8, 9] [16] [3] [16] [.sl 16 0 7 0 k, .rsl 7 es false, iA (Int.ofNat n), iA (Int.ofNat i)] [(false, .arr 7 rs false)] [.as 10 true, .chk [.agg [sA a, sA b, iA m, iA x, iA y, iA z, .rsl 2 cs false]], .chk rs] [.t i n, .g es i, .k (apn k rs 7 [.agg [sA a, sA b, iA m, iA x, iA y, iA z, .rsl 2 cs false]] 88)] .nrm [.sl 16 0 7 0 ((rs ++ ([.agg [sA a, sA b, iA m, iA x, iA y, iA z, .rsl 2 cs false]] : List AV)).length), .rsl 7 es false, iA (Int.ofNat n), iA (IntKind.i64.wrap (Int.ofNat i + 1))] [(false, .arr 7 (rs ++ ([.agg [sA a, sA b, iA m, iA x, iA y, iA z, .rsl 2 cs false]] : List AV)) false)] := kN (by kernel_rfl)
theorem r16xb (es : List AV) (n i : Nat) (rs : List AV) (k : Nat) : Lr P5 16 19 0 [3, 7, 8, 9] [16] [3, 7, 8, 9] [16] [3] [16] [.sl 16 0 7 0 k, .rsl 7 es false, iA (Int.ofNat n), iA (Int.ofNat i)] [(false, .arr 7 rs false)] [.as 10 false] [.t i n] (.exit 0) [.sl 16 0 7 0 k] [(false, .arr 7 rs false)] := kN (by kernel_rfl)
theorem spOwnP {l : List Pt} (h : okPts l = true) : ownPG [slA ptC 7 l] = some (slA ptC 7 l) := by
 have := sp1_at (A := ptsC) (F := fun l => bif okPts l then some (slA ptC 7 l) else none) l
 rw [h] at this; exact this
theorem h16 : Holds 16 ownPG := holds1 fun l r hr => by
 cases hb : okPts l with
 | false => simp [hb] at hr
 | true =>
  simp only [hb, cond_true, Option.some.injEq] at hr; subst hr
  obtain ⟨hlim, hok⟩ := okPts_at hb
  have hl := limTwo hlim
  have e := e_pt l
  have h := LoopRun.builds (C := CS P5) (nt := 19) (rd := false) (c := lO (CS P5) 16 0) ptC.enc closedPt (fun x : Pt => x) 16 7 [3, 7, 8, 9] 19 (fun i a => [a, .rsl 7 (l.map ptC.enc) false, iA (Int.ofNat l.length), iA (Int.ofNat i)]) l (.exit 0) 3 (by simp)
   (fun i x hx => by
    have hi := lt_len hx
    have hr := r16a (l.map ptC.enc) l.length i x.1 x.2.1 x.2.2.1 x.2.2.2.1 x.2.2.2.2.1 x.2.2.2.2.2.1 (x.co.map ivC.enc)
    rw [wrap_ix hi hl] at hr
    exact P5_ok.rndN hr ⟨lt_of hi, get_map _ hx, ⟨closedPt [x], trivial⟩, rfl⟩)
   (fun i x rs hx hrs => by
    have hi := lt_len hx
    have hr := r16b (l.map ptC.enc) l.length i (rs.map ptC.enc) (rs.map ptC.enc).length x.1 x.2.1 x.2.2.1 x.2.2.2.1 x.2.2.2.2.1 x.2.2.2.2.2.1 (x.co.map ivC.enc)
    rw [wrap_ix hi hl] at hr
    have hlen : (rs.map ptC.enc ++ [ptC.enc x]).length ≤ 1000001 := by rw [List.length_append, List.length_map]; unfold lim at hlim; simp; omega
    exact P5_ok.rndN hr ⟨lt_of hi, get_map _ hx, ⟨rfl, rfl, rfl, by show (rs.map ptC.enc ++ [ptC.enc x]).length * 88 ≤ _; omega, by show (rs.map ptC.enc ++ [ptC.enc x]).length ≤ _; omega, by decide⟩, ⟨(closedPt rs).append (closedPt [x]), trivial⟩, rfl⟩)
   (P5_ok.rndX (r16xa (l.map ptC.enc) l.length l.length) ⟨lt_self _, trivial, rfl⟩)
   (fun rs => P5_ok.rndX (r16xb (l.map ptC.enc) l.length l.length (rs.map ptC.enc) (rs.map ptC.enc).length) ⟨lt_self _, ⟨closedPt rs, trivial⟩, rfl⟩)
  rw [List.map_id', ← e] at h
  exact P5_ok.tr (t16 (l.map ptC.enc) (l.map ptC.enc)) ⟨⟨rfl, spOwnP hb⟩, ⟨trivial, trivial, h.says⟩, rfl⟩
theorem goL_all {α σ τ : Type} (f : σ → α → σ) (fin : σ → τ) : ∀ (l : List α) (i : Nat) (s : σ), goL (fun _ x s => (.inl (f s x) : σ ⊕ τ)) fin i l s = fin (l.foldl f s)
 | [], _, _ => rfl
 | x :: l, i, s => by rw [goL, List.foldl_cons]; exact goL_all f fin l (i + 1) (f s x)
def P6 : Specs := (P5.set 16 ownPG)
theorem P6_ok : Ok P6 := (P5_ok.set h16)
end Go.Vm.S3
