/- DummyLabs: the law holds. -/
import Derived.Test.YtliikgffjphhjaaGreatDoorS3GL
namespace Go.Vm.S3
open Go.Proofs Go.RowKit
set_option maxRecDepth 100000
theorem t5l (ps fs cs ts : List AV) (d u : Int) (s : ByteArray) (day : Int) (w : Bool) : evTreeD (CS Q21) 60 5 [lbE ps fs cs ts d u, strA s, intA day] [.sp [lbE ps fs cs ts d u] (boolA false), .as 23 true, .as 27 true, .sp [] (boolA w)] =
    (.need (asks (CS Q21) 37 [lbE ps fs cs ts d u] (boolA false)) (.need (true = true) (.need (true = true) (.need (asks (CS Q21) 14 [] (boolA w)) (.done (some (boolA w))))))) := by kernel_rfl
theorem t5s (ps fs cs ts : List AV) (d u : Int) (s : ByteArray) (day : Int) (w : Bool) : evTreeD (CS Q21) 60 5 [lbE ps fs cs ts d u, strA s, intA day] [.sp [lbE ps fs cs ts d u] (boolA true), .as 23 false, .as 27 true, .sp [] (boolA w)] =
    (.need (asks (CS Q21) 37 [lbE ps fs cs ts d u] (boolA true)) (.need ((!true) = false) (.need ((decide (Int.ofNat s.size > 40)) = true) (.need (asks (CS Q21) 14 [] (boolA w)) (.done (some (boolA w))))))) := by kernel_rfl
theorem t5bad (ps fs cs ts : List AV) (d u : Int) (s : ByteArray) (day : Int) (w : ByteArray) (g : Bool) (e e2 bad : Int) (ps2 fs2 cs2 ts2 : List AV) (d2 u2 : Int) : evTreeD (CS Q21) 60 5 [lbE ps fs cs ts d u, strA s, intA day] [.sp [lbE ps fs cs ts d u] (boolA true), .as 23 false, .as 27 false, .sp [lbE ps fs cs ts d u] (lbE ps fs cs ts d u), .sp [lbE ps fs cs ts d u, strA s, intA day] (.tup [strA w, intA e]), .sp [lbE ps fs cs ts d u] (lbE ps fs cs ts d u), .sp [lbE ps fs cs ts d u, strA s] (.tup [boolA g, intA e2]), .sp [lbE ps fs cs ts d u] (lbE ps fs cs ts d u), .sp [lbE ps fs cs ts d u, strA s] (.tup [lbE ps2 fs2 cs2 ts2 d2 u2, intA e2]), .sp [lbE ps fs cs ts d u] (intA bad), .as 56 false, .as 72 false, .as 81 false, .sp [lbE ps fs cs ts d u] (lbE ps fs cs ts d u), .sp [lbE ps fs cs ts d u] (intA bad), .as 101 true, .as 106 true, .as 111 true, .as 116 true, .as 121 true, .sp [lbE ps2 fs2 cs2 ts2 d2 u2] (lbE ps2 fs2 cs2 ts2 d2 u2), .sp [lbE ps2 fs2 cs2 ts2 d2 u2, .agg [.v (.slice none 0 0), .v (.slice none 0 0), .v (.slice none 0 0), .v (.slice none 0 0), intA 0, intA 0]] (boolA true), .as 127 true, .as 132 true, .sp [] (boolA true)] =
    (.need (asks (CS Q21) 37 [lbE ps fs cs ts d u] (boolA true)) (.need ((!true) = false) (.need ((decide (Int.ofNat s.size > 40)) = false) (.need (asks (CS Q21) 39 [lbE ps fs cs ts d u] (lbE ps fs cs ts d u)) (.need (asks (CS Q21) 38 [lbE ps fs cs ts d u, strA s, intA day] (AV.tup [strA w, intA e])) (.need (asks (CS Q21) 39 [lbE ps fs cs ts d u] (lbE ps fs cs ts d u)) (.need (asks (CS Q21) 40 [lbE ps fs cs ts d u, strA s] (AV.tup [boolA g, intA e2])) (.need (asks (CS Q21) 39 [lbE ps fs cs ts d u] (lbE ps fs cs ts d u)) (.need (asks (CS Q21) 41 [lbE ps fs cs ts d u, strA s] (AV.tup [.agg [.rsl 7 ps2 false, .rsl 3 fs2 false, .rsl 5 cs2 false, .rsl 3 ts2 false, intA d2, intA u2], intA e2])) (.need (asks (CS Q21) 42 [lbE ps fs cs ts d u] (intA bad)) (.need ((bad == 0) = false) (.need ((bad == 0) = false) (.need ((bad == 0) = false) (.need (asks (CS Q21) 39 [lbE ps fs cs ts d u] (lbE ps fs cs ts d u)) (.need (asks (CS Q21) 49 [lbE ps fs cs ts d u] (intA bad)) (.need ((bad == bad) = true) (.need ((w.toList == (ByteArray.mk #[]).toList) = true) (.need ((e == bad) = true) (.need ((g == false) = true) (.need ((e2 == bad) = true) (.need (asks (CS Q21) 51 [.agg [.rsl 7 ps2 false, .rsl 3 fs2 false, .rsl 5 cs2 false, .rsl 3 ts2 false, intA d2, intA u2]] (AV.agg [.rsl 7 ps2 false, .rsl 3 fs2 false, .rsl 5 cs2 false, .rsl 3 ts2 false, intA d2, intA u2])) (.need (asks (CS Q21) 50 [.agg [.rsl 7 ps2 false, .rsl 3 fs2 false, .rsl 5 cs2 false, .rsl 3 ts2 false, intA d2, intA u2], .agg [.v (.slice none 0 0), .v (.slice none 0 0), .v (.slice none 0 0), .v (.slice none 0 0), intA 0, intA 0]] (boolA true)) (.need (true = true) (.need ((e2 == bad) = true) (.need (asks (CS Q21) 14 [] (boolA true)) (.done (some (boolA true)))))))))))))))))))))))))))) := by kernel_rfl
abbrev pfS3Law5_1 {R : Type} (ps fs cs ts : List AV) (d u : Int) (s : ByteArray) (day : Int) (w : ByteArray) (g : Bool) (e e2 bad : Int) (ps2 fs2 cs2 ts2 : List AV) (d2 u2 kp v1 v2 f kc f2 : Int) (kk9 : Dt R) : Dt R :=
  (.need (asks (CS Q21) 37 [lbE ps fs cs ts d u] (boolA true)) (.need ((!true) = false) (.need ((decide (Int.ofNat s.size > 40)) = false) (.need (asks (CS Q21) 39 [lbE ps fs cs ts d u] (lbE ps fs cs ts d u)) (.need (asks (CS Q21) 38 [lbE ps fs cs ts d u, strA s, intA day] (AV.tup [strA w, intA e])) (.need (asks (CS Q21) 39 [lbE ps fs cs ts d u] (lbE ps fs cs ts d u)) (.need (asks (CS Q21) 40 [lbE ps fs cs ts d u, strA s] (AV.tup [boolA g, intA e2])) (.need (asks (CS Q21) 39 [lbE ps fs cs ts d u] (lbE ps fs cs ts d u)) (.need (asks (CS Q21) 41 [lbE ps fs cs ts d u, strA s] (AV.tup [.agg [.rsl 7 ps2 false, .rsl 3 fs2 false, .rsl 5 cs2 false, .rsl 3 ts2 false, intA d2, intA u2], intA e2])) (.need (asks (CS Q21) 42 [lbE ps fs cs ts d u] (intA bad)) (.need ((bad == 0) = true) (.need (asks (CS Q21) 24 [.rsl 7 ps false, strA s] (intA kp)) (.need (asks (CS Q21) 23 [intA kp] (intA v1)) (.need (asks (CS Q21) 43 [intA day] (intA v2)) (.need (asks (CS Q21) 21 [.rsl 1 [intA v1, intA v2] true] (intA f)) (.need (asks (CS Q21) 44 [.rsl 5 cs false, strA s] (intA kc)) (.need (asks (CS Q21) 23 [intA kc] (intA f2)) kk9)))))))))))))))))
theorem t5yy (ps fs cs ts : List AV) (d u : Int) (s : ByteArray) (day : Int) (w : ByteArray) (g : Bool) (e e2 bad : Int) (ps2 fs2 cs2 ts2 : List AV) (d2 u2 : Int) (kp v1 v2 f kc f2 : Int) (sp : ByteArray) (q : Bool) (f1 : Int) (k : Nat) (g1 : Bool) (a b c : ByteArray) (n : Int) (us : List AV) : evTreeD (CS Q21) 60 5 [lbE ps fs cs ts d u, strA s, intA day] [.sp [lbE ps fs cs ts d u] (boolA true), .as 23 false, .as 27 false, .sp [lbE ps fs cs ts d u] (lbE ps fs cs ts d u), .sp [lbE ps fs cs ts d u, strA s, intA day] (.tup [strA w, intA e]), .sp [lbE ps fs cs ts d u] (lbE ps fs cs ts d u), .sp [lbE ps fs cs ts d u, strA s] (.tup [boolA g, intA e2]), .sp [lbE ps fs cs ts d u] (lbE ps fs cs ts d u), .sp [lbE ps fs cs ts d u, strA s] (.tup [lbE ps2 fs2 cs2 ts2 d2 u2, intA e2]), .sp [lbE ps fs cs ts d u] (intA bad), .as 56 true, .sp [.rsl 7 ps false, strA s] (intA kp), .sp [intA kp] (intA v1), .sp [intA day] (intA v2), .sp [.rsl 1 [intA v1, intA v2] true] (intA f), .sp [.rsl 5 cs false, strA s] (intA kc), .sp [intA kc] (intA f2), .as 72 true, .sp [lbE ps fs cs ts d u, strA s, intA day] (strA sp), .sp [boolA q, intA 7] (intA f1), .as 81 true, .sp [.rsl 5 cs false, strA s] (intA (Int.ofNat k)), .chk [.agg [strA a, strA b, strA c, intA n, .rsl 1 us false]], .sp [lbE ps fs cs ts d u, .agg [strA a, strA b, strA c, intA n, .rsl 1 us false]] (boolA g1), .sp [lbE ps fs cs ts d u, intA (Int.ofNat k)] (lbE ps2 fs2 cs2 ts2 d2 u2), .sp [lbE ps fs cs ts d u] (lbE ps fs cs ts d u), .sp [lbE ps fs cs ts d u] (intA bad), .as 101 true, .as 106 true, .as 111 true, .as 116 true, .as 121 true, .sp [lbE ps2 fs2 cs2 ts2 d2 u2] (lbE ps2 fs2 cs2 ts2 d2 u2), .sp [lbE ps2 fs2 cs2 ts2 d2 u2, lbE ps2 fs2 cs2 ts2 d2 u2] (boolA true), .as 127 true, .as 132 true, .sp [] (boolA true)] =
    (pfS3Law5_1 ps fs cs ts d u s day w g e e2 bad ps2 fs2 cs2 ts2 d2 u2 kp v1 v2 f kc f2 (.need ((f == 0) = true) (.need (asks (CS Q21) 45 [lbE ps fs cs ts d u, strA s, intA day] (strA sp)) (.need (([boolA (sp.toList == (ByteArray.mk #[]).toList), intA 7] : List AV) = ([boolA q, intA 7] : List AV) ∧ (Cx.spec (CS Q21) 46 ([boolA q, intA 7] : List AV)) = (some (intA f1))) (.need ((f2 == 0) = true) (.need (asks (CS Q21) 44 [.rsl 5 cs false, strA s] (intA (Int.ofNat k))) (.need (cs[k]? = (some (AV.agg [strA a, strA b, strA c, intA n, .rsl 1 us false]))) (.need (asks (CS Q21) 47 [lbE ps fs cs ts d u, .agg [strA a, strA b, strA c, intA n, .rsl 1 us false]] (boolA g1)) (.need (asks (CS Q21) 48 [lbE ps fs cs ts d u, intA (Int.ofNat k)] (AV.agg [.rsl 7 ps2 false, .rsl 3 fs2 false, .rsl 5 cs2 false, .rsl 3 ts2 false, intA d2, intA u2])) (.need (asks (CS Q21) 39 [lbE ps fs cs ts d u] (lbE ps fs cs ts d u)) (.need (asks (CS Q21) 49 [lbE ps fs cs ts d u] (intA bad)) (.need ((bad == bad) = true) (.need ((w.toList == sp.toList) = true) (.need ((e == f1) = true) (.need ((g == g1) = true) (.need ((e2 == f2) = true) (.need (asks (CS Q21) 51 [.agg [.rsl 7 ps2 false, .rsl 3 fs2 false, .rsl 5 cs2 false, .rsl 3 ts2 false, intA d2, intA u2]] (AV.agg [.rsl 7 ps2 false, .rsl 3 fs2 false, .rsl 5 cs2 false, .rsl 3 ts2 false, intA d2, intA u2])) (.need (asks (CS Q21) 50 [.agg [.rsl 7 ps2 false, .rsl 3 fs2 false, .rsl 5 cs2 false, .rsl 3 ts2 false, intA d2, intA u2], .agg [.rsl 7 ps2 false, .rsl 3 fs2 false, .rsl 5 cs2 false, .rsl 3 ts2 false, intA d2, intA u2]] (boolA true)) (.need (true = true) (.need ((e2 == f2) = true) (.need (asks (CS Q21) 14 [] (boolA true)) (.done (some (boolA true)))))))))))))))))))))))) := by kernel_rfl
theorem t5yn (ps fs cs ts : List AV) (d u : Int) (s : ByteArray) (day : Int) (w : ByteArray) (g : Bool) (e e2 bad : Int) (ps2 fs2 cs2 ts2 : List AV) (d2 u2 : Int) (kp v1 v2 f kc f2 : Int) (sp : ByteArray) (q : Bool) (f1 : Int) : evTreeD (CS Q21) 60 5 [lbE ps fs cs ts d u, strA s, intA day] [.sp [lbE ps fs cs ts d u] (boolA true), .as 23 false, .as 27 false, .sp [lbE ps fs cs ts d u] (lbE ps fs cs ts d u), .sp [lbE ps fs cs ts d u, strA s, intA day] (.tup [strA w, intA e]), .sp [lbE ps fs cs ts d u] (lbE ps fs cs ts d u), .sp [lbE ps fs cs ts d u, strA s] (.tup [boolA g, intA e2]), .sp [lbE ps fs cs ts d u] (lbE ps fs cs ts d u), .sp [lbE ps fs cs ts d u, strA s] (.tup [lbE ps2 fs2 cs2 ts2 d2 u2, intA e2]), .sp [lbE ps fs cs ts d u] (intA bad), .as 56 true, .sp [.rsl 7 ps false, strA s] (intA kp), .sp [intA kp] (intA v1), .sp [intA day] (intA v2), .sp [.rsl 1 [intA v1, intA v2] true] (intA f), .sp [.rsl 5 cs false, strA s] (intA kc), .sp [intA kc] (intA f2), .as 72 true, .sp [lbE ps fs cs ts d u, strA s, intA day] (strA sp), .sp [boolA q, intA 7] (intA f1), .as 81 false, .sp [lbE ps fs cs ts d u] (lbE ps fs cs ts d u), .sp [lbE ps fs cs ts d u] (intA bad), .as 101 true, .as 106 true, .as 111 true, .as 116 true, .as 121 true, .sp [lbE ps2 fs2 cs2 ts2 d2 u2] (lbE ps2 fs2 cs2 ts2 d2 u2), .sp [lbE ps2 fs2 cs2 ts2 d2 u2, .agg [.v (.slice none 0 0), .v (.slice none 0 0), .v (.slice none 0 0), .v (.slice none 0 0), intA 0, intA 0]] (boolA true), .as 127 true, .as 132 true, .sp [] (boolA true)] =
    (pfS3Law5_1 ps fs cs ts d u s day w g e e2 bad ps2 fs2 cs2 ts2 d2 u2 kp v1 v2 f kc f2 (.need ((f == 0) = true) (.need (asks (CS Q21) 45 [lbE ps fs cs ts d u, strA s, intA day] (strA sp)) (.need (([boolA (sp.toList == (ByteArray.mk #[]).toList), intA 7] : List AV) = ([boolA q, intA 7] : List AV) ∧ (Cx.spec (CS Q21) 46 ([boolA q, intA 7] : List AV)) = (some (intA f1))) (.need ((f2 == 0) = false) (.need (asks (CS Q21) 39 [lbE ps fs cs ts d u] (lbE ps fs cs ts d u)) (.need (asks (CS Q21) 49 [lbE ps fs cs ts d u] (intA bad)) (.need ((bad == bad) = true) (.need ((w.toList == sp.toList) = true) (.need ((e == f1) = true) (.need ((g == false) = true) (.need ((e2 == f2) = true) (.need (asks (CS Q21) 51 [.agg [.rsl 7 ps2 false, .rsl 3 fs2 false, .rsl 5 cs2 false, .rsl 3 ts2 false, intA d2, intA u2]] (AV.agg [.rsl 7 ps2 false, .rsl 3 fs2 false, .rsl 5 cs2 false, .rsl 3 ts2 false, intA d2, intA u2])) (.need (asks (CS Q21) 50 [.agg [.rsl 7 ps2 false, .rsl 3 fs2 false, .rsl 5 cs2 false, .rsl 3 ts2 false, intA d2, intA u2], .agg [.v (.slice none 0 0), .v (.slice none 0 0), .v (.slice none 0 0), .v (.slice none 0 0), intA 0, intA 0]] (boolA true)) (.need (true = true) (.need ((e2 == f2) = true) (.need (asks (CS Q21) 14 [] (boolA true)) (.done (some (boolA true)))))))))))))))))))) := by kernel_rfl
theorem t5ny (ps fs cs ts : List AV) (d u : Int) (s : ByteArray) (day : Int) (w : ByteArray) (g : Bool) (e e2 bad : Int) (ps2 fs2 cs2 ts2 : List AV) (d2 u2 : Int) (kp v1 v2 f kc f2 : Int) (k : Nat) (g1 : Bool) (a b c : ByteArray) (n : Int) (us : List AV) : evTreeD (CS Q21) 60 5 [lbE ps fs cs ts d u, strA s, intA day] [.sp [lbE ps fs cs ts d u] (boolA true), .as 23 false, .as 27 false, .sp [lbE ps fs cs ts d u] (lbE ps fs cs ts d u), .sp [lbE ps fs cs ts d u, strA s, intA day] (.tup [strA w, intA e]), .sp [lbE ps fs cs ts d u] (lbE ps fs cs ts d u), .sp [lbE ps fs cs ts d u, strA s] (.tup [boolA g, intA e2]), .sp [lbE ps fs cs ts d u] (lbE ps fs cs ts d u), .sp [lbE ps fs cs ts d u, strA s] (.tup [lbE ps2 fs2 cs2 ts2 d2 u2, intA e2]), .sp [lbE ps fs cs ts d u] (intA bad), .as 56 true, .sp [.rsl 7 ps false, strA s] (intA kp), .sp [intA kp] (intA v1), .sp [intA day] (intA v2), .sp [.rsl 1 [intA v1, intA v2] true] (intA f), .sp [.rsl 5 cs false, strA s] (intA kc), .sp [intA kc] (intA f2), .as 72 false, .as 81 true, .sp [.rsl 5 cs false, strA s] (intA (Int.ofNat k)), .chk [.agg [strA a, strA b, strA c, intA n, .rsl 1 us false]], .sp [lbE ps fs cs ts d u, .agg [strA a, strA b, strA c, intA n, .rsl 1 us false]] (boolA g1), .sp [lbE ps fs cs ts d u, intA (Int.ofNat k)] (lbE ps2 fs2 cs2 ts2 d2 u2), .sp [lbE ps fs cs ts d u] (lbE ps fs cs ts d u), .sp [lbE ps fs cs ts d u] (intA bad), .as 101 true, .as 106 true, .as 111 true, .as 116 true, .as 121 true, .sp [lbE ps2 fs2 cs2 ts2 d2 u2] (lbE ps2 fs2 cs2 ts2 d2 u2), .sp [lbE ps2 fs2 cs2 ts2 d2 u2, lbE ps2 fs2 cs2 ts2 d2 u2] (boolA true), .as 127 true, .as 132 true, .sp [] (boolA true)] =
    (pfS3Law5_1 ps fs cs ts d u s day w g e e2 bad ps2 fs2 cs2 ts2 d2 u2 kp v1 v2 f kc f2 (.need ((f == 0) = false) (.need ((f2 == 0) = true) (.need (asks (CS Q21) 44 [.rsl 5 cs false, strA s] (intA (Int.ofNat k))) (.need (cs[k]? = (some (AV.agg [strA a, strA b, strA c, intA n, .rsl 1 us false]))) (.need (asks (CS Q21) 47 [lbE ps fs cs ts d u, .agg [strA a, strA b, strA c, intA n, .rsl 1 us false]] (boolA g1)) (.need (asks (CS Q21) 48 [lbE ps fs cs ts d u, intA (Int.ofNat k)] (AV.agg [.rsl 7 ps2 false, .rsl 3 fs2 false, .rsl 5 cs2 false, .rsl 3 ts2 false, intA d2, intA u2])) (.need (asks (CS Q21) 39 [lbE ps fs cs ts d u] (lbE ps fs cs ts d u)) (.need (asks (CS Q21) 49 [lbE ps fs cs ts d u] (intA bad)) (.need ((bad == bad) = true) (.need ((w.toList == (ByteArray.mk #[]).toList) = true) (.need ((e == f) = true) (.need ((g == g1) = true) (.need ((e2 == f2) = true) (.need (asks (CS Q21) 51 [.agg [.rsl 7 ps2 false, .rsl 3 fs2 false, .rsl 5 cs2 false, .rsl 3 ts2 false, intA d2, intA u2]] (AV.agg [.rsl 7 ps2 false, .rsl 3 fs2 false, .rsl 5 cs2 false, .rsl 3 ts2 false, intA d2, intA u2])) (.need (asks (CS Q21) 50 [.agg [.rsl 7 ps2 false, .rsl 3 fs2 false, .rsl 5 cs2 false, .rsl 3 ts2 false, intA d2, intA u2], .agg [.rsl 7 ps2 false, .rsl 3 fs2 false, .rsl 5 cs2 false, .rsl 3 ts2 false, intA d2, intA u2]] (boolA true)) (.need (true = true) (.need ((e2 == f2) = true) (.need (asks (CS Q21) 14 [] (boolA true)) (.done (some (boolA true)))))))))))))))))))))) := by kernel_rfl
theorem t5nn (ps fs cs ts : List AV) (d u : Int) (s : ByteArray) (day : Int) (w : ByteArray) (g : Bool) (e e2 bad : Int) (ps2 fs2 cs2 ts2 : List AV) (d2 u2 : Int) (kp v1 v2 f kc f2 : Int) : evTreeD (CS Q21) 60 5 [lbE ps fs cs ts d u, strA s, intA day] [.sp [lbE ps fs cs ts d u] (boolA true), .as 23 false, .as 27 false, .sp [lbE ps fs cs ts d u] (lbE ps fs cs ts d u), .sp [lbE ps fs cs ts d u, strA s, intA day] (.tup [strA w, intA e]), .sp [lbE ps fs cs ts d u] (lbE ps fs cs ts d u), .sp [lbE ps fs cs ts d u, strA s] (.tup [boolA g, intA e2]), .sp [lbE ps fs cs ts d u] (lbE ps fs cs ts d u), .sp [lbE ps fs cs ts d u, strA s] (.tup [lbE ps2 fs2 cs2 ts2 d2 u2, intA e2]), .sp [lbE ps fs cs ts d u] (intA bad), .as 56 true, .sp [.rsl 7 ps false, strA s] (intA kp), .sp [intA kp] (intA v1), .sp [intA day] (intA v2), .sp [.rsl 1 [intA v1, intA v2] true] (intA f), .sp [.rsl 5 cs false, strA s] (intA kc), .sp [intA kc] (intA f2), .as 72 false, .as 81 false, .sp [lbE ps fs cs ts d u] (lbE ps fs cs ts d u), .sp [lbE ps fs cs ts d u] (intA bad), .as 101 true, .as 106 true, .as 111 true, .as 116 true, .as 121 true, .sp [lbE ps2 fs2 cs2 ts2 d2 u2] (lbE ps2 fs2 cs2 ts2 d2 u2), .sp [lbE ps2 fs2 cs2 ts2 d2 u2, .agg [.v (.slice none 0 0), .v (.slice none 0 0), .v (.slice none 0 0), .v (.slice none 0 0), intA 0, intA 0]] (boolA true), .as 127 true, .as 132 true, .sp [] (boolA true)] =
    (pfS3Law5_1 ps fs cs ts d u s day w g e e2 bad ps2 fs2 cs2 ts2 d2 u2 kp v1 v2 f kc f2 (.need ((f == 0) = false) (.need ((f2 == 0) = false) (.need (asks (CS Q21) 39 [lbE ps fs cs ts d u] (lbE ps fs cs ts d u)) (.need (asks (CS Q21) 49 [lbE ps fs cs ts d u] (intA bad)) (.need ((bad == bad) = true) (.need ((w.toList == (ByteArray.mk #[]).toList) = true) (.need ((e == f) = true) (.need ((g == false) = true) (.need ((e2 == f2) = true) (.need (asks (CS Q21) 51 [.agg [.rsl 7 ps2 false, .rsl 3 fs2 false, .rsl 5 cs2 false, .rsl 3 ts2 false, intA d2, intA u2]] (AV.agg [.rsl 7 ps2 false, .rsl 3 fs2 false, .rsl 5 cs2 false, .rsl 3 ts2 false, intA d2, intA u2])) (.need (asks (CS Q21) 50 [.agg [.rsl 7 ps2 false, .rsl 3 fs2 false, .rsl 5 cs2 false, .rsl 3 ts2 false, intA d2, intA u2], .agg [.v (.slice none 0 0), .v (.slice none 0 0), .v (.slice none 0 0), .v (.slice none 0 0), intA 0, intA 0]] (boolA true)) (.need (true = true) (.need ((e2 == f2) = true) (.need (asks (CS Q21) 14 [] (boolA true)) (.done (some (boolA true)))))))))))))))))) := by kernel_rfl
theorem okLb_short {x : Lb} (h : shortL x = true) : okLb x = true := by
  have S := shortL_at h
  unfold okLb
  simp only [Bool.and_eq_true, List.all_eq_true]
  refine ⟨shortP_ok S.ps, Nat.ble_eq_true_of_le (by have := S.fs; unfold lim; omega), Nat.ble_eq_true_of_le (by have := S.cs; unfold lim; omega), Nat.ble_eq_true_of_le (by have := S.ts; unfold lim; omega), fun c hc => Nat.ble_eq_true_of_le ?_, fun c hc => Nat.ble_eq_true_of_le ?_⟩
  · have := longC_at (S.co c hc); unfold lim; omega
  · have := longT_at (S.te c hc); unfold lim; omega
theorem spWo48 {x : Lb} {k : Nat} (h : okLb x = true) (hk : k < x.2.2.1.length) : wo48G [lbA x, intA (Int.ofNat k)] = some (lbA (woM x k)) := by
  have := sp2_at (A := labC) (B := intC) (F := fun x i => bif okLb x && (decide (0 ≤ i) && decide (i.toNat < x.2.2.1.length)) then some (lbA (woM x i.toNat)) else none) x (Int.ofNat k)
  rw [h, show decide ((0 : Int) ≤ Int.ofNat k) = true from decide_eq_true (by simp), show (Int.ofNat k).toNat = k from rfl, decide_eq_true hk] at this
  exact this
theorem spSame {x : Lb} (h : okLb x = true) : same50G [lbA x, lbA x] = some (boolA true) := by
  have := sp2_at (A := labC) (B := labC) (F := fun a b => bif eqC a b && okLb a then some (boolA true) else none) x x
  rw [eqC_self, h] at this; exact this
theorem spSame0 : same50G [lbA lb0, .agg [.v (.slice none 0 0), .v (.slice none 0 0), .v (.slice none 0 0), .v (.slice none 0 0), intA 0, intA 0]] = some (boolA true) := by
  have h : same50G [lbA lb0, .agg [.v (.slice none 0 0), .v (.slice none 0 0), .v (.slice none 0 0), .v (.slice none 0 0), intA 0, intA 0]] = (bif eqC lb0 lb0 && okLb lb0 then some (boolA true) else none) := rfl
  rw [h, eqC_self]; rfl
theorem okWo {x : Lb} (k : Nat) (h : okLb x = true) : okLb (woM x k) = true := by
  have K := okLb_at h
  unfold okLb woM
  simp only [Bool.and_eq_true, List.all_eq_true]
  refine ⟨K.ps, Nat.ble_eq_true_of_le K.fs, Nat.ble_eq_true_of_le ?_, Nat.ble_eq_true_of_le K.ts, fun c hc => ?_, K.ws⟩
  · have := K.cs
    rw [List.length_append, List.length_take, List.length_drop]
    omega
  · rcases List.mem_append.1 hc with hc | hc
    · exact K.vs c (List.mem_of_mem_take hc)
    · exact K.vs c (List.mem_of_mem_drop hc)
theorem law5_ok : Holds 5 (sp3 labC strC intC fun _ _ _ => some (gB true)) := holds3 fun x s day r hr => by
  simp only [Option.some.injEq] at hr; subst hr
  have f37 : shortLG [lbA x] = some (boolA (shortL x)) := sp1_at (A := labC) (F := fun x => some (boolA (shortL x))) x
  cases hs : shortL x with
  | false =>
    rw [hs] at f37
    exact Q21_ok.tr ((lx x t5l) s day true) ⟨⟨rfl, f37⟩, rfl, rfl, ⟨rfl, rfl⟩, rfl⟩
  | true =>
    rw [hs] at f37
    cases h40 : decide (Int.ofNat s.size > 40) with
    | true => exact Q21_ok.tr ((lx x t5s) s day true) ⟨⟨rfl, f37⟩, rfl, h40, ⟨rfl, rfl⟩, rfl⟩
    | false =>
      have ok := okLb_short hs
      have K := okLb_at ok
      have f39 := spOwnL ok
      have f38 : spcG [lbA x, strA s, intA day] = some (.tup [strA (spcS x s day), intA (spcE x s day)]) := by
        have := sp3_at (A := labC) (B := strC) (D := intC) (F := fun x s day => bif okLb x then some (.tup [strA (spcS x s day), intA (spcE x s day)]) else none) x s day
        rw [ok] at this; exact this
      have f40 : good40G [lbA x, strA s] = some (.tup [boolA (good40 x s), intA (fcM x s)]) := by
        have := sp2_at (A := labC) (B := strC) (F := fun x s => bif okLb x then some (.tup [boolA (good40 x s), intA (fcM x s)]) else none) x s
        rw [ok] at this; exact this
      have f41 : wo41G [lbA x, strA s] = some (.tup [lbA (wo41 x s), intA (fcM x s)]) := by
        have := sp2_at (A := labC) (B := strC) (F := fun x s => bif okLb x then some (.tup [lbA (wo41 x s), intA (fcM x s)]) else none) x s
        rw [ok] at this; exact this
      have f42 := spLab ok
      have f49 := spLab ok
      have okW : okLb (wo41 x s) = true := by
        unfold wo41
        cases fcM x s != 0 with
        | true => rfl
        | false => exact okWo _ ok
      have f51 := spOwnL okW
      have f50 := spSame okW
      cases hl : labM x != 0 with
      | true =>
        have e1 : spcS x s day = ⟨#[]⟩ := by unfold spcS; rw [hl]; rfl
        have e2 : spcE x s day = labM x := by unfold spcE; rw [hl]; rfl
        have e3 : fcM x s = labM x := by unfold fcM; rw [hl]; rfl
        have e4 : good40 x s = false := by unfold good40; rw [e3, hl]; rfl
        have e5 : wo41 x s = lb0 := by unfold wo41; rw [e3, hl]; rfl
        have bn : (labM x == 0) = false := by simpa using hl
        rw [e5] at f51
        rw [e5] at f41
        exact Q21_ok.tr ((lx x t5bad) s day _ _ _ _ _ [] [] [] [] 0 0) ⟨⟨rfl, f37⟩, rfl, h40, ⟨rfl, f39⟩, ⟨rfl, f38⟩, ⟨rfl, f39⟩, ⟨rfl, f40⟩, ⟨rfl, f39⟩, ⟨rfl, f41⟩, ⟨rfl, f42⟩, bn, bn, bn, ⟨rfl, f39⟩, ⟨rfl, f49⟩, beq_self_eq_true _, by rw [e1]; exact beq_self_eq_true _, by rw [e2]; exact beq_self_eq_true _, by rw [e4]; rfl, by rw [e3]; exact beq_self_eq_true _, ⟨rfl, f51⟩, ⟨rfl, spSame0⟩, rfl, by rw [e3]; exact beq_self_eq_true _, ⟨rfl, rfl⟩, rfl⟩
      | false =>
        have b0 : (labM x == 0) = true := by simpa using hl
        have f24 := spFindP (l := x.1) s K.p63
        have f23a := spUnk (findP x.1 s)
        have f43 := spDay day
        have f21 : first2G [.rsl 1 [intA (whenM (decide (findP x.1 s < 0)) 10), intA (dayM day)] true] = some (intA (spcF x s day)) := by unfold spcF; rw [has_lt]; rfl
        have f44 := spFindC (l := x.2.2.1) s (blt_lim K.cs)
        have f23b := spUnk (findC x.2.2.1 s)
        have hfc : fcM x s = whenM (decide (findC x.2.2.1 s < 0)) 10 := by unfold fcM; rw [hl]; rfl
        have e6 : (fcM x s == whenM (decide (findC x.2.2.1 s < 0)) 10) = true := by rw [hfc]; exact beq_self_eq_true _
        have f45 := spSpec s day ok
        have f46 := spWhen (nilB (specM x.2.1 s day)) 7
        have hS1 : spcF x s day = 0 → ((spcS x s day).toList == (specM x.2.1 s day).toList) = true := fun h0 => by
          unfold spcS
          rw [hl, cond_false, show (spcF x s day != 0) = false by simp [h0], cond_false]
          cases hn : nilB (specM x.2.1 s day) with
          | false => exact beq_self_eq_true _
          | true => unfold nilB at hn; rw [cond_true, eq_of_beq hn]; exact beq_self_eq_true _
        have hE1 : spcF x s day = 0 → (spcE x s day == whenM (nilB (specM x.2.1 s day)) 7) = true := fun h0 => by
          unfold spcE
          rw [hl, cond_false, show (spcF x s day != 0) = false by simp [h0], cond_false]; exact beq_self_eq_true _
        have hS2 : (spcF x s day == 0) = false → ((spcS x s day).toList == (ByteArray.mk #[]).toList) = true := fun h0 => by
          unfold spcS
          rw [hl, cond_false, show (spcF x s day != 0) = true by simpa using h0, cond_true]; exact beq_self_eq_true _
        have hE2 : (spcF x s day == 0) = false → (spcE x s day == spcF x s day) = true := fun h0 => by
          unfold spcE
          rw [hl, cond_false, show (spcF x s day != 0) = true by simpa using h0]; exact beq_self_eq_true _
        cases h2 : whenM (decide (findC x.2.2.1 s < 0)) 10 == 0 with
        | true =>
          have h0 : fcM x s = 0 := by rw [hfc]; exact eq_of_beq h2
          obtain ⟨hlz, hf⟩ := fcM_zero h0
          obtain ⟨hk, hfi, _⟩ := findC_ge hf
          have G := labM_zero hlz
          have hg := cbAt_get hk
          obtain ⟨g1, g2, _⟩ := calM_zero (G.cs _ _ hg)
          obtain ⟨_, _, g3, _, _⟩ := calE_zero g1
          have f47 := spGood ok G.ps g3 g2
          have e7 : wo41 x s = woM x (cIx x s) := by unfold wo41; rw [h0]; rfl
          have e8 : (good40 x s == goodM x.1 (cbAt x (cIx x s))) = true := by unfold good40; rw [h0]; exact beq_self_eq_true _
          have f48 := spWo48 ok hk
          rw [← e7] at f48
          have f44b : findCG [slA cbC 5 x.2.2.1, strA s] = some (intA (Int.ofNat (cIx x s))) := by rw [← hfi]; exact f44
          cases h1 : spcF x s day == 0 with
          | true => exact Q21_ok.tr ((lx x t5yy) s day _ _ _ _ _ ((wo41 x s).1.map ptC.enc) ((wo41 x s).2.1.map ftC.enc) ((wo41 x s).2.2.1.map cbC.enc) ((wo41 x s).2.2.2.1.map tsC.enc) (wo41 x s).2.2.2.2.1 (wo41 x s).2.2.2.2.2 _ _ _ _ _ _ _ _ _ (cIx x s) _ (cbAt x (cIx x s)).1 (cbAt x (cIx x s)).2.1 (cbAt x (cIx x s)).2.2.1 (cbAt x (cIx x s)).2.2.2.1 ((cbAt x (cIx x s)).2.2.2.2.map intC.enc)) ⟨⟨rfl, f37⟩, rfl, h40, ⟨rfl, f39⟩, ⟨rfl, f38⟩, ⟨rfl, f39⟩, ⟨rfl, f40⟩, ⟨rfl, f39⟩, ⟨rfl, f41⟩, ⟨rfl, f42⟩, b0, ⟨rfl, f24⟩, ⟨rfl, f23a⟩, ⟨rfl, f43⟩, ⟨rfl, f21⟩, ⟨rfl, f44⟩, ⟨rfl, f23b⟩, h1, ⟨rfl, f45⟩, ⟨rfl, f46⟩, h2, ⟨rfl, f44b⟩, get_map cbC.enc hg, ⟨rfl, f47⟩, ⟨rfl, f48⟩, ⟨rfl, f39⟩, ⟨rfl, f49⟩, beq_self_eq_true _, hS1 (eq_of_beq h1), hE1 (eq_of_beq h1), e8, e6, ⟨rfl, f51⟩, ⟨rfl, f50⟩, rfl, e6, ⟨rfl, rfl⟩, rfl⟩
          | false => exact Q21_ok.tr ((lx x t5ny) s day _ _ _ _ _ ((wo41 x s).1.map ptC.enc) ((wo41 x s).2.1.map ftC.enc) ((wo41 x s).2.2.1.map cbC.enc) ((wo41 x s).2.2.2.1.map tsC.enc) (wo41 x s).2.2.2.2.1 (wo41 x s).2.2.2.2.2 _ _ _ _ _ _ (cIx x s) _ (cbAt x (cIx x s)).1 (cbAt x (cIx x s)).2.1 (cbAt x (cIx x s)).2.2.1 (cbAt x (cIx x s)).2.2.2.1 ((cbAt x (cIx x s)).2.2.2.2.map intC.enc)) ⟨⟨rfl, f37⟩, rfl, h40, ⟨rfl, f39⟩, ⟨rfl, f38⟩, ⟨rfl, f39⟩, ⟨rfl, f40⟩, ⟨rfl, f39⟩, ⟨rfl, f41⟩, ⟨rfl, f42⟩, b0, ⟨rfl, f24⟩, ⟨rfl, f23a⟩, ⟨rfl, f43⟩, ⟨rfl, f21⟩, ⟨rfl, f44⟩, ⟨rfl, f23b⟩, h1, h2, ⟨rfl, f44b⟩, get_map cbC.enc hg, ⟨rfl, f47⟩, ⟨rfl, f48⟩, ⟨rfl, f39⟩, ⟨rfl, f49⟩, beq_self_eq_true _, hS2 h1, hE2 h1, e8, e6, ⟨rfl, f51⟩, ⟨rfl, f50⟩, rfl, e6, ⟨rfl, rfl⟩, rfl⟩
        | false =>
          have hne : (fcM x s != 0) = true := by rw [hfc]; simpa using h2
          have e7 : wo41 x s = lb0 := by unfold wo41; rw [hne]; rfl
          have e8 : (good40 x s == false) = true := by unfold good40; rw [hne]; rfl
          rw [e7] at f41 f51
          cases h1 : spcF x s day == 0 with
          | true => exact Q21_ok.tr ((lx x t5yn) s day _ _ _ _ _ [] [] [] [] 0 0 _ _ _ _ _ _ _ _ _) ⟨⟨rfl, f37⟩, rfl, h40, ⟨rfl, f39⟩, ⟨rfl, f38⟩, ⟨rfl, f39⟩, ⟨rfl, f40⟩, ⟨rfl, f39⟩, ⟨rfl, f41⟩, ⟨rfl, f42⟩, b0, ⟨rfl, f24⟩, ⟨rfl, f23a⟩, ⟨rfl, f43⟩, ⟨rfl, f21⟩, ⟨rfl, f44⟩, ⟨rfl, f23b⟩, h1, ⟨rfl, f45⟩, ⟨rfl, f46⟩, h2, ⟨rfl, f39⟩, ⟨rfl, f49⟩, beq_self_eq_true _, hS1 (eq_of_beq h1), hE1 (eq_of_beq h1), e8, e6, ⟨rfl, f51⟩, ⟨rfl, spSame0⟩, rfl, e6, ⟨rfl, rfl⟩, rfl⟩
          | false => exact Q21_ok.tr ((lx x t5nn) s day _ _ _ _ _ [] [] [] [] 0 0 _ _ _ _ _ _) ⟨⟨rfl, f37⟩, rfl, h40, ⟨rfl, f39⟩, ⟨rfl, f38⟩, ⟨rfl, f39⟩, ⟨rfl, f40⟩, ⟨rfl, f39⟩, ⟨rfl, f41⟩, ⟨rfl, f42⟩, b0, ⟨rfl, f24⟩, ⟨rfl, f23a⟩, ⟨rfl, f43⟩, ⟨rfl, f21⟩, ⟨rfl, f44⟩, ⟨rfl, f23b⟩, h1, h2, ⟨rfl, f39⟩, ⟨rfl, f49⟩, beq_self_eq_true _, hS2 h1, hE2 h1, e8, e6, ⟨rfl, f51⟩, ⟨rfl, spSame0⟩, rfl, e6, ⟨rfl, rfl⟩, rfl⟩
end Go.Vm.S3
