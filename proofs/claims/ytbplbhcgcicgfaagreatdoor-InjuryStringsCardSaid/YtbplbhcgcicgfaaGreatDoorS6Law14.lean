/- Strings: the law. -/
import Derived.Test.YtbplbhcgcicgfaaGreatDoorS6ZB4
namespace Go.Vm.S6
open Go.Proofs Go.RowKit
set_option maxRecDepth 100000 in
theorem t14s (m : Int) (s : ByteArray) (es : List AV) : evTreeD (CSm m Z6) 60 14 [.rsl 3 es false, strA s] [.sp [] (boolA true), .sp [.rsl 3 es false] (boolA false), .sp [] (boolA true)] =
    (.need (([] : List AV) = ([] : List AV) ∧ (Cx.spec (CSm m Z6) 16 ([] : List AV)) = (some (AV.v (.bool true)))) (.need (([.rsl 3 es false] : List AV) = ([.rsl 3 es false] : List AV) ∧ (Cx.spec (CSm m Z6) 62 ([.rsl 3 es false] : List AV)) = (some (AV.v (.bool false)))) (.need (([] : List AV) = ([] : List AV) ∧ (Cx.spec (CSm m Z6) 16 ([] : List AV)) = (some (AV.v (.bool true)))) (.done (some (boolA true)))))) := by kernel_rfl
set_option maxRecDepth 100000 in
theorem t14l (m : Int) (s : ByteArray) (es : List AV) : evTreeD (CSm m Z6) 60 14 [.rsl 3 es false, strA s] [.sp [] (boolA true), .sp [.rsl 3 es false] (boolA true), .as 26 true, .as 31 true, .sp [] (boolA true)] =
    (.need (([] : List AV) = ([] : List AV) ∧ (Cx.spec (CSm m Z6) 16 ([] : List AV)) = (some (AV.v (.bool true)))) (.need (([.rsl 3 es false] : List AV) = ([.rsl 3 es false] : List AV) ∧ (Cx.spec (CSm m Z6) 62 ([.rsl 3 es false] : List AV)) = (some (AV.v (.bool true)))) (.need ((decide (Int.ofNat s.size > 400)) = true) (.need ((Int.ofNat s.size != 4097) = true) (.need (([] : List AV) = ([] : List AV) ∧ (Cx.spec (CSm m Z6) 16 ([] : List AV)) = (some (AV.v (.bool true)))) (.done (some (boolA true)))))))) := by kernel_rfl
set_option maxRecDepth 100000 in
theorem t14ank (m : Int) (s : ByteArray) (es : List AV) (e n e2 : Int) : evTreeD (CSm m Z6) 60 14 [.rsl 3 es false, strA s] [.sp [] (boolA true), .sp [.rsl 3 es false] (boolA true), .as 26 false, .sp [.rsl 3 es false] (.rsl 3 es false), .sp [.rsl 3 es false] (.tup [strA ⟨#[]⟩, intA e]), .sp [strA s] (.tup [nilS, intA n, intA e2]), .sp [.rsl 3 es false] (intA e), .as 48 false, .sp [strA s] (.tup [nilS, intA n, intA e2]), .as 60 true, .as 65 true, .sp [nilS] (.rsl 3 [] false), .sp [.rsl 3 [] false, nilS] (boolA true), .as 71 true, .as 76 true] =
    (.need (([] : List AV) = ([] : List AV) ∧ (Cx.spec (CSm m Z6) 16 ([] : List AV)) = (some (AV.v (.bool true)))) (.need (([.rsl 3 es false] : List AV) = ([.rsl 3 es false] : List AV) ∧ (Cx.spec (CSm m Z6) 62 ([.rsl 3 es false] : List AV)) = (some (AV.v (.bool true)))) (.need ((decide (Int.ofNat s.size > 400)) = false) (.need (([.rsl 3 es false] : List AV) = ([.rsl 3 es false] : List AV) ∧ (Cx.spec (CSm m Z6) 65 ([.rsl 3 es false] : List AV)) = (some (AV.rsl 3 es false))) (.need (([.rsl 3 es false] : List AV) = ([.rsl 3 es false] : List AV) ∧ (Cx.spec (CSm m Z6) 84 ([.rsl 3 es false] : List AV)) = (some (AV.tup [.v (.string (ByteArray.mk #[])), intA e]))) (.need (([.v (.string s)] : List AV) = ([.v (.string s)] : List AV) ∧ (Cx.spec (CSm m Z6) 85 ([.v (.string s)] : List AV)) = (some (AV.tup [.v (.slice none 0 0), intA n, intA e2]))) (.need (([.rsl 3 es false] : List AV) = ([.rsl 3 es false] : List AV) ∧ (Cx.spec (CSm m Z6) 68 ([.rsl 3 es false] : List AV)) = (some (AV.v (.int .i64 e)))) (.need ((e == 0) = false) (.need (([.v (.string s)] : List AV) = ([.v (.string s)] : List AV) ∧ (Cx.spec (CSm m Z6) 87 ([.v (.string s)] : List AV)) = (some (AV.tup [.v (.slice none 0 0), intA n, intA e2]))) (.need (true = true) (.need ((e == e) = true) (.need (([.v (.slice none 0 0)] : List AV) = ([.v (.slice none 0 0)] : List AV) ∧ (Cx.spec (CSm m Z6) 89 ([.v (.slice none 0 0)] : List AV)) = (some (AV.rsl 3 [] false))) (.need (([.rsl 3 [] false, .v (.slice none 0 0)] : List AV) = ([.rsl 3 [] false, .v (.slice none 0 0)] : List AV) ∧ (Cx.spec (CSm m Z6) 88 ([.rsl 3 [] false, .v (.slice none 0 0)] : List AV)) = (some (AV.v (.bool true)))) (.need (true = true) (.need ((n == n) = true) (.done (some (boolA (e2 == e2))))))))))))))))))) := by kernel_rfl
set_option maxRecDepth 100000 in
theorem t14anz (m : Int) (s : ByteArray) (es : List AV) (t : ByteArray) (n e2 : Int) : evTreeD (CSm m Z6) 60 14 [.rsl 3 es false, strA s] [.sp [] (boolA true), .sp [.rsl 3 es false] (boolA true), .as 26 false, .sp [.rsl 3 es false] (.rsl 3 es false), .sp [.rsl 3 es false] (.tup [strA t, intA 0]), .sp [strA s] (.tup [nilS, intA n, intA e2]), .sp [.rsl 3 es false] (intA 0), .as 48 true, .sp [.rsl 3 es false] (strA t), .sp [strA s] (.tup [nilS, intA n, intA e2]), .as 60 true, .as 65 true, .sp [nilS] (.rsl 3 [] false), .sp [.rsl 3 [] false, nilS] (boolA true), .as 71 true, .as 76 true] =
    (.need (([] : List AV) = ([] : List AV) ∧ (Cx.spec (CSm m Z6) 16 ([] : List AV)) = (some (AV.v (.bool true)))) (.need (([.rsl 3 es false] : List AV) = ([.rsl 3 es false] : List AV) ∧ (Cx.spec (CSm m Z6) 62 ([.rsl 3 es false] : List AV)) = (some (AV.v (.bool true)))) (.need ((decide (Int.ofNat s.size > 400)) = false) (.need (([.rsl 3 es false] : List AV) = ([.rsl 3 es false] : List AV) ∧ (Cx.spec (CSm m Z6) 65 ([.rsl 3 es false] : List AV)) = (some (AV.rsl 3 es false))) (.need (([.rsl 3 es false] : List AV) = ([.rsl 3 es false] : List AV) ∧ (Cx.spec (CSm m Z6) 84 ([.rsl 3 es false] : List AV)) = (some (AV.tup [.v (.string t), intA 0]))) (.need (([.v (.string s)] : List AV) = ([.v (.string s)] : List AV) ∧ (Cx.spec (CSm m Z6) 85 ([.v (.string s)] : List AV)) = (some (AV.tup [.v (.slice none 0 0), intA n, intA e2]))) (.need (([.rsl 3 es false] : List AV) = ([.rsl 3 es false] : List AV) ∧ (Cx.spec (CSm m Z6) 68 ([.rsl 3 es false] : List AV)) = (some (AV.v (.int .i64 0)))) (.need (true = true) (.need (([.rsl 3 es false] : List AV) = ([.rsl 3 es false] : List AV) ∧ (Cx.spec (CSm m Z6) 86 ([.rsl 3 es false] : List AV)) = (some (AV.v (.string t)))) (.need (([.v (.string s)] : List AV) = ([.v (.string s)] : List AV) ∧ (Cx.spec (CSm m Z6) 87 ([.v (.string s)] : List AV)) = (some (AV.tup [.v (.slice none 0 0), intA n, intA e2]))) (.need ((t.toList == t.toList) = true) (.need (true = true) (.need (([.v (.slice none 0 0)] : List AV) = ([.v (.slice none 0 0)] : List AV) ∧ (Cx.spec (CSm m Z6) 89 ([.v (.slice none 0 0)] : List AV)) = (some (AV.rsl 3 [] false))) (.need (([.rsl 3 [] false, .v (.slice none 0 0)] : List AV) = ([.rsl 3 [] false, .v (.slice none 0 0)] : List AV) ∧ (Cx.spec (CSm m Z6) 88 ([.rsl 3 [] false, .v (.slice none 0 0)] : List AV)) = (some (AV.v (.bool true)))) (.need (true = true) (.need ((n == n) = true) (.done (some (boolA (e2 == e2)))))))))))))))))))) := by kernel_rfl
set_option maxRecDepth 100000 in
theorem t14aok (m : Int) (s : ByteArray) (es : List AV) (rs : List AV) (e n e2 : Int) : evTreeD (CSm m Z6) 60 14 [.rsl 3 es false, strA s] [.sp [] (boolA true), .sp [.rsl 3 es false] (boolA true), .as 26 false, .sp [.rsl 3 es false] (.rsl 3 es false), .sp [.rsl 3 es false] (.tup [strA ⟨#[]⟩, intA e]), .sp [strA s] (.tup [.rsl 3 rs false, intA n, intA e2]), .sp [.rsl 3 es false] (intA e), .as 48 false, .sp [strA s] (.tup [.rsl 3 rs false, intA n, intA e2]), .as 60 true, .as 65 true, .sp [.rsl 3 rs false] (.rsl 3 rs false), .sp [.rsl 3 rs false, .rsl 3 rs false] (boolA true), .as 71 true, .as 76 true] =
    (.need (([] : List AV) = ([] : List AV) ∧ (Cx.spec (CSm m Z6) 16 ([] : List AV)) = (some (AV.v (.bool true)))) (.need (([.rsl 3 es false] : List AV) = ([.rsl 3 es false] : List AV) ∧ (Cx.spec (CSm m Z6) 62 ([.rsl 3 es false] : List AV)) = (some (AV.v (.bool true)))) (.need ((decide (Int.ofNat s.size > 400)) = false) (.need (([.rsl 3 es false] : List AV) = ([.rsl 3 es false] : List AV) ∧ (Cx.spec (CSm m Z6) 65 ([.rsl 3 es false] : List AV)) = (some (AV.rsl 3 es false))) (.need (([.rsl 3 es false] : List AV) = ([.rsl 3 es false] : List AV) ∧ (Cx.spec (CSm m Z6) 84 ([.rsl 3 es false] : List AV)) = (some (AV.tup [.v (.string (ByteArray.mk #[])), intA e]))) (.need (([.v (.string s)] : List AV) = ([.v (.string s)] : List AV) ∧ (Cx.spec (CSm m Z6) 85 ([.v (.string s)] : List AV)) = (some (AV.tup [.rsl 3 rs false, intA n, intA e2]))) (.need (([.rsl 3 es false] : List AV) = ([.rsl 3 es false] : List AV) ∧ (Cx.spec (CSm m Z6) 68 ([.rsl 3 es false] : List AV)) = (some (AV.v (.int .i64 e)))) (.need ((e == 0) = false) (.need (([.v (.string s)] : List AV) = ([.v (.string s)] : List AV) ∧ (Cx.spec (CSm m Z6) 87 ([.v (.string s)] : List AV)) = (some (AV.tup [.rsl 3 rs false, intA n, intA e2]))) (.need (true = true) (.need ((e == e) = true) (.need (([.rsl 3 rs false] : List AV) = ([.rsl 3 rs false] : List AV) ∧ (Cx.spec (CSm m Z6) 89 ([.rsl 3 rs false] : List AV)) = (some (AV.rsl 3 rs false))) (.need (([.rsl 3 rs false, .rsl 3 rs false] : List AV) = ([.rsl 3 rs false, .rsl 3 rs false] : List AV) ∧ (Cx.spec (CSm m Z6) 88 ([.rsl 3 rs false, .rsl 3 rs false] : List AV)) = (some (AV.v (.bool true)))) (.need (true = true) (.need ((n == n) = true) (.done (some (boolA (e2 == e2))))))))))))))))))) := by kernel_rfl
set_option maxRecDepth 100000 in
theorem t14aoz (m : Int) (s : ByteArray) (es : List AV) (rs : List AV) (t : ByteArray) (n e2 : Int) : evTreeD (CSm m Z6) 60 14 [.rsl 3 es false, strA s] [.sp [] (boolA true), .sp [.rsl 3 es false] (boolA true), .as 26 false, .sp [.rsl 3 es false] (.rsl 3 es false), .sp [.rsl 3 es false] (.tup [strA t, intA 0]), .sp [strA s] (.tup [.rsl 3 rs false, intA n, intA e2]), .sp [.rsl 3 es false] (intA 0), .as 48 true, .sp [.rsl 3 es false] (strA t), .sp [strA s] (.tup [.rsl 3 rs false, intA n, intA e2]), .as 60 true, .as 65 true, .sp [.rsl 3 rs false] (.rsl 3 rs false), .sp [.rsl 3 rs false, .rsl 3 rs false] (boolA true), .as 71 true, .as 76 true] =
    (.need (([] : List AV) = ([] : List AV) ∧ (Cx.spec (CSm m Z6) 16 ([] : List AV)) = (some (AV.v (.bool true)))) (.need (([.rsl 3 es false] : List AV) = ([.rsl 3 es false] : List AV) ∧ (Cx.spec (CSm m Z6) 62 ([.rsl 3 es false] : List AV)) = (some (AV.v (.bool true)))) (.need ((decide (Int.ofNat s.size > 400)) = false) (.need (([.rsl 3 es false] : List AV) = ([.rsl 3 es false] : List AV) ∧ (Cx.spec (CSm m Z6) 65 ([.rsl 3 es false] : List AV)) = (some (AV.rsl 3 es false))) (.need (([.rsl 3 es false] : List AV) = ([.rsl 3 es false] : List AV) ∧ (Cx.spec (CSm m Z6) 84 ([.rsl 3 es false] : List AV)) = (some (AV.tup [.v (.string t), intA 0]))) (.need (([.v (.string s)] : List AV) = ([.v (.string s)] : List AV) ∧ (Cx.spec (CSm m Z6) 85 ([.v (.string s)] : List AV)) = (some (AV.tup [.rsl 3 rs false, intA n, intA e2]))) (.need (([.rsl 3 es false] : List AV) = ([.rsl 3 es false] : List AV) ∧ (Cx.spec (CSm m Z6) 68 ([.rsl 3 es false] : List AV)) = (some (AV.v (.int .i64 0)))) (.need (true = true) (.need (([.rsl 3 es false] : List AV) = ([.rsl 3 es false] : List AV) ∧ (Cx.spec (CSm m Z6) 86 ([.rsl 3 es false] : List AV)) = (some (AV.v (.string t)))) (.need (([.v (.string s)] : List AV) = ([.v (.string s)] : List AV) ∧ (Cx.spec (CSm m Z6) 87 ([.v (.string s)] : List AV)) = (some (AV.tup [.rsl 3 rs false, intA n, intA e2]))) (.need ((t.toList == t.toList) = true) (.need (true = true) (.need (([.rsl 3 rs false] : List AV) = ([.rsl 3 rs false] : List AV) ∧ (Cx.spec (CSm m Z6) 89 ([.rsl 3 rs false] : List AV)) = (some (AV.rsl 3 rs false))) (.need (([.rsl 3 rs false, .rsl 3 rs false] : List AV) = ([.rsl 3 rs false, .rsl 3 rs false] : List AV) ∧ (Cx.spec (CSm m Z6) 88 ([.rsl 3 rs false, .rsl 3 rs false] : List AV)) = (some (AV.v (.bool true)))) (.need (true = true) (.need ((n == n) = true) (.done (some (boolA (e2 == e2)))))))))))))))))))) := by kernel_rfl
set_option maxRecDepth 100000 in
theorem t14bnk (m : Int) (s : ByteArray) (es : List AV) (e n e2 : Int) : evTreeD (CSm m Z6) 60 14 [.rsl 3 es false, strA s] [.sp [] (boolA true), .sp [.rsl 3 es false] (boolA true), .as 26 true, .as 31 false, .sp [.rsl 3 es false] (.rsl 3 es false), .sp [.rsl 3 es false] (.tup [strA ⟨#[]⟩, intA e]), .sp [strA s] (.tup [nilS, intA n, intA e2]), .sp [.rsl 3 es false] (intA e), .as 48 false, .sp [strA s] (.tup [nilS, intA n, intA e2]), .as 60 true, .as 65 true, .sp [nilS] (.rsl 3 [] false), .sp [.rsl 3 [] false, nilS] (boolA true), .as 71 true, .as 76 true] =
    (.need (([] : List AV) = ([] : List AV) ∧ (Cx.spec (CSm m Z6) 16 ([] : List AV)) = (some (AV.v (.bool true)))) (.need (([.rsl 3 es false] : List AV) = ([.rsl 3 es false] : List AV) ∧ (Cx.spec (CSm m Z6) 62 ([.rsl 3 es false] : List AV)) = (some (AV.v (.bool true)))) (.need ((decide (Int.ofNat s.size > 400)) = true) (.need ((Int.ofNat s.size != 4097) = false) (.need (([.rsl 3 es false] : List AV) = ([.rsl 3 es false] : List AV) ∧ (Cx.spec (CSm m Z6) 65 ([.rsl 3 es false] : List AV)) = (some (AV.rsl 3 es false))) (.need (([.rsl 3 es false] : List AV) = ([.rsl 3 es false] : List AV) ∧ (Cx.spec (CSm m Z6) 84 ([.rsl 3 es false] : List AV)) = (some (AV.tup [.v (.string (ByteArray.mk #[])), intA e]))) (.need (([.v (.string s)] : List AV) = ([.v (.string s)] : List AV) ∧ (Cx.spec (CSm m Z6) 85 ([.v (.string s)] : List AV)) = (some (AV.tup [.v (.slice none 0 0), intA n, intA e2]))) (.need (([.rsl 3 es false] : List AV) = ([.rsl 3 es false] : List AV) ∧ (Cx.spec (CSm m Z6) 68 ([.rsl 3 es false] : List AV)) = (some (AV.v (.int .i64 e)))) (.need ((e == 0) = false) (.need (([.v (.string s)] : List AV) = ([.v (.string s)] : List AV) ∧ (Cx.spec (CSm m Z6) 87 ([.v (.string s)] : List AV)) = (some (AV.tup [.v (.slice none 0 0), intA n, intA e2]))) (.need (true = true) (.need ((e == e) = true) (.need (([.v (.slice none 0 0)] : List AV) = ([.v (.slice none 0 0)] : List AV) ∧ (Cx.spec (CSm m Z6) 89 ([.v (.slice none 0 0)] : List AV)) = (some (AV.rsl 3 [] false))) (.need (([.rsl 3 [] false, .v (.slice none 0 0)] : List AV) = ([.rsl 3 [] false, .v (.slice none 0 0)] : List AV) ∧ (Cx.spec (CSm m Z6) 88 ([.rsl 3 [] false, .v (.slice none 0 0)] : List AV)) = (some (AV.v (.bool true)))) (.need (true = true) (.need ((n == n) = true) (.done (some (boolA (e2 == e2)))))))))))))))))))) := by kernel_rfl
set_option maxRecDepth 100000 in
theorem t14bnz (m : Int) (s : ByteArray) (es : List AV) (t : ByteArray) (n e2 : Int) : evTreeD (CSm m Z6) 60 14 [.rsl 3 es false, strA s] [.sp [] (boolA true), .sp [.rsl 3 es false] (boolA true), .as 26 true, .as 31 false, .sp [.rsl 3 es false] (.rsl 3 es false), .sp [.rsl 3 es false] (.tup [strA t, intA 0]), .sp [strA s] (.tup [nilS, intA n, intA e2]), .sp [.rsl 3 es false] (intA 0), .as 48 true, .sp [.rsl 3 es false] (strA t), .sp [strA s] (.tup [nilS, intA n, intA e2]), .as 60 true, .as 65 true, .sp [nilS] (.rsl 3 [] false), .sp [.rsl 3 [] false, nilS] (boolA true), .as 71 true, .as 76 true] =
    (.need (([] : List AV) = ([] : List AV) ∧ (Cx.spec (CSm m Z6) 16 ([] : List AV)) = (some (AV.v (.bool true)))) (.need (([.rsl 3 es false] : List AV) = ([.rsl 3 es false] : List AV) ∧ (Cx.spec (CSm m Z6) 62 ([.rsl 3 es false] : List AV)) = (some (AV.v (.bool true)))) (.need ((decide (Int.ofNat s.size > 400)) = true) (.need ((Int.ofNat s.size != 4097) = false) (.need (([.rsl 3 es false] : List AV) = ([.rsl 3 es false] : List AV) ∧ (Cx.spec (CSm m Z6) 65 ([.rsl 3 es false] : List AV)) = (some (AV.rsl 3 es false))) (.need (([.rsl 3 es false] : List AV) = ([.rsl 3 es false] : List AV) ∧ (Cx.spec (CSm m Z6) 84 ([.rsl 3 es false] : List AV)) = (some (AV.tup [.v (.string t), intA 0]))) (.need (([.v (.string s)] : List AV) = ([.v (.string s)] : List AV) ∧ (Cx.spec (CSm m Z6) 85 ([.v (.string s)] : List AV)) = (some (AV.tup [.v (.slice none 0 0), intA n, intA e2]))) (.need (([.rsl 3 es false] : List AV) = ([.rsl 3 es false] : List AV) ∧ (Cx.spec (CSm m Z6) 68 ([.rsl 3 es false] : List AV)) = (some (AV.v (.int .i64 0)))) (.need (true = true) (.need (([.rsl 3 es false] : List AV) = ([.rsl 3 es false] : List AV) ∧ (Cx.spec (CSm m Z6) 86 ([.rsl 3 es false] : List AV)) = (some (AV.v (.string t)))) (.need (([.v (.string s)] : List AV) = ([.v (.string s)] : List AV) ∧ (Cx.spec (CSm m Z6) 87 ([.v (.string s)] : List AV)) = (some (AV.tup [.v (.slice none 0 0), intA n, intA e2]))) (.need ((t.toList == t.toList) = true) (.need (true = true) (.need (([.v (.slice none 0 0)] : List AV) = ([.v (.slice none 0 0)] : List AV) ∧ (Cx.spec (CSm m Z6) 89 ([.v (.slice none 0 0)] : List AV)) = (some (AV.rsl 3 [] false))) (.need (([.rsl 3 [] false, .v (.slice none 0 0)] : List AV) = ([.rsl 3 [] false, .v (.slice none 0 0)] : List AV) ∧ (Cx.spec (CSm m Z6) 88 ([.rsl 3 [] false, .v (.slice none 0 0)] : List AV)) = (some (AV.v (.bool true)))) (.need (true = true) (.need ((n == n) = true) (.done (some (boolA (e2 == e2))))))))))))))))))))) := by kernel_rfl
set_option maxRecDepth 100000 in
theorem t14bok (m : Int) (s : ByteArray) (es : List AV) (rs : List AV) (e n e2 : Int) : evTreeD (CSm m Z6) 60 14 [.rsl 3 es false, strA s] [.sp [] (boolA true), .sp [.rsl 3 es false] (boolA true), .as 26 true, .as 31 false, .sp [.rsl 3 es false] (.rsl 3 es false), .sp [.rsl 3 es false] (.tup [strA ⟨#[]⟩, intA e]), .sp [strA s] (.tup [.rsl 3 rs false, intA n, intA e2]), .sp [.rsl 3 es false] (intA e), .as 48 false, .sp [strA s] (.tup [.rsl 3 rs false, intA n, intA e2]), .as 60 true, .as 65 true, .sp [.rsl 3 rs false] (.rsl 3 rs false), .sp [.rsl 3 rs false, .rsl 3 rs false] (boolA true), .as 71 true, .as 76 true] =
    (.need (([] : List AV) = ([] : List AV) ∧ (Cx.spec (CSm m Z6) 16 ([] : List AV)) = (some (AV.v (.bool true)))) (.need (([.rsl 3 es false] : List AV) = ([.rsl 3 es false] : List AV) ∧ (Cx.spec (CSm m Z6) 62 ([.rsl 3 es false] : List AV)) = (some (AV.v (.bool true)))) (.need ((decide (Int.ofNat s.size > 400)) = true) (.need ((Int.ofNat s.size != 4097) = false) (.need (([.rsl 3 es false] : List AV) = ([.rsl 3 es false] : List AV) ∧ (Cx.spec (CSm m Z6) 65 ([.rsl 3 es false] : List AV)) = (some (AV.rsl 3 es false))) (.need (([.rsl 3 es false] : List AV) = ([.rsl 3 es false] : List AV) ∧ (Cx.spec (CSm m Z6) 84 ([.rsl 3 es false] : List AV)) = (some (AV.tup [.v (.string (ByteArray.mk #[])), intA e]))) (.need (([.v (.string s)] : List AV) = ([.v (.string s)] : List AV) ∧ (Cx.spec (CSm m Z6) 85 ([.v (.string s)] : List AV)) = (some (AV.tup [.rsl 3 rs false, intA n, intA e2]))) (.need (([.rsl 3 es false] : List AV) = ([.rsl 3 es false] : List AV) ∧ (Cx.spec (CSm m Z6) 68 ([.rsl 3 es false] : List AV)) = (some (AV.v (.int .i64 e)))) (.need ((e == 0) = false) (.need (([.v (.string s)] : List AV) = ([.v (.string s)] : List AV) ∧ (Cx.spec (CSm m Z6) 87 ([.v (.string s)] : List AV)) = (some (AV.tup [.rsl 3 rs false, intA n, intA e2]))) (.need (true = true) (.need ((e == e) = true) (.need (([.rsl 3 rs false] : List AV) = ([.rsl 3 rs false] : List AV) ∧ (Cx.spec (CSm m Z6) 89 ([.rsl 3 rs false] : List AV)) = (some (AV.rsl 3 rs false))) (.need (([.rsl 3 rs false, .rsl 3 rs false] : List AV) = ([.rsl 3 rs false, .rsl 3 rs false] : List AV) ∧ (Cx.spec (CSm m Z6) 88 ([.rsl 3 rs false, .rsl 3 rs false] : List AV)) = (some (AV.v (.bool true)))) (.need (true = true) (.need ((n == n) = true) (.done (some (boolA (e2 == e2)))))))))))))))))))) := by kernel_rfl
set_option maxRecDepth 100000 in
theorem t14boz (m : Int) (s : ByteArray) (es : List AV) (rs : List AV) (t : ByteArray) (n e2 : Int) : evTreeD (CSm m Z6) 60 14 [.rsl 3 es false, strA s] [.sp [] (boolA true), .sp [.rsl 3 es false] (boolA true), .as 26 true, .as 31 false, .sp [.rsl 3 es false] (.rsl 3 es false), .sp [.rsl 3 es false] (.tup [strA t, intA 0]), .sp [strA s] (.tup [.rsl 3 rs false, intA n, intA e2]), .sp [.rsl 3 es false] (intA 0), .as 48 true, .sp [.rsl 3 es false] (strA t), .sp [strA s] (.tup [.rsl 3 rs false, intA n, intA e2]), .as 60 true, .as 65 true, .sp [.rsl 3 rs false] (.rsl 3 rs false), .sp [.rsl 3 rs false, .rsl 3 rs false] (boolA true), .as 71 true, .as 76 true] =
    (.need (([] : List AV) = ([] : List AV) ∧ (Cx.spec (CSm m Z6) 16 ([] : List AV)) = (some (AV.v (.bool true)))) (.need (([.rsl 3 es false] : List AV) = ([.rsl 3 es false] : List AV) ∧ (Cx.spec (CSm m Z6) 62 ([.rsl 3 es false] : List AV)) = (some (AV.v (.bool true)))) (.need ((decide (Int.ofNat s.size > 400)) = true) (.need ((Int.ofNat s.size != 4097) = false) (.need (([.rsl 3 es false] : List AV) = ([.rsl 3 es false] : List AV) ∧ (Cx.spec (CSm m Z6) 65 ([.rsl 3 es false] : List AV)) = (some (AV.rsl 3 es false))) (.need (([.rsl 3 es false] : List AV) = ([.rsl 3 es false] : List AV) ∧ (Cx.spec (CSm m Z6) 84 ([.rsl 3 es false] : List AV)) = (some (AV.tup [.v (.string t), intA 0]))) (.need (([.v (.string s)] : List AV) = ([.v (.string s)] : List AV) ∧ (Cx.spec (CSm m Z6) 85 ([.v (.string s)] : List AV)) = (some (AV.tup [.rsl 3 rs false, intA n, intA e2]))) (.need (([.rsl 3 es false] : List AV) = ([.rsl 3 es false] : List AV) ∧ (Cx.spec (CSm m Z6) 68 ([.rsl 3 es false] : List AV)) = (some (AV.v (.int .i64 0)))) (.need (true = true) (.need (([.rsl 3 es false] : List AV) = ([.rsl 3 es false] : List AV) ∧ (Cx.spec (CSm m Z6) 86 ([.rsl 3 es false] : List AV)) = (some (AV.v (.string t)))) (.need (([.v (.string s)] : List AV) = ([.v (.string s)] : List AV) ∧ (Cx.spec (CSm m Z6) 87 ([.v (.string s)] : List AV)) = (some (AV.tup [.rsl 3 rs false, intA n, intA e2]))) (.need ((t.toList == t.toList) = true) (.need (true = true) (.need (([.rsl 3 rs false] : List AV) = ([.rsl 3 rs false] : List AV) ∧ (Cx.spec (CSm m Z6) 89 ([.rsl 3 rs false] : List AV)) = (some (AV.rsl 3 rs false))) (.need (([.rsl 3 rs false, .rsl 3 rs false] : List AV) = ([.rsl 3 rs false, .rsl 3 rs false] : List AV) ∧ (Cx.spec (CSm m Z6) 88 ([.rsl 3 rs false, .rsl 3 rs false] : List AV)) = (some (AV.v (.bool true)))) (.need (true = true) (.need ((n == n) = true) (.done (some (boolA (e2 == e2))))))))))))))))))))) := by kernel_rfl
open Go.Lib
theorem prsT_at (s : ByteArray) : (∃ n e2, prsT s = .tup [nilS, intA n, intA e2]) ∨ ∃ rs n e2, prsT s = .tup [slA stepC 3 rs, intA n, intA e2] ∧ Nat.ble rs.length lim = true := by
  unfold prsT
  cases decide (Int.ofNat s.size > 4096) with
  | true => exact .inl ⟨0, 26, rfl⟩
  | false =>
    rw [cond_false]
    cases hg : rows87 s with
    | inl i => exact .inl ⟨Int.ofNat i, 25, rfl⟩
    | inr rs =>
      simp only
      cases notNil (lastB s) with
      | true => exact .inl ⟨_, 25, rfl⟩
      | false =>
        rw [cond_false]
        cases hc : tblM rs != 0 with
        | true => exact .inl ⟨_, _, rfl⟩
        | false =>
          refine .inr ⟨rs, 0, 0, rfl, ?_⟩
          have h0 : tblM rs = 0 := by simpa using hc
          exact Nat.ble_eq_true_of_le (Nat.le_trans (okTb_at (tbl_ok h0)).1 (by unfold lim; omega))
theorem spPrs {s : ByteArray} (h : s.size ≤ 4097) : prsG [strA s] = some (prsT s) := by
  have := sp1_at (A := strC) (F := fun s => bif Nat.ble s.size 4097 then some (prsT s) else none) s
  rw [Nat.ble_eq_true_of_le h] at this; exact this
theorem spPtb {l : List St3} (h : okTb l = true) : ptbG [slA stepC 3 l] = some (strA (bA (allL l))) := by
  have := sp1_at (A := stepsC) (F := fun l => bif okTb l then some (strA (bA (allL l))) else none) l
  rw [h] at this; exact this
theorem spOwnS {l : List St3} (h : Nat.ble l.length lim = true) : ownSG [slA stepC 3 l] = some (slA stepC 3 l) := by
  have h1 := sp1_at (A := stepsC) (F := fun l => bif Nat.ble l.length lim then some (slA stepC 3 l) else none) l
  rw [h] at h1; exact h1
theorem spSam {l : List St3} (h : Nat.ble l.length lim = true) : samG [slA stepC 3 l, slA stepC 3 l] = some (boolA true) := by
  have := sp2_at (A := stepsC) (B := stepsC) (F := fun l m => bif decide (l = m) && Nat.ble l.length lim then some (boolA true) else none) l l
  rw [h, decide_eq_true rfl] at this; exact this
def law14G : List AV → Option AV := sp2 stepsC strC fun _ _ => some (boolA true)
theorem selfT {α : Type} [BEq α] [ReflBEq α] (x : α) : (x == x) = true := beq_self_eq_true x
theorem h14 (m : Int) : HoldsM m 14 law14G := holds2 fun l s r hr => by
  simp only [Option.some.injEq] at hr; subst hr
  have f16 : awakeG [] = some (boolA true) := rfl
  have f62 : stTabG [slA stepC 3 l] = some (boolA (decide (Int.ofNat l.length ≤ 17))) := sp1_at (A := stepsC) (F := fun l => some (boolA (decide (Int.ofNat l.length ≤ 17)))) l
  cases hw : decide (Int.ofNat l.length ≤ 17) with
  | false =>
    rw [hw] at f62
    exact (Z6_ok m).tr (t14s m s (l.map stepC.enc)) ⟨⟨rfl, f16⟩, ⟨rfl, f62⟩, ⟨rfl, f16⟩, rfl⟩
  | true =>
    rw [hw] at f62
    have hb : Nat.ble l.length lim = true := by
      simp at hw
      exact Nat.ble_eq_true_of_le (by unfold lim; omega)
    cases h4 : decide (Int.ofNat s.size > 400) with
    | true =>
      cases h5 : (Int.ofNat s.size != 4097) with
      | true => exact (Z6_ok m).tr (t14l m s (l.map stepC.enc)) ⟨⟨rfl, f16⟩, ⟨rfl, f62⟩, h4, h5, ⟨rfl, f16⟩, rfl⟩
      | false =>
        have f84 : prtG [slA stepC 3 l] = some (prtT l) := by
          have := sp1_at (A := stepsC) (F := fun l => bif Nat.ble l.length lim then some (prtT l) else none) l
          rw [hb] at this; exact this
        have f65 := spOwnS hb
        have f68 := specTbl hb
        have f85 : prsG [strA s] = some (prsT s) := spPrs (by simp only [bne_eq_false_iff_eq, Int.ofNat_eq_natCast] at h5; omega)
        unfold prtT at f84
        rcases prsT_at s with ⟨n, e2, hx⟩ | ⟨rs, n, e2, hx, hrl⟩
        · rw [hx] at f85
          have f89n : ownSG [nilS] = some (slA stepC 3 []) := rfl
          have f88n : samG [slA stepC 3 [], nilS] = some (boolA true) := rfl
          cases hc : tblM l == 0 with
          | true =>
            have h0 : tblM l = 0 := by simpa using hc
            have f86 := spPtb (tbl_ok h0)
            rw [h0] at f84 f68
            have ht := t14bnz m s (l.map stepC.enc) (bA (allL l)) n e2
            rw [selfT e2] at ht
            exact (Z6_ok m).tr ht ⟨⟨rfl, f16⟩, ⟨rfl, f62⟩, h4, h5, ⟨rfl, f65⟩, ⟨rfl, f84⟩, ⟨rfl, f85⟩, ⟨rfl, f68⟩, rfl, ⟨rfl, f86⟩, ⟨rfl, f85⟩, selfT _, rfl, ⟨rfl, f89n⟩, ⟨rfl, f88n⟩, rfl, selfT n, rfl⟩
          | false =>
            have hne : (tblM l != 0) = true := by rw [bne, hc]; rfl
            rw [hne] at f84
            have ht := t14bnk m s (l.map stepC.enc) (tblM l) n e2
            rw [selfT e2] at ht
            exact (Z6_ok m).tr ht ⟨⟨rfl, f16⟩, ⟨rfl, f62⟩, h4, h5, ⟨rfl, f65⟩, ⟨rfl, f84⟩, ⟨rfl, f85⟩, ⟨rfl, f68⟩, hc, ⟨rfl, f85⟩, rfl, selfT _, ⟨rfl, f89n⟩, ⟨rfl, f88n⟩, rfl, selfT n, rfl⟩
        · rw [hx] at f85
          have f89o := spOwnS hrl
          have f88o := spSam hrl
          cases hc : tblM l == 0 with
          | true =>
            have h0 : tblM l = 0 := by simpa using hc
            have f86 := spPtb (tbl_ok h0)
            rw [h0] at f84 f68
            have ht := t14boz m s (l.map stepC.enc) (rs.map stepC.enc) (bA (allL l)) n e2
            rw [selfT e2] at ht
            exact (Z6_ok m).tr ht ⟨⟨rfl, f16⟩, ⟨rfl, f62⟩, h4, h5, ⟨rfl, f65⟩, ⟨rfl, f84⟩, ⟨rfl, f85⟩, ⟨rfl, f68⟩, rfl, ⟨rfl, f86⟩, ⟨rfl, f85⟩, selfT _, rfl, ⟨rfl, f89o⟩, ⟨rfl, f88o⟩, rfl, selfT n, rfl⟩
          | false =>
            have hne : (tblM l != 0) = true := by rw [bne, hc]; rfl
            rw [hne] at f84
            have ht := t14bok m s (l.map stepC.enc) (rs.map stepC.enc) (tblM l) n e2
            rw [selfT e2] at ht
            exact (Z6_ok m).tr ht ⟨⟨rfl, f16⟩, ⟨rfl, f62⟩, h4, h5, ⟨rfl, f65⟩, ⟨rfl, f84⟩, ⟨rfl, f85⟩, ⟨rfl, f68⟩, hc, ⟨rfl, f85⟩, rfl, selfT _, ⟨rfl, f89o⟩, ⟨rfl, f88o⟩, rfl, selfT n, rfl⟩
    | false =>
      have f84 : prtG [slA stepC 3 l] = some (prtT l) := by
        have := sp1_at (A := stepsC) (F := fun l => bif Nat.ble l.length lim then some (prtT l) else none) l
        rw [hb] at this; exact this
      have f65 := spOwnS hb
      have f68 := specTbl hb
      have f85 : prsG [strA s] = some (prsT s) := spPrs (by simp only [gt_iff_lt, decide_eq_false_iff_not, Int.ofNat_eq_natCast] at h4; omega)
      unfold prtT at f84
      rcases prsT_at s with ⟨n, e2, hx⟩ | ⟨rs, n, e2, hx, hrl⟩
      · rw [hx] at f85
        have f89n : ownSG [nilS] = some (slA stepC 3 []) := rfl
        have f88n : samG [slA stepC 3 [], nilS] = some (boolA true) := rfl
        cases hc : tblM l == 0 with
        | true =>
          have h0 : tblM l = 0 := by simpa using hc
          have f86 := spPtb (tbl_ok h0)
          rw [h0] at f84 f68
          have ht := t14anz m s (l.map stepC.enc) (bA (allL l)) n e2
          rw [selfT e2] at ht
          exact (Z6_ok m).tr ht ⟨⟨rfl, f16⟩, ⟨rfl, f62⟩, h4, ⟨rfl, f65⟩, ⟨rfl, f84⟩, ⟨rfl, f85⟩, ⟨rfl, f68⟩, rfl, ⟨rfl, f86⟩, ⟨rfl, f85⟩, selfT _, rfl, ⟨rfl, f89n⟩, ⟨rfl, f88n⟩, rfl, selfT n, rfl⟩
        | false =>
          have hne : (tblM l != 0) = true := by rw [bne, hc]; rfl
          rw [hne] at f84
          have ht := t14ank m s (l.map stepC.enc) (tblM l) n e2
          rw [selfT e2] at ht
          exact (Z6_ok m).tr ht ⟨⟨rfl, f16⟩, ⟨rfl, f62⟩, h4, ⟨rfl, f65⟩, ⟨rfl, f84⟩, ⟨rfl, f85⟩, ⟨rfl, f68⟩, hc, ⟨rfl, f85⟩, rfl, selfT _, ⟨rfl, f89n⟩, ⟨rfl, f88n⟩, rfl, selfT n, rfl⟩
      · rw [hx] at f85
        have f89o := spOwnS hrl
        have f88o := spSam hrl
        cases hc : tblM l == 0 with
        | true =>
          have h0 : tblM l = 0 := by simpa using hc
          have f86 := spPtb (tbl_ok h0)
          rw [h0] at f84 f68
          have ht := t14aoz m s (l.map stepC.enc) (rs.map stepC.enc) (bA (allL l)) n e2
          rw [selfT e2] at ht
          exact (Z6_ok m).tr ht ⟨⟨rfl, f16⟩, ⟨rfl, f62⟩, h4, ⟨rfl, f65⟩, ⟨rfl, f84⟩, ⟨rfl, f85⟩, ⟨rfl, f68⟩, rfl, ⟨rfl, f86⟩, ⟨rfl, f85⟩, selfT _, rfl, ⟨rfl, f89o⟩, ⟨rfl, f88o⟩, rfl, selfT n, rfl⟩
        | false =>
          have hne : (tblM l != 0) = true := by rw [bne, hc]; rfl
          rw [hne] at f84
          have ht := t14aok m s (l.map stepC.enc) (rs.map stepC.enc) (tblM l) n e2
          rw [selfT e2] at ht
          exact (Z6_ok m).tr ht ⟨⟨rfl, f16⟩, ⟨rfl, f62⟩, h4, ⟨rfl, f65⟩, ⟨rfl, f84⟩, ⟨rfl, f85⟩, ⟨rfl, f68⟩, hc, ⟨rfl, f85⟩, rfl, selfT _, ⟨rfl, f89o⟩, ⟨rfl, f88o⟩, rfl, selfT n, rfl⟩
end Go.Vm.S6
