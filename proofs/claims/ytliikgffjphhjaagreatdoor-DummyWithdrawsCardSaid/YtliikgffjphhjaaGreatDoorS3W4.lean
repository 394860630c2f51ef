/- Withdraws: the rounds. -/
import Derived.Test.YtliikgffjphhjaaGreatDoorS3GR
import Derived.Test.YtliikgffjphhjaaGreatDoorS3GQ
namespace Go.Vm.S3
open Go.Proofs Go.RowKit
set_option maxRecDepth 100000
variable (ps fs cs ts : List AV) (d u : Int)
set_option maxRecDepth 20000
abbrev cW4_19 (ps fs cs ts : List AV) (d u : Int) (cs2 : List AV) (ka kb kc : ByteArray) (kn : Int) (ku l6 l10 : List AV) (i : Nat) (ta : ByteArray) (tn : Int) (ws l14 l18 : List AV) (j : Nat) (p : ByteArray) (h9 : List Hn) (a9 : List An) (x9 : Ex) (v9 : List AV) (e9 : List (Bool × Blk)) : Prop := Lr W3 9 348 2 [2, 5, 6, 8, 10, 13, 14, 18, 109, 110, 111, 221, 222, 223] [2, 5, 8, 13] [2, 5, 6, 8, 10, 13, 14, 18, 109, 110, 111, 221, 222, 223] [2, 5, 8, 13] [2, 5, 6, 8, 10, 109, 110, 111] [2, 5, 8] [.ptr 2 0 0, .ptr 5 1 0, .rsl 1 l6 false, .ptr 8 2 0, .rsl 1 l10 false, .ptr 13 3 0, .rsl 1 l14 false, .rsl 1 l18 false, .rsl 3 ts false, iA (Int.ofNat ts.length), iA (Int.ofNat i), .rsl 1 ws false, iA (Int.ofNat ws.length), iA (Int.ofNat j)] [lbX ps fs cs ts d u, (false, .box [sA ka, sA kb, sA kc, iA kn, .rsl 1 ku false]), lbX ps fs cs2 ts d u, (false, .box [sA ta, iA tn, .rsl 1 ws false])] ([.as 224 true, .chk [sA p]] ++ h9) ([.t j ws.length, .g ws j] ++ a9) x9 v9 e9
theorem r9e (cs2 : List AV) (ka kb kc : ByteArray) (kn : Int) (ku : List AV) (l6 l10 : List AV) (i : Nat) (ta : ByteArray) (tn : Int) (ws : List AV) (l14 l18 : List AV) (j : Nat) (p be wr : ByteArray) : cW4_19 ps fs cs ts d u cs2 ka kb kc kn ku l6 l10 i ta tn ws l14 l18 j p [.sp [.rsl 1 l10 false, sA ta] (bA false), .chk [sA be], .as 243 true, .chk [sA wr], .as 249 false] [.f 77, .g l14 j, .b (be.toList == (ByteArray.mk #[]).toList), .g l18 j, .b (!wr.toList == (ByteArray.mk #[109, 105, 115, 115, 105, 110, 103]).toList)] .nrm [.ptr 2 0 0, .ptr 5 1 0, .rsl 1 l6 false, .ptr 8 2 0, .rsl 1 l10 false, .ptr 13 3 0, .rsl 1 l14 false, .rsl 1 l18 false, .rsl 3 ts false, iA (Int.ofNat ts.length), iA (Int.ofNat i), .rsl 1 ws false, iA (Int.ofNat ws.length), iA (IntKind.i64.wrap (Int.ofNat j + 1))] [lbX ps fs cs ts d u, (false, .box [sA ka, sA kb, sA kc, iA kn, .rsl 1 ku false]), oLab ps (.rsl 3 fs false) (.rsl 5 cs2 false) (.rsl 3 ts false) d u, (false, .box [sA ta, iA tn, .rsl 1 ws false])] := kN (by kernel_rfl)
theorem r9u (cs2 : List AV) (ka kb kc : ByteArray) (kn : Int) (ku : List AV) (l6 l10 : List AV) (i : Nat) (ta : ByteArray) (tn : Int) (ws : List AV) (l14 l18 : List AV) (j : Nat) (p be wr : ByteArray) : cW4_19 ps fs cs ts d u cs2 ka kb kc kn ku l6 l10 i ta tn ws l14 l18 j p [.sp [.rsl 1 l10 false, sA ta] (bA false), .chk [sA be], .as 243 true, .chk [sA wr], .as 249 true, .chk [sA wr], .as 255 false] [.f 77, .g l14 j, .b (be.toList == (ByteArray.mk #[]).toList), .g l18 j, .b (!wr.toList == (ByteArray.mk #[109, 105, 115, 115, 105, 110, 103]).toList), .g l18 j, .b (!wr.toList == (ByteArray.mk #[117, 110, 99, 97, 108, 105, 98, 114, 97, 116, 101, 100]).toList)] .nrm [.ptr 2 0 0, .ptr 5 1 0, .rsl 1 l6 false, .ptr 8 2 0, .rsl 1 l10 false, .ptr 13 3 0, .rsl 1 l14 false, .rsl 1 l18 false, .rsl 3 ts false, iA (Int.ofNat ts.length), iA (Int.ofNat i), .rsl 1 ws false, iA (Int.ofNat ws.length), iA (IntKind.i64.wrap (Int.ofNat j + 1))] [lbX ps fs cs ts d u, (false, .box [sA ka, sA kb, sA kc, iA kn, .rsl 1 ku false]), oLab ps (.rsl 3 fs false) (.rsl 5 cs2 false) (.rsl 3 ts false) d u, (false, .box [sA ta, iA tn, .rsl 1 ws false])] := kN (by kernel_rfl)
theorem r9c1 (cs2 : List AV) (ka kb kc : ByteArray) (kn : Int) (ku : List AV) (l6 l10 : List AV) (i : Nat) (ta : ByteArray) (tn : Int) (ws : List AV) (l14 l18 : List AV) (j : Nat) (p be wr : ByteArray) (m : Nat) (sp : ByteArray) (a b c : ByteArray) (n : Int) (us : List AV) : cW4_19 ps fs cs ts d u cs2 ka kb kc kn ku l6 l10 i ta tn ws l14 l18 j p [.sp [.rsl 1 l10 false, sA ta] (bA false), .chk [sA be], .as 243 false, .chk [sA be], .sp [.rsl 5 cs false, sA be] (iA (Int.ofNat m)), .sp [lbE ps fs cs ts d u] (lbE ps fs cs ts d u), .sp [lbE ps fs cs ts d u, sA p, iA tn] (.tup [sA sp, iA 0]), .sp [lbE ps fs cs ts d u] (lbE ps fs cs ts d u), .chk [sA be], .sp [lbE ps fs cs ts d u, sA be] (.tup [bA true, iA 0]), .as 284 false, .chk [.agg [sA a, sA b, sA c, iA n, .rsl 1 us false]], .as 301 false, .as 307 false, .as 314 false, .chk [sA wr], .as 320 true, .as 336 false, .chk [sA wr], .as 344 false] [.f 77, .g l14 j, .b (be.toList == (ByteArray.mk #[]).toList), .g l14 j, .f 44, .f 39, .f 38, .f 39, .g l14 j, .f 40, .b (decide (Int.ofNat m < 0)), .g cs m, .b (!(b.toList == p.toList)), .b (!(c.toList == sp.toList)), .b (decide (n > tn)), .g l18 j, .b (wr.toList == (ByteArray.mk #[]).toList), .b (decide (IntKind.i64.wrap (tn - n) > d)), .g l18 j, .b ((wr.toList == (ByteArray.mk #[102, 97, 105, 108, 101, 100]).toList) == true)] .nrm [.ptr 2 0 0, .ptr 5 1 0, .rsl 1 l6 false, .ptr 8 2 0, .rsl 1 l10 false, .ptr 13 3 0, .rsl 1 l14 false, .rsl 1 l18 false, .rsl 3 ts false, iA (Int.ofNat ts.length), iA (Int.ofNat i), .rsl 1 ws false, iA (Int.ofNat ws.length), iA (IntKind.i64.wrap (Int.ofNat j + 1))] [lbX ps fs cs ts d u, (false, .box [sA ka, sA kb, sA kc, iA kn, .rsl 1 ku false]), oLab ps (.rsl 3 fs false) (.rsl 5 cs2 false) (.rsl 3 ts false) d u, (false, .box [sA ta, iA tn, .rsl 1 ws false])] := kN (by kernel_rfl)
theorem r9k1 (cs2 : List AV) (ka kb kc : ByteArray) (kn : Int) (ku : List AV) (l6 l10 : List AV) (i : Nat) (ta : ByteArray) (tn : Int) (ws : List AV) (l14 l18 : List AV) (j : Nat) (p be wr : ByteArray) (m : Nat) (sp : ByteArray) (a b c : ByteArray) (n : Int) (us : List AV) : cW4_19 ps fs cs ts d u cs2 ka kb kc kn ku l6 l10 i ta tn ws l14 l18 j p [.sp [.rsl 1 l10 false, sA ta] (bA true), .chk [sA wr], .as 238 false, .chk [sA be], .as 243 false, .chk [sA be], .sp [.rsl 5 cs false, sA be] (iA (Int.ofNat m)), .sp [lbE ps fs cs ts d u] (lbE ps fs cs ts d u), .sp [lbE ps fs cs ts d u, sA p, iA tn] (.tup [sA sp, iA 0]), .sp [lbE ps fs cs ts d u] (lbE ps fs cs ts d u), .chk [sA be], .sp [lbE ps fs cs ts d u, sA be] (.tup [bA true, iA 0]), .as 284 false, .chk [.agg [sA a, sA b, sA c, iA n, .rsl 1 us false]], .as 301 false, .as 307 false, .as 314 false, .chk [sA wr], .as 320 true, .as 336 false, .chk [sA wr], .as 344 false] [.f 77, .g l18 j, .b (!(wr.toList == (ByteArray.mk #[]).toList)), .g l14 j, .b (be.toList == (ByteArray.mk #[]).toList), .g l14 j, .f 44, .f 39, .f 38, .f 39, .g l14 j, .f 40, .b (decide (Int.ofNat m < 0)), .g cs m, .b (!(b.toList == p.toList)), .b (!(c.toList == sp.toList)), .b (decide (n > tn)), .g l18 j, .b (wr.toList == (ByteArray.mk #[]).toList), .b (decide (IntKind.i64.wrap (tn - n) > d)), .g l18 j, .b ((wr.toList == (ByteArray.mk #[102, 97, 105, 108, 101, 100]).toList) == true)] .nrm [.ptr 2 0 0, .ptr 5 1 0, .rsl 1 l6 false, .ptr 8 2 0, .rsl 1 l10 false, .ptr 13 3 0, .rsl 1 l14 false, .rsl 1 l18 false, .rsl 3 ts false, iA (Int.ofNat ts.length), iA (Int.ofNat i), .rsl 1 ws false, iA (Int.ofNat ws.length), iA (IntKind.i64.wrap (Int.ofNat j + 1))] [lbX ps fs cs ts d u, (false, .box [sA ka, sA kb, sA kc, iA kn, .rsl 1 ku false]), oLab ps (.rsl 3 fs false) (.rsl 5 cs2 false) (.rsl 3 ts false) d u, (false, .box [sA ta, iA tn, .rsl 1 ws false])] := kN (by kernel_rfl)
theorem r9c2 (cs2 : List AV) (ka kb kc : ByteArray) (kn : Int) (ku : List AV) (l6 l10 : List AV) (i : Nat) (ta : ByteArray) (tn : Int) (ws : List AV) (l14 l18 : List AV) (j : Nat) (p be wr : ByteArray) (m : Nat) (sp : ByteArray) (a b c : ByteArray) (n : Int) (us : List AV) (gd : Bool) : cW4_19 ps fs cs ts d u cs2 ka kb kc kn ku l6 l10 i ta tn ws l14 l18 j p [.sp [.rsl 1 l10 false, sA ta] (bA false), .chk [sA be], .as 243 false, .chk [sA be], .sp [.rsl 5 cs false, sA be] (iA (Int.ofNat m)), .sp [lbE ps fs cs ts d u] (lbE ps fs cs ts d u), .sp [lbE ps fs cs ts d u, sA p, iA tn] (.tup [sA sp, iA 0]), .sp [lbE ps fs cs ts d u] (lbE ps fs cs ts d u), .chk [sA be], .sp [lbE ps fs cs ts d u, sA be] (.tup [bA gd, iA 0]), .as 284 false, .chk [.agg [sA a, sA b, sA c, iA n, .rsl 1 us false]], .as 301 false, .as 307 false, .as 314 false, .chk [sA wr], .as 320 false, .chk [sA wr], .as 344 false] [.f 77, .g l14 j, .b (be.toList == (ByteArray.mk #[]).toList), .g l14 j, .f 44, .f 39, .f 38, .f 39, .g l14 j, .f 40, .b (decide (Int.ofNat m < 0)), .g cs m, .b (!(b.toList == p.toList)), .b (!(c.toList == sp.toList)), .b (decide (n > tn)), .g l18 j, .b (wr.toList == (ByteArray.mk #[]).toList), .g l18 j, .b ((wr.toList == (ByteArray.mk #[102, 97, 105, 108, 101, 100]).toList) == gd)] .nrm [.ptr 2 0 0, .ptr 5 1 0, .rsl 1 l6 false, .ptr 8 2 0, .rsl 1 l10 false, .ptr 13 3 0, .rsl 1 l14 false, .rsl 1 l18 false, .rsl 3 ts false, iA (Int.ofNat ts.length), iA (Int.ofNat i), .rsl 1 ws false, iA (Int.ofNat ws.length), iA (IntKind.i64.wrap (Int.ofNat j + 1))] [lbX ps fs cs ts d u, (false, .box [sA ka, sA kb, sA kc, iA kn, .rsl 1 ku false]), oLab ps (.rsl 3 fs false) (.rsl 5 cs2 false) (.rsl 3 ts false) d u, (false, .box [sA ta, iA tn, .rsl 1 ws false])] := kN (by kernel_rfl)
theorem r9x (cs2 : List AV) (ka kb kc : ByteArray) (kn : Int) (ku : List AV) (l6 l10 : List AV) (i : Nat) (ta : ByteArray) (tn : Int) (ws : List AV) (l14 l18 : List AV) (j : Nat) : Lr W3 9 348 2 [2, 5, 6, 8, 10, 13, 14, 18, 109, 110, 111, 221, 222, 223] [2, 5, 8, 13] [2, 5, 6, 8, 10, 13, 14, 18, 109, 110, 111, 221, 222, 223] [2, 5, 8, 13] [2, 5, 6, 8, 10, 109, 110, 111] [2, 5, 8] [.ptr 2 0 0, .ptr 5 1 0, .rsl 1 l6 false, .ptr 8 2 0, .rsl 1 l10 false, .ptr 13 3 0, .rsl 1 l14 false, .rsl 1 l18 false, .rsl 3 ts false, iA (Int.ofNat ts.length), iA (Int.ofNat i), .rsl 1 ws false, iA (Int.ofNat ws.length), iA (Int.ofNat j)] [lbX ps fs cs ts d u, (false, .box [sA ka, sA kb, sA kc, iA kn, .rsl 1 ku false]), lbX ps fs cs2 ts d u, (false, .box [sA ta, iA tn, .rsl 1 ws false])] [.as 224 false] [.t j ws.length] (.exit 2) [.ptr 2 0 0, .ptr 5 1 0, .rsl 1 l6 false, .ptr 8 2 0, .rsl 1 l10 false, .rsl 3 ts false, iA (Int.ofNat ts.length), iA (Int.ofNat i)] [lbX ps fs cs ts d u, (false, .box [sA ka, sA kb, sA kc, iA kn, .rsl 1 ku false]), oLab ps (.rsl 3 fs false) (.rsl 5 cs2 false) (.rsl 3 ts false) d u] := kN (by kernel_rfl)
abbrev cW4_20 (ps fs cs ts : List AV) (d u : Int) (cs2 : List AV) (ka kb kc : ByteArray) (kn : Int) (ku l6 l10 : List AV) (i : Nat) (ta : ByteArray) (tn : Int) (ws l14 l16 l18 l20 : List AV) (h9 : List Hn) (a9 : List An) (x9 : Ex) (v9 : List AV) (e9 : List (Bool × Blk)) : Prop := Lr W3 9 348 0 [2, 5, 6, 8, 10, 109, 110, 111] [2, 5, 8] [2, 5, 6, 8, 10, 109, 110, 111] [2, 5, 8] [] [] [.ptr 2 0 0, .ptr 5 1 0, .rsl 1 l6 false, .ptr 8 2 0, .rsl 1 l10 false, .rsl 3 ts false, iA (Int.ofNat ts.length), iA (Int.ofNat i)] [lbX ps fs cs ts d u, (false, .box [sA ka, sA kb, sA kc, iA kn, .rsl 1 ku false]), lbX ps fs cs2 ts d u] ([.as 112 true, .chk [.agg [sA ta, iA tn, .rsl 1 ws false]], .sp [lbE ps fs cs ts d u] (lbE ps fs cs ts d u), .sp [lbE ps fs cs ts d u, sA ta] (.tup [.rsl 1 l14 false, iA 0]), .sp [lbE ps fs cs2 ts d u] (lbE ps fs cs2 ts d u), .sp [lbE ps fs cs2 ts d u] (lbE ps fs cs2 ts d u), .sp [lbE ps fs cs2 ts d u, sA ta] (.tup [.rsl 1 l16 false, iA 0]), .sp [lbE ps fs cs ts d u] (lbE ps fs cs ts d u), .sp [lbE ps fs cs ts d u, sA ta] (.tup [.rsl 1 l18 false, iA 0]), .sp [lbE ps fs cs2 ts d u] (lbE ps fs cs2 ts d u), .sp [lbE ps fs cs2 ts d u] (lbE ps fs cs2 ts d u), .sp [lbE ps fs cs2 ts d u, sA ta] (.tup [.rsl 1 l20 false, iA 0]), .as 171 false, .as 179 false, .as 186 false] ++ h9) ([.t i ts.length, .g ts i, .f 39, .f 52, .f 51, .f 39, .f 52, .f 39, .f 53, .f 51, .f 39, .f 53, .b (Int.ofNat l14.length != Int.ofNat ws.length), .b (Int.ofNat l16.length != Int.ofNat ws.length), .b (Int.ofNat l18.length != Int.ofNat ws.length)] ++ a9) x9 v9 e9
theorem r9ot (cs2 : List AV) (ka kb kc : ByteArray) (kn : Int) (ku : List AV) (l6 l10 : List AV) (i : Nat) (ta : ByteArray) (tn : Int) (ws : List AV) (l14 l16 l18 l20 : List AV) : cW4_20 ps fs cs ts d u cs2 ka kb kc kn ku l6 l10 i ta tn ws l14 l16 l18 l20 [.sp [.rsl 1 l6 false, sA ta] (bA true), .sp [.rsl 1 l14 false, .rsl 1 l16 false] (bA false), .sp [.rsl 1 l14 false, sA ka] (bA true), .sp [.rsl 1 l16 false, sA ka] (bA false), .loop 0 [2, 5, 6, 8, 10, 13, 14, 18, 109, 110, 111, 221, 222, 223] [2, 5, 8, 13] [2, 5, 6, 8, 10, 109, 110, 111] [2, 5, 8] (.exit 2) [.ptr 2 0 0, .ptr 5 1 0, .rsl 1 l6 false, .ptr 8 2 0, .rsl 1 l10 false, .rsl 3 ts false, iA (Int.ofNat ts.length), iA (Int.ofNat i)] [lbX ps fs cs ts d u, (false, .box [sA ka, sA kb, sA kc, iA kn, .rsl 1 ku false]), lbX ps fs cs2 ts d u]] [.f 77, .f 78, .f 77, .f 77, .l 348 9 2 348 [.ptr 2 0 0, .ptr 5 1 0, .rsl 1 l6 false, .ptr 8 2 0, .rsl 1 l10 false, .ptr 13 3 0, .rsl 1 l14 false, .rsl 1 l18 false, .rsl 3 ts false, iA (Int.ofNat ts.length), iA (Int.ofNat i), .rsl 1 ws false, iA (Int.ofNat ws.length), iA 0] [lbX ps fs cs ts d u, (false, .box [sA ka, sA kb, sA kc, iA kn, .rsl 1 ku false]), oLab ps (.rsl 3 fs false) (.rsl 5 cs2 false) (.rsl 3 ts false) d u, (false, .box [sA ta, iA tn, .rsl 1 ws false])]] .nrm [.ptr 2 0 0, .ptr 5 1 0, .rsl 1 l6 false, .ptr 8 2 0, .rsl 1 l10 false, .rsl 3 ts false, iA (Int.ofNat ts.length), iA (IntKind.i64.wrap (Int.ofNat i + 1))] [lbX ps fs cs ts d u, (false, .box [sA ka, sA kb, sA kc, iA kn, .rsl 1 ku false]), oLab ps (.rsl 3 fs false) (.rsl 5 cs2 false) (.rsl 3 ts false) d u] := kN (by kernel_rfl)
theorem r9of (cs2 : List AV) (ka kb kc : ByteArray) (kn : Int) (ku : List AV) (l6 l10 : List AV) (i : Nat) (ta : ByteArray) (tn : Int) (ws : List AV) (l14 l16 l18 l20 : List AV) : cW4_20 ps fs cs ts d u cs2 ka kb kc kn ku l6 l10 i ta tn ws l14 l16 l18 l20 [.sp [.rsl 1 l6 false, sA ta] (bA false), .sp [.rsl 1 l14 false, .rsl 1 l16 false] (bA true), .sp [.rsl 1 l14 false, sA ka] (bA false), .sp [.rsl 1 l16 false, sA ka] (bA false), .sp [.rsl 1 l18 false, .rsl 1 l20 false] (bA true), .loop 0 [2, 5, 6, 8, 10, 13, 14, 18, 109, 110, 111, 221, 222, 223] [2, 5, 8, 13] [2, 5, 6, 8, 10, 109, 110, 111] [2, 5, 8] (.exit 2) [.ptr 2 0 0, .ptr 5 1 0, .rsl 1 l6 false, .ptr 8 2 0, .rsl 1 l10 false, .rsl 3 ts false, iA (Int.ofNat ts.length), iA (Int.ofNat i)] [lbX ps fs cs ts d u, (false, .box [sA ka, sA kb, sA kc, iA kn, .rsl 1 ku false]), lbX ps fs cs2 ts d u]] [.f 77, .f 78, .f 77, .f 77, .f 78, .l 348 9 2 348 [.ptr 2 0 0, .ptr 5 1 0, .rsl 1 l6 false, .ptr 8 2 0, .rsl 1 l10 false, .ptr 13 3 0, .rsl 1 l14 false, .rsl 1 l18 false, .rsl 3 ts false, iA (Int.ofNat ts.length), iA (Int.ofNat i), .rsl 1 ws false, iA (Int.ofNat ws.length), iA 0] [lbX ps fs cs ts d u, (false, .box [sA ka, sA kb, sA kc, iA kn, .rsl 1 ku false]), oLab ps (.rsl 3 fs false) (.rsl 5 cs2 false) (.rsl 3 ts false) d u, (false, .box [sA ta, iA tn, .rsl 1 ws false])]] .nrm [.ptr 2 0 0, .ptr 5 1 0, .rsl 1 l6 false, .ptr 8 2 0, .rsl 1 l10 false, .rsl 3 ts false, iA (Int.ofNat ts.length), iA (IntKind.i64.wrap (Int.ofNat i + 1))] [lbX ps fs cs ts d u, (false, .box [sA ka, sA kb, sA kc, iA kn, .rsl 1 ku false]), oLab ps (.rsl 3 fs false) (.rsl 5 cs2 false) (.rsl 3 ts false) d u] := kN (by kernel_rfl)
theorem r9ox (cs2 : List AV) (ka kb kc : ByteArray) (kn : Int) (ku : List AV) (l6 l10 : List AV) (i : Nat) : Lr W3 9 348 0 [2, 5, 6, 8, 10, 109, 110, 111] [2, 5, 8] [2, 5, 6, 8, 10, 109, 110, 111] [2, 5, 8] [] [] [.ptr 2 0 0, .ptr 5 1 0, .rsl 1 l6 false, .ptr 8 2 0, .rsl 1 l10 false, .rsl 3 ts false, iA (Int.ofNat ts.length), iA (Int.ofNat i)] [lbX ps fs cs ts d u, (false, .box [sA ka, sA kb, sA kc, iA kn, .rsl 1 ku false]), lbX ps fs cs2 ts d u] [.as 112 false] [.t i ts.length] (.exit 0) [] [] := kN (by kernel_rfl)
theorem t9s (ix : Int) (w : Bool) : L W3 9 [lbE ps fs cs ts d u, u8A ix] [.sp [lbE ps fs cs ts d u] (bA false), .sp [] (bA w)] [.f 76, .f 14] (bA w) := kR (by kernel_rfl)
theorem t9z (ix : Int) (w : Bool) : L W3 9 [lbE ps fs cs ts d u, u8A ix] [.sp [lbE ps fs cs ts d u] (bA true), .as 39 true, .sp [] (bA w)] [.f 76, .b (Int.ofNat cs.length == 0), .f 14] (bA w) := kR (by kernel_rfl)
theorem t9 (ix : Int) (k : Nat) (cs2 : List AV) (ka kb kc : ByteArray) (kn : Int) (ku : List AV) (l6 l10 : List AV) : L W3 9 [lbE ps fs cs ts d u, u8A ix] [.sp [lbE ps fs cs ts d u] (bA true), .as 39 false, .dv (iA (Int.ofNat k)), .chk [.agg [sA ka, sA kb, sA kc, iA kn, .rsl 1 ku false]], .sp [lbE ps fs cs ts d u] (lbE ps fs cs ts d u), .sp [lbE ps fs cs ts d u, sA ka] (.tup [.rsl 1 l6 false, iA 0]), .sp [lbE ps fs cs ts d u] (lbE ps fs cs ts d u), .sp [lbE ps fs cs ts d u, sA ka] (.tup [lbE ps fs cs2 ts d u, iA 0]), .sp [lbE ps fs cs ts d u] (lbE ps fs cs ts d u), .sp [lbE ps fs cs ts d u] (.tup [.rsl 1 l10 false, iA 0]), .sp [lbE ps fs cs2 ts d u] (lbE ps fs cs2 ts d u), .sp [lbE ps fs cs2 ts d u] (iA 0), .as 99 false, .as 107 false, .loop 0 [2, 5, 6, 8, 10, 109, 110, 111] [2, 5, 8] [] [] (.exit 0) [] [], .sp [] (bA true)] [.f 76, .b (Int.ofNat cs.length == 0), .k ((abin (CS W3) BinOp.rem 3 (Operand.tmp 44) (Operand.tmp 47) (iA (IntKind.i64.wrap ix)) (iA (Int.ofNat cs.length))) = (some (iA (Int.ofNat k)))), .g cs k, .f 39, .f 54, .f 39, .f 41, .f 39, .f 59, .f 51, .f 42, .b (Int.ofNat cs2.length != IntKind.i64.wrap (Int.ofNat cs.length - 1)), .b (Int.ofNat ts.length != Int.ofNat ts.length), .l 348 9 0 348 [.ptr 2 0 0, .ptr 5 1 0, .rsl 1 l6 false, .ptr 8 2 0, .rsl 1 l10 false, .rsl 3 ts false, iA (Int.ofNat ts.length), iA 0] [lbX ps fs cs ts d u, (false, .box [sA ka, sA kb, sA kc, iA kn, .rsl 1 ku false]), oLab ps (.rsl 3 fs false) (.rsl 5 cs2 false) (.rsl 3 ts false) d u], .f 14] (bA true) := kR (by kernel_rfl)
theorem fc_name {x : Lb} (hz : labM x = 0) {k : Nat} {c : Cb} (h : x.2.2.1[k]? = some c) : fcM x c.1 = 0 ∧ cIx x c.1 = k ∧ findC x.2.2.1 c.1 = Int.ofNat k := by
 have h2 := (cb_name hz h).2
 have hf : findC x.2.2.1 c.1 = Int.ofNat k := by unfold findC; rw [h2]; rfl
 refine ⟨?_, by unfold cIx; rw [h2]; rfl, hf⟩
 unfold fcM
 rw [hz, hf, show decide (Int.ofNat k < 0) = false from decide_eq_false (by simp)]; rfl
theorem ft_name {x : Lb} (hz : labM x = 0) {i : Nat} {t : Ts} (h : x.2.2.2.1[i]? = some t) : ftM x t.1 = 0 ∧ tIx x t.1 = i := by
 have h2 := ts_name hz h
 refine ⟨?_, by unfold tIx; rw [h2]; rfl⟩
 unfold ftM findT
 rw [hz, h2, show decide (oI (some i) < 0) = false from decide_eq_false (by unfold oI; simp)]; rfl
theorem test_ok {x : Lb} (hz : labM x = 0) {i : Nat} {t : Ts} (h : x.2.2.2.1[i]? = some t) : dayM t.2.1 = 0 ∧ ∀ p ∈ t.2.2, hasP x.1 p = true := by
 have e := (labM_zero hz).ts _ _ h
 unfold testM at e
 rw [firstM_app0, firstM_c0, firstM_c0] at e
 obtain ⟨e1, e2, _, _⟩ := e
 obtain ⟨_, _, h3, _, _⟩ := tE_zero e1
 refine ⟨h3, fun p hp => ?_⟩
 obtain ⟨j, hj, rfl⟩ := List.mem_iff_getElem.1 hp
 have := srchE_zero e2 j _ (List.getElem?_eq_getElem hj)
 unfold wordE at this
 rw [firstM_c0, whenM_z (by decide)] at this
 simpa using this.1
theorem spc_ok {x : Lb} {p : ByteArray} {day : Int} (hz : labM x = 0) (hp : hasP x.1 p = true) (hd : dayM day = 0) (hn : nilB (specM x.2.1 p day) = false) : spcE x p day = 0 ∧ spcS x p day = specM x.2.1 p day := by
 have hf : spcF x p day = 0 := by
  unfold spcF
  rw [firstM_c0, firstM_c0, hp]
  exact ⟨rfl, hd, rfl⟩
 unfold spcE spcS
 rw [hz, hf, hn]; exact ⟨rfl, rfl⟩
theorem cov_nil {x : Lb} {i : Nat} (h : covM x i = true) {j : Nat} {w : ByteArray} (hw : (wrgM x i)[j]? = some w) : nilB w = true := by
 unfold covM at h
 rw [Bool.not_eq_true', List.any_eq_false] at h
 simpa using h w (List.mem_of_getElem? hw)
theorem neB {a b : ByteArray} (h : seq a b = false) : (!(a.toList == b.toList)) = true := by
 show (!seq a b) = true
 rw [h]; rfl
theorem eqB {a b : ByteArray} (h : seq a b = true) : (!(a.toList == b.toList)) = false := by
 show (!seq a b) = false
 rw [h]; rfl
theorem inner9 {x : Lb} (hok : okLb x = true) (hz : labM x = 0) {k : Nat} (hk : k < x.2.2.1.length) (ck : Cb) {i : Nat} {t : Ts} (ht : x.2.2.2.1[i]? = some t) :
  LoopRun (CS W3) 0 348 false (lO (CS W3) 9 2) (mkSt [2, 5, 6, 8, 10, 13, 14, 18, 109, 110, 111, 221, 222, 223] [2, 5, 8, 13] 348 [.ptr 2 0 0, .ptr 5 1 0, slA strC 1 (reaM x ck.1), .ptr 8 2 0, slA strC 1 (chM x (covM x)), .ptr 13 3 0, slA strC 1 (rstM x i), slA strC 1 (wrgM x i), slA tsC 3 x.2.2.2.1, iA (Int.ofNat (x.2.2.2.1.map tsC.enc).length), iA (Int.ofNat i), slA strC 1 t.2.2, iA (Int.ofNat (t.2.2.map strC.enc).length), iA 0] [lbY x, cbX ck, lbY (woM x k), tsX t]) (.exit 2) (mkSt [2, 5, 6, 8, 10, 109, 110, 111] [2, 5, 8] 348 [.ptr 2 0 0, .ptr 5 1 0, slA strC 1 (reaM x ck.1), .ptr 8 2 0, slA strC 1 (chM x (covM x)), slA tsC 3 x.2.2.2.1, iA (Int.ofNat (x.2.2.2.1.map tsC.enc).length), iA (Int.ofNat i)] [lbY x, cbX ck, lbY (woM x k)]) := by
 have K := okLb_at hok
 have hT := K.ws _ (List.mem_of_getElem? ht)
 have hl := limTwo (Nat.le_of_ble_eq_true hT)
 have et : tsAt x i = t := by unfold tsAt; rw [ht]; rfl
 obtain ⟨hd, hps⟩ := test_ok hz ht
 have f39 := spOwnL hok
 have f77 : hwG [slA strC 1 (chM x (covM x)), sA t.1] = some (bA (covM x i)) := by
  have := spHw (l := chM x (covM x)) t.1 (blt_lim (ch_lim _ hok))
  rw [ch_has hz _ ht] at this; exact this
 have h := LoopRun.list (C := CS W3) (p := 0) (nt := 348) (rd := false) (c := lO (CS W3) 9 2) (step := fun _ (_ : ByteArray) (s : Unit) => (.inl s : Unit ⊕ Unit)) (fin := id)
  (enc := fun j _ => mkSt [2, 5, 6, 8, 10, 13, 14, 18, 109, 110, 111, 221, 222, 223] [2, 5, 8, 13] 348 [.ptr 2 0 0, .ptr 5 1 0, slA strC 1 (reaM x ck.1), .ptr 8 2 0, slA strC 1 (chM x (covM x)), .ptr 13 3 0, slA strC 1 (rstM x i), slA strC 1 (wrgM x i), slA tsC 3 x.2.2.2.1, iA (Int.ofNat (x.2.2.2.1.map tsC.enc).length), iA (Int.ofNat i), slA strC 1 t.2.2, iA (Int.ofNat (t.2.2.map strC.enc).length), iA (Int.ofNat j)] [lbY x, cbX ck, lbY (woM x k), tsX t])
  (ex := fun _ => .exit 2) (out := fun _ => mkSt [2, 5, 6, 8, 10, 109, 110, 111] [2, 5, 8] 348 [.ptr 2 0 0, .ptr 5 1 0, slA strC 1 (reaM x ck.1), .ptr 8 2 0, slA strC 1 (chM x (covM x)), slA tsC 3 x.2.2.2.1, iA (Int.ofNat (x.2.2.2.1.map tsC.enc).length), iA (Int.ofNat i)] [lbY x, cbX ck, lbY (woM x k)]) (l := t.2.2) (fun _ _ => True)
  (fun j p s hp _ => by
   refine ⟨?_, trivial⟩
   have hj := lt_len hp
   have hlt : decide (Int.ofNat j < Int.ofNat (t.2.2.map strC.enc).length) = true := by rw [e_st]; exact lt_of hj
   have hpm := get_map strC.enc hp
   have hw := wrap_ix hj hl
   have hbe : (rstM x i)[j]? = some (rstM1 x t.2.1 p) := by unfold rstM; rw [et, List.getElem?_map, hp]; rfl
   have hwr : (wrgM x i)[j]? = some (stM x p t.2.1 (x.2.2.2.1.take i)) := by unfold wrgM; rw [et, List.getElem?_map, hp]; rfl
   have hcn : covM x i = true → nilB (stM x p t.2.1 (x.2.2.2.1.take i)) = true := fun h => cov_nil h hwr
   have hbm := get_map strC.enc hbe
   have hwm := get_map strC.enc hwr
   rcases part_of hz t.2.1 p (x.2.2.2.1.take i) with ⟨h1, h2⟩ | ⟨m, hm, m1, m2, m3, m4, m5, m6, m7, m8⟩
   ·have hb : nilB (rstM1 x t.2.1 p) = true := by rw [h1]; decide +kernel
    generalize rstM1 x t.2.1 p = be at *
    generalize stM x p t.2.1 (x.2.2.2.1.take i) = wr at *
    cases hc : covM x i with
    | true =>
     have := hcn hc
     rcases h2 with rfl | rfl
     ·exact absurd this (by decide +kernel)
     ·exact absurd this (by decide +kernel)
    | false =>
     rw [hc] at f77
     rcases h2 with rfl | rfl
     ·have hr := (lx x r9e) ((woM x k).2.2.1.map cbC.enc) ck.1 ck.2.1 ck.2.2.1 ck.2.2.2.1 (ck.2.2.2.2.map intC.enc) ((reaM x ck.1).map strC.enc) ((chM x (covM x)).map strC.enc) i t.1 t.2.1 (t.2.2.map strC.enc) ((rstM x i).map strC.enc) ((wrgM x i).map strC.enc) j p be sMissing
      rw [hw] at hr
      exact W3_ok.rndN hr ⟨hlt, hpm, ⟨rfl, f77⟩, hbm, hb, hwm, eqB (seq_self _), trivial, rfl⟩
     ·have hr := (lx x r9u) ((woM x k).2.2.1.map cbC.enc) ck.1 ck.2.1 ck.2.2.1 ck.2.2.2.1 (ck.2.2.2.2.map intC.enc) ((reaM x ck.1).map strC.enc) ((chM x (covM x)).map strC.enc) i t.1 t.2.1 (t.2.2.map strC.enc) ((rstM x i).map strC.enc) ((wrgM x i).map strC.enc) j p be sUncal
      rw [hw] at hr
      exact W3_ok.rndN hr ⟨hlt, hpm, ⟨rfl, f77⟩, hbm, hb, hwm, neB (by decide +kernel), hwm, eqB (seq_self _), trivial, rfl⟩
   ·have hg := cbAt_get hm
    have hgm := get_map cbC.enc hg
    obtain ⟨n1, n2, n3⟩ := fc_name hz hg
    have f44 := spFindC (l := x.2.2.1) (rstM1 x t.2.1 p) (blt_lim K.cs)
    rw [m1] at f44
    have hpp := hps p (List.mem_of_getElem? hp)
    obtain ⟨s1, s2⟩ := spc_ok hz hpp hd m7
    have f38 : spcG [lbA x, sA p, iA t.2.1] = some (.tup [sA (specM x.2.1 p t.2.1), iA 0]) := by
     have := sp3_at (A := labC) (B := strC) (D := intC) (F := fun x s day => bif okLb x then some (.tup [sA (spcS x s day), iA (spcE x s day)]) else none) x p t.2.1
     rw [hok, s1, s2] at this; exact this
    have f40 : good40G [lbA x, sA (rstM1 x t.2.1 p)] = some (.tup [bA (goodM x.1 (cbAt x m)), iA 0]) := by
     have := sp2_at (A := labC) (B := strC) (F := fun x s => bif okLb x then some (.tup [bA (good40 x s), iA (fcM x s)]) else none) x (cbAt x m).1
     rw [hok, n1, show good40 x (cbAt x m).1 = goodM x.1 (cbAt x m) by unfold good40; rw [n1, n2]; rfl] at this
     rw [← m2]; exact this
    have hm0 : decide (Int.ofNat m < 0) = false := decide_eq_false (by simp)
    have hday : decide ((cbAt x m).2.2.2.1 > t.2.1) = false := decide_eq_false (by omega)
    have q4 := eqB m4
    have q5 := eqB m5
    rw [m8] at hwm hcn
    generalize rstM1 x t.2.1 p = be at *
    generalize specM x.2.1 p t.2.1 = w at *
    generalize cbAt x m = c at *
    have c2 : ∀ wr g, wrongM x w t.2.1 c (x.2.2.2.1.take i) = wr → goodM x.1 c = g → nilB wr = false → (seq wr sFailed == g) = false → _ := fun wr g hwr hgd hn he => by
     have hc : covM x i = false := by
      cases hc : covM x i with
      | false => rfl
      | true => have := hcn hc; rw [hwr, hn] at this; cases this
     rw [hc] at f77
     rw [hgd] at f40
     rw [hwr] at hwm
     have hr := (lx x r9c2) ((woM x k).2.2.1.map cbC.enc) ck.1 ck.2.1 ck.2.2.1 ck.2.2.2.1 (ck.2.2.2.2.map intC.enc) ((reaM x ck.1).map strC.enc) ((chM x (covM x)).map strC.enc) i t.1 t.2.1 (t.2.2.map strC.enc) ((rstM x i).map strC.enc) ((wrgM x i).map strC.enc) j p be wr m w c.1 c.2.1 c.2.2.1 c.2.2.2.1 (c.2.2.2.2.map intC.enc) g
     rw [hw] at hr
     exact W3_ok.rndN hr ⟨hlt, hpm, ⟨rfl, f77⟩, hbm, m3, hbm, ⟨rfl, f44⟩, ⟨rfl, f39⟩, ⟨rfl, f38⟩, ⟨rfl, f39⟩, hbm, ⟨rfl, f40⟩, hm0, hgm, q4, q5, hday, hwm, hn, hwm, he, trivial, rfl⟩
    have c1 : goodM x.1 c = true → decide (IntKind.i64.wrap (t.2.1 - c.2.2.2.1) > x.2.2.2.2.1) = false → wrongM x w t.2.1 c (x.2.2.2.1.take i) = ⟨#[]⟩ → _ := fun hgd ho hwr => by
     rw [hgd] at f40
     rw [hwr] at hwm
     cases hc : covM x i with
     | true =>
      rw [hc] at f77
      have hr := (lx x r9k1) ((woM x k).2.2.1.map cbC.enc) ck.1 ck.2.1 ck.2.2.1 ck.2.2.2.1 (ck.2.2.2.2.map intC.enc) ((reaM x ck.1).map strC.enc) ((chM x (covM x)).map strC.enc) i t.1 t.2.1 (t.2.2.map strC.enc) ((rstM x i).map strC.enc) ((wrgM x i).map strC.enc) j p be ⟨#[]⟩ m w c.1 c.2.1 c.2.2.1 c.2.2.2.1 (c.2.2.2.2.map intC.enc)
      rw [hw] at hr
      exact W3_ok.rndN hr ⟨hlt, hpm, ⟨rfl, f77⟩, hwm, eqB (seq_self _), hbm, m3, hbm, ⟨rfl, f44⟩, ⟨rfl, f39⟩, ⟨rfl, f38⟩, ⟨rfl, f39⟩, hbm, ⟨rfl, f40⟩, hm0, hgm, q4, q5, hday, hwm, seq_self _, ho, hwm, by decide +kernel, trivial, rfl⟩
     | false =>
      rw [hc] at f77
      have hr := (lx x r9c1) ((woM x k).2.2.1.map cbC.enc) ck.1 ck.2.1 ck.2.2.1 ck.2.2.2.1 (ck.2.2.2.2.map intC.enc) ((reaM x ck.1).map strC.enc) ((chM x (covM x)).map strC.enc) i t.1 t.2.1 (t.2.2.map strC.enc) ((rstM x i).map strC.enc) ((wrgM x i).map strC.enc) j p be ⟨#[]⟩ m w c.1 c.2.1 c.2.2.1 c.2.2.2.1 (c.2.2.2.2.map intC.enc)
      rw [hw] at hr
      exact W3_ok.rndN hr ⟨hlt, hpm, ⟨rfl, f77⟩, hbm, m3, hbm, ⟨rfl, f44⟩, ⟨rfl, f39⟩, ⟨rfl, f38⟩, ⟨rfl, f39⟩, hbm, ⟨rfl, f40⟩, hm0, hgm, q4, q5, hday, hwm, seq_self _, ho, hwm, by decide +kernel, trivial, rfl⟩
    cases hgd : goodM x.1 c with
    | false => exact c2 sFailed false (by unfold wrongM; rw [hgd]; rfl) hgd (by decide +kernel) (by rw [seq_self]; rfl)
    | true =>
     cases ho : decide (IntKind.i64.wrap (t.2.1 - c.2.2.2.1) > x.2.2.2.2.1) with
     | true => exact c2 sOld true (by unfold wrongM; rw [hgd, ho]; rfl) hgd (by decide +kernel) (by decide +kernel)
     | false =>
      cases hu : decide (cntU x.2.1 w c.2.2.2.1 (x.2.2.2.1.take i) ≥ x.2.2.2.2.2) with
      | true => exact c2 sWorn true (by unfold wrongM; rw [hgd, ho, hu]; rfl) hgd (by decide +kernel) (by decide +kernel)
      | false => exact c1 hgd ho (by unfold wrongM; rw [hgd, ho, hu]; rfl))
  (fun s _ => ⟨W3_ok.rndX ((lx x r9x) ((woM x k).2.2.1.map cbC.enc) ck.1 ck.2.1 ck.2.2.1 ck.2.2.2.1 (ck.2.2.2.2.map intC.enc) ((reaM x ck.1).map strC.enc) ((chM x (covM x)).map strC.enc) i t.1 t.2.1 (t.2.2.map strC.enc) ((rstM x i).map strC.enc) ((wrgM x i).map strC.enc) t.2.2.length) ⟨by rw [e_st]; exact lt_self _, trivial, rfl⟩, by simp⟩)
  t.2.2 [] () rfl trivial
 exact h
theorem outer9 {x : Lb} (hok : okLb x = true) (hz : labM x = 0) {k : Nat} {ck : Cb} (hg : x.2.2.1[k]? = some ck) :
  LoopRun (CS W3) 0 348 false (lO (CS W3) 9 0) (mkSt [2, 5, 6, 8, 10, 109, 110, 111] [2, 5, 8] 348 [.ptr 2 0 0, .ptr 5 1 0, slA strC 1 (reaM x ck.1), .ptr 8 2 0, slA strC 1 (chM x (covM x)), slA tsC 3 x.2.2.2.1, iA (Int.ofNat (x.2.2.2.1.map tsC.enc).length), iA 0] [lbY x, cbX ck, lbY (woM x k)]) (.exit 0) (mkSt [] [] 348 [] []) := by
 have hk := lt_len hg
 have K := okLb_at hok
 have hl := limTwo K.ts
 have hokW := okWo k hok
 have hzW := lab_wo hz hk
 have f39 := spOwnL hok
 have f39w := spOwnL hokW
 have rs : ∀ {y : Lb}, okLb y = true → labM y = 0 → ∀ {i : Nat} {t : Ts}, y.2.2.2.1[i]? = some t → rs52G [lbA y, sA t.1] = some (.tup [slA strC 1 (rstM y i), iA 0]) ∧ wr53G [lbA y, sA t.1] = some (.tup [slA strC 1 (wrgM y i), iA 0]) := fun {y} h1 h2 {i t} h3 => by
  obtain ⟨e1, e2⟩ := ft_name h2 h3
  have f52 := sp2_at (A := labC) (B := strC) (F := fun x s => bif okLb x then some (.tup [slA strC 1 (rs52 x s), iA (ftM x s)]) else none) y t.1
  have f53 := sp2_at (A := labC) (B := strC) (F := fun x s => bif okLb x then some (.tup [slA strC 1 (wr53 x s), iA (ftM x s)]) else none) y t.1
  rw [h1, e1, show rs52 y t.1 = rstM y i by unfold rs52; rw [e1, e2]; rfl] at f52
  rw [h1, e1, show wr53 y t.1 = wrgM y i by unfold wr53; rw [e1, e2]; rfl] at f53
  exact ⟨f52, f53⟩
 have h := LoopRun.list (C := CS W3) (p := 0) (nt := 348) (rd := false) (c := lO (CS W3) 9 0) (step := fun _ (_ : Ts) (s : Unit) => (.inl s : Unit ⊕ Unit)) (fin := id)
  (enc := fun i _ => mkSt [2, 5, 6, 8, 10, 109, 110, 111] [2, 5, 8] 348 [.ptr 2 0 0, .ptr 5 1 0, slA strC 1 (reaM x ck.1), .ptr 8 2 0, slA strC 1 (chM x (covM x)), slA tsC 3 x.2.2.2.1, iA (Int.ofNat (x.2.2.2.1.map tsC.enc).length), iA (Int.ofNat i)] [lbY x, cbX ck, lbY (woM x k)])
  (ex := fun _ => .exit 0) (out := fun _ => mkSt [] [] 348 [] []) (l := x.2.2.2.1) (fun _ _ => True)
  (fun i t s ht _ => by
   refine ⟨?_, trivial⟩
   have hi := lt_len ht
   have hlt : decide (Int.ofNat i < Int.ofNat (x.2.2.2.1.map tsC.enc).length) = true := by rw [e_ts]; exact lt_of hi
   have htm := get_map tsC.enc ht
   have hw := wrap_ix hi hl
   have et : tsAt x i = t := by unfold tsAt; rw [ht]; rfl
   obtain ⟨a1, a2⟩ := rs hok hz ht
   obtain ⟨b1, b2⟩ := rs hokW hzW (show (woM x k).2.2.2.1[i]? = some t from ht)
   have l1 : (rstM x i).length = t.2.2.length := by unfold rstM; rw [et, List.length_map]
   have l2 : (rstM (woM x k) i).length = t.2.2.length := by unfold rstM; rw [show tsAt (woM x k) i = t from et, List.length_map]
   have l3 : (wrgM x i).length = t.2.2.length := by unfold wrgM; rw [et, List.length_map]
   have ln : ∀ m : List ByteArray, m.length = t.2.2.length → (Int.ofNat (m.map strC.enc).length != Int.ofNat (t.2.2.map strC.enc).length) = false := fun m hm => by rw [List.length_map, List.length_map, hm]; simp
   have hT := Nat.le_of_ble_eq_true (K.ws _ (List.mem_of_getElem? ht))
   have lm : ∀ m : List ByteArray, m.length = t.2.2.length → Nat.blt m.length two63 = true := fun m hm => blt_lim (by rw [hm]; exact hT)
   have g6 := spHw (l := reaM x ck.1) t.1 (blt_lim (rea_lim _ hok))
   rw [rea_ch, ch_has hz _ ht, ← rea_ch] at g6
   have g78 := spec78 (l := rstM x i) (m := rstM (woM x k) i) (lm _ l1)
   rw [rst_cmp hz hg] at g78
   have g14 := spHw (l := rstM x i) ck.1 (lm _ l1)
   have g16 := spHw (l := rstM (woM x k) i) ck.1 (lm _ l2)
   rw [rst_after hz hg] at g16
   have hin := inner9 hok hz hk ck ht
   cases his : hasWordM (rstM x i) ck.1 with
   | true =>
    rw [his] at g6 g78 g14
    have hr := (lx x r9ot) ((woM x k).2.2.1.map cbC.enc) ck.1 ck.2.1 ck.2.2.1 ck.2.2.2.1 (ck.2.2.2.2.map intC.enc) ((reaM x ck.1).map strC.enc) ((chM x (covM x)).map strC.enc) i t.1 t.2.1 (t.2.2.map strC.enc) ((rstM x i).map strC.enc) ((rstM (woM x k) i).map strC.enc) ((wrgM x i).map strC.enc) ((wrgM (woM x k) i).map strC.enc)
    rw [hw] at hr
    exact W3_ok.rndN hr ⟨hlt, htm, ⟨rfl, f39⟩, ⟨rfl, a1⟩, ⟨rfl, f39w⟩, ⟨rfl, f39w⟩, ⟨rfl, b1⟩, ⟨rfl, f39⟩, ⟨rfl, a2⟩, ⟨rfl, f39w⟩, ⟨rfl, f39w⟩, ⟨rfl, b2⟩, ln _ l1, ln _ l2, ln _ l3, ⟨rfl, g6⟩, ⟨rfl, g78⟩, ⟨rfl, g14⟩, ⟨rfl, g16⟩, ⟨trivial, trivial, hin.says⟩, trivial, rfl⟩
   | false =>
    rw [his] at g6 g78 g14
    have g18 := spec78 (l := wrgM x i) (m := wrgM (woM x k) i) (lm _ l3)
    rw [(rst_same hz hg his).2, same_refl] at g18
    rw [(rst_same hz hg his).2] at b2
    have hr := (lx x r9of) ((woM x k).2.2.1.map cbC.enc) ck.1 ck.2.1 ck.2.2.1 ck.2.2.2.1 (ck.2.2.2.2.map intC.enc) ((reaM x ck.1).map strC.enc) ((chM x (covM x)).map strC.enc) i t.1 t.2.1 (t.2.2.map strC.enc) ((rstM x i).map strC.enc) ((rstM (woM x k) i).map strC.enc) ((wrgM x i).map strC.enc) ((wrgM x i).map strC.enc)
    rw [hw] at hr
    exact W3_ok.rndN hr ⟨hlt, htm, ⟨rfl, f39⟩, ⟨rfl, a1⟩, ⟨rfl, f39w⟩, ⟨rfl, f39w⟩, ⟨rfl, b1⟩, ⟨rfl, f39⟩, ⟨rfl, a2⟩, ⟨rfl, f39w⟩, ⟨rfl, f39w⟩, ⟨rfl, b2⟩, ln _ l1, ln _ l2, ln _ l3, ⟨rfl, g6⟩, ⟨rfl, g78⟩, ⟨rfl, g14⟩, ⟨rfl, g16⟩, ⟨rfl, g18⟩, ⟨trivial, trivial, hin.says⟩, trivial, rfl⟩)
  (fun s _ => ⟨W3_ok.rndX ((lx x r9ox) ((woM x k).2.2.1.map cbC.enc) ck.1 ck.2.1 ck.2.2.1 ck.2.2.2.1 (ck.2.2.2.2.map intC.enc) ((reaM x ck.1).map strC.enc) ((chM x (covM x)).map strC.enc) x.2.2.2.1.length) ⟨by rw [e_ts]; exact lt_self _, trivial, rfl⟩, by simp⟩)
  x.2.2.2.1 [] () rfl trivial
 exact h
end Go.Vm.S3
