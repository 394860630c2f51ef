/- Strings: bytes, numbers, parts. -/
import Derived.Test.YtbplbhcgcicgfaaGreatDoorS6YZ
import Derived.Test.YtbplbhcgcicgfaaGreatDoorS6Kit
namespace Go.Vm.S6
open Go.Proofs Go.RowKit
set_option maxRecDepth 100000 in
theorem r176D (s : ByteArray) (v : Int) (i : Nat) : roundD (CS SL) 60 0 176 0 42 42 false (loopOf (CS SL) 176 0) [0, 4, 8] [8] [0, 4, 8] [8] [0, 4] [] [strA s, intA v, .itr 8 0] [(false, .siter s i)] [.as 14 false, .as 18 false, .as 22 false] =
    (bif i.blt s.size then (.need ((decide (Int.ofNat (Utf8.decode s i).fst < 48)) = false) (.need ((decide (Int.ofNat (Utf8.decode s i).fst > 57)) = false) (.need ((decide (Int.ofNat s.size > 13)) = false) (.need (EntClosed [(false, .siter s (i + (Utf8.decode s i).snd))]) (.done (some ((.nrm, [.v (.string s), .v (.int .i64 (IntKind.i64.wrap (IntKind.i64.wrap (10 * v) + IntKind.i64.wrap (IntKind.i32.wrap (Int.ofNat (Utf8.decode s i).fst - 48))))), .itr 8 0], [(false, .siter s (i + (Utf8.decode s i).snd))])))))))) else (.need (EntClosed []) (.done (some (((.exit 0), [.v (.string s), .v (.int .i64 v)], [])))))) := by kernel_rfl
set_option maxRecDepth 100000 in
theorem r176B1 (s : ByteArray) (v : Int) (i : Nat) : roundD (CS SL) 60 0 176 0 42 42 false (loopOf (CS SL) 176 0) [0, 4, 8] [8] [0, 4, 8] [8] [2, 3] [] [strA s, intA v, .itr 8 0] [(false, .siter s i)] [.as 14 true] =
    (bif i.blt s.size then (.need ((decide (Int.ofNat (Utf8.decode s i).fst < 48)) = true) (.need (EntClosed []) (.done (some ((.ret, [.v (.int .i64 0), .v (.bool false)], [])))))) else (.need (EntClosed []) (.done (some (((.exit 0), [.bad, .bad], [])))))) := by kernel_rfl
set_option maxRecDepth 100000 in
theorem r176B2 (s : ByteArray) (v : Int) (i : Nat) : roundD (CS SL) 60 0 176 0 42 42 false (loopOf (CS SL) 176 0) [0, 4, 8] [8] [0, 4, 8] [8] [2, 3] [] [strA s, intA v, .itr 8 0] [(false, .siter s i)] [.as 14 false, .as 18 true] =
    (bif i.blt s.size then (.need ((decide (Int.ofNat (Utf8.decode s i).fst < 48)) = false) (.need ((decide (Int.ofNat (Utf8.decode s i).fst > 57)) = true) (.need (EntClosed []) (.done (some ((.ret, [.v (.int .i64 0), .v (.bool false)], []))))))) else (.need (EntClosed []) (.done (some (((.exit 0), [.bad, .bad], [])))))) := by kernel_rfl
set_option maxRecDepth 100000 in
theorem r176B3 (s : ByteArray) (v : Int) (i : Nat) : roundD (CS SL) 60 0 176 0 42 42 false (loopOf (CS SL) 176 0) [0, 4, 8] [8] [0, 4, 8] [8] [2, 3] [] [strA s, intA v, .itr 8 0] [(false, .siter s i)] [.as 14 false, .as 18 false, .as 22 true] =
    (bif i.blt s.size then (.need ((decide (Int.ofNat (Utf8.decode s i).fst < 48)) = false) (.need ((decide (Int.ofNat (Utf8.decode s i).fst > 57)) = false) (.need ((decide (Int.ofNat s.size > 13)) = true) (.need (EntClosed []) (.done (some ((.ret, [.v (.int .i64 0), .v (.bool false)], [])))))))) else (.need (EntClosed []) (.done (some (((.exit 0), [.bad, .bad], [])))))) := by kernel_rfl
set_option maxRecDepth 100000 in
theorem t176r (s : ByteArray) : evTreeD (CS SL) 60 176 [strA s] [.loop 0 [0, 4, 8] [8] [2, 3] [] .ret [intA 0, boolA false] []] =
    (.need (EntClosed [(false, .siter s 0)] ∧ EntClosed [] ∧ Says (CS SL) 0 42 false (.loop (loopOf (CS SL) 176 0)) (mkSt [0, 4, 8] [8] 42 [.v (.string s), .v (.int .i64 0), .itr 8 0] [(false, .siter s 0)]) .ret (mkSt [2, 3] [] 42 [.v (.int .i64 0), .v (.bool false)] [])) (.done (some (.tup [.v (.int .i64 0), .v (.bool false)])))) := by kernel_rfl
set_option maxRecDepth 100000 in
theorem t176a (s : ByteArray) (v : Int) : evTreeD (CS SL) 60 176 [strA s] [.loop 0 [0, 4, 8] [8] [0, 4] [] (.exit 0) [strA s, intA v] [], .as 32 false] =
    (.need (EntClosed [(false, .siter s 0)] ∧ EntClosed [] ∧ Says (CS SL) 0 42 false (.loop (loopOf (CS SL) 176 0)) (mkSt [0, 4, 8] [8] 42 [.v (.string s), .v (.int .i64 0), .itr 8 0] [(false, .siter s 0)]) (.exit 0) (mkSt [0, 4] [] 42 [.v (.string s), .v (.int .i64 v)] [])) (.need ((!(s.toList == (ByteArray.mk #[]).toList)) = false) (.done (some (.tup [.v (.int .i64 v), .v (.bool false)]))))) := by kernel_rfl
set_option maxRecDepth 100000 in
theorem t176b (s : ByteArray) (v : Int) : evTreeD (CS SL) 60 176 [strA s] [.loop 0 [0, 4, 8] [8] [0, 4] [] (.exit 0) [strA s, intA v] [], .as 32 true, .as 36 true] =
    (.need (EntClosed [(false, .siter s 0)] ∧ EntClosed [] ∧ Says (CS SL) 0 42 false (.loop (loopOf (CS SL) 176 0)) (mkSt [0, 4, 8] [8] 42 [.v (.string s), .v (.int .i64 0), .itr 8 0] [(false, .siter s 0)]) (.exit 0) (mkSt [0, 4] [] 42 [.v (.string s), .v (.int .i64 v)] [])) (.need ((!(s.toList == (ByteArray.mk #[]).toList)) = true) (.need ((Int.ofNat s.size == 1) = true) (.done (some (.tup [.v (.int .i64 v), .v (.bool true)])))))) := by kernel_rfl
set_option maxRecDepth 100000 in
theorem t176c (s : ByteArray) (v b : Int) : evTreeD (CS SL) 60 176 [strA s] [.loop 0 [0, 4, 8] [8] [0, 4] [] (.exit 0) [strA s, intA v] [], .as 32 true, .as 36 false, .ld (u8A b)] =
    (.need (EntClosed [(false, .siter s 0)] ∧ EntClosed [] ∧ Says (CS SL) 0 42 false (.loop (loopOf (CS SL) 176 0)) (mkSt [0, 4, 8] [8] 42 [.v (.string s), .v (.int .i64 0), .itr 8 0] [(false, .siter s 0)]) (.exit 0) (mkSt [0, 4] [] 42 [.v (.string s), .v (.int .i64 v)] [])) (.need ((!(s.toList == (ByteArray.mk #[]).toList)) = true) (.need ((Int.ofNat s.size == 1) = false) (.need ((aindex (CS SL) 9 (AV.v (.string s)) (AV.v (.int .i64 0))) = (some (AV.v (.int .u8 b)))) (.done (some (.tup [.v (.int .i64 v), .v (.bool (b != 48))]))))))) := by kernel_rfl
set_option maxRecDepth 100000 in
theorem r91Ma (s : ByteArray) (c b : Int) (i j : Nat) : roundD (CS SL) 60 0 91 0 34 34 false (loopOf (CS SL) 91 0) [0, 1, 5, 6, 7] [] [0, 1, 5, 6, 7] [] [0, 5, 6] [] [strA s, u8A c, nilS, intA (Int.ofNat i), intA (Int.ofNat j)] [] [.as 11 true, .ld (u8A b), .as 18 false] =
    (.need ((decide (Int.ofNat j < Int.ofNat s.size)) = true) (.need ((aindex (CS SL) 9 (AV.v (.string s)) (AV.v (.int .i64 (Int.ofNat j)))) = (some (AV.v (.int .u8 b)))) (.need ((b == c) = false) (.need (EntClosed []) (.done (some ((.nrm, [.v (.string s), .v (.int .u8 c), .v (.slice none 0 0), .v (.int .i64 (Int.ofNat i)), .v (.int .i64 (IntKind.i64.wrap (Int.ofNat j + 1)))], [])))))))) := by kernel_rfl
set_option maxRecDepth 100000 in
theorem r91Ha (s t : ByteArray) (c b : Int) (i j : Nat) : roundD (CS SL) 60 0 91 0 34 34 false (loopOf (CS SL) 91 0) [0, 1, 5, 6, 7] [] [0, 1, 5, 6, 7] [25] [0, 5, 6] [] [strA s, u8A c, nilS, intA (Int.ofNat i), intA (Int.ofNat j)] [] [.as 11 true, .ld (u8A b), .as 18 true, .chk [strA t]] =
    (.need ((decide (Int.ofNat j < Int.ofNat s.size)) = true) (.need ((aindex (CS SL) 9 (AV.v (.string s)) (AV.v (.int .i64 (Int.ofNat j)))) = (some (AV.v (.int .u8 b)))) (.need ((b == c) = true) (.need ((aslice (CS SL) Tr.leaf 9 (AV.v (.string s)) (some (AV.v (.int .i64 (Int.ofNat i)))) (some (AV.v (.int .i64 (Int.ofNat j)))) none) = (some (AV.v (.string t)))) (.need (EntClosed [(false, .arr 1 [.v (.string t)] false)]) (.done (some ((.nrm, [.v (.string s), .v (.int .u8 c), .sl 25 0 1 0 1, .v (.int .i64 (IntKind.i64.wrap (Int.ofNat j + 1))), .v (.int .i64 (IntKind.i64.wrap (Int.ofNat j + 1)))], [(false, .arr 1 [.v (.string t)] false)]))))))))) := by kernel_rfl
set_option maxRecDepth 100000 in
theorem r91Xa (s : ByteArray) (c : Int) (i j : Nat) : roundD (CS SL) 60 0 91 0 34 34 false (loopOf (CS SL) 91 0) [0, 1, 5, 6, 7] [] [0, 1, 5, 6, 7] [] [0, 5, 6] [] [strA s, u8A c, nilS, intA (Int.ofNat i), intA (Int.ofNat j)] [] [.as 11 false] =
    (.need ((decide (Int.ofNat j < Int.ofNat s.size)) = false) (.need (EntClosed []) (.done (some (((.exit 0), [.v (.string s), .v (.slice none 0 0), .v (.int .i64 (Int.ofNat i))], [])))))) := by kernel_rfl
set_option maxRecDepth 100000 in
theorem r91Mb (s : ByteArray) (c b : Int) (i j : Nat) (rs : List AV) (k : Nat) : roundD (CS SL) 60 0 91 0 34 34 false (loopOf (CS SL) 91 0) [0, 1, 5, 6, 7] [25] [0, 1, 5, 6, 7] [25] [0, 5, 6] [25] [strA s, u8A c, .sl 25 0 1 0 k, intA (Int.ofNat i), intA (Int.ofNat j)] [(false, .arr 1 rs false)] [.as 11 true, .ld (u8A b), .as 18 false] =
    (.need ((decide (Int.ofNat j < Int.ofNat s.size)) = true) (.need ((aindex (CS SL) 9 (AV.v (.string s)) (AV.v (.int .i64 (Int.ofNat j)))) = (some (AV.v (.int .u8 b)))) (.need ((b == c) = false) (.need (EntClosed [(false, .arr 1 rs false)]) (.done (some ((.nrm, [.v (.string s), .v (.int .u8 c), .sl 25 0 1 0 k, .v (.int .i64 (Int.ofNat i)), .v (.int .i64 (IntKind.i64.wrap (Int.ofNat j + 1)))], [(false, .arr 1 rs false)])))))))) := by kernel_rfl
set_option maxRecDepth 100000 in
theorem r91Hb (s t : ByteArray) (c b : Int) (i j : Nat) (rs : List AV) (k : Nat) : roundD (CS SL) 60 0 91 0 34 34 false (loopOf (CS SL) 91 0) [0, 1, 5, 6, 7] [25] [0, 1, 5, 6, 7] [25] [0, 5, 6] [25] [strA s, u8A c, .sl 25 0 1 0 k, intA (Int.ofNat i), intA (Int.ofNat j)] [(false, .arr 1 rs false)] [.as 11 true, .ld (u8A b), .as 18 true, .chk [strA t], .chk rs] =
    (.need ((decide (Int.ofNat j < Int.ofNat s.size)) = true) (.need ((aindex (CS SL) 9 (AV.v (.string s)) (AV.v (.int .i64 (Int.ofNat j)))) = (some (AV.v (.int .u8 b)))) (.need ((b == c) = true) (.need ((aslice (CS SL) Tr.leaf 9 (AV.v (.string s)) (some (AV.v (.int .i64 (Int.ofNat i)))) (some (AV.v (.int .i64 (Int.ofNat j)))) none) = (some (AV.v (.string t)))) (.need (k = rs.length ∧ true = true ∧ 1 = 1 ∧ (rs ++ ([.v (.string t)] : List AV)).length * 16 ≤ 35184372088832 ∧ (rs ++ ([.v (.string t)] : List AV)).length ≤ 35184372088832 ∧ 16 ≠ 0) (.need (EntClosed [(false, .arr 1 (rs ++ ([.v (.string t)] : List AV)) false)]) (.done (some ((.nrm, [.v (.string s), .v (.int .u8 c), .sl 25 0 1 0 ((rs ++ ([.v (.string t)] : List AV)).length), .v (.int .i64 (IntKind.i64.wrap (Int.ofNat j + 1))), .v (.int .i64 (IntKind.i64.wrap (Int.ofNat j + 1)))], [(false, .arr 1 (rs ++ ([.v (.string t)] : List AV)) false)])))))))))) := by kernel_rfl
set_option maxRecDepth 100000 in
theorem r91Xb (s : ByteArray) (c : Int) (i j : Nat) (rs : List AV) (k : Nat) : roundD (CS SL) 60 0 91 0 34 34 false (loopOf (CS SL) 91 0) [0, 1, 5, 6, 7] [25] [0, 1, 5, 6, 7] [25] [0, 5, 6] [25] [strA s, u8A c, .sl 25 0 1 0 k, intA (Int.ofNat i), intA (Int.ofNat j)] [(false, .arr 1 rs false)] [.as 11 false] =
    (.need ((decide (Int.ofNat j < Int.ofNat s.size)) = false) (.need (EntClosed [(false, .arr 1 rs false)]) (.done (some (((.exit 0), [.v (.string s), .sl 25 0 1 0 k, .v (.int .i64 (Int.ofNat i))], [(false, .arr 1 rs false)])))))) := by kernel_rfl
set_option maxRecDepth 100000 in
theorem t91a (s t : ByteArray) (c : Int) (i : Nat) : evTreeD (CS SL) 60 91 [strA s, u8A c] [.loop 0 [0, 1, 5, 6, 7] [] [0, 5, 6] [] (.exit 0) [strA s, nilS, intA (Int.ofNat i)] [], .chk [strA t], .cl] =
    (.need (EntClosed [] ∧ EntClosed [] ∧ Says (CS SL) 0 34 false (.loop (loopOf (CS SL) 91 0)) (mkSt [0, 1, 5, 6, 7] [] 34 [.v (.string s), .v (.int .u8 c), .v (.slice none 0 0), .v (.int .i64 0), .v (.int .i64 0)] []) (.exit 0) (mkSt [0, 5, 6] [] 34 [.v (.string s), .v (.slice none 0 0), .v (.int .i64 (Int.ofNat i))] [])) (.need ((aslice (CS SL) Tr.leaf 9 (AV.v (.string s)) (some (AV.v (.int .i64 (Int.ofNat i)))) none none) = (some (AV.v (.string t)))) (.need (CloP 1 1 16 ([.v (.string t)] : List AV) ([.v (.string t)] : List AV)) (.done (some (.rsl 1 [.v (.string t)] false)))))) := by kernel_rfl
set_option maxRecDepth 100000 in
theorem t91b (s t : ByteArray) (c : Int) (i k : Nat) (rs : List AV) : evTreeD (CS SL) 60 91 [strA s, u8A c] [.loop 0 [0, 1, 5, 6, 7] [] [0, 5, 6] [25] (.exit 0) [strA s, .sl 25 0 1 0 k, intA (Int.ofNat i)] [(false, .arr 1 rs false)], .chk [strA t], .cl] =
    (.need (EntClosed [] ∧ EntClosed [(false, .arr 1 rs false)] ∧ Says (CS SL) 0 34 false (.loop (loopOf (CS SL) 91 0)) (mkSt [0, 1, 5, 6, 7] [] 34 [.v (.string s), .v (.int .u8 c), .v (.slice none 0 0), .v (.int .i64 0), .v (.int .i64 0)] []) (.exit 0) (mkSt [0, 5, 6] [25] 34 [.v (.string s), .sl 25 0 1 0 k, .v (.int .i64 (Int.ofNat i))] [(false, .arr 1 rs false)])) (.need ((aslice (CS SL) Tr.leaf 9 (AV.v (.string s)) (some (AV.v (.int .i64 (Int.ofNat i)))) none none) = (some (AV.v (.string t)))) (.need (k = rs.length ∧ CloP 1 1 16 ([.v (.string t)] : List AV) (rs ++ ([.v (.string t)] : List AV))) (.done (some (.rsl 1 (rs ++ ([.v (.string t)] : List AV)) false)))))) := by kernel_rfl
set_option maxRecDepth 100000 in
theorem r90 (es : List AV) (v x : Int) (i : Nat) : roundD (CS SL) 60 0 90 0 18 18 false (loopOf (CS SL) 90 0) [0, 1, 5] [] [0, 1, 5] [] [4] [] [.rsl 1 es false, intA v, intA (Int.ofNat i)] [] [.br [.chk [intA x], .br [] []] []] =
    (bif decide (Int.ofNat i < Int.ofNat es.length) then (.need (es[i]? = (some (AV.v (.int .i64 x)))) (bif x == v then (.need (EntClosed []) (.done (some ((.ret, [.v (.bool true)], []))))) else (.need (EntClosed []) (.done (some ((.nrm, [.rsl 1 es false, .v (.int .i64 v), .v (.int .i64 (IntKind.i64.wrap (Int.ofNat i + 1)))], []))))))) else (.need (EntClosed []) (.done (some (((.exit 0), [.bad], [])))))) := by kernel_rfl
set_option maxRecDepth 100000 in
theorem t90r (es : List AV) (v : Int) : evTreeD (CS SL) 60 90 [.rsl 1 es false, intA v] [.loop 0 [0, 1, 5] [] [4] [] .ret [boolA true] []] =
    (.need (EntClosed [] ∧ EntClosed [] ∧ Says (CS SL) 0 18 false (.loop (loopOf (CS SL) 90 0)) (mkSt [0, 1, 5] [] 18 [.rsl 1 es false, .v (.int .i64 v), .v (.int .i64 0)] []) .ret (mkSt [4] [] 18 [.v (.bool true)] [])) (.done (some (.v (.bool true))))) := by kernel_rfl
set_option maxRecDepth 100000 in
theorem t90e (es : List AV) (v : Int) : evTreeD (CS SL) 60 90 [.rsl 1 es false, intA v] [.loop 0 [0, 1, 5] [] [4] [] (.exit 0) [.bad] []] =
    (.need (EntClosed [] ∧ EntClosed [] ∧ Says (CS SL) 0 18 false (.loop (loopOf (CS SL) 90 0)) (mkSt [0, 1, 5] [] 18 [.rsl 1 es false, .v (.int .i64 v), .v (.int .i64 0)] []) (.exit 0) (mkSt [4] [] 18 [.bad] [])) (.done (some (.v (.bool false))))) := by kernel_rfl
set_option maxRecDepth 100000 in
theorem t150 (a b c : Int) (x y z r q : ByteArray) : evTreeD (CS SL) 60 150 [.agg [intA a, intA b, intA c]] [.sp [intA a] (strA x), .sp [intA b] (strA y), .sp [intA c] (strA z), .sp [.rsl 1 [.v (.string ⟨#[115, 116, 101, 112]⟩), strA x, strA y, strA z] true, .v (.string ⟨#[32]⟩)] (strA r), .ar (strA q)] =
    (.need (asks (CS SL) 171 [.v (.int .i64 a)] (AV.v (.string x))) (.need (asks (CS SL) 171 [.v (.int .i64 b)] (AV.v (.string y))) (.need (asks (CS SL) 171 [.v (.int .i64 c)] (AV.v (.string z))) (.need (asks (CS SL) 148 [.rsl 1 [.v (.string (ByteArray.mk #[115, 116, 101, 112])), .v (.string x), .v (.string y), .v (.string z)] true, .v (.string (ByteArray.mk #[32]))] (AV.v (.string r))) (.need ((abin (CS SL) BinOp.add 9 (Operand.tmp 15) (Operand.const (Value.string (ByteArray.mk #[10]))) (AV.v (.string r)) (AV.v (.string (ByteArray.mk #[10])))) = (some (AV.v (.string q)))) (.done (some (.v (.string q))))))))) := by kernel_rfl
set_option maxRecDepth 100000 in
theorem t195a (s : ByteArray) : evTreeD (CS SL) 60 195 [strA s, strA ⟨#[10]⟩] [.as 10 false] =
    (.need ((decide (Int.ofNat s.size ≥ Int.ofNat (ByteArray.mk #[10]).size)) = false) (.done (some (.v (.bool false))))) := by kernel_rfl
set_option maxRecDepth 100000 in
theorem t195b (s t : ByteArray) (i : Nat) : evTreeD (CS SL) 60 195 [strA s, strA ⟨#[10]⟩] [.as 10 true, .ar (intA (Int.ofNat i)), .chk [strA t]] =
    (.need ((decide (Int.ofNat s.size ≥ Int.ofNat (ByteArray.mk #[10]).size)) = true) (.need ((abin (CS SL) BinOp.sub 3 (Operand.tmp 13) (Operand.tmp 15) (AV.v (.int .i64 (Int.ofNat s.size))) (AV.v (.int .i64 (Int.ofNat (ByteArray.mk #[10]).size)))) = (some (AV.v (.int .i64 (Int.ofNat i))))) (.need ((aslice (CS SL) Tr.leaf 9 (AV.v (.string s)) (some (AV.v (.int .i64 (Int.ofNat i)))) none none) = (some (AV.v (.string t)))) (.done (some (.v (.bool (t.toList == (ByteArray.mk #[10]).toList)))))))) := by kernel_rfl
def bytesI (s : ByteArray) : List Int := s.data.toList.map fun b => Int.ofNat b.toNat
theorem bytesI_len (s : ByteArray) : (bytesI s).length = s.size := by unfold bytesI; rw [List.length_map]; rfl
theorem bytesI_at {s : ByteArray} {i : Nat} {c : Int} (h : (bytesI s)[i]? = some c) : ∃ hi : i < s.size, c = Int.ofNat (s[i]'hi).toNat := by
  have hi : i < s.size := by rw [← bytesI_len]; exact (List.getElem?_eq_some_iff.1 h).1
  refine ⟨hi, ?_⟩
  unfold bytesI at h
  rw [List.getElem?_map, Option.map_eq_some_iff] at h
  obtain ⟨b, hb, rfl⟩ := h
  rw [List.getElem?_eq_some_iff] at hb
  obtain ⟨_, rfl⟩ := hb
  rfl
theorem pure_index {t : TypeId} {s : ByteArray} {i : Nat} (ht : Tryz.prog.underlying t = some .string) (hi : i < s.size) : pureRun Tryz.prog (Instr.index t (.string s) (.int .i64 (Int.ofNat i))) = some (.int .u8 (s[i]'hi).toNat) := by
  unfold Instr.index
  simp only [asIntOf, pureRun_bind, pureRun_pure, Option.bind_some, pureRun_underlying ht]
  have h0 : (0 : Int) ≤ Int.ofNat i := Int.natCast_nonneg i
  have h1 : (Int.ofNat i).toNat = i := rfl
  rw [if_pos h0, h1, ByteArray.getElem?_lt' s _ hi]
  rfl
theorem str_at (S : Specs) {s : ByteArray} {i : Nat} {c : Int} (h : (bytesI s)[i]? = some c) : aindex (CS S) 9 (strA s) (intA (Int.ofNat i)) = some (u8A c) := by
  obtain ⟨hi, rfl⟩ := bytesI_at h
  have e : aindex (CS S) 9 (strA s) (intA (Int.ofNat i)) = (pureRun Tryz.prog (Instr.index 9 (.string s) (.int .i64 (Int.ofNat i)))).bind fun r => bif Value.single r then some (.v r) else none := rfl
  rw [e, pure_index Tryz.underlying9 hi]
  rfl
theorem decode_at {s : ByteArray} {i : Nat} {c : Int} (h : (bytesI s)[i]? = some c) : (c < 128 ∧ Utf8.decode s i = (c.toNat, 1) ∧ 0 ≤ c) ∨ (128 ≤ c ∧ 128 ≤ (Utf8.decode s i).1) := by
  obtain ⟨hi, rfl⟩ := bytesI_at h
  by_cases hb : (s[i]'hi).toNat < 128
  · exact .inl ⟨by simp only [Int.ofNat_eq_natCast]; omega, decode_ascii s i hi hb, Int.natCast_nonneg _⟩
  · exact .inr ⟨by simp only [Int.ofNat_eq_natCast]; omega, (decode_high s i hi (by omega)).1⟩
/-! ### Numbers -/
def digI (c : Int) : Bool := decide (48 ≤ c) && decide (c ≤ 57)
def numI : List Int → Int → Int
  | [], v => v
  | c :: r, v => numI r (10 * v + (c - 48))
def stpI (n : Nat) (_ : Nat) (c v : Int) : Int ⊕ Option Int := bif digI c && Nat.ble n 13 then .inl (10 * v + (c - 48)) else .inr none
theorem goL_stp (n : Nat) : ∀ (l : List Int) (i : Nat) (v : Int), goL (stpI n) some i l v = bif l.all fun c => digI c && Nat.ble n 13 then some (numI l v) else none
  | [], _, _ => rfl
  | c :: l, i, v => by
    rw [goL, stpI, List.all_cons]
    cases h : digI c && Nat.ble n 13 with
    | true => simp only [cond_true, Bool.true_and]; exact goL_stp n l (i + 1) _
    | false => rfl
def vBd (i : Nat) (v : Int) : Prop := 0 ≤ v ∧ v < 10 ^ i
theorem vBd_next {i : Nat} {v c : Int} (h : vBd i v) (hi : i < 13) (hc : digI c = true) : vBd (i + 1) (10 * v + (c - 48)) ∧ IntKind.i64.wrap (10 * v) = 10 * v ∧ IntKind.i64.wrap (10 * v + (c - 48)) = 10 * v + (c - 48) ∧ 0 ≤ c - 48 ∧ c - 48 ≤ 9 := by
  obtain ⟨h1, h2⟩ := h
  unfold digI at hc
  simp only [Bool.and_eq_true, decide_eq_true_eq] at hc
  have h3 : (10 : Int) ^ (i + 1) ≤ 10 ^ 13 := by
    have : (10 : Nat) ^ (i + 1) ≤ 10 ^ 13 := Nat.pow_le_pow_right (by omega) (by omega)
    exact_mod_cast this
  have h4 : (10 : Int) ^ (i + 1) = 10 ^ i * 10 := Int.pow_succ 10 i
  have h5 : (10 : Int) ^ 13 = 10000000000000 := by decide
  refine ⟨⟨by omega, by omega⟩, wrap_in (by omega) (by omega), wrap_in (by omega) (by omega), by omega, by omega⟩
theorem i32_small {d : Int} (h0 : 0 ≤ d) (h1 : d ≤ 9) : IntKind.i64.wrap (IntKind.i32.wrap d) = d := by
  have : IntKind.i32.wrap d = d := by simp [IntKind.wrap, IntKind.bits, IntKind.signed]; omega
  rw [this]; exact wrap_in (by omega) (by omega)
def exI : Option Int → Ex
  | some _ => .exit 0
  | none => .ret
theorem loop176 (s : ByteArray) : LoopRun (CS SL) 0 42 false (loopOf (CS SL) 176 0) (mkSt [0, 4, 8] [8] 42 [strA s, intA 0, .itr 8 0] [(false, .siter s 0)])
    (exI (goL (stpI s.size) some 0 (bytesI s) 0)) (match goL (stpI s.size) some 0 (bytesI s) 0 with | some v => mkSt [0, 4] [] 42 [strA s, intA v] [] | none => mkSt [2, 3] [] 42 [intA 0, boolA false] []) := by
  have h := LoopRun.list (C := CS SL) (p := 0) (nt := 42) (rd := false) (c := loopOf (CS SL) 176 0) (step := stpI s.size) (fin := some) (enc := fun i v => mkSt [0, 4, 8] [8] 42 [strA s, intA v, .itr 8 0] [(false, .siter s i)])
    (ex := exI) (out := fun t => match t with | some v => mkSt [0, 4] [] 42 [strA s, intA v] [] | none => mkSt [2, 3] [] 42 [intA 0, boolA false] []) (l := bytesI s) (fun i v => vBd i v)
    (fun i c v hc hv => by
      have hi : i < s.size := by rw [← bytesI_len]; exact (List.getElem?_eq_some_iff.1 hc).1
      have hlt : i.blt s.size = true := Nat.ble_eq_true_of_le hi
      unfold stpI
      rcases decode_at hc with ⟨h1, h2, h3⟩ | ⟨h1, h2⟩
      · have e : Int.ofNat c.toNat = c := Int.toNat_of_nonneg h3
        cases hd : digI c with
        | true =>
          have hd' := hd
          unfold digI at hd'
          simp only [Bool.and_eq_true, decide_eq_true_eq] at hd'
          have g1 : decide (c < 48) = false := by simp only [decide_eq_false_iff_not]; omega
          have g2 : decide (c > 57) = false := by simp only [decide_eq_false_iff_not]; omega
          cases hn : Nat.ble s.size 13 with
          | true =>
            have hn' := Nat.le_of_ble_eq_true hn
            have g3 : decide (Int.ofNat s.size > 13) = false := by simp only [decide_eq_false_iff_not, Int.ofNat_eq_natCast]; omega
            obtain ⟨q1, q2, q3, q4, q5⟩ := vBd_next hv (by omega) hd
            have hr := r176D s v i
            rw [hlt, h2] at hr
            simp only [e] at hr
            rw [i32_small q4 q5, q2, q3] at hr
            exact ⟨SL_ok.rndN hr ⟨g1, g2, g3, trivial, rfl⟩, q1⟩
          | false =>
            have hn' : 13 < s.size := by
              rcases Nat.lt_or_ge 13 s.size with h | h
              · exact h
              · rw [Nat.ble_eq_true_of_le h] at hn; cases hn
            have g3 : decide (Int.ofNat s.size > 13) = true := by simp only [decide_eq_true_eq, Int.ofNat_eq_natCast]; omega
            have hr := r176B3 s v i
            rw [hlt, h2] at hr
            simp only [e] at hr
            exact ⟨SL_ok.rndR hr ⟨g1, g2, g3, trivial, rfl⟩, by simp [exI]⟩
        | false =>
          by_cases hl : c < 48
          · have hr := r176B1 s v i
            rw [hlt, h2] at hr
            simp only [e] at hr
            exact ⟨SL_ok.rndR hr ⟨decide_eq_true hl, trivial, rfl⟩, by simp [exI]⟩
          · have hg : c > 57 := by
              unfold digI at hd
              by_cases h : c > 57
              · exact h
              · rw [decide_eq_true (show 48 ≤ c by omega), decide_eq_true (show c ≤ 57 by omega)] at hd; cases hd
            have hr := r176B2 s v i
            rw [hlt, h2] at hr
            simp only [e] at hr
            exact ⟨SL_ok.rndR hr ⟨decide_eq_false hl, decide_eq_true hg, trivial, rfl⟩, by simp [exI]⟩
      · have hd : digI c = false := by
          unfold digI
          rw [decide_eq_false (show ¬ c ≤ 57 by omega), Bool.and_false]
        rw [hd]
        have hr := r176B2 s v i
        rw [hlt] at hr
        exact ⟨SL_ok.rndR hr ⟨by simp only [decide_eq_false_iff_not, Int.ofNat_eq_natCast]; omega, by simp only [decide_eq_true_eq, Int.ofNat_eq_natCast]; omega, trivial, rfl⟩, by simp [exI]⟩)
    (fun v _ => by
      rw [bytesI_len]
      have hlt : s.size.blt s.size = false := by rw [Bool.eq_false_iff]; intro h; have := Nat.le_of_ble_eq_true h; omega
      have hr := r176D s v s.size
      rw [hlt] at hr
      exact ⟨SL_ok.rndX hr ⟨trivial, rfl⟩, by simp [exI]⟩)
    (bytesI s) [] 0 rfl ⟨by decide, by decide⟩
  exact h
theorem toList_nil (s : ByteArray) : (!(s.toList == ByteArray.toList { data := #[] })) = !(Int.ofNat s.size == 0) := by
  rw [ByteArray.toList_eq, ByteArray.toList_eq]
  have : s.size = s.data.toList.length := rfl
  rw [this]
  cases s.data.toList <;> simp <;> omega
/-- The program's number. -/
def intV (s : ByteArray) : Option Int := goL (stpI s.size) some 0 (bytesI s) 0
def fstI (s : ByteArray) : Int := ((bytesI s)[0]?).getD 0
def intT (s : ByteArray) : AV := match intV s with
  | none => .tup [intA 0, boolA false]
  | some v => bif Int.ofNat s.size == 0 then .tup [intA v, boolA false] else bif Int.ofNat s.size == 1 then .tup [intA v, boolA true] else .tup [intA v, boolA (fstI s != 48)]
def intG : List AV → Option AV := sp1 strC fun s => some (intT s)
theorem fst_at (S : Specs) {s : ByteArray} (h : (Int.ofNat s.size == 0) = false) : aindex (CS S) 9 (strA s) (intA 0) = some (u8A (fstI s)) := by
  have hs : 0 < (bytesI s).length := by rw [bytesI_len]; simp only [beq_eq_false_iff_ne, ne_eq, Int.ofNat_eq_natCast] at h; omega
  have : (bytesI s)[0]? = some (fstI s) := by unfold fstI; rw [List.getElem?_eq_getElem hs]; rfl
  exact str_at S this
theorem h176 : Holds 176 intG := holds1 fun s r hr => by
  simp only [Option.some.injEq] at hr; subst hr
  have h := loop176 s
  unfold intT
  unfold intV
  cases hg : goL (stpI s.size) some 0 (bytesI s) 0 with
  | none => rw [hg] at h; exact SL_ok.tr (t176r s) ⟨⟨trivial, trivial, h.says⟩, rfl⟩
  | some v =>
    rw [hg] at h
    have hn := toList_nil s
    simp only
    cases h0 : Int.ofNat s.size == 0 with
    | true =>
      rw [h0] at hn
      exact SL_ok.tr (t176a s v) ⟨⟨trivial, trivial, h.says⟩, hn, rfl⟩
    | false =>
      rw [h0] at hn
      rw [cond_false]
      cases h1 : Int.ofNat s.size == 1 with
      | true => exact SL_ok.tr (t176b s v) ⟨⟨trivial, trivial, h.says⟩, hn, h1, rfl⟩
      | false => exact SL_ok.tr (t176c s v (fstI s)) ⟨⟨trivial, trivial, h.says⟩, hn, h1, fst_at SL h0, rfl⟩
/-! ### The reference's number -/
end Go.Vm.S6
