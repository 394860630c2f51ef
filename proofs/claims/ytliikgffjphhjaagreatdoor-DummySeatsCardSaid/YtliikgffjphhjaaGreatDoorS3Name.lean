/- Names: of the reference, byte by byte, and of the program, rune by rune. -/
import Derived.Test.YtliikgffjphhjaaGreatDoorS3A3
import Derived.Test.YtliikgffjphhjaaGreatDoorVmH
import Derived.Laws.RangeString
import Derived.Laws.RangeAny
namespace Go.Vm.S3
open Go.Proofs Go.RowKit
set_option maxRecDepth 100000 in
theorem r207 (S : Specs) (s : ByteArray) (i : Nat) : roundD (CS S) 60 0 207 0 51 51 false (loopOf (CS S) 207 0) [0, 7] [7] [0, 7] [7] [2] [] [strA s, .itr 7 0] [(false, .siter s i)] [] =
    (bif i.blt s.size then (bif decide (Int.ofNat (Utf8.decode s i).fst ≥ 97) then (bif decide (Int.ofNat (Utf8.decode s i).fst ≤ 122) then (.need (EntClosed [(false, .siter s (i + (Utf8.decode s i).snd))]) (.done (some ((.nrm, [.v (.string s), .itr 7 0], [(false, .siter s (i + (Utf8.decode s i).snd))]))))) else (bif decide (Int.ofNat (Utf8.decode s i).fst ≥ 65) then (bif !decide (Int.ofNat (Utf8.decode s i).fst ≤ 90) then (bif Int.ofNat i == 0 then (.need (EntClosed []) (.done (some ((.ret, [.v (.bool false)], []))))) else (bif Int.ofNat (Utf8.decode s i).fst != 95 then (bif decide (Int.ofNat (Utf8.decode s i).fst < 48) then (.need (EntClosed []) (.done (some ((.ret, [.v (.bool false)], []))))) else (bif decide (Int.ofNat (Utf8.decode s i).fst > 57) then (.need (EntClosed []) (.done (some ((.ret, [.v (.bool false)], []))))) else (.need (EntClosed [(false, .siter s (i + (Utf8.decode s i).snd))]) (.done (some ((.nrm, [.v (.string s), .itr 7 0], [(false, .siter s (i + (Utf8.decode s i).snd))]))))))) else (.need (EntClosed [(false, .siter s (i + (Utf8.decode s i).snd))]) (.done (some ((.nrm, [.v (.string s), .itr 7 0], [(false, .siter s (i + (Utf8.decode s i).snd))]))))))) else (.need (EntClosed [(false, .siter s (i + (Utf8.decode s i).snd))]) (.done (some ((.nrm, [.v (.string s), .itr 7 0], [(false, .siter s (i + (Utf8.decode s i).snd))])))))) else (bif Int.ofNat i == 0 then (.need (EntClosed []) (.done (some ((.ret, [.v (.bool false)], []))))) else (bif Int.ofNat (Utf8.decode s i).fst != 95 then (bif decide (Int.ofNat (Utf8.decode s i).fst < 48) then (.need (EntClosed []) (.done (some ((.ret, [.v (.bool false)], []))))) else (bif decide (Int.ofNat (Utf8.decode s i).fst > 57) then (.need (EntClosed []) (.done (some ((.ret, [.v (.bool false)], []))))) else (.need (EntClosed [(false, .siter s (i + (Utf8.decode s i).snd))]) (.done (some ((.nrm, [.v (.string s), .itr 7 0], [(false, .siter s (i + (Utf8.decode s i).snd))]))))))) else (.need (EntClosed [(false, .siter s (i + (Utf8.decode s i).snd))]) (.done (some ((.nrm, [.v (.string s), .itr 7 0], [(false, .siter s (i + (Utf8.decode s i).snd))]))))))))) else (bif decide (Int.ofNat (Utf8.decode s i).fst ≥ 65) then (bif !decide (Int.ofNat (Utf8.decode s i).fst ≤ 90) then (bif Int.ofNat i == 0 then (.need (EntClosed []) (.done (some ((.ret, [.v (.bool false)], []))))) else (bif Int.ofNat (Utf8.decode s i).fst != 95 then (bif decide (Int.ofNat (Utf8.decode s i).fst < 48) then (.need (EntClosed []) (.done (some ((.ret, [.v (.bool false)], []))))) else (bif decide (Int.ofNat (Utf8.decode s i).fst > 57) then (.need (EntClosed []) (.done (some ((.ret, [.v (.bool false)], []))))) else (.need (EntClosed [(false, .siter s (i + (Utf8.decode s i).snd))]) (.done (some ((.nrm, [.v (.string s), .itr 7 0], [(false, .siter s (i + (Utf8.decode s i).snd))]))))))) else (.need (EntClosed [(false, .siter s (i + (Utf8.decode s i).snd))]) (.done (some ((.nrm, [.v (.string s), .itr 7 0], [(false, .siter s (i + (Utf8.decode s i).snd))]))))))) else (.need (EntClosed [(false, .siter s (i + (Utf8.decode s i).snd))]) (.done (some ((.nrm, [.v (.string s), .itr 7 0], [(false, .siter s (i + (Utf8.decode s i).snd))])))))) else (bif Int.ofNat i == 0 then (.need (EntClosed []) (.done (some ((.ret, [.v (.bool false)], []))))) else (bif Int.ofNat (Utf8.decode s i).fst != 95 then (bif decide (Int.ofNat (Utf8.decode s i).fst < 48) then (.need (EntClosed []) (.done (some ((.ret, [.v (.bool false)], []))))) else (bif decide (Int.ofNat (Utf8.decode s i).fst > 57) then (.need (EntClosed []) (.done (some ((.ret, [.v (.bool false)], []))))) else (.need (EntClosed [(false, .siter s (i + (Utf8.decode s i).snd))]) (.done (some ((.nrm, [.v (.string s), .itr 7 0], [(false, .siter s (i + (Utf8.decode s i).snd))]))))))) else (.need (EntClosed [(false, .siter s (i + (Utf8.decode s i).snd))]) (.done (some ((.nrm, [.v (.string s), .itr 7 0], [(false, .siter s (i + (Utf8.decode s i).snd))]))))))))) else (.need (EntClosed []) (.done (some (((.exit 0), [.bad], [])))))) := by kernel_rfl
set_option maxRecDepth 100000 in
theorem t207r (S : Specs) (s : ByteArray) : evTreeD (CS S) 60 207 [strA s] [.loop 0 [0, 7] [7] [2] [] .ret [boolA false] []] =
    (.need (EntClosed [(false, .siter s 0)] ∧ EntClosed [] ∧ Says (CS S) 0 51 false (.loop (loopOf (CS S) 207 0)) (mkSt [0, 7] [7] 51 [.v (.string s), .itr 7 0] [(false, .siter s 0)]) .ret (mkSt [2] [] 51 [.v (.bool false)] [])) (.done (some (.v (.bool false))))) := by kernel_rfl
set_option maxRecDepth 100000 in
theorem t207e (S : Specs) (s : ByteArray) : evTreeD (CS S) 60 207 [strA s] [.loop 0 [0, 7] [7] [0] [] (.exit 0) [strA s] []] =
    (.need (EntClosed [(false, .siter s 0)] ∧ EntClosed [] ∧ Says (CS S) 0 51 false (.loop (loopOf (CS S) 207 0)) (mkSt [0, 7] [7] 51 [.v (.string s), .itr 7 0] [(false, .siter s 0)]) (.exit 0) (mkSt [0] [] 51 [.v (.string s)] [])) (bif !s.toList == (ByteArray.mk #[]).toList then (.done (some (.v (.bool (decide (Int.ofNat s.size ≤ 24)))))) else (.done (some (.v (.bool false)))))) := by kernel_rfl
set_option maxRecDepth 100000 in
theorem r179 (S : Specs) (s : ByteArray) (i : Nat) (c : Int) : roundD (CS S) 60 0 179 0 68 68 false (loopOf (CS S) 179 0) [0, 3] [] [0, 3] [] [2] [] [strA s, intA (Int.ofNat i)] [] [.ld (u8A c), .ld (u8A c), .ld (u8A c), .ld (u8A c), .ld (u8A c), .ld (u8A c), .ld (u8A c), .ld (u8A c)] =
    (bif decide (Int.ofNat i < Int.ofNat s.size) then (.need ((aindex (CS S) 9 (AV.v (.string s)) (AV.v (.int .i64 (Int.ofNat i)))) = (some (AV.v (.int .u8 c)))) (bif decide (c ≥ 65) then (.need ((aindex (CS S) 9 (AV.v (.string s)) (AV.v (.int .i64 (Int.ofNat i)))) = (some (AV.v (.int .u8 c)))) (bif decide (c ≤ 90) then (.need ((aindex (CS S) 9 (AV.v (.string s)) (AV.v (.int .i64 (Int.ofNat i)))) = (some (AV.v (.int .u8 c)))) (bif decide (c ≥ 48) then (.need ((aindex (CS S) 9 (AV.v (.string s)) (AV.v (.int .i64 (Int.ofNat i)))) = (some (AV.v (.int .u8 c)))) (bif decide (c ≤ 57) then (.need (EntClosed []) (.done (some ((.nrm, [.v (.string s), .v (.int .i64 (IntKind.i64.wrap (Int.ofNat i + 1)))], []))))) else (.need ((aindex (CS S) 9 (AV.v (.string s)) (AV.v (.int .i64 (Int.ofNat i)))) = (some (AV.v (.int .u8 c)))) (.need (EntClosed []) (.done (some ((.nrm, [.v (.string s), .v (.int .i64 (IntKind.i64.wrap (Int.ofNat i + 1)))], [])))))))) else (.need ((aindex (CS S) 9 (AV.v (.string s)) (AV.v (.int .i64 (Int.ofNat i)))) = (some (AV.v (.int .u8 c)))) (.need (EntClosed []) (.done (some ((.nrm, [.v (.string s), .v (.int .i64 (IntKind.i64.wrap (Int.ofNat i + 1)))], [])))))))) else (.need ((aindex (CS S) 9 (AV.v (.string s)) (AV.v (.int .i64 (Int.ofNat i)))) = (some (AV.v (.int .u8 c)))) (bif decide (c ≥ 97) then (.need ((aindex (CS S) 9 (AV.v (.string s)) (AV.v (.int .i64 (Int.ofNat i)))) = (some (AV.v (.int .u8 c)))) (.need ((aindex (CS S) 9 (AV.v (.string s)) (AV.v (.int .i64 (Int.ofNat i)))) = (some (AV.v (.int .u8 c)))) (bif decide (c ≥ 48) then (.need ((aindex (CS S) 9 (AV.v (.string s)) (AV.v (.int .i64 (Int.ofNat i)))) = (some (AV.v (.int .u8 c)))) (bif decide (c ≤ 57) then (bif !decide (c ≤ 122) then (bif Int.ofNat i == 0 then (.need (EntClosed []) (.done (some ((.ret, [.v (.bool false)], []))))) else (.need (EntClosed []) (.done (some ((.nrm, [.v (.string s), .v (.int .i64 (IntKind.i64.wrap (Int.ofNat i + 1)))], [])))))) else (.need (EntClosed []) (.done (some ((.nrm, [.v (.string s), .v (.int .i64 (IntKind.i64.wrap (Int.ofNat i + 1)))], [])))))) else (.need ((aindex (CS S) 9 (AV.v (.string s)) (AV.v (.int .i64 (Int.ofNat i)))) = (some (AV.v (.int .u8 c)))) (bif !decide (c ≤ 122) then (bif Int.ofNat i == 0 then (.need (EntClosed []) (.done (some ((.ret, [.v (.bool false)], []))))) else (bif !c == 95 then (.need (EntClosed []) (.done (some ((.ret, [.v (.bool false)], []))))) else (.need (EntClosed []) (.done (some ((.nrm, [.v (.string s), .v (.int .i64 (IntKind.i64.wrap (Int.ofNat i + 1)))], []))))))) else (.need (EntClosed []) (.done (some ((.nrm, [.v (.string s), .v (.int .i64 (IntKind.i64.wrap (Int.ofNat i + 1)))], []))))))))) else (.need ((aindex (CS S) 9 (AV.v (.string s)) (AV.v (.int .i64 (Int.ofNat i)))) = (some (AV.v (.int .u8 c)))) (bif !decide (c ≤ 122) then (bif Int.ofNat i == 0 then (.need (EntClosed []) (.done (some ((.ret, [.v (.bool false)], []))))) else (bif !c == 95 then (.need (EntClosed []) (.done (some ((.ret, [.v (.bool false)], []))))) else (.need (EntClosed []) (.done (some ((.nrm, [.v (.string s), .v (.int .i64 (IntKind.i64.wrap (Int.ofNat i + 1)))], []))))))) else (.need (EntClosed []) (.done (some ((.nrm, [.v (.string s), .v (.int .i64 (IntKind.i64.wrap (Int.ofNat i + 1)))], [])))))))))) else (.need ((aindex (CS S) 9 (AV.v (.string s)) (AV.v (.int .i64 (Int.ofNat i)))) = (some (AV.v (.int .u8 c)))) (bif decide (c ≥ 48) then (.need ((aindex (CS S) 9 (AV.v (.string s)) (AV.v (.int .i64 (Int.ofNat i)))) = (some (AV.v (.int .u8 c)))) (bif decide (c ≤ 57) then (bif Int.ofNat i == 0 then (.need (EntClosed []) (.done (some ((.ret, [.v (.bool false)], []))))) else (.need (EntClosed []) (.done (some ((.nrm, [.v (.string s), .v (.int .i64 (IntKind.i64.wrap (Int.ofNat i + 1)))], [])))))) else (.need ((aindex (CS S) 9 (AV.v (.string s)) (AV.v (.int .i64 (Int.ofNat i)))) = (some (AV.v (.int .u8 c)))) (bif Int.ofNat i == 0 then (.need (EntClosed []) (.done (some ((.ret, [.v (.bool false)], []))))) else (bif !c == 95 then (.need (EntClosed []) (.done (some ((.ret, [.v (.bool false)], []))))) else (.need (EntClosed []) (.done (some ((.nrm, [.v (.string s), .v (.int .i64 (IntKind.i64.wrap (Int.ofNat i + 1)))], [])))))))))) else (.need ((aindex (CS S) 9 (AV.v (.string s)) (AV.v (.int .i64 (Int.ofNat i)))) = (some (AV.v (.int .u8 c)))) (bif Int.ofNat i == 0 then (.need (EntClosed []) (.done (some ((.ret, [.v (.bool false)], []))))) else (bif !c == 95 then (.need (EntClosed []) (.done (some ((.ret, [.v (.bool false)], []))))) else (.need (EntClosed []) (.done (some ((.nrm, [.v (.string s), .v (.int .i64 (IntKind.i64.wrap (Int.ofNat i + 1)))], [])))))))))))))) else (.need ((aindex (CS S) 9 (AV.v (.string s)) (AV.v (.int .i64 (Int.ofNat i)))) = (some (AV.v (.int .u8 c)))) (bif decide (c ≥ 97) then (.need ((aindex (CS S) 9 (AV.v (.string s)) (AV.v (.int .i64 (Int.ofNat i)))) = (some (AV.v (.int .u8 c)))) (.need ((aindex (CS S) 9 (AV.v (.string s)) (AV.v (.int .i64 (Int.ofNat i)))) = (some (AV.v (.int .u8 c)))) (bif decide (c ≥ 48) then (.need ((aindex (CS S) 9 (AV.v (.string s)) (AV.v (.int .i64 (Int.ofNat i)))) = (some (AV.v (.int .u8 c)))) (bif decide (c ≤ 57) then (bif !decide (c ≤ 122) then (bif Int.ofNat i == 0 then (.need (EntClosed []) (.done (some ((.ret, [.v (.bool false)], []))))) else (.need (EntClosed []) (.done (some ((.nrm, [.v (.string s), .v (.int .i64 (IntKind.i64.wrap (Int.ofNat i + 1)))], [])))))) else (.need (EntClosed []) (.done (some ((.nrm, [.v (.string s), .v (.int .i64 (IntKind.i64.wrap (Int.ofNat i + 1)))], [])))))) else (.need ((aindex (CS S) 9 (AV.v (.string s)) (AV.v (.int .i64 (Int.ofNat i)))) = (some (AV.v (.int .u8 c)))) (bif !decide (c ≤ 122) then (bif Int.ofNat i == 0 then (.need (EntClosed []) (.done (some ((.ret, [.v (.bool false)], []))))) else (bif !c == 95 then (.need (EntClosed []) (.done (some ((.ret, [.v (.bool false)], []))))) else (.need (EntClosed []) (.done (some ((.nrm, [.v (.string s), .v (.int .i64 (IntKind.i64.wrap (Int.ofNat i + 1)))], []))))))) else (.need (EntClosed []) (.done (some ((.nrm, [.v (.string s), .v (.int .i64 (IntKind.i64.wrap (Int.ofNat i + 1)))], []))))))))) else (.need ((aindex (CS S) 9 (AV.v (.string s)) (AV.v (.int .i64 (Int.ofNat i)))) = (some (AV.v (.int .u8 c)))) (bif !decide (c ≤ 122) then (bif Int.ofNat i == 0 then (.need (EntClosed []) (.done (some ((.ret, [.v (.bool false)], []))))) else (bif !c == 95 then (.need (EntClosed []) (.done (some ((.ret, [.v (.bool false)], []))))) else (.need (EntClosed []) (.done (some ((.nrm, [.v (.string s), .v (.int .i64 (IntKind.i64.wrap (Int.ofNat i + 1)))], []))))))) else (.need (EntClosed []) (.done (some ((.nrm, [.v (.string s), .v (.int .i64 (IntKind.i64.wrap (Int.ofNat i + 1)))], [])))))))))) else (.need ((aindex (CS S) 9 (AV.v (.string s)) (AV.v (.int .i64 (Int.ofNat i)))) = (some (AV.v (.int .u8 c)))) (bif decide (c ≥ 48) then (.need ((aindex (CS S) 9 (AV.v (.string s)) (AV.v (.int .i64 (Int.ofNat i)))) = (some (AV.v (.int .u8 c)))) (bif decide (c ≤ 57) then (bif Int.ofNat i == 0 then (.need (EntClosed []) (.done (some ((.ret, [.v (.bool false)], []))))) else (.need (EntClosed []) (.done (some ((.nrm, [.v (.string s), .v (.int .i64 (IntKind.i64.wrap (Int.ofNat i + 1)))], [])))))) else (.need ((aindex (CS S) 9 (AV.v (.string s)) (AV.v (.int .i64 (Int.ofNat i)))) = (some (AV.v (.int .u8 c)))) (bif Int.ofNat i == 0 then (.need (EntClosed []) (.done (some ((.ret, [.v (.bool false)], []))))) else (bif !c == 95 then (.need (EntClosed []) (.done (some ((.ret, [.v (.bool false)], []))))) else (.need (EntClosed []) (.done (some ((.nrm, [.v (.string s), .v (.int .i64 (IntKind.i64.wrap (Int.ofNat i + 1)))], [])))))))))) else (.need ((aindex (CS S) 9 (AV.v (.string s)) (AV.v (.int .i64 (Int.ofNat i)))) = (some (AV.v (.int .u8 c)))) (bif Int.ofNat i == 0 then (.need (EntClosed []) (.done (some ((.ret, [.v (.bool false)], []))))) else (bif !c == 95 then (.need (EntClosed []) (.done (some ((.ret, [.v (.bool false)], []))))) else (.need (EntClosed []) (.done (some ((.nrm, [.v (.string s), .v (.int .i64 (IntKind.i64.wrap (Int.ofNat i + 1)))], [])))))))))))))) else (.need (EntClosed []) (.done (some (((.exit 0), [.bad], [])))))) := by kernel_rfl
set_option maxRecDepth 100000 in
theorem t179r (S : Specs) (s : ByteArray) : evTreeD (CS S) 60 179 [strA s] [.loop 0 [0, 3] [] [2] [] .ret [boolA false] []] =
    (bif Int.ofNat s.size == 0 then (.done (some (.v (.bool false)))) else (bif decide (Int.ofNat s.size > 24) then (.done (some (.v (.bool false)))) else (.need (EntClosed [] ∧ EntClosed [] ∧ Says (CS S) 0 68 false (.loop (loopOf (CS S) 179 0)) (mkSt [0, 3] [] 68 [.v (.string s), .v (.int .i64 0)] []) .ret (mkSt [2] [] 68 [.v (.bool false)] [])) (.done (some (.v (.bool false))))))) := by kernel_rfl
set_option maxRecDepth 100000 in
theorem t179e (S : Specs) (s : ByteArray) : evTreeD (CS S) 60 179 [strA s] [.loop 0 [0, 3] [] [2] [] (.exit 0) [.bad] []] =
    (bif Int.ofNat s.size == 0 then (.done (some (.v (.bool false)))) else (bif decide (Int.ofNat s.size > 24) then (.done (some (.v (.bool false)))) else (.need (EntClosed [] ∧ EntClosed [] ∧ Says (CS S) 0 68 false (.loop (loopOf (CS S) 179 0)) (mkSt [0, 3] [] 68 [.v (.string s), .v (.int .i64 0)] []) (.exit 0) (mkSt [2] [] 68 [.bad] [])) (.done (some (.v (.bool true))))))) := by kernel_rfl
set_option maxRecDepth 100000 in
theorem r207x (S : Specs) (s : ByteArray) (i : Nat) : roundD (CS S) 60 0 207 0 51 51 false (loopOf (CS S) 207 0) [0, 7] [7] [0, 7] [7] [0] [] [strA s, .itr 7 0] [(false, .siter s i)] [] =
    (bif i.blt s.size then (bif decide (Int.ofNat (Utf8.decode s i).fst ≥ 97) then (bif decide (Int.ofNat (Utf8.decode s i).fst ≤ 122) then (.need (EntClosed [(false, .siter s (i + (Utf8.decode s i).snd))]) (.done (some ((.nrm, [.v (.string s), .itr 7 0], [(false, .siter s (i + (Utf8.decode s i).snd))]))))) else (bif decide (Int.ofNat (Utf8.decode s i).fst ≥ 65) then (bif !decide (Int.ofNat (Utf8.decode s i).fst ≤ 90) then (bif Int.ofNat i == 0 then (.need (EntClosed []) (.done (some ((.ret, [.v (.string s)], []))))) else (bif Int.ofNat (Utf8.decode s i).fst != 95 then (bif decide (Int.ofNat (Utf8.decode s i).fst < 48) then (.need (EntClosed []) (.done (some ((.ret, [.v (.string s)], []))))) else (bif decide (Int.ofNat (Utf8.decode s i).fst > 57) then (.need (EntClosed []) (.done (some ((.ret, [.v (.string s)], []))))) else (.need (EntClosed [(false, .siter s (i + (Utf8.decode s i).snd))]) (.done (some ((.nrm, [.v (.string s), .itr 7 0], [(false, .siter s (i + (Utf8.decode s i).snd))]))))))) else (.need (EntClosed [(false, .siter s (i + (Utf8.decode s i).snd))]) (.done (some ((.nrm, [.v (.string s), .itr 7 0], [(false, .siter s (i + (Utf8.decode s i).snd))]))))))) else (.need (EntClosed [(false, .siter s (i + (Utf8.decode s i).snd))]) (.done (some ((.nrm, [.v (.string s), .itr 7 0], [(false, .siter s (i + (Utf8.decode s i).snd))])))))) else (bif Int.ofNat i == 0 then (.need (EntClosed []) (.done (some ((.ret, [.v (.string s)], []))))) else (bif Int.ofNat (Utf8.decode s i).fst != 95 then (bif decide (Int.ofNat (Utf8.decode s i).fst < 48) then (.need (EntClosed []) (.done (some ((.ret, [.v (.string s)], []))))) else (bif decide (Int.ofNat (Utf8.decode s i).fst > 57) then (.need (EntClosed []) (.done (some ((.ret, [.v (.string s)], []))))) else (.need (EntClosed [(false, .siter s (i + (Utf8.decode s i).snd))]) (.done (some ((.nrm, [.v (.string s), .itr 7 0], [(false, .siter s (i + (Utf8.decode s i).snd))]))))))) else (.need (EntClosed [(false, .siter s (i + (Utf8.decode s i).snd))]) (.done (some ((.nrm, [.v (.string s), .itr 7 0], [(false, .siter s (i + (Utf8.decode s i).snd))]))))))))) else (bif decide (Int.ofNat (Utf8.decode s i).fst ≥ 65) then (bif !decide (Int.ofNat (Utf8.decode s i).fst ≤ 90) then (bif Int.ofNat i == 0 then (.need (EntClosed []) (.done (some ((.ret, [.v (.string s)], []))))) else (bif Int.ofNat (Utf8.decode s i).fst != 95 then (bif decide (Int.ofNat (Utf8.decode s i).fst < 48) then (.need (EntClosed []) (.done (some ((.ret, [.v (.string s)], []))))) else (bif decide (Int.ofNat (Utf8.decode s i).fst > 57) then (.need (EntClosed []) (.done (some ((.ret, [.v (.string s)], []))))) else (.need (EntClosed [(false, .siter s (i + (Utf8.decode s i).snd))]) (.done (some ((.nrm, [.v (.string s), .itr 7 0], [(false, .siter s (i + (Utf8.decode s i).snd))]))))))) else (.need (EntClosed [(false, .siter s (i + (Utf8.decode s i).snd))]) (.done (some ((.nrm, [.v (.string s), .itr 7 0], [(false, .siter s (i + (Utf8.decode s i).snd))]))))))) else (.need (EntClosed [(false, .siter s (i + (Utf8.decode s i).snd))]) (.done (some ((.nrm, [.v (.string s), .itr 7 0], [(false, .siter s (i + (Utf8.decode s i).snd))])))))) else (bif Int.ofNat i == 0 then (.need (EntClosed []) (.done (some ((.ret, [.v (.string s)], []))))) else (bif Int.ofNat (Utf8.decode s i).fst != 95 then (bif decide (Int.ofNat (Utf8.decode s i).fst < 48) then (.need (EntClosed []) (.done (some ((.ret, [.v (.string s)], []))))) else (bif decide (Int.ofNat (Utf8.decode s i).fst > 57) then (.need (EntClosed []) (.done (some ((.ret, [.v (.string s)], []))))) else (.need (EntClosed [(false, .siter s (i + (Utf8.decode s i).snd))]) (.done (some ((.nrm, [.v (.string s), .itr 7 0], [(false, .siter s (i + (Utf8.decode s i).snd))]))))))) else (.need (EntClosed [(false, .siter s (i + (Utf8.decode s i).snd))]) (.done (some ((.nrm, [.v (.string s), .itr 7 0], [(false, .siter s (i + (Utf8.decode s i).snd))]))))))))) else (.need (EntClosed []) (.done (some (((.exit 0), [.v (.string s)], [])))))) := by kernel_rfl
def bytesI (s : ByteArray) : List Int := s.data.toList.map fun b => Int.ofNat b.toNat
theorem bytesI_len (s : ByteArray) : (bytesI s).length = s.size := by unfold bytesI; rw [List.length_map]; rfl
theorem bytesI_at {s : ByteArray} {i : Nat} {c : Int} (h : (bytesI s)[i]? = some c) : ∃ hi : i < s.size, c = Int.ofNat (s[i]'hi).toNat := by
  have hi : i < s.size := by rw [← bytesI_len]; exact lt_len h
  refine ⟨hi, ?_⟩
  unfold bytesI at h
  rw [List.getElem?_map, Option.map_eq_some_iff] at h
  obtain ⟨b, hb, rfl⟩ := h
  rw [List.getElem?_eq_some_iff] at hb
  obtain ⟨_, rfl⟩ := hb
  rfl
theorem pure_index {t : TypeId} {s : ByteArray} {i : Nat} (ht : Tryz.prog.underlying t = some .string) (hi : i < s.size) : pureRun Tryz.prog (Instr.index t (.string s) (.int .i64 (Int.ofNat i))) = some (.int .u8 (s[i]'hi).toNat) := by
  unfold Instr.index
  simp only [asIntOf, pureRun_bind, pureRun_pure, Option.bind_some, pureRun_underlying ht]
  have h0 : (0 : Int) ≤ Int.ofNat i := Int.natCast_nonneg i
  have h1 : (Int.ofNat i).toNat = i := rfl
  rw [if_pos h0, h1, ByteArray.getElem?_lt' s _ hi]
  rfl
theorem str_at (S : Specs) {s : ByteArray} {i : Nat} {c : Int} (h : (bytesI s)[i]? = some c) : aindex (CS S) 9 (strA s) (intA (Int.ofNat i)) = some (u8A c) := by
  obtain ⟨hi, rfl⟩ := bytesI_at h
  have e : aindex (CS S) 9 (strA s) (intA (Int.ofNat i)) = (pureRun Tryz.prog (Instr.index 9 (.string s) (.int .i64 (Int.ofNat i)))).bind fun r => bif Value.single r then some (.v r) else none := rfl
  rw [e, pure_index Tryz.underlying9 hi]
  rfl

def letB (c : Int) : Bool := (decide (c ≥ 97) && decide (c ≤ 122)) || (decide (c ≥ 65) && decide (c ≤ 90))
def nmB (i : Nat) (c : Int) : Bool := letB c || (!(Int.ofNat i == 0) && ((decide (c ≥ 48) && decide (c ≤ 57)) || c == 95))
def nmF (i : Nat) (c : Int) : Option Unit := bif nmB i c then none else some ()
def isNameM (s : ByteArray) : Bool := !(Int.ofNat s.size == 0) && (decide (Int.ofNat s.size ≤ 24) && (srch nmF 0 (bytesI s)).isNone)

/-- The bytes of a name: the reference goes through them one by one. -/
theorem loop179 {S : Specs} (hS : Ok S) (s : ByteArray) (hs : s.size < two63) :
    LoopRun (CS S) 0 68 false (loopOf (CS S) 179 0) (mkSt [0, 3] [] 68 [strA s, intA (Int.ofNat 0)] []) ((srch nmF 0 (bytesI s)).elim (.exit 0) fun _ => .ret) ((srch nmF 0 (bytesI s)).elim (mkSt [2] [] 68 [.bad] []) fun _ => mkSt [2] [] 68 [boolA false] []) := by
  refine LoopRun.find nmF (fun i => mkSt [0, 3] [] 68 [strA s, intA (Int.ofNat i)] []) _ _ (.exit 0) _ _ (by simp) (by simp) (fun i c hc => ?_) ?_
  · have hi : i < s.size := by rw [← bytesI_len]; exact lt_len hc
    have ha := str_at S hc
    unfold nmF
    cases hq : nmB i c with
    | true =>
      refine hS.rndN (r179 S s i c) ?_
      rw [lt_of hi, wrap_ix hi hs]
      unfold nmB letB at hq
      generalize decide (c ≥ 97) = b1 at hq ⊢; generalize decide (c ≤ 122) = b2 at hq ⊢; generalize decide (c ≥ 65) = b3 at hq ⊢; generalize decide (c ≤ 90) = b4 at hq ⊢; generalize (Int.ofNat i == 0) = b5 at hq ⊢; generalize decide (c ≥ 48) = b6 at hq ⊢; generalize decide (c ≤ 57) = b7 at hq ⊢; generalize (c == 95) = b8 at hq ⊢
      cases b1 <;> cases b2 <;> cases b3 <;> cases b4 <;> cases b5 <;> cases b6 <;> cases b7 <;> cases b8 <;> first | (exact absurd hq (by decide)) | exact ⟨ha, ha, ha, trivial, rfl⟩ | exact ⟨ha, ha, ha, ha, trivial, rfl⟩ | exact ⟨ha, ha, ha, ha, ha, trivial, rfl⟩ | exact ⟨ha, ha, ha, ha, ha, ha, trivial, rfl⟩ | exact ⟨ha, ha, ha, ha, ha, ha, ha, trivial, rfl⟩
    | false =>
      refine hS.rndR (r179 S s i c) ?_
      rw [lt_of hi]
      unfold nmB letB at hq
      generalize decide (c ≥ 97) = b1 at hq ⊢; generalize decide (c ≤ 122) = b2 at hq ⊢; generalize decide (c ≥ 65) = b3 at hq ⊢; generalize decide (c ≤ 90) = b4 at hq ⊢; generalize (Int.ofNat i == 0) = b5 at hq ⊢; generalize decide (c ≥ 48) = b6 at hq ⊢; generalize decide (c ≤ 57) = b7 at hq ⊢; generalize (c == 95) = b8 at hq ⊢
      cases b1 <;> cases b2 <;> cases b3 <;> cases b4 <;> cases b5 <;> cases b6 <;> cases b7 <;> cases b8 <;> first | (exact absurd hq (by decide)) | exact ⟨ha, ha, ha, trivial, rfl⟩ | exact ⟨ha, ha, ha, ha, trivial, rfl⟩ | exact ⟨ha, ha, ha, ha, ha, trivial, rfl⟩ | exact ⟨ha, ha, ha, ha, ha, ha, trivial, rfl⟩ | exact ⟨ha, ha, ha, ha, ha, ha, ha, trivial, rfl⟩
  · rw [bytesI_len]
    exact hS.rndX (r179 S s s.size 0) (by rw [lt_self]; exact ⟨trivial, rfl⟩)

theorem decode_at {s : ByteArray} {i : Nat} {c : Int} (h : (bytesI s)[i]? = some c) : (c < 128 ∧ Utf8.decode s i = (c.toNat, 1) ∧ 0 ≤ c) ∨ (128 ≤ c ∧ 128 ≤ (Utf8.decode s i).1) := by
  obtain ⟨hi, rfl⟩ := bytesI_at h
  by_cases hb : (s[i]'hi).toNat < 128
  · exact .inl ⟨by simp only [Int.ofNat_eq_natCast]; omega, decode_ascii s i hi hb, Int.natCast_nonneg _⟩
  · exact .inr ⟨by simp only [Int.ofNat_eq_natCast]; omega, (decode_high s i hi (by omega)).1⟩
/-- The program goes through the runes. -/
theorem loop207 {S : Specs} (hS : Ok S) (s : ByteArray) :
    LoopRun (CS S) 0 51 false (loopOf (CS S) 207 0) (mkSt [0, 7] [7] 51 [strA s, .itr 7 0] [(false, .siter s 0)]) ((srch nmF 0 (bytesI s)).elim (.exit 0) fun _ => .ret) ((srch nmF 0 (bytesI s)).elim (mkSt [0] [] 51 [strA s] []) fun _ => mkSt [2] [] 51 [boolA false] []) := by
  refine LoopRun.find nmF (fun i => mkSt [0, 7] [7] 51 [strA s, .itr 7 0] [(false, .siter s i)]) _ _ (.exit 0) _ _ (by simp) (by simp) (fun i c hc => ?_) ?_
  · have hi : i < s.size := by rw [← bytesI_len]; exact lt_len hc
    have hlt : i.blt s.size = true := Nat.ble_eq_true_of_le hi
    unfold nmF
    rcases decode_at hc with ⟨h1, h2, h3⟩ | ⟨h1, h2⟩
    · have e : Int.ofNat c.toNat = c := Int.toNat_of_nonneg h3
      cases hq : nmB i c with
      | true =>
        refine hS.rndN (r207 S s i) ?_
        rw [hlt, h2]
        simp only [e]
        have g1 : decide (c ≥ 48) = !decide (c < 48) := by by_cases h : c < 48 <;> simp [h] <;> omega
        have g2 : decide (c ≤ 57) = !decide (c > 57) := by by_cases h : c > 57 <;> simp [h] <;> omega
        unfold nmB letB at hq
        rw [g1, g2] at hq
        have g3 : (c != 95) = !(c == 95) := rfl
        rw [g3]
        generalize decide (c ≥ 97) = b1 at hq ⊢; generalize decide (c ≤ 122) = b2 at hq ⊢; generalize decide (c ≥ 65) = b3 at hq ⊢; generalize decide (c ≤ 90) = b4 at hq ⊢; generalize (Int.ofNat i == 0) = b5 at hq ⊢; generalize decide (c < 48) = b6 at hq ⊢; generalize decide (c > 57) = b7 at hq ⊢; generalize (c == 95) = b8 at hq ⊢
        cases b1 <;> cases b2 <;> cases b3 <;> cases b4 <;> cases b5 <;> cases b6 <;> cases b7 <;> cases b8 <;> first | (exact absurd hq (by decide)) | exact ⟨trivial, rfl⟩
      | false =>
        refine hS.rndR (r207 S s i) ?_
        rw [hlt, h2]
        simp only [e]
        have g1 : decide (c ≥ 48) = !decide (c < 48) := by by_cases h : c < 48 <;> simp [h] <;> omega
        have g2 : decide (c ≤ 57) = !decide (c > 57) := by by_cases h : c > 57 <;> simp [h] <;> omega
        unfold nmB letB at hq
        rw [g1, g2] at hq
        have g3 : (c != 95) = !(c == 95) := rfl
        rw [g3]
        generalize decide (c ≥ 97) = b1 at hq ⊢; generalize decide (c ≤ 122) = b2 at hq ⊢; generalize decide (c ≥ 65) = b3 at hq ⊢; generalize decide (c ≤ 90) = b4 at hq ⊢; generalize (Int.ofNat i == 0) = b5 at hq ⊢; generalize decide (c < 48) = b6 at hq ⊢; generalize decide (c > 57) = b7 at hq ⊢; generalize (c == 95) = b8 at hq ⊢
        cases b1 <;> cases b2 <;> cases b3 <;> cases b4 <;> cases b5 <;> cases b6 <;> cases b7 <;> cases b8 <;> first | (exact absurd hq (by decide)) | exact ⟨trivial, rfl⟩
    · have hq : nmB i c = false := by
        unfold nmB letB
        have q1 : decide (c ≤ 122) = false := by simp; omega
        have q2 : decide (c ≤ 90) = false := by simp; omega
        have q3 : decide (c ≤ 57) = false := by simp; omega
        have q4 : (c == 95) = false := by simp; omega
        rw [q1, q2, q3, q4]; simp
      rw [hq]
      refine hS.rndR (r207 S s i) ?_
      have q0 : decide (Int.ofNat (Utf8.decode s i).fst ≥ 97) = true := by simp only [Int.ofNat_eq_natCast, decide_eq_true_eq]; omega
      have q1 : decide (Int.ofNat (Utf8.decode s i).fst ≤ 122) = false := by simp only [Int.ofNat_eq_natCast, decide_eq_false_iff_not]; omega
      have q2 : decide (Int.ofNat (Utf8.decode s i).fst ≥ 65) = true := by simp only [Int.ofNat_eq_natCast, decide_eq_true_eq]; omega
      have q3 : decide (Int.ofNat (Utf8.decode s i).fst ≤ 90) = false := by simp only [Int.ofNat_eq_natCast, decide_eq_false_iff_not]; omega
      have q4 : (Int.ofNat (Utf8.decode s i).fst != 95) = true := by simp only [Int.ofNat_eq_natCast, bne_iff_ne, ne_eq]; omega
      have q5 : decide (Int.ofNat (Utf8.decode s i).fst > 57) = true := by simp only [Int.ofNat_eq_natCast, decide_eq_true_eq]; omega
      have q6 : decide (Int.ofNat (Utf8.decode s i).fst < 48) = false := by simp only [Int.ofNat_eq_natCast, decide_eq_false_iff_not]; omega
      rw [hlt, q0, q1, q2, q3, q4, q5, q6]
      cases (Int.ofNat i == 0) <;> exact ⟨trivial, rfl⟩
  · rw [bytesI_len]
    have hlt : s.size.blt s.size = false := by rw [Bool.eq_false_iff]; intro h; have := Nat.le_of_ble_eq_true h; omega
    exact hS.rndX (r207x S s s.size) (by rw [hlt]; exact ⟨trivial, rfl⟩)

def nameG : List AV → Option AV := sp1 strC fun s => some (boolA (isNameM s))
theorem name179 {S : Specs} (hS : Ok S) : Holds 179 nameG := holds1 fun s r hr => by
  simp only [Option.some.injEq] at hr; subst hr
  unfold isNameM
  cases h1 : (Int.ofNat s.size == 0) with
  | true => exact hS.tr (t179e S s) (by rw [h1]; rfl)
  | false =>
    cases h2 : decide (Int.ofNat s.size > 24) with
    | true =>
      have h3 : decide (Int.ofNat s.size ≤ 24) = false := by simp only [decide_eq_true_eq, decide_eq_false_iff_not] at *; omega
      rw [h3]
      exact hS.tr (t179e S s) (by rw [h1, h2]; rfl)
    | false =>
      have h3 : decide (Int.ofNat s.size ≤ 24) = true := by simp only [decide_eq_true_eq, decide_eq_false_iff_not] at *; omega
      rw [h3]
      have hs : s.size < two63 := by simp only [decide_eq_true_eq, Int.ofNat_eq_natCast] at h3; unfold two63; omega
      have hl := loop179 hS s hs
      cases hq : srch nmF 0 (bytesI s) with
      | some _ => rw [hq] at hl; exact hS.tr (t179r S s) (by rw [h1, h2]; exact ⟨⟨trivial, trivial, hl.says⟩, rfl⟩)
      | none => rw [hq] at hl; exact hS.tr (t179e S s) (by rw [h1, h2]; exact ⟨⟨trivial, trivial, hl.says⟩, rfl⟩)
theorem toList_nil (s : ByteArray) : (!(s.toList == ByteArray.toList { data := #[] })) = !(Int.ofNat s.size == 0) := by
  rw [ByteArray.toList_eq, ByteArray.toList_eq]
  have : s.size = s.data.toList.length := rfl
  rw [this]
  cases s.data.toList <;> simp <;> omega
theorem name207 {S : Specs} (hS : Ok S) : Holds 207 nameG := holds1 fun s r hr => by
  simp only [Option.some.injEq] at hr; subst hr
  have hl := loop207 hS s
  unfold isNameM
  cases hq : srch nmF 0 (bytesI s) with
  | some _ =>
    rw [hq] at hl
    have e : (!(Int.ofNat s.size == 0) && (decide (Int.ofNat s.size ≤ 24) && (some () : Option Unit).isNone)) = false := by simp
    exact (show _ = _ from e) ▸ hS.tr (t207r S s) ⟨⟨trivial, trivial, hl.says⟩, rfl⟩
  | none =>
    rw [hq] at hl
    refine hS.tr (t207e S s) ⟨⟨trivial, trivial, hl.says⟩, ?_⟩
    rw [toList_nil]
    cases h1 : (Int.ofNat s.size == 0) with
    | true => rfl
    | false => cases decide (Int.ofNat s.size ≤ 24) <;> rfl
end Go.Vm.S3
