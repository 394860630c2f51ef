/- Strings: tables as text. -/
import Derived.Test.YtbplbhcgcicgfaaGreatDoorS6YB
namespace Go.Vm.S6
open Go.Proofs Go.RowKit
set_option maxRecDepth 100000 in
theorem r149a (es : List AV) (n i : Nat) (a b c : Int) (q : ByteArray) : roundD (CS Z1) 60 0 149 0 22 22 false (loopOf (CS Z1) 149 0) [1, 5, 8, 9, 10] [] [1, 5, 8, 9, 10] [19] [5] [] (mapIn (fnV 150) nilS 3 es n i) [] [.as 11 true, .chk [.agg [intA a, intA b, intA c]], .sp [.agg [intA a, intA b, intA c]] (strA q)] =
    (.need ((decide (Int.ofNat i < Int.ofNat n)) = true) (.need (es[i]? = (some (AV.agg [intA a, intA b, intA c]))) (.need (([.agg [intA a, intA b, intA c]] : List AV) = ([.agg [intA a, intA b, intA c]] : List AV) ∧ (Cx.spec (CS Z1) 150 ([.agg [intA a, intA b, intA c]] : List AV)) = (some (AV.v (.string q)))) (.need (EntClosed [(false, .arr 1 [.v (.string q)] false)]) (.done (some ((.nrm, [.fn (Fn.func 150) [] [], .sl 19 0 1 0 1, .rsl 3 es false, intA (Int.ofNat n), intA (IntKind.i64.wrap (Int.ofNat i + 1))], [(false, .arr 1 [.v (.string q)] false)])))))))) := by kernel_rfl
set_option maxRecDepth 100000 in
theorem r149b (es rs : List AV) (n i k : Nat) (a b c : Int) (q : ByteArray) : roundD (CS Z1) 60 0 149 0 22 22 false (loopOf (CS Z1) 149 0) [1, 5, 8, 9, 10] [19] [1, 5, 8, 9, 10] [19] [5] [19] (mapIn (fnV 150) (.sl 19 0 1 0 k) 3 es n i) [(false, .arr 1 rs false)] [.as 11 true, .chk [.agg [intA a, intA b, intA c]], .sp [.agg [intA a, intA b, intA c]] (strA q), .chk rs] =
    (.need ((decide (Int.ofNat i < Int.ofNat n)) = true) (.need (es[i]? = (some (AV.agg [intA a, intA b, intA c]))) (.need (([.agg [intA a, intA b, intA c]] : List AV) = ([.agg [intA a, intA b, intA c]] : List AV) ∧ (Cx.spec (CS Z1) 150 ([.agg [intA a, intA b, intA c]] : List AV)) = (some (AV.v (.string q)))) (.need (k = rs.length ∧ true = true ∧ 1 = 1 ∧ (rs ++ ([.v (.string q)] : List AV)).length * 16 ≤ 35184372088832 ∧ (rs ++ ([.v (.string q)] : List AV)).length ≤ 35184372088832 ∧ 16 ≠ 0) (.need (EntClosed [(false, .arr 1 (rs ++ ([.v (.string q)] : List AV)) false)]) (.done (some ((.nrm, [.fn (Fn.func 150) [] [], .sl 19 0 1 0 ((rs ++ ([.v (.string q)] : List AV)).length), .rsl 3 es false, intA (Int.ofNat n), intA (IntKind.i64.wrap (Int.ofNat i + 1))], [(false, .arr 1 (rs ++ ([.v (.string q)] : List AV)) false)]))))))))) := by kernel_rfl
set_option maxRecDepth 100000 in
theorem r149x (es : List AV) (n i : Nat) : roundD (CS Z1) 60 0 149 0 22 22 false (loopOf (CS Z1) 149 0) [1, 5, 8, 9, 10] [] [1, 5, 8, 9, 10] [19] [5] [] (mapIn (fnV 150) nilS 3 es n i) [] [.as 11 false] =
    (.need ((decide (Int.ofNat i < Int.ofNat n)) = false) (.need (EntClosed []) (.done (some (((.exit 0), [.v (.slice none 0 0)], [])))))) := by kernel_rfl
set_option maxRecDepth 100000 in
theorem r149y (es rs : List AV) (n i k : Nat) : roundD (CS Z1) 60 0 149 0 22 22 false (loopOf (CS Z1) 149 0) [1, 5, 8, 9, 10] [19] [1, 5, 8, 9, 10] [19] [5] [19] (mapIn (fnV 150) (.sl 19 0 1 0 k) 3 es n i) [(false, .arr 1 rs false)] [.as 11 false] =
    (.need ((decide (Int.ofNat i < Int.ofNat n)) = false) (.need (EntClosed [(false, .arr 1 rs false)]) (.done (some (((.exit 0), [.sl 19 0 1 0 k], [(false, .arr 1 rs false)])))))) := by kernel_rfl
set_option maxRecDepth 100000 in
theorem t149 (es rs : List AV) : evTreeD (CS Z1) 60 149 [.rsl 3 es false, fnV 150] [.loop 0 [1, 5, 8, 9, 10] [] [5] [] (.exit 0) [.rsl 1 rs false] []] =
    (.need (EntClosed [] ∧ EntClosed [] ∧ Says (CS Z1) 0 22 false (.loop (loopOf (CS Z1) 149 0)) (mkSt [1, 5, 8, 9, 10] [] 22 [.fn (Fn.func 150) [] [], .v (.slice none 0 0), .rsl 3 es false, intA (Int.ofNat es.length), intA 0] []) (.exit 0) (mkSt [5] [] 22 [.rsl 1 rs false] [])) (.done (some (.rsl 1 rs false)))) := by kernel_rfl
set_option maxRecDepth 100000 in
theorem r86 (es : List AV) (i : Nat) (a b c : Int) (s x y z u1 u2 u3 u4 u5 u6 u7 : ByteArray) : roundD (CS Z1) 60 0 86 0 40 40 false (loopOf (CS Z1) 86 0) [0, 3, 4] [] [0, 3, 4] [] [3] [] [.rsl 3 es false, strA s, intA (Int.ofNat i)] [] [.as 8 true, .ar (strA u1), .chk [.agg [intA a, intA b, intA c]], .sp [intA a] (strA x), .ar (strA u2), .ar (strA u3), .chk [.agg [intA a, intA b, intA c]], .sp [intA b] (strA y), .ar (strA u4), .ar (strA u5), .chk [.agg [intA a, intA b, intA c]], .sp [intA c] (strA z), .ar (strA u6), .ar (strA u7)] =
    (.need ((decide (Int.ofNat i < Int.ofNat es.length)) = true) (.need ((abin (CS Z1) BinOp.add 9 (Operand.tmp 11) (Operand.const (Value.string (ByteArray.mk #[115, 116, 101, 112, 32]))) (AV.v (.string s)) (AV.v (.string (ByteArray.mk #[115, 116, 101, 112, 32])))) = (some (AV.v (.string u1)))) (.need (es[i]? = (some (AV.agg [intA a, intA b, intA c]))) (.need (([intA a] : List AV) = ([intA a] : List AV) ∧ (Cx.spec (CS Z1) 155 ([intA a] : List AV)) = (some (AV.v (.string x)))) (.need ((abin (CS Z1) BinOp.add 9 (Operand.tmp 12) (Operand.tmp 19) (AV.v (.string u1)) (AV.v (.string x))) = (some (AV.v (.string u2)))) (.need ((abin (CS Z1) BinOp.add 9 (Operand.tmp 20) (Operand.const (Value.string (ByteArray.mk #[32]))) (AV.v (.string u2)) (AV.v (.string (ByteArray.mk #[32])))) = (some (AV.v (.string u3)))) (.need (es[i]? = (some (AV.agg [intA a, intA b, intA c]))) (.need (([intA b] : List AV) = ([intA b] : List AV) ∧ (Cx.spec (CS Z1) 155 ([intA b] : List AV)) = (some (AV.v (.string y)))) (.need ((abin (CS Z1) BinOp.add 9 (Operand.tmp 21) (Operand.tmp 28) (AV.v (.string u3)) (AV.v (.string y))) = (some (AV.v (.string u4)))) (.need ((abin (CS Z1) BinOp.add 9 (Operand.tmp 29) (Operand.const (Value.string (ByteArray.mk #[32]))) (AV.v (.string u4)) (AV.v (.string (ByteArray.mk #[32])))) = (some (AV.v (.string u5)))) (.need (es[i]? = (some (AV.agg [intA a, intA b, intA c]))) (.need (([intA c] : List AV) = ([intA c] : List AV) ∧ (Cx.spec (CS Z1) 155 ([intA c] : List AV)) = (some (AV.v (.string z)))) (.need ((abin (CS Z1) BinOp.add 9 (Operand.tmp 30) (Operand.tmp 36) (AV.v (.string u5)) (AV.v (.string z))) = (some (AV.v (.string u6)))) (.need ((abin (CS Z1) BinOp.add 9 (Operand.tmp 37) (Operand.const (Value.string (ByteArray.mk #[10]))) (AV.v (.string u6)) (AV.v (.string (ByteArray.mk #[10])))) = (some (AV.v (.string u7)))) (.need (EntClosed []) (.done (some ((.nrm, [.rsl 3 es false, .v (.string u7), intA (IntKind.i64.wrap (Int.ofNat i + 1))], []))))))))))))))))))) := by kernel_rfl
set_option maxRecDepth 100000 in
theorem r86x (es : List AV) (i : Nat) (s : ByteArray) : roundD (CS Z1) 60 0 86 0 40 40 false (loopOf (CS Z1) 86 0) [0, 3, 4] [] [0, 3, 4] [] [3] [] [.rsl 3 es false, strA s, intA (Int.ofNat i)] [] [.as 8 false] =
    (.need ((decide (Int.ofNat i < Int.ofNat es.length)) = false) (.need (EntClosed []) (.done (some (((.exit 0), [.v (.string s)], [])))))) := by kernel_rfl
set_option maxRecDepth 100000 in
theorem t86 (es : List AV) (r : ByteArray) : evTreeD (CS Z1) 60 86 [.rsl 3 es false] [.loop 0 [0, 3, 4] [] [3] [] (.exit 0) [strA r] []] =
    (.need (EntClosed [] ∧ EntClosed [] ∧ Says (CS Z1) 0 40 false (.loop (loopOf (CS Z1) 86 0)) (mkSt [0, 3, 4] [] 40 [.rsl 3 es false, .v (.string (ByteArray.mk #[])), intA 0] []) (.exit 0) (mkSt [3] [] 40 [.v (.string r)] [])) (.done (some (.v (.string r))))) := by kernel_rfl
set_option maxRecDepth 100000 in
theorem r88 (es fs : List AV) (i : Nat) (a b c : Int) : roundD (CS Z1) 60 0 88 0 26 26 false (loopOf (CS Z1) 88 0) [0, 1, 5] [] [0, 1, 5] [] [] [] [.rsl 3 es false, .rsl 3 fs false, intA (Int.ofNat i)] [] [.as 14 true, .chk [.agg [intA a, intA b, intA c]], .chk [.agg [intA a, intA b, intA c]], .eq (boolA false)] =
    (.need ((decide (Int.ofNat i < Int.ofNat es.length)) = true) (.need (es[i]? = (some (AV.agg [intA a, intA b, intA c]))) (.need (fs[i]? = (some (AV.agg [intA a, intA b, intA c]))) (.need ((abin (CS Z1) BinOp.neq 158 (Operand.tmp 20) (Operand.tmp 24) (AV.agg [intA a, intA b, intA c]) (AV.agg [intA a, intA b, intA c])) = (some (AV.v (.bool false)))) (.need (EntClosed []) (.done (some ((.nrm, [.rsl 3 es false, .rsl 3 fs false, intA (IntKind.i64.wrap (Int.ofNat i + 1))], []))))))))) := by kernel_rfl
set_option maxRecDepth 100000 in
theorem r88x (es fs : List AV) (i : Nat) : roundD (CS Z1) 60 0 88 0 26 26 false (loopOf (CS Z1) 88 0) [0, 1, 5] [] [0, 1, 5] [] [] [] [.rsl 3 es false, .rsl 3 fs false, intA (Int.ofNat i)] [] [.as 14 false] =
    (.need ((decide (Int.ofNat i < Int.ofNat es.length)) = false) (.need (EntClosed []) (.done (some (((.exit 0), [], [])))))) := by kernel_rfl
set_option maxRecDepth 100000 in
theorem t88 (es fs : List AV) : evTreeD (CS Z1) 60 88 [.rsl 3 es false, .rsl 3 fs false] [.as 10 false, .loop 0 [0, 1, 5] [] [] [] (.exit 0) [] []] =
    (.need ((Int.ofNat es.length != Int.ofNat fs.length) = false) (.need (EntClosed [] ∧ EntClosed [] ∧ Says (CS Z1) 0 26 false (.loop (loopOf (CS Z1) 88 0)) (mkSt [0, 1, 5] [] 26 [.rsl 3 es false, .rsl 3 fs false, intA 0] []) (.exit 0) (mkSt [] [] 26 [] [])) (.done (some (boolA true))))) := by kernel_rfl
set_option maxRecDepth 100000 in
theorem r89a (es : List AV) (n i : Nat) (a b c : Int) : roundD (CS Z1) 60 0 89 0 18 18 false (loopOf (CS Z1) 89 0) [3, 6, 7, 8] [] [3, 6, 7, 8] [15] [3] [] [nilS, .rsl 3 es false, intA (Int.ofNat n), intA (Int.ofNat i)] [] [.br [.chk [.agg [intA a, intA b, intA c]]] []] =
    (bif decide (Int.ofNat i < Int.ofNat n) then (.need (es[i]? = (some (AV.agg [intA a, intA b, intA c]))) (.need (EntClosed [(false, .arr 3 [.agg [intA a, intA b, intA c]] false)]) (.done (some ((.nrm, [.sl 15 0 3 0 1, .rsl 3 es false, intA (Int.ofNat n), intA (IntKind.i64.wrap (Int.ofNat i + 1))], [(false, .arr 3 [.agg [intA a, intA b, intA c]] false)])))))) else (.need (EntClosed []) (.done (some (((.exit 0), [.v (.slice none 0 0)], [])))))) := by kernel_rfl
set_option maxRecDepth 100000 in
theorem r89b (es rs : List AV) (n i k : Nat) (a b c : Int) : roundD (CS Z1) 60 0 89 0 18 18 false (loopOf (CS Z1) 89 0) [3, 6, 7, 8] [15] [3, 6, 7, 8] [15] [3] [15] [.sl 15 0 3 0 k, .rsl 3 es false, intA (Int.ofNat n), intA (Int.ofNat i)] [(false, .arr 3 rs false)] [.br [.chk [.agg [intA a, intA b, intA c]], .chk rs] []] =
    (bif decide (Int.ofNat i < Int.ofNat n) then (.need (es[i]? = (some (AV.agg [intA a, intA b, intA c]))) (.need (k = rs.length ∧ true = true ∧ 3 = 3 ∧ (rs ++ ([.agg [intA a, intA b, intA c]] : List AV)).length * 24 ≤ 35184372088832 ∧ (rs ++ ([.agg [intA a, intA b, intA c]] : List AV)).length ≤ 35184372088832 ∧ 24 ≠ 0) (.need (EntClosed [(false, .arr 3 (rs ++ ([.agg [intA a, intA b, intA c]] : List AV)) false)]) (.done (some ((.nrm, [.sl 15 0 3 0 ((rs ++ ([.agg [intA a, intA b, intA c]] : List AV)).length), .rsl 3 es false, intA (Int.ofNat n), intA (IntKind.i64.wrap (Int.ofNat i + 1))], [(false, .arr 3 (rs ++ ([.agg [intA a, intA b, intA c]] : List AV)) false)]))))))) else (.need (EntClosed [(false, .arr 3 rs false)]) (.done (some (((.exit 0), [.sl 15 0 3 0 k], [(false, .arr 3 rs false)])))))) := by kernel_rfl
set_option maxRecDepth 100000 in
theorem t89 (es rs : List AV) : evTreeD (CS Z1) 60 89 [.rsl 3 es false] [.loop 0 [3, 6, 7, 8] [] [3] [] (.exit 0) [.rsl 3 rs false] []] =
    (.need (EntClosed [] ∧ EntClosed [] ∧ Says (CS Z1) 0 18 false (.loop (loopOf (CS Z1) 89 0)) (mkSt [3, 6, 7, 8] [] 18 [.v (.slice none 0 0), .rsl 3 es false, intA (Int.ofNat es.length), intA 0] []) (.exit 0) (mkSt [3] [] 18 [.rsl 3 rs false] [])) (.done (some (.rsl 3 rs false)))) := by kernel_rfl
set_option maxRecDepth 100000 in
theorem t174n (s : ByteArray) : evTreeD (CS Z1) 60 174 [strA s, strA nlB] [.sp [strA s, strA nlB] (boolA false)] =
    (.need (([.v (.string s), .v (.string nlB)] : List AV) = ([.v (.string s), .v (.string nlB)] : List AV) ∧ (Cx.spec (CS Z1) 195 ([.v (.string s), .v (.string nlB)] : List AV)) = (some (AV.v (.bool false)))) (.done (some (.tup [.v (.string s), boolA false])))) := by kernel_rfl
set_option maxRecDepth 100000 in
theorem t174y (s t : ByteArray) (i : Nat) : evTreeD (CS Z1) 60 174 [strA s, strA nlB] [.sp [strA s, strA nlB] (boolA true), .ar (intA (Int.ofNat i)), .chk [strA t]] =
    (.need (([.v (.string s), .v (.string nlB)] : List AV) = ([.v (.string s), .v (.string nlB)] : List AV) ∧ (Cx.spec (CS Z1) 195 ([.v (.string s), .v (.string nlB)] : List AV)) = (some (AV.v (.bool true)))) (.need ((abin (CS Z1) BinOp.sub 3 (Operand.tmp 13) (Operand.tmp 15) (AV.v (.int .i64 (Int.ofNat s.size))) (AV.v (.int .i64 (Int.ofNat nlB.size)))) = (some (AV.v (.int .i64 (Int.ofNat i))))) (.need ((aslice (CS Z1) Tr.leaf 9 (AV.v (.string s)) none (some (AV.v (.int .i64 (Int.ofNat i)))) none) = (some (AV.v (.string t)))) (.done (some (.tup [.v (.string t), boolA true])))))) := by kernel_rfl
open Go.Lib
theorem addA (S : Specs) (x y : Operand) {a b : List UInt8} (h : a.length + b.length < 1000000) : abin (CS S) BinOp.add 9 x y (AV.v (.string (bA a))) (AV.v (.string (bA b))) = some (AV.v (.string (bA (a ++ b)))) := by
  rw [← bA_app]
  refine addStr S x y ?_
  show a.toArray.size + b.toArray.size < two63
  rw [List.size_toArray, List.size_toArray]
  have : (1000000 : Nat) < two63 := by decide
  omega
theorem spTxt {n : Int} (h0 : 0 ≤ n) (h1 : n < 10000000000000) : txtG [intA n] = some (strA (bA (itoa n))) := by
  have := sp1_at (A := intC) (F := fun n => bif decide (0 ≤ n) && decide (n < 9223372036854775807) then some (strA (itoaB n)) else none) n
  rw [decide_eq_true h0, decide_eq_true (show n < 9223372036854775807 by omega)] at this
  exact this
theorem spLine {v : St3} (h : okSt v = true) : lineG [stepC.enc v] = some (strA (bA (lineL v))) := by
  have := sp1_at (A := stepC) (F := fun v => bif okSt v then some (strA (bA (lineL v))) else none) v
  rw [h] at this; exact this
/-! ### A table's text -/
def allL (l : List St3) : List UInt8 := l.flatMap lineL
def okTb (l : List St3) : Bool := Nat.ble l.length 1000 && l.all okSt
theorem okTb_at {l : List St3} (h : okTb l = true) : l.length ≤ 1000 ∧ ∀ v ∈ l, okSt v = true := by
  unfold okTb at h
  rw [Bool.and_eq_true, List.all_eq_true] at h
  exact ⟨Nat.le_of_ble_eq_true h.1, h.2⟩
theorem allL_len : ∀ {l : List St3}, (∀ v ∈ l, okSt v = true) → (allL l).length ≤ 47 * l.length
  | [], _ => by simp [allL]
  | v :: l, h => by
    have h1 := lineL_len (h v (by simp))
    have h2 := allL_len (l := l) (fun w hw => h w (by simp [hw]))
    have e : allL (v :: l) = lineL v ++ allL l := by simp [allL]
    rw [e, List.length_append, List.length_cons]
    omega
theorem allL_snoc (l : List St3) (v : St3) : allL (l ++ [v]) = allL l ++ lineL v := by simp [allL]
theorem takeS {l : List St3} {i : Nat} {v : St3} (h : l[i]? = some v) : l.take (i + 1) = l.take i ++ [v] := by rw [List.take_add_one, h]; rfl
def ptbG : List AV → Option AV := sp1 stepsC fun l => bif okTb l then some (strA (bA (allL l))) else none
theorem h86 : Holds 86 ptbG := holds1 fun l r hr => by
  cases hb : okTb l with
  | false => simp [hb] at hr
  | true =>
    simp only [hb, cond_true, Option.some.injEq] at hr; subst hr
    obtain ⟨hn, hv⟩ := okTb_at hb
    have hl : l.length < two63 := by have : (1000 : Nat) < two63 := by decide
                                     omega
    have e := e_len' stepC l
    have h := LoopRun.idx (C := CS Z1) (p := 0) (nt := 40) (rd := false) (c := loopOf (CS Z1) 86 0) (fun i => mkSt [0, 3, 4] [] 40 [.rsl 3 (l.map stepC.enc) false, strA (bA (allL (l.take i))), intA (Int.ofNat i)] []) (.exit 0)
      (mkSt [3] [] 40 [strA (bA (allL l))] []) l (by simp)
      (fun i v hx => by
        have hi := lt_len hx
        have hok := hv v (List.mem_of_getElem? hx)
        obtain ⟨⟨a1, a2⟩, ⟨b1, b2⟩, c1, c2⟩ := okSt_at hok
        have l1 := itoa_len a1 a2
        have l2 := itoa_len b1 b2
        have l3 := itoa_len c1 c2
        have hA := allL_len (l := l.take i) (fun w hw => hv w (List.mem_of_mem_take hw))
        rw [List.length_take] at hA
        rw [takeS hx, allL_snoc]
        generalize allL (l.take i) = A at hA
        have hlA : A.length ≤ 47000 := by omega
        have hlt : decide (Int.ofNat i < Int.ofNat (l.map stepC.enc).length) = true := by rw [e]; exact lt_of hi
        have hg : (l.map stepC.enc)[i]? = some (AV.agg [.v (.int .i64 v.1), .v (.int .i64 v.2.1), .v (.int .i64 v.2.2)]) := get_map stepC.enc hx
        have q1 := addA Z1 (Operand.tmp 11) (Operand.const (Value.string (ByteArray.mk #[115, 116, 101, 112, 32]))) (a := A) (b := [115, 116, 101, 112, 32]) (by simp only [List.length_cons, List.length_nil]; omega)
        have q2 := addA Z1 (Operand.tmp 12) (Operand.tmp 19) (a := A ++ [115, 116, 101, 112, 32]) (b := itoa v.1) (by simp only [List.length_append, List.length_cons, List.length_nil]; omega)
        have q3 := addA Z1 (Operand.tmp 20) (Operand.const (Value.string (ByteArray.mk #[32]))) (a := A ++ [115, 116, 101, 112, 32] ++ itoa v.1) (b := [32]) (by simp only [List.length_append, List.length_cons, List.length_nil]; omega)
        have q4 := addA Z1 (Operand.tmp 21) (Operand.tmp 28) (a := A ++ [115, 116, 101, 112, 32] ++ itoa v.1 ++ [32]) (b := itoa v.2.1) (by simp only [List.length_append, List.length_cons, List.length_nil]; omega)
        have q5 := addA Z1 (Operand.tmp 29) (Operand.const (Value.string (ByteArray.mk #[32]))) (a := A ++ [115, 116, 101, 112, 32] ++ itoa v.1 ++ [32] ++ itoa v.2.1) (b := [32]) (by simp only [List.length_append, List.length_cons, List.length_nil]; omega)
        have q6 := addA Z1 (Operand.tmp 30) (Operand.tmp 36) (a := A ++ [115, 116, 101, 112, 32] ++ itoa v.1 ++ [32] ++ itoa v.2.1 ++ [32]) (b := itoa v.2.2) (by simp only [List.length_append, List.length_cons, List.length_nil]; omega)
        have q7 := addA Z1 (Operand.tmp 37) (Operand.const (Value.string (ByteArray.mk #[10]))) (a := A ++ [115, 116, 101, 112, 32] ++ itoa v.1 ++ [32] ++ itoa v.2.1 ++ [32] ++ itoa v.2.2) (b := [10]) (by simp only [List.length_append, List.length_cons, List.length_nil]; omega)
        have hr := r86 (l.map stepC.enc) i v.1 v.2.1 v.2.2 (bA A) (bA (itoa v.1)) (bA (itoa v.2.1)) (bA (itoa v.2.2)) (bA (A ++ [115, 116, 101, 112, 32])) (bA (A ++ [115, 116, 101, 112, 32] ++ itoa v.1)) (bA (A ++ [115, 116, 101, 112, 32] ++ itoa v.1 ++ [32])) (bA (A ++ [115, 116, 101, 112, 32] ++ itoa v.1 ++ [32] ++ itoa v.2.1)) (bA (A ++ [115, 116, 101, 112, 32] ++ itoa v.1 ++ [32] ++ itoa v.2.1 ++ [32])) (bA (A ++ [115, 116, 101, 112, 32] ++ itoa v.1 ++ [32] ++ itoa v.2.1 ++ [32] ++ itoa v.2.2)) (bA (A ++ [115, 116, 101, 112, 32] ++ itoa v.1 ++ [32] ++ itoa v.2.1 ++ [32] ++ itoa v.2.2 ++ [10]))
        rw [wrap_ix hi hl] at hr
        have hfin : A ++ lineL v = A ++ [115, 116, 101, 112, 32] ++ itoa v.1 ++ [32] ++ itoa v.2.1 ++ [32] ++ itoa v.2.2 ++ [10] := by unfold lineL; simp only [List.append_assoc]
        rw [hfin]
        exact Z1_ok.rndN hr ⟨hlt, q1, hg, ⟨rfl, spTxt a1 a2⟩, q2, q3, hg, ⟨rfl, spTxt b1 b2⟩, q4, q5, hg, ⟨rfl, spTxt c1 c2⟩, q6, q7, trivial, rfl⟩)
      (by
        rw [List.take_length]
        exact Z1_ok.rndX (r86x (l.map stepC.enc) l.length (bA (allL l))) ⟨by rw [e]; exact lt_self _, trivial, rfl⟩)
    exact Z1_ok.tr (t86 (l.map stepC.enc) (bA (allL l))) ⟨⟨trivial, trivial, h.says⟩, rfl⟩
/-! ### Equal tables, copies -/
def samG : List AV → Option AV := sp2 stepsC stepsC fun l m => bif decide (l = m) && Nat.ble l.length lim then some (boolA true) else none
theorem h88 : Holds 88 samG := holds2 fun l m r hr => by
  cases hb : decide (l = m) && Nat.ble l.length lim with
  | false => simp [hb] at hr
  | true =>
    simp only [hb, cond_true, Option.some.injEq] at hr; subst hr
    rw [Bool.and_eq_true, decide_eq_true_eq] at hb
    obtain ⟨rfl, hb⟩ := hb
    have hl := limTwo (Nat.le_of_ble_eq_true hb)
    have e := e_len' stepC l
    have h := LoopRun.idx (C := CS Z1) (p := 0) (nt := 26) (rd := false) (c := loopOf (CS Z1) 88 0) (fun i => mkSt [0, 1, 5] [] 26 [.rsl 3 (l.map stepC.enc) false, .rsl 3 (l.map stepC.enc) false, intA (Int.ofNat i)] []) (.exit 0)
      (mkSt [] [] 26 [] []) l (by simp)
      (fun i v hx => by
        have hi := lt_len hx
        have hg : (l.map stepC.enc)[i]? = some (AV.agg [.v (.int .i64 v.1), .v (.int .i64 v.2.1), .v (.int .i64 v.2.2)]) := get_map stepC.enc hx
        have hr := r88 (l.map stepC.enc) (l.map stepC.enc) i v.1 v.2.1 v.2.2
        rw [wrap_ix hi hl] at hr
        refine Z1_ok.rndN hr ⟨by rw [e]; exact lt_of hi, hg, hg, ?_, trivial, rfl⟩
        have := (abin_agg (C := CS Z1) (t := 158) (xo := Operand.tmp 20) (yo := Operand.tmp 24) (a := .agg [intA v.1, intA v.2.1, intA v.2.2]) (b := .agg [intA v.1, intA v.2.1, intA v.2.2]) (r := (v.1 == v.1 && (v.2.1 == v.2.1 && true)) && (v.2.2 == v.2.2 && true)) rfl rfl (by kernel_rfl) (by kernel_rfl)).2
        rw [beq_self_eq_true, beq_self_eq_true, beq_self_eq_true] at this
        exact this)
      (Z1_ok.rndX (r88x (l.map stepC.enc) (l.map stepC.enc) l.length) ⟨by rw [e]; exact lt_self _, trivial, rfl⟩)
    exact Z1_ok.tr (t88 (l.map stepC.enc) (l.map stepC.enc)) ⟨by simp, ⟨trivial, trivial, h.says⟩, rfl⟩
end Go.Vm.S6
