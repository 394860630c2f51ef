/- Strings: tables as text. -/
import Derived.Test.YtbplbhcgcicgfaaGreatDoorS6KB
namespace Go.Vm.S6
open Go.Proofs Go.RowKit
set_option maxRecDepth 100000 in
theorem r149a (es : List AV) (n i : Nat) (a b c : Int) (q : ByteArray) : roundD (CS Z1) 60 0 149 0 22 22 false (loopOf (CS Z1) 149 0) [1, 5, 8, 9, 10] [] [1, 5, 8, 9, 10] [19] [5] [] (mapIn (fnV 150) nilS 3 es n i) [] [.as 11 true, .chk [.agg [intA a, intA b, intA c]], .sp [.agg [intA a, intA b, intA c]] (strA q)] =
    (.need ((decide (Int.ofNat i < Int.ofNat n)) = true) (.need (es[i]? = (some (AV.agg [.v (.int .i64 a), .v (.int .i64 b), .v (.int .i64 c)]))) (.need (asks (CS Z1) 150 [.agg [.v (.int .i64 a), .v (.int .i64 b), .v (.int .i64 c)]] (AV.v (.string q))) (.need (EntClosed [(false, .arr 1 [.v (.string q)] false)]) (.done (some ((.nrm, [.fn (Fn.func 150) [] [], .sl 19 0 1 0 1, .rsl 3 es false, .v (.int .i64 (Int.ofNat n)), .v (.int .i64 (IntKind.i64.wrap (Int.ofNat i + 1)))], [(false, .arr 1 [.v (.string q)] false)])))))))) := by kernel_rfl
set_option maxRecDepth 100000 in
theorem r149b (es rs : List AV) (n i k : Nat) (a b c : Int) (q : ByteArray) : roundD (CS Z1) 60 0 149 0 22 22 false (loopOf (CS Z1) 149 0) [1, 5, 8, 9, 10] [19] [1, 5, 8, 9, 10] [19] [5] [19] (mapIn (fnV 150) (.sl 19 0 1 0 k) 3 es n i) [(false, .arr 1 rs false)] [.as 11 true, .chk [.agg [intA a, intA b, intA c]], .sp [.agg [intA a, intA b, intA c]] (strA q), .chk rs] =
    (.need ((decide (Int.ofNat i < Int.ofNat n)) = true) (.need (es[i]? = (some (AV.agg [.v (.int .i64 a), .v (.int .i64 b), .v (.int .i64 c)]))) (.need (asks (CS Z1) 150 [.agg [.v (.int .i64 a), .v (.int .i64 b), .v (.int .i64 c)]] (AV.v (.string q))) (.need (k = rs.length ∧ true = true ∧ 1 = 1 ∧ (rs ++ ([.v (.string q)] : List AV)).length * 16 ≤ 35184372088832 ∧ (rs ++ ([.v (.string q)] : List AV)).length ≤ 35184372088832 ∧ 16 ≠ 0) (.need (EntClosed [(false, .arr 1 (rs ++ ([.v (.string q)] : List AV)) false)]) (.done (some ((.nrm, [.fn (Fn.func 150) [] [], .sl 19 0 1 0 ((rs ++ ([.v (.string q)] : List AV)).length), .rsl 3 es false, .v (.int .i64 (Int.ofNat n)), .v (.int .i64 (IntKind.i64.wrap (Int.ofNat i + 1)))], [(false, .arr 1 (rs ++ ([.v (.string q)] : List AV)) false)]))))))))) := by kernel_rfl
set_option maxRecDepth 100000 in
theorem r149x (es : List AV) (n i : Nat) : roundD (CS Z1) 60 0 149 0 22 22 false (loopOf (CS Z1) 149 0) [1, 5, 8, 9, 10] [] [1, 5, 8, 9, 10] [19] [5] [] (mapIn (fnV 150) nilS 3 es n i) [] [.as 11 false] =
    (.need ((decide (Int.ofNat i < Int.ofNat n)) = false) (.need (EntClosed []) (.done (some (((.exit 0), [.v (.slice none 0 0)], [])))))) := by kernel_rfl
set_option maxRecDepth 100000 in
theorem r149y (es rs : List AV) (n i k : Nat) : roundD (CS Z1) 60 0 149 0 22 22 false (loopOf (CS Z1) 149 0) [1, 5, 8, 9, 10] [19] [1, 5, 8, 9, 10] [19] [5] [19] (mapIn (fnV 150) (.sl 19 0 1 0 k) 3 es n i) [(false, .arr 1 rs false)] [.as 11 false] =
    (.need ((decide (Int.ofNat i < Int.ofNat n)) = false) (.need (EntClosed [(false, .arr 1 rs false)]) (.done (some (((.exit 0), [.sl 19 0 1 0 k], [(false, .arr 1 rs false)])))))) := by kernel_rfl
set_option maxRecDepth 100000 in
theorem t149 (es rs : List AV) : evTreeD (CS Z1) 60 149 [.rsl 3 es false, fnV 150] [.loop 0 [1, 5, 8, 9, 10] [] [5] [] (.exit 0) [.rsl 1 rs false] []] =
    (.need (EntClosed [] ∧ EntClosed [] ∧ Says (CS Z1) 0 22 false (.loop (loopOf (CS Z1) 149 0)) (mkSt [1, 5, 8, 9, 10] [] 22 [.fn (Fn.func 150) [] [], .v (.slice none 0 0), .rsl 3 es false, .v (.int .i64 (Int.ofNat es.length)), .v (.int .i64 0)] []) (.exit 0) (mkSt [5] [] 22 [.rsl 1 rs false] [])) (.done (some (.rsl 1 rs false)))) := by kernel_rfl
set_option maxRecDepth 100000 in
theorem r88 (es fs : List AV) (i : Nat) (a b c : Int) : roundD (CS Z1) 60 0 88 0 26 26 false (loopOf (CS Z1) 88 0) [0, 1, 5] [] [0, 1, 5] [] [] [] [.rsl 3 es false, .rsl 3 fs false, intA (Int.ofNat i)] [] [.as 14 true, .chk [.agg [intA a, intA b, intA c]], .chk [.agg [intA a, intA b, intA c]], .eq (boolA false)] =
    (.need ((decide (Int.ofNat i < Int.ofNat es.length)) = true) (.need (es[i]? = (some (AV.agg [.v (.int .i64 a), .v (.int .i64 b), .v (.int .i64 c)]))) (.need (fs[i]? = (some (AV.agg [.v (.int .i64 a), .v (.int .i64 b), .v (.int .i64 c)]))) (.need ((abin (CS Z1) BinOp.neq 158 (Operand.tmp 20) (Operand.tmp 24) (AV.agg [.v (.int .i64 a), .v (.int .i64 b), .v (.int .i64 c)]) (AV.agg [.v (.int .i64 a), .v (.int .i64 b), .v (.int .i64 c)])) = (some (AV.v (.bool false)))) (.need (EntClosed []) (.done (some ((.nrm, [.rsl 3 es false, .rsl 3 fs false, .v (.int .i64 (IntKind.i64.wrap (Int.ofNat i + 1)))], []))))))))) := by kernel_rfl
set_option maxRecDepth 100000 in
theorem r88x (es fs : List AV) (i : Nat) : roundD (CS Z1) 60 0 88 0 26 26 false (loopOf (CS Z1) 88 0) [0, 1, 5] [] [0, 1, 5] [] [] [] [.rsl 3 es false, .rsl 3 fs false, intA (Int.ofNat i)] [] [.as 14 false] =
    (.need ((decide (Int.ofNat i < Int.ofNat es.length)) = false) (.need (EntClosed []) (.done (some (((.exit 0), [], [])))))) := by kernel_rfl
set_option maxRecDepth 100000 in
theorem t88 (es fs : List AV) : evTreeD (CS Z1) 60 88 [.rsl 3 es false, .rsl 3 fs false] [.as 10 false, .loop 0 [0, 1, 5] [] [] [] (.exit 0) [] []] =
    (.need ((Int.ofNat es.length != Int.ofNat fs.length) = false) (.need (EntClosed [] ∧ EntClosed [] ∧ Says (CS Z1) 0 26 false (.loop (loopOf (CS Z1) 88 0)) (mkSt [0, 1, 5] [] 26 [.rsl 3 es false, .rsl 3 fs false, .v (.int .i64 0)] []) (.exit 0) (mkSt [] [] 26 [] [])) (.done (some (.v (.bool true)))))) := by kernel_rfl
set_option maxRecDepth 100000 in
theorem r89a (es : List AV) (n i : Nat) (a b c : Int) : roundD (CS Z1) 60 0 89 0 18 18 false (loopOf (CS Z1) 89 0) [3, 6, 7, 8] [] [3, 6, 7, 8] [15] [3] [] [nilS, .rsl 3 es false, intA (Int.ofNat n), intA (Int.ofNat i)] [] [.br [.chk [.agg [intA a, intA b, intA c]]] []] =
    (bif decide (Int.ofNat i < Int.ofNat n) then (.need (es[i]? = (some (AV.agg [.v (.int .i64 a), .v (.int .i64 b), .v (.int .i64 c)]))) (.need (EntClosed [(false, .arr 3 [.agg [.v (.int .i64 a), .v (.int .i64 b), .v (.int .i64 c)]] false)]) (.done (some ((.nrm, [.sl 15 0 3 0 1, .rsl 3 es false, .v (.int .i64 (Int.ofNat n)), .v (.int .i64 (IntKind.i64.wrap (Int.ofNat i + 1)))], [(false, .arr 3 [.agg [.v (.int .i64 a), .v (.int .i64 b), .v (.int .i64 c)]] false)])))))) else (.need (EntClosed []) (.done (some (((.exit 0), [.v (.slice none 0 0)], [])))))) := by kernel_rfl
set_option maxRecDepth 100000 in
theorem r89b (es rs : List AV) (n i k : Nat) (a b c : Int) : roundD (CS Z1) 60 0 89 0 18 18 false (loopOf (CS Z1) 89 0) [3, 6, 7, 8] [15] [3, 6, 7, 8] [15] [3] [15] [.sl 15 0 3 0 k, .rsl 3 es false, intA (Int.ofNat n), intA (Int.ofNat i)] [(false, .arr 3 rs false)] [.br [.chk [.agg [intA a, intA b, intA c]], .chk rs] []] =
    (bif decide (Int.ofNat i < Int.ofNat n) then (.need (es[i]? = (some (AV.agg [.v (.int .i64 a), .v (.int .i64 b), .v (.int .i64 c)]))) (.need (k = rs.length ∧ true = true ∧ 3 = 3 ∧ (rs ++ ([.agg [.v (.int .i64 a), .v (.int .i64 b), .v (.int .i64 c)]] : List AV)).length * 24 ≤ 35184372088832 ∧ (rs ++ ([.agg [.v (.int .i64 a), .v (.int .i64 b), .v (.int .i64 c)]] : List AV)).length ≤ 35184372088832 ∧ 24 ≠ 0) (.need (EntClosed [(false, .arr 3 (rs ++ ([.agg [.v (.int .i64 a), .v (.int .i64 b), .v (.int .i64 c)]] : List AV)) false)]) (.done (some ((.nrm, [.sl 15 0 3 0 ((rs ++ ([.agg [.v (.int .i64 a), .v (.int .i64 b), .v (.int .i64 c)]] : List AV)).length), .rsl 3 es false, .v (.int .i64 (Int.ofNat n)), .v (.int .i64 (IntKind.i64.wrap (Int.ofNat i + 1)))], [(false, .arr 3 (rs ++ ([.agg [.v (.int .i64 a), .v (.int .i64 b), .v (.int .i64 c)]] : List AV)) false)]))))))) else (.need (EntClosed [(false, .arr 3 rs false)]) (.done (some (((.exit 0), [.sl 15 0 3 0 k], [(false, .arr 3 rs false)])))))) := by kernel_rfl
set_option maxRecDepth 100000 in
theorem t89 (es rs : List AV) : evTreeD (CS Z1) 60 89 [.rsl 3 es false] [.loop 0 [3, 6, 7, 8] [] [3] [] (.exit 0) [.rsl 3 rs false] []] =
    (.need (EntClosed [] ∧ EntClosed [] ∧ Says (CS Z1) 0 18 false (.loop (loopOf (CS Z1) 89 0)) (mkSt [3, 6, 7, 8] [] 18 [.v (.slice none 0 0), .rsl 3 es false, .v (.int .i64 (Int.ofNat es.length)), .v (.int .i64 0)] []) (.exit 0) (mkSt [3] [] 18 [.rsl 3 rs false] [])) (.done (some (.rsl 3 rs false)))) := by kernel_rfl
set_option maxRecDepth 100000 in
theorem t174n (s : ByteArray) : evTreeD (CS Z1) 60 174 [strA s, strA nlB] [.sp [strA s, strA nlB] (boolA false)] =
    (.need (asks (CS Z1) 195 [.v (.string s), .v (.string nlB)] (AV.v (.bool false))) (.done (some (.tup [.v (.string s), .v (.bool false)])))) := by kernel_rfl
set_option maxRecDepth 100000 in
theorem t174y (s t : ByteArray) (i : Nat) : evTreeD (CS Z1) 60 174 [strA s, strA nlB] [.sp [strA s, strA nlB] (boolA true), .ar (intA (Int.ofNat i)), .chk [strA t]] =
    (.need (asks (CS Z1) 195 [.v (.string s), .v (.string nlB)] (AV.v (.bool true))) (.need ((abin (CS Z1) BinOp.sub 3 (Operand.tmp 13) (Operand.tmp 15) (AV.v (.int .i64 (Int.ofNat s.size))) (AV.v (.int .i64 (Int.ofNat nlB.size)))) = (some (AV.v (.int .i64 (Int.ofNat i))))) (.need ((aslice (CS Z1) Tr.leaf 9 (AV.v (.string s)) none (some (AV.v (.int .i64 (Int.ofNat i)))) none) = (some (AV.v (.string t)))) (.done (some (.tup [.v (.string t), .v (.bool true)])))))) := by kernel_rfl
open Go.Lib
theorem spLine {v : St3} (h : okSt v = true) : lineG [stepC.enc v] = some (strA (bA (lineL v))) := by
  have := sp1_at (A := stepC) (F := fun v => bif okSt v then some (strA (bA (lineL v))) else none) v
  rw [h] at this; exact this
/-! ### A table's text -/
def allL (l : List St3) : List UInt8 := l.flatMap lineL
def okTb (l : List St3) : Bool := Nat.ble l.length 1000 && l.all okSt
theorem okTb_at {l : List St3} (h : okTb l = true) : l.length ≤ 1000 ∧ ∀ v ∈ l, okSt v = true := by
  unfold okTb at h
  rw [Bool.and_eq_true, List.all_eq_true] at h
  exact ⟨Nat.le_of_ble_eq_true h.1, h.2⟩
theorem allL_len : ∀ {l : List St3}, (∀ v ∈ l, okSt v = true) → (allL l).length ≤ 47 * l.length
  | [], _ => by simp [allL]
  | v :: l, h => by
    have h1 := lineL_len (h v (by simp))
    have h2 := allL_len (l := l) (fun w hw => h w (by simp [hw]))
    have e : allL (v :: l) = lineL v ++ allL l := by simp [allL]
    rw [e, List.length_append, List.length_cons]
    omega
theorem allL_snoc (l : List St3) (v : St3) : allL (l ++ [v]) = allL l ++ lineL v := by simp [allL]
theorem takeS {l : List St3} {i : Nat} {v : St3} (h : l[i]? = some v) : l.take (i + 1) = l.take i ++ [v] := by rw [List.take_add_one, h]; rfl
/-! ### Equal tables, copies -/
def samG : List AV → Option AV := sp2 stepsC stepsC fun l m => bif decide (l = m) && Nat.ble l.length lim then some (boolA true) else none
theorem h88 : Holds 88 samG := holds2 fun l m r hr => by
  cases hb : decide (l = m) && Nat.ble l.length lim with
  | false => simp [hb] at hr
  | true =>
    simp only [hb, cond_true, Option.some.injEq] at hr; subst hr
    rw [Bool.and_eq_true, decide_eq_true_eq] at hb
    obtain ⟨rfl, hb⟩ := hb
    have hl := limTwo (Nat.le_of_ble_eq_true hb)
    have e := e_len' stepC l
    have h := LoopRun.idx (C := CS Z1) (p := 0) (nt := 26) (rd := false) (c := loopOf (CS Z1) 88 0) (fun i => mkSt [0, 1, 5] [] 26 [.rsl 3 (l.map stepC.enc) false, .rsl 3 (l.map stepC.enc) false, intA (Int.ofNat i)] []) (.exit 0)
      (mkSt [] [] 26 [] []) l (by simp)
      (fun i v hx => by
        have hi := lt_len hx
        have hg : (l.map stepC.enc)[i]? = some (AV.agg [.v (.int .i64 v.1), .v (.int .i64 v.2.1), .v (.int .i64 v.2.2)]) := get_map stepC.enc hx
        have hr := r88 (l.map stepC.enc) (l.map stepC.enc) i v.1 v.2.1 v.2.2
        rw [wrap_ix hi hl] at hr
        refine Z1_ok.rndN hr ⟨by rw [e]; exact lt_of hi, hg, hg, ?_, trivial, rfl⟩
        have := (abin_agg (C := CS Z1) (t := 158) (xo := Operand.tmp 20) (yo := Operand.tmp 24) (a := .agg [intA v.1, intA v.2.1, intA v.2.2]) (b := .agg [intA v.1, intA v.2.1, intA v.2.2]) (r := (v.1 == v.1 && (v.2.1 == v.2.1 && true)) && (v.2.2 == v.2.2 && true)) rfl rfl (by kernel_rfl) (by kernel_rfl)).2
        rw [beq_self_eq_true, beq_self_eq_true, beq_self_eq_true] at this
        exact this)
      (Z1_ok.rndX (r88x (l.map stepC.enc) (l.map stepC.enc) l.length) ⟨by rw [e]; exact lt_self _, trivial, rfl⟩)
    exact Z1_ok.tr (t88 (l.map stepC.enc) (l.map stepC.enc)) ⟨by simp, ⟨trivial, trivial, h.says⟩, rfl⟩
end Go.Vm.S6
