/- Tables, bounds, margins. -/
import Derived.Test.YtbplbhcgcicgfaaGreatDoorS6LA
namespace Go.Vm.S6
open Go.Proofs Go.RowKit
set_option maxRecDepth 100000 in
theorem t62 (es : List AV) : evTreeD (CS T8) 60 62 [.rsl 3 es false] [] =
    (.done (some (.v (.bool (decide (Int.ofNat es.length ≤ 17)))))) := by kernel_rfl
set_option maxRecDepth 100000 in
theorem t247 (a b c d x y : Int) (o : Bool) : evTreeD (CS T8) 60 247 [.agg [intA a, intA b, intA c, intA d, boolA o], .agg [intA x, intA y]] [] =
    (bif !o then (.done (some (.v (.bool (decide (cmpW (c, d) (x, y) < 0)))))) else (.done (some (.v (.bool false))))) := by kernel_rfl
set_option maxRecDepth 100000 in
theorem t248 (a b c d x y : Int) (o : Bool) : evTreeD (CS T8) 60 248 [.agg [intA a, intA b, intA c, intA d, boolA o], .agg [intA x, intA y]] [] =
    (.done (some (.v (.bool (decide (cmpW (a, b) (x, y) > 0)))))) := by kernel_rfl
set_option maxRecDepth 100000 in
theorem r65a (es : List AV) (a b r : Int) (n i : Nat) : roundD (CS T8) 60 0 65 0 18 18 false (loopOf (CS T8) 65 0) [3, 6, 7, 8] [] [3, 6, 7, 8] [15] [3] [] [nilS, .rsl 3 es false, intA (Int.ofNat n), intA (Int.ofNat i)] [] [.br [.chk [.agg [intA a, intA b, intA r]]] []] =
    (bif decide (Int.ofNat i < Int.ofNat n) then (.need (es[i]? = (some (AV.agg [.v (.int .i64 a), .v (.int .i64 b), .v (.int .i64 r)]))) (.need (EntClosed [(false, .arr 3 [.agg [.v (.int .i64 a), .v (.int .i64 b), .v (.int .i64 r)]] false)]) (.done (some ((.nrm, [.sl 15 0 3 0 1, .rsl 3 es false, .v (.int .i64 (Int.ofNat n)), .v (.int .i64 (IntKind.i64.wrap (Int.ofNat i + 1)))], [(false, .arr 3 [.agg [.v (.int .i64 a), .v (.int .i64 b), .v (.int .i64 r)]] false)])))))) else (.need (EntClosed []) (.done (some (((.exit 0), [.v (.slice none 0 0)], [])))))) := by kernel_rfl
set_option maxRecDepth 100000 in
theorem r65b (es rs : List AV) (a b r : Int) (n i k : Nat) : roundD (CS T8) 60 0 65 0 18 18 false (loopOf (CS T8) 65 0) [3, 6, 7, 8] [15] [3, 6, 7, 8] [15] [3] [15] [.sl 15 0 3 0 k, .rsl 3 es false, intA (Int.ofNat n), intA (Int.ofNat i)] [(false, .arr 3 rs false)] [.br [.chk [.agg [intA a, intA b, intA r]], .chk rs] []] =
    (bif decide (Int.ofNat i < Int.ofNat n) then (.need (es[i]? = (some (AV.agg [.v (.int .i64 a), .v (.int .i64 b), .v (.int .i64 r)]))) (.need (k = rs.length ∧ true = true ∧ 3 = 3 ∧ (rs ++ ([.agg [.v (.int .i64 a), .v (.int .i64 b), .v (.int .i64 r)]] : List AV)).length * 24 ≤ 35184372088832 ∧ (rs ++ ([.agg [.v (.int .i64 a), .v (.int .i64 b), .v (.int .i64 r)]] : List AV)).length ≤ 35184372088832 ∧ 24 ≠ 0) (.need (EntClosed [(false, .arr 3 (rs ++ ([.agg [.v (.int .i64 a), .v (.int .i64 b), .v (.int .i64 r)]] : List AV)) false)]) (.done (some ((.nrm, [.sl 15 0 3 0 ((rs ++ ([.agg [.v (.int .i64 a), .v (.int .i64 b), .v (.int .i64 r)]] : List AV)).length), .rsl 3 es false, .v (.int .i64 (Int.ofNat n)), .v (.int .i64 (IntKind.i64.wrap (Int.ofNat i + 1)))], [(false, .arr 3 (rs ++ ([.agg [.v (.int .i64 a), .v (.int .i64 b), .v (.int .i64 r)]] : List AV)) false)]))))))) else (.need (EntClosed [(false, .arr 3 rs false)]) (.done (some (((.exit 0), [.sl 15 0 3 0 k], [(false, .arr 3 rs false)])))))) := by kernel_rfl
set_option maxRecDepth 100000 in
theorem t65 (es rs : List AV) : evTreeD (CS T8) 60 65 [.rsl 3 es false] [.loop 0 [3, 6, 7, 8] [] [3] [] (.exit 0) [.rsl 3 rs false] []] =
    (.need (EntClosed [] ∧ EntClosed [] ∧ Says (CS T8) 0 18 false (.loop (loopOf (CS T8) 65 0)) (mkSt [3, 6, 7, 8] [] 18 [.v (.slice none 0 0), .rsl 3 es false, .v (.int .i64 (Int.ofNat es.length)), .v (.int .i64 0)] []) (.exit 0) (mkSt [3] [] 18 [.rsl 3 rs false] [])) (.done (some (.rsl 3 rs false)))) := by kernel_rfl
set_option maxRecDepth 100000 in
theorem r68z (es : List AV) (a b r : Int) : roundD (CS T8) 60 0 68 0 66 66 false (loopOf (CS T8) 68 0) [0, 4] [] [0, 4] [] [2] [] [.rsl 3 es false, intA 0] [] [.br [.chk [.agg [intA a, intA b, intA r]], .chk [.agg [intA a, intA b, intA r]]] []] =
    (bif decide (0 < Int.ofNat es.length) then (.need (es[0]? = (some (AV.agg [.v (.int .i64 a), .v (.int .i64 b), .v (.int .i64 r)]))) (.need (es[0]? = (some (AV.agg [.v (.int .i64 a), .v (.int .i64 b), .v (.int .i64 r)]))) (bif firstM [ratErr (a, b), withinM r 0 1000] != 0 then (.need (EntClosed []) (.done (some ((.ret, [.v (.int .i64 (firstM [ratErr (a, b), withinM r 0 1000]))], []))))) else (.need (EntClosed []) (.done (some ((.nrm, [.rsl 3 es false, .v (.int .i64 (IntKind.i64.wrap (0 + 1)))], [])))))))) else (.need (EntClosed []) (.done (some (((.exit 0), [.bad], [])))))) := by kernel_rfl
set_option maxRecDepth 100000 in
theorem r68s (es : List AV) (a b r c d q : Int) (i j : Nat) : roundD (CS T8) 60 0 68 0 66 66 false (loopOf (CS T8) 68 0) [0, 4] [] [0, 4] [] [2] [] [.rsl 3 es false, intA (Int.ofNat i)] [] [.br [.chk [.agg [intA a, intA b, intA r]], .chk [.agg [intA a, intA b, intA r]], .br [] [.ar (intA (Int.ofNat j)), .chk [.agg [intA c, intA d, intA q]], .chk [.agg [intA a, intA b, intA r]], .chk [.agg [intA a, intA b, intA r]], .ar (intA (Int.ofNat j)), .chk [.agg [intA c, intA d, intA q]]]] []] =
    (bif decide (Int.ofNat i < Int.ofNat es.length) then (.need (es[i]? = (some (AV.agg [.v (.int .i64 a), .v (.int .i64 b), .v (.int .i64 r)]))) (.need (es[i]? = (some (AV.agg [.v (.int .i64 a), .v (.int .i64 b), .v (.int .i64 r)]))) (bif firstM [ratErr (a, b), withinM r 0 1000] != 0 then (.need (EntClosed []) (.done (some ((.ret, [.v (.int .i64 (firstM [ratErr (a, b), withinM r 0 1000]))], []))))) else (bif decide (Int.ofNat i > 0) then (.need ((abin (CS T8) BinOp.sub 3 (Operand.tmp 39) (Operand.const (Value.int IntKind.i64 1)) (AV.v (.int .i64 (Int.ofNat i))) (AV.v (.int .i64 1))) = (some (AV.v (.int .i64 (Int.ofNat j))))) (.need (es[j]? = (some (AV.agg [.v (.int .i64 c), .v (.int .i64 d), .v (.int .i64 q)]))) (.need (es[i]? = (some (AV.agg [.v (.int .i64 a), .v (.int .i64 b), .v (.int .i64 r)]))) (bif decide (cmpW (c, d) (a, b) ≥ 0) then (.need (EntClosed []) (.done (some ((.ret, [.v (.int .i64 11)], []))))) else (.need (es[i]? = (some (AV.agg [.v (.int .i64 a), .v (.int .i64 b), .v (.int .i64 r)]))) (.need ((abin (CS T8) BinOp.sub 3 (Operand.tmp 58) (Operand.const (Value.int IntKind.i64 1)) (AV.v (.int .i64 (Int.ofNat i))) (AV.v (.int .i64 1))) = (some (AV.v (.int .i64 (Int.ofNat j))))) (.need (es[j]? = (some (AV.agg [.v (.int .i64 c), .v (.int .i64 d), .v (.int .i64 q)]))) (bif decide (r < q) then (.need (EntClosed []) (.done (some ((.ret, [.v (.int .i64 11)], []))))) else (.need (EntClosed []) (.done (some ((.nrm, [.rsl 3 es false, .v (.int .i64 (IntKind.i64.wrap (Int.ofNat i + 1)))], []))))))))))))) else (.need ((abin (CS T8) BinOp.add 3 (Operand.tmp 16) (Operand.const (Value.int IntKind.i64 1)) (AV.v (.int .i64 (Int.ofNat i))) (AV.v (.int .i64 1))) = (some (AV.v (.int .i64 (Int.ofNat j))))) (.need (EntClosed []) (.done (some ((.nrm, [.rsl 3 es false, .v (.int .i64 (Int.ofNat j))], [])))))))))) else (.need (EntClosed []) (.done (some (((.exit 0), [.bad], [])))))) := by kernel_rfl
set_option maxRecDepth 100000 in
theorem t68r (es : List AV) (x : Int) : evTreeD (CS T8) 60 68 [.rsl 3 es false] [.br [] [.loop 0 [0, 4] [] [2] [] .ret [intA x] []]] =
    (bif manyI (Int.ofNat es.length) 16 != 0 then (.done (some (.v (.int .i64 (manyI (Int.ofNat es.length) 16))))) else (.need (EntClosed [] ∧ EntClosed [] ∧ Says (CS T8) 0 66 false (.loop (loopOf (CS T8) 68 0)) (mkSt [0, 4] [] 66 [.rsl 3 es false, .v (.int .i64 0)] []) .ret (mkSt [2] [] 66 [.v (.int .i64 x)] [])) (.done (some (.v (.int .i64 x)))))) := by kernel_rfl
set_option maxRecDepth 100000 in
theorem t68e (es : List AV) : evTreeD (CS T8) 60 68 [.rsl 3 es false] [.br [] [.loop 0 [0, 4] [] [2] [] (.exit 0) [.bad] []]] =
    (bif manyI (Int.ofNat es.length) 16 != 0 then (.done (some (.v (.int .i64 (manyI (Int.ofNat es.length) 16))))) else (.need (EntClosed [] ∧ EntClosed [] ∧ Says (CS T8) 0 66 false (.loop (loopOf (CS T8) 68 0)) (mkSt [0, 4] [] 66 [.rsl 3 es false, .v (.int .i64 0)] []) (.exit 0) (mkSt [2] [] 66 [.bad] [])) (.done (some (.v (.int .i64 0)))))) := by kernel_rfl
set_option maxRecDepth 100000 in
theorem r141z (es : List AV) (a b r : Int) (n : Nat) : roundD (CS T8) 60 0 141 0 57 57 false (loopOf (CS T8) 141 0) [0, 13, 14, 15] [] [0, 13, 14, 15] [] [2] [] [.rsl 3 es false, .rsl 3 es false, intA (Int.ofNat n), intA 0] [] [.br [.chk [.agg [intA a, intA b, intA r]]] []] =
    (bif decide (0 < Int.ofNat n) then (.need (es[0]? = (some (AV.agg [.v (.int .i64 a), .v (.int .i64 b), .v (.int .i64 r)]))) (bif firstM [ratErr (a, b), withinM r 0 1000] != 0 then (.need (EntClosed []) (.done (some ((.ret, [.v (.int .i64 (firstM [ratErr (a, b), withinM r 0 1000]))], []))))) else (.need (EntClosed []) (.done (some ((.nrm, [.rsl 3 es false, .rsl 3 es false, .v (.int .i64 (Int.ofNat n)), .v (.int .i64 (IntKind.i64.wrap (0 + 1)))], []))))))) else (.need (EntClosed []) (.done (some (((.exit 0), [.bad], [])))))) := by kernel_rfl
set_option maxRecDepth 100000 in
theorem r141s (es : List AV) (a b r c d q : Int) (n i j : Nat) : roundD (CS T8) 60 0 141 0 57 57 false (loopOf (CS T8) 141 0) [0, 13, 14, 15] [] [0, 13, 14, 15] [] [2] [] [.rsl 3 es false, .rsl 3 es false, intA (Int.ofNat n), intA (Int.ofNat i)] [] [.br [.chk [.agg [intA a, intA b, intA r]], .br [] [.ar (intA (Int.ofNat j)), .chk [.agg [intA c, intA d, intA q]], .ar (intA (Int.ofNat j)), .chk [.agg [intA c, intA d, intA q]]]] []] =
    (bif decide (Int.ofNat i < Int.ofNat n) then (.need (es[i]? = (some (AV.agg [.v (.int .i64 a), .v (.int .i64 b), .v (.int .i64 r)]))) (bif firstM [ratErr (a, b), withinM r 0 1000] != 0 then (.need (EntClosed []) (.done (some ((.ret, [.v (.int .i64 (firstM [ratErr (a, b), withinM r 0 1000]))], []))))) else (bif decide (Int.ofNat i > 0) then (.need ((abin (CS T8) BinOp.sub 3 (Operand.tmp 37) (Operand.const (Value.int IntKind.i64 1)) (AV.v (.int .i64 (Int.ofNat i))) (AV.v (.int .i64 1))) = (some (AV.v (.int .i64 (Int.ofNat j))))) (.need (es[j]? = (some (AV.agg [.v (.int .i64 c), .v (.int .i64 d), .v (.int .i64 q)]))) (bif decide (cmpW (a, b) (c, d) ≤ 0) then (.need (EntClosed []) (.done (some ((.ret, [.v (.int .i64 11)], []))))) else (.need ((abin (CS T8) BinOp.sub 3 (Operand.tmp 48) (Operand.const (Value.int IntKind.i64 1)) (AV.v (.int .i64 (Int.ofNat i))) (AV.v (.int .i64 1))) = (some (AV.v (.int .i64 (Int.ofNat j))))) (.need (es[j]? = (some (AV.agg [.v (.int .i64 c), .v (.int .i64 d), .v (.int .i64 q)]))) (bif decide (r < q) then (.need (EntClosed []) (.done (some ((.ret, [.v (.int .i64 11)], []))))) else (.need (EntClosed []) (.done (some ((.nrm, [.rsl 3 es false, .rsl 3 es false, .v (.int .i64 (Int.ofNat n)), .v (.int .i64 (IntKind.i64.wrap (Int.ofNat i + 1)))], []))))))))))) else (.need ((abin (CS T8) BinOp.add 3 (Operand.tmp 15) (Operand.const (Value.int IntKind.i64 1)) (AV.v (.int .i64 (Int.ofNat i))) (AV.v (.int .i64 1))) = (some (AV.v (.int .i64 (Int.ofNat j))))) (.need (EntClosed []) (.done (some ((.nrm, [.rsl 3 es false, .rsl 3 es false, .v (.int .i64 (Int.ofNat n)), .v (.int .i64 (Int.ofNat j))], []))))))))) else (.need (EntClosed []) (.done (some (((.exit 0), [.bad], [])))))) := by kernel_rfl
set_option maxRecDepth 100000 in
theorem t141r (es : List AV) (x : Int) : evTreeD (CS T8) 60 141 [.rsl 3 es false] [.br [] [.loop 0 [0, 13, 14, 15] [] [2] [] .ret [intA x] []]] =
    (bif manyI (Int.ofNat es.length) 16 != 0 then (.done (some (.v (.int .i64 (manyI (Int.ofNat es.length) 16))))) else (.need (EntClosed [] ∧ EntClosed [] ∧ Says (CS T8) 0 57 false (.loop (loopOf (CS T8) 141 0)) (mkSt [0, 13, 14, 15] [] 57 [.rsl 3 es false, .rsl 3 es false, .v (.int .i64 (Int.ofNat es.length)), .v (.int .i64 0)] []) .ret (mkSt [2] [] 57 [.v (.int .i64 x)] [])) (.done (some (.v (.int .i64 x)))))) := by kernel_rfl
set_option maxRecDepth 100000 in
theorem t141e (es : List AV) : evTreeD (CS T8) 60 141 [.rsl 3 es false] [.br [] [.loop 0 [0, 13, 14, 15] [] [2] [] (.exit 0) [.bad] []]] =
    (bif manyI (Int.ofNat es.length) 16 != 0 then (.done (some (.v (.int .i64 (manyI (Int.ofNat es.length) 16))))) else (.need (EntClosed [] ∧ EntClosed [] ∧ Says (CS T8) 0 57 false (.loop (loopOf (CS T8) 141 0)) (mkSt [0, 13, 14, 15] [] 57 [.rsl 3 es false, .rsl 3 es false, .v (.int .i64 (Int.ofNat es.length)), .v (.int .i64 0)] []) (.exit 0) (mkSt [2] [] 57 [.bad] [])) (.done (some (.v (.int .i64 0)))))) := by kernel_rfl
set_option maxRecDepth 100000 in
theorem r142 (es : List AV) (a b r x y s : Int) (n i : Nat) : roundD (CS T8) 60 0 142 0 23 23 false (loopOf (CS T8) 142 0) [3, 5, 8, 9, 10] [3] [3, 5, 8, 9, 10] [3] [5] [] [.ptr 3 0 0, intA s, .rsl 3 es false, intA (Int.ofNat n), intA (Int.ofNat i)] [(false, .box [intA x, intA y])] [.br [.chk [.agg [intA a, intA b, intA r]]] []] =
    (bif decide (Int.ofNat i < Int.ofNat n) then (.need (es[i]? = (some (AV.agg [.v (.int .i64 a), .v (.int .i64 b), .v (.int .i64 r)]))) (bif decide (cmpW (a, b) (x, y) ≤ 0) then (.need (EntClosed [(false, .box [.v (.int .i64 x), .v (.int .i64 y)])]) (.done (some ((.nrm, [.ptr 3 0 0, .v (.int .i64 r), .rsl 3 es false, .v (.int .i64 (Int.ofNat n)), .v (.int .i64 (IntKind.i64.wrap (Int.ofNat i + 1)))], [(false, .box [.v (.int .i64 x), .v (.int .i64 y)])]))))) else (.need (EntClosed [(false, .box [.v (.int .i64 x), .v (.int .i64 y)])]) (.done (some ((.nrm, [.ptr 3 0 0, .v (.int .i64 s), .rsl 3 es false, .v (.int .i64 (Int.ofNat n)), .v (.int .i64 (IntKind.i64.wrap (Int.ofNat i + 1)))], [(false, .box [.v (.int .i64 x), .v (.int .i64 y)])]))))))) else (.need (EntClosed []) (.done (some (((.exit 0), [.v (.int .i64 s)], [])))))) := by kernel_rfl
set_option maxRecDepth 100000 in
theorem t142 (es : List AV) (x y s : Int) : evTreeD (CS T8) 60 142 [.rsl 3 es false, .agg [intA x, intA y]] [.loop 0 [3, 5, 8, 9, 10] [3] [5] [] (.exit 0) [intA s] []] =
    (.need (EntClosed [(false, .box [.v (.int .i64 x), .v (.int .i64 y)])] ∧ EntClosed [] ∧ Says (CS T8) 0 23 false (.loop (loopOf (CS T8) 142 0)) (mkSt [3, 5, 8, 9, 10] [3] 23 [.ptr 3 0 0, .v (.int .i64 0), .rsl 3 es false, .v (.int .i64 (Int.ofNat es.length)), .v (.int .i64 0)] [(false, .box [.v (.int .i64 x), .v (.int .i64 y)])]) (.exit 0) (mkSt [5] [] 23 [.v (.int .i64 s)] [])) (.done (some (.v (.int .i64 s))))) := by kernel_rfl
abbrev St3 : Type := Int × Int × Int
abbrev stepC : Cod St3 := jtC
abbrev stepsC : Cod (List St3) := listC stepC 3
abbrev rat3 (s : St3) : P2 := (s.1, s.2.1)
abbrev Bd : Type := Int × Int × Int × Int × Bool
def bdC : Cod Bd := aggC (RC.cons intC (RC.cons intC (RC.cons intC (RC.cons intC (RC.one boolC)))))
abbrev loB (b : Bd) : P2 := (b.1, b.2.1)
abbrev hiB (b : Bd) : P2 := (b.2.2.1, b.2.2.2.1)
abbrev ovB (b : Bd) : Bool := b.2.2.2.2
theorem closedStep (m : List St3) : ClosedL (m.map stepC.enc) := ClosedL.map fun _ => rfl
theorem e_len' {α : Type} (A : Cod α) (l : List α) : Int.ofNat (l.map A.enc).length = Int.ofNat l.length := by simp
/-! ### Checks -/
def stTabG : List AV → Option AV := sp1 stepsC fun l => some (boolA (decide (Int.ofNat l.length ≤ 17)))
theorem h62 : Holds 62 stTabG := holds1 fun l r hr => by
  simp only [Option.some.injEq] at hr; subst hr
  refine T8_ok.tr (t62 (l.map stepC.enc)) ?_
  rw [e_len']; rfl
/-! ### Margins -/
def below (b : Bd) (x : P2) : Bool := !ovB b && decide (cmpW (hiB b) x < 0)
def belowG : List AV → Option AV := sp2 bdC p2C fun b x => some (boolA (below b x))
theorem h247 : Holds 247 belowG := holds2 fun b x r hr => by
  simp only [Option.some.injEq] at hr; subst hr
  refine T8_ok.tr (t247 b.1 b.2.1 b.2.2.1 b.2.2.2.1 x.1 x.2 b.2.2.2.2) ?_
  show (bif !ovB b then _ else _ : Dt AV).ok _
  unfold below
  cases ovB b <;> rfl
def beyond (b : Bd) (x : P2) : Bool := decide (cmpW (loB b) x > 0)
def beyondG : List AV → Option AV := sp2 bdC p2C fun b x => some (boolA (beyond b x))
theorem h248 : Holds 248 beyondG := holds2 fun b x r hr => by
  simp only [Option.some.injEq] at hr; subst hr
  exact T8_ok.tr (t248 b.1 b.2.1 b.2.2.1 b.2.2.2.1 x.1 x.2 b.2.2.2.2) rfl
/-! ### Copies of tables -/
def ownSG : List AV → Option AV := sp1 stepsC fun l => bif Nat.ble l.length lim then some (slA stepC 3 l) else none
theorem h65 : Holds 65 ownSG := holds1 fun l r hr => by
  cases hb : Nat.ble l.length lim with
  | false => simp [hb] at hr
  | true =>
    simp only [hb, cond_true, Option.some.injEq] at hr; subst hr
    have hle := Nat.le_of_ble_eq_true hb
    have hlim := limTwo hle
    have e := e_len' stepC l
    have h := LoopRun.gather (C := CS T8) (p := 0) (nt := 18) (rd := false) (c := loopOf (CS T8) 65 0) (fun _ p => [p]) 1 (by simp) (fun i (acc : List St3) => blSt 15 3 [3, 6, 7, 8] 18 (fun a => [a, .rsl 3 (l.map stepC.enc) false, intA (Int.ofNat l.length), intA (Int.ofNat i)]) (acc.map stepC.enc)) (.exit 0)
      (fun acc => mkSt [3] [] 18 [.rsl 3 (acc.map stepC.enc) false] []) l (by simp)
      (fun i p acc hx hacc => by
        have hi := lt_len hx
        have hlen : ((acc ++ [p]).map stepC.enc).length ≤ 35184372088832 / 1024 := by simp; unfold lim at hle; omega
        have hw := wrap_ix hi hlim
        cases acc with
        | nil =>
          refine T8_ok.rndN (r65a (l.map stepC.enc) p.1 p.2.1 p.2.2 l.length i) ?_
          rw [lt_of hi, hw]
          exact ⟨get_map _ hx, ⟨closedStep [p], trivial⟩, rfl⟩
        | cons y ys =>
          have e2 : blSt 15 3 [3, 6, 7, 8] 18 (fun a => [a, .rsl 3 (l.map stepC.enc) false, intA (Int.ofNat l.length), intA (Int.ofNat (i + 1))]) (((y :: ys) ++ [p]).map stepC.enc) = mkSt [3, 6, 7, 8] [15] 18 [.sl 15 0 3 0 ((y :: ys).map stepC.enc ++ [stepC.enc p]).length, .rsl 3 (l.map stepC.enc) false, intA (Int.ofNat l.length), intA (Int.ofNat (i + 1))] [(false, .arr 3 ((y :: ys).map stepC.enc ++ [stepC.enc p]) false)] := by
            rw [show ((y :: ys) ++ [p]).map stepC.enc = (y :: ys).map stepC.enc ++ [stepC.enc p] by simp]; rfl
          rw [e2]
          refine T8_ok.rndN (r65b (l.map stepC.enc) ((y :: ys).map stepC.enc) p.1 p.2.1 p.2.2 l.length i ((y :: ys).map stepC.enc).length) ?_
          rw [lt_of hi, hw]
          rw [show ((y :: ys) ++ [p]).map stepC.enc = (y :: ys).map stepC.enc ++ [stepC.enc p] by simp] at hlen
          exact ⟨get_map _ hx, ⟨rfl, rfl, rfl, by change (List.map stepC.enc (y :: ys) ++ [stepC.enc p]).length * 24 ≤ _; omega, by change (List.map stepC.enc (y :: ys) ++ [stepC.enc p]).length ≤ _; omega, by omega⟩, ⟨(closedStep (y :: ys)).append (closedStep [p]), trivial⟩, rfl⟩)
      (fun acc _ => by
        refine Says.blEnd (key := 15) ?_ (closedStep acc)
        cases acc with
        | nil => exact T8_ok.rndX (r65a (l.map stepC.enc) 0 0 0 l.length l.length) (by rw [lt_self]; exact ⟨trivial, rfl⟩)
        | cons y ys => exact T8_ok.rndX (r65b (l.map stepC.enc) ((y :: ys).map stepC.enc) 0 0 0 l.length l.length ((y :: ys).map stepC.enc).length) (by rw [lt_self]; exact ⟨⟨closedStep (y :: ys), trivial⟩, rfl⟩))
    rw [gath_id] at h
    refine T8_ok.tr (t65 (l.map stepC.enc) (l.map stepC.enc)) ⟨⟨trivial, trivial, ?_⟩, rfl⟩
    rw [List.length_map]
    exact h.says
/-! ### Tables -/
theorem cmpI_anti (a b : Int) : decide (cmpI a b ≤ 0) = decide (cmpI b a ≥ 0) := by
  unfold cmpI
  by_cases h1 : a < b
  · have : ¬ b < a := by omega
    simp [h1, this]
  · by_cases h2 : b < a
    · simp [h1, h2]
    · simp [h1, h2]
theorem cmpW_anti (x y : P2) : decide (cmpW x y ≤ 0) = decide (cmpW y x ≥ 0) := cmpI_anti _ _
def stErr (s : St3) : Int := firstM [ratErr (rat3 s), withinM s.2.2 0 1000]
def badS (p s : St3) : Bool := decide (cmpW (rat3 p) (rat3 s) ≥ 0) || decide (s.2.2 < p.2.2)
def tblF (l : List St3) (i : Nat) (x : St3) : Option Int :=
  bif stErr x != 0 then some (stErr x) else match i with
    | 0 => none
    | j + 1 => match l[j]? with
      | some p => bif badS p x then some 11 else none
      | none => none
def tblM (l : List St3) : Int := bif manyI (Int.ofNat l.length) 16 != 0 then manyI (Int.ofNat l.length) 16 else (srch (tblF l) 0 l).getD 0
def tblG : List AV → Option AV := sp1 stepsC fun l => bif Nat.ble l.length lim then some (intA (tblM l)) else none
theorem sub1 {j : Nat} (h : j + 1 < two63) : IntKind.i64.wrap (Int.ofNat (j + 1) - 1) = Int.ofNat j := by
  have : Int.ofNat (j + 1) - 1 = Int.ofNat j := by simp only [Int.ofNat_eq_natCast]; omega
  rw [this]; exact wrap_in (by simp only [Int.ofNat_eq_natCast]; omega) (by unfold two63 at h; simp only [Int.ofNat_eq_natCast]; omega)
theorem pos1 (j : Nat) : decide (Int.ofNat (j + 1) > 0) = true := by simp
theorem h68 : Holds 68 tblG := holds1 fun l r hr => by
  cases hb : Nat.ble l.length lim with
  | false => simp [hb] at hr
  | true =>
    simp only [hb, cond_true, Option.some.injEq] at hr; subst hr
    have hl := limTwo (Nat.le_of_ble_eq_true hb)
    have e := e_len' stepC l
    have h := LoopRun.find (C := CS T8) (p := 0) (nt := 66) (rd := false) (c := loopOf (CS T8) 68 0) (tblF l) (fun i => mkSt [0, 4] [] 66 [.rsl 3 (l.map stepC.enc) false, intA (Int.ofNat i)] [])
      (fun t => mkSt [2] [] 66 [intA t] []) (mkSt [2] [] 66 [.bad] []) (.exit 0) (fun _ => .ret) l (by simp) (by simp)
      (fun i x hx => by
        have hi := lt_len hx
        cases i with
        | zero =>
          have hr := r68z (l.map stepC.enc) x.1 x.2.1 x.2.2
          rw [e, show decide (0 < Int.ofNat l.length) = true by simp; exact_mod_cast hi] at hr
          have hr : _ = (Dt.need _ (.need _ (bif stErr x != 0 then _ else _)) : Dt _) := hr
          unfold tblF
          cases hs : stErr x != 0 with
          | true => rw [hs] at hr; exact T8_ok.rndR hr ⟨get_map _ hx, get_map _ hx, trivial, rfl⟩
          | false => rw [hs] at hr; exact T8_ok.rndN hr ⟨get_map _ hx, get_map _ hx, trivial, rfl⟩
        | succ j =>
          obtain ⟨p, hp⟩ : ∃ p, l[j]? = some p := ⟨_, List.getElem?_eq_getElem (show j < l.length by omega)⟩
          have hr := r68s (l.map stepC.enc) x.1 x.2.1 x.2.2 p.1 p.2.1 p.2.2 (j + 1) j
          have hsub := sub_ok T8 (.tmp 39) (.const (.int .i64 1)) (Int.ofNat (j + 1)) 1
          have hsub2 := sub_ok T8 (.tmp 58) (.const (.int .i64 1)) (Int.ofNat (j + 1)) 1
          rw [sub1 (by omega)] at hsub hsub2
          rw [e, lt_of hi, wrap_ix hi hl, pos1] at hr
          have hr : _ = (Dt.need _ (.need _ (bif stErr x != 0 then _ else .need _ (.need _ (.need _ (bif decide (cmpW (rat3 p) (rat3 x) ≥ 0) then _ else _))))) : Dt _) := hr
          unfold tblF
          simp only [hp]
          unfold badS
          cases hs : stErr x != 0 with
          | true => rw [hs] at hr; exact T8_ok.rndR hr ⟨get_map _ hx, get_map _ hx, trivial, rfl⟩
          | false =>
            rw [hs] at hr
            cases h1 : decide (cmpW (rat3 p) (rat3 x) ≥ 0) with
            | true => rw [h1] at hr; exact T8_ok.rndR hr ⟨get_map _ hx, get_map _ hx, hsub, get_map _ hp, get_map _ hx, trivial, rfl⟩
            | false =>
              rw [h1] at hr
              cases h2 : decide (x.2.2 < p.2.2) with
              | true => rw [h2] at hr; exact T8_ok.rndR hr ⟨get_map _ hx, get_map _ hx, hsub, get_map _ hp, get_map _ hx, get_map _ hx, hsub2, get_map _ hp, trivial, rfl⟩
              | false => rw [h2] at hr; exact T8_ok.rndN hr ⟨get_map _ hx, get_map _ hx, hsub, get_map _ hp, get_map _ hx, get_map _ hx, hsub2, get_map _ hp, trivial, rfl⟩)
      (T8_ok.rndX (r68s (l.map stepC.enc) 0 0 0 0 0 0 l.length 0) (by rw [e, lt_self]; exact ⟨trivial, rfl⟩))
    unfold tblM
    cases hm : manyI (Int.ofNat l.length) 16 != 0 with
    | true => exact T8_ok.tr (t68e (l.map stepC.enc)) (by rw [e, hm]; rfl)
    | false =>
      cases hq : srch (tblF l) 0 l with
      | some t => rw [hq] at h; exact T8_ok.tr (t68r (l.map stepC.enc) t) (by rw [e, hm]; exact ⟨⟨trivial, trivial, h.says⟩, rfl⟩)
      | none => rw [hq] at h; exact T8_ok.tr (t68e (l.map stepC.enc)) (by rw [e, hm]; exact ⟨⟨trivial, trivial, h.says⟩, rfl⟩)
theorem h141 : Holds 141 tblG := holds1 fun l r hr => by
  cases hb : Nat.ble l.length lim with
  | false => simp [hb] at hr
  | true =>
    simp only [hb, cond_true, Option.some.injEq] at hr; subst hr
    have hl := limTwo (Nat.le_of_ble_eq_true hb)
    have e := e_len' stepC l
    have h := LoopRun.find (C := CS T8) (p := 0) (nt := 57) (rd := false) (c := loopOf (CS T8) 141 0) (tblF l) (fun i => mkSt [0, 13, 14, 15] [] 57 [.rsl 3 (l.map stepC.enc) false, .rsl 3 (l.map stepC.enc) false, intA (Int.ofNat l.length), intA (Int.ofNat i)] [])
      (fun t => mkSt [2] [] 57 [intA t] []) (mkSt [2] [] 57 [.bad] []) (.exit 0) (fun _ => .ret) l (by simp) (by simp)
      (fun i x hx => by
        have hi := lt_len hx
        cases i with
        | zero =>
          have hr := r141z (l.map stepC.enc) x.1 x.2.1 x.2.2 l.length
          rw [show decide (0 < Int.ofNat l.length) = true by simp; exact_mod_cast hi] at hr
          have hr : _ = (Dt.need _ (bif stErr x != 0 then _ else _) : Dt _) := hr
          unfold tblF
          cases hs : stErr x != 0 with
          | true => rw [hs] at hr; exact T8_ok.rndR hr ⟨get_map _ hx, trivial, rfl⟩
          | false => rw [hs] at hr; exact T8_ok.rndN hr ⟨get_map _ hx, trivial, rfl⟩
        | succ j =>
          obtain ⟨p, hp⟩ : ∃ p, l[j]? = some p := ⟨_, List.getElem?_eq_getElem (show j < l.length by omega)⟩
          have hr := r141s (l.map stepC.enc) x.1 x.2.1 x.2.2 p.1 p.2.1 p.2.2 l.length (j + 1) j
          have hsub := sub_ok T8 (.tmp 37) (.const (.int .i64 1)) (Int.ofNat (j + 1)) 1
          have hsub2 := sub_ok T8 (.tmp 48) (.const (.int .i64 1)) (Int.ofNat (j + 1)) 1
          rw [sub1 (by omega)] at hsub hsub2
          rw [lt_of hi, wrap_ix hi hl, pos1, cmpW_anti] at hr
          have hr : _ = (Dt.need _ (bif stErr x != 0 then _ else .need _ (.need _ (bif decide (cmpW (rat3 p) (rat3 x) ≥ 0) then _ else _))) : Dt _) := hr
          unfold tblF
          simp only [hp]
          unfold badS
          cases hs : stErr x != 0 with
          | true => rw [hs] at hr; exact T8_ok.rndR hr ⟨get_map _ hx, trivial, rfl⟩
          | false =>
            rw [hs] at hr
            cases h1 : decide (cmpW (rat3 p) (rat3 x) ≥ 0) with
            | true => rw [h1] at hr; exact T8_ok.rndR hr ⟨get_map _ hx, hsub, get_map _ hp, trivial, rfl⟩
            | false =>
              rw [h1] at hr
              cases h2 : decide (x.2.2 < p.2.2) with
              | true => rw [h2] at hr; exact T8_ok.rndR hr ⟨get_map _ hx, hsub, get_map _ hp, hsub2, get_map _ hp, trivial, rfl⟩
              | false => rw [h2] at hr; exact T8_ok.rndN hr ⟨get_map _ hx, hsub, get_map _ hp, hsub2, get_map _ hp, trivial, rfl⟩)
      (T8_ok.rndX (r141s (l.map stepC.enc) 0 0 0 0 0 0 l.length l.length 0) (by rw [lt_self]; exact ⟨trivial, rfl⟩))
    unfold tblM
    cases hm : manyI (Int.ofNat l.length) 16 != 0 with
    | true => exact T8_ok.tr (t141e (l.map stepC.enc)) (by rw [e, hm]; rfl)
    | false =>
      cases hq : srch (tblF l) 0 l with
      | some t => rw [hq] at h; exact T8_ok.tr (t141r (l.map stepC.enc) t) (by rw [e, hm]; exact ⟨⟨trivial, trivial, h.says⟩, rfl⟩)
      | none => rw [hq] at h; exact T8_ok.tr (t141e (l.map stepC.enc)) (by rw [e, hm]; exact ⟨⟨trivial, trivial, h.says⟩, rfl⟩)
/-! ### Risks -/
def rskS (x : P2) (s : Int) (st : St3) : Int := bif decide (cmpW (rat3 st) x ≤ 0) then st.2.2 else s
def rskM (l : List St3) (x : P2) : Int := l.foldl (rskS x) 0
def rskG : List AV → Option AV := sp2 stepsC p2C fun l x => bif Nat.ble l.length lim then some (intA (rskM l x)) else none
theorem h142 : Holds 142 rskG := holds2 fun l x r hr => by
  cases hb : Nat.ble l.length lim with
  | false => simp [hb] at hr
  | true =>
    simp only [hb, cond_true, Option.some.injEq] at hr; subst hr
    have hl := limTwo (Nat.le_of_ble_eq_true hb)
    have h := LoopRun.list (C := CS T8) (p := 0) (nt := 23) (rd := false) (c := loopOf (CS T8) 142 0) (step := fun _ st s => (.inl (rskS x s st) : Int ⊕ Int)) (fin := id)
      (enc := fun i s => mkSt [3, 5, 8, 9, 10] [3] 23 [.ptr 3 0 0, intA s, .rsl 3 (l.map stepC.enc) false, intA (Int.ofNat l.length), intA (Int.ofNat i)] [(false, .box [intA x.1, intA x.2])]) (ex := fun _ => .exit 0) (out := fun s => mkSt [5] [] 23 [intA s] []) (l := l) (fun _ _ => True)
      (fun i st s hx _ => by
        have hi := lt_len hx
        have hr := r142 (l.map stepC.enc) st.1 st.2.1 st.2.2 x.1 x.2 s l.length i
        rw [lt_of hi, wrap_ix hi hl] at hr
        have hr : _ = (Dt.need _ (bif decide (cmpW (rat3 st) x ≤ 0) then _ else _) : Dt _) := hr
        unfold rskS
        cases hg : decide (cmpW (rat3 st) x ≤ 0) with
        | true => rw [hg] at hr; exact ⟨T8_ok.rndN hr ⟨get_map _ hx, trivial, rfl⟩, trivial⟩
        | false => rw [hg] at hr; exact ⟨T8_ok.rndN hr ⟨get_map _ hx, trivial, rfl⟩, trivial⟩)
      (fun s _ => ⟨T8_ok.rndX (r142 (l.map stepC.enc) 0 0 0 x.1 x.2 s l.length l.length) (by rw [lt_self]; exact ⟨trivial, rfl⟩), by simp⟩) l [] 0 rfl trivial
    rw [goL_fold (fun _ s st => rskS x s st) id l _ 0 (fun _ _ _ _ => rfl)] at h
    refine T8_ok.tr (t142 (l.map stepC.enc) x.1 x.2 (rskM l x)) ⟨⟨trivial, trivial, ?_⟩, rfl⟩
    rw [List.length_map]
    exact h.says
def M1 : Specs := (((((((T8.set 62 stTabG).set 247 belowG).set 248 beyondG).set 65 ownSG).set 68 tblG).set 141 tblG).set 142 rskG)
theorem M1_ok : Ok M1 := (((((((T8_ok.set h62).set h247).set h248).set h65).set h68).set h141).set h142)
end Go.Vm.S6
