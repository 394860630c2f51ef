/- Traces: fields, copies, checks. -/
import Derived.Test.YtbplbhcgcicgfaaGreatDoorS6B2
import Derived.Test.YtbplbhcgcicgfaaGreatDoorS6M1
namespace Go.Vm.S6
open Go.Proofs Go.RowKit
set_option maxRecDepth 100000 in
theorem t124 (a b : Int) (u o : Bool) : evTreeD (CS B2) 60 124 [.agg [intA a, intA b, boolA u, boolA o]] [] =
    (.done (some (intA a))) := by kernel_rfl
set_option maxRecDepth 100000 in
theorem t125 (a b : Int) (u o : Bool) : evTreeD (CS B2) 60 125 [.agg [intA a, intA b, boolA u, boolA o]] [] =
    (.done (some (intA b))) := by kernel_rfl
set_option maxRecDepth 100000 in
theorem t122 (a b : Int) (u o : Bool) : evTreeD (CS B2) 60 122 [.agg [intA a, intA b, boolA u, boolA o]] [] =
    (.done (some (boolA u))) := by kernel_rfl
set_option maxRecDepth 100000 in
theorem t126 (a b : Int) (u o : Bool) : evTreeD (CS B2) 60 126 [.agg [intA a, intA b, boolA u, boolA o]] [] =
    (.done (some (boolA o))) := by kernel_rfl
set_option maxRecDepth 100000 in
theorem t127 (a b : Int) (u o : Bool) : evTreeD (CS B2) 60 127 [.agg [intA a, intA b, boolA u, boolA o]] [] =
    (bif u then (.done (some (intA (-16384)))) else (.done (some (intA a)))) := by kernel_rfl
set_option maxRecDepth 100000 in
theorem t128 (a : Int) : evTreeD (CS B2) 60 128 [intA a] [] =
    (.done (some (.agg [intA a, intA 1]))) := by kernel_rfl
set_option maxRecDepth 100000 in
theorem t134 (a b : Int) (u o : Bool) : evTreeD (CS B2) 60 134 [.agg [intA a, intA b, boolA u, boolA o]] [] =
    (.done (some (intA (firstM [unitM a, unitM b, whenM (decide (a > b)) 11])))) := by kernel_rfl
set_option maxRecDepth 100000 in
theorem t135 (a b : Int) (u o : Bool) : evTreeD (CS B2) 60 135 [.agg [intA a, intA b, boolA u, boolA o]] [] =
    (bif !u then (bif !o then (.done (some (intA (if IntKind.i64.wrap (0 - b) > if a > 0 then a else 0 then IntKind.i64.wrap (0 - b) else if a > 0 then a else 0)))) else (.done (some (intA (if a > 0 then a else 0))))) else (bif !o then (.done (some (intA (if IntKind.i64.wrap (0 - b) > 0 then IntKind.i64.wrap (0 - b) else 0)))) else (.done (some (intA 0))))) := by kernel_rfl
set_option maxRecDepth 100000 in
theorem t136 (a b : Int) (u o : Bool) : evTreeD (CS B2) 60 136 [.agg [intA a, intA b, boolA u, boolA o]] [] =
    (.done (some (intA (if IntKind.i64.wrap (0 - a) > b then IntKind.i64.wrap (0 - a) else b)))) := by kernel_rfl
set_option maxRecDepth 100000 in
theorem t137 (a b : Int) (u o : Bool) : evTreeD (CS B2) 60 137 [.agg [intA a, intA b, boolA u, boolA o]] [] =
    (bif u then (.done (some (boolA true))) else (.done (some (boolA o)))) := by kernel_rfl
set_option maxRecDepth 100000 in
theorem r54a (es : List AV) (a b : Int) (u o : Bool) (n i : Nat) : roundD (CS B2) 60 0 54 0 18 18 false (loopOf (CS B2) 54 0) [3, 6, 7, 8] [] [3, 6, 7, 8] [15] [3] [] [nilS, .rsl 4 es false, intA (Int.ofNat n), intA (Int.ofNat i)] [] [.br [.chk [.agg [intA a, intA b, boolA u, boolA o]]] []] =
    (bif decide (Int.ofNat i < Int.ofNat n) then (.need (es[i]? = (some (AV.agg [intA a, intA b, boolA u, boolA o]))) (.need (EntClosed [(false, .arr 4 [.agg [intA a, intA b, boolA u, boolA o]] false)]) (.done (some ((.nrm, [.sl 15 0 4 0 1, .rsl 4 es false, intA (Int.ofNat n), intA (IntKind.i64.wrap (Int.ofNat i + 1))], [(false, .arr 4 [.agg [intA a, intA b, boolA u, boolA o]] false)])))))) else (.need (EntClosed []) (.done (some (((.exit 0), [.v (.slice none 0 0)], [])))))) := by kernel_rfl
set_option maxRecDepth 100000 in
theorem r54b (es rs : List AV) (a b : Int) (u o : Bool) (n i k : Nat) : roundD (CS B2) 60 0 54 0 18 18 false (loopOf (CS B2) 54 0) [3, 6, 7, 8] [15] [3, 6, 7, 8] [15] [3] [15] [.sl 15 0 4 0 k, .rsl 4 es false, intA (Int.ofNat n), intA (Int.ofNat i)] [(false, .arr 4 rs false)] [.br [.chk [.agg [intA a, intA b, boolA u, boolA o]], .chk rs] []] =
    (bif decide (Int.ofNat i < Int.ofNat n) then (.need (es[i]? = (some (AV.agg [intA a, intA b, boolA u, boolA o]))) (.need (k = rs.length ∧ true = true ∧ 4 = 4 ∧ (rs ++ ([.agg [intA a, intA b, boolA u, boolA o]] : List AV)).length * 24 ≤ 35184372088832 ∧ (rs ++ ([.agg [intA a, intA b, boolA u, boolA o]] : List AV)).length ≤ 35184372088832 ∧ 24 ≠ 0) (.need (EntClosed [(false, .arr 4 (rs ++ ([.agg [intA a, intA b, boolA u, boolA o]] : List AV)) false)]) (.done (some ((.nrm, [.sl 15 0 4 0 ((rs ++ ([.agg [intA a, intA b, boolA u, boolA o]] : List AV)).length), .rsl 4 es false, intA (Int.ofNat n), intA (IntKind.i64.wrap (Int.ofNat i + 1))], [(false, .arr 4 (rs ++ ([.agg [intA a, intA b, boolA u, boolA o]] : List AV)) false)]))))))) else (.need (EntClosed [(false, .arr 4 rs false)]) (.done (some (((.exit 0), [.sl 15 0 4 0 k], [(false, .arr 4 rs false)])))))) := by kernel_rfl
set_option maxRecDepth 100000 in
theorem t54 (es rs : List AV) : evTreeD (CS B2) 60 54 [.rsl 4 es false] [.loop 0 [3, 6, 7, 8] [] [3] [] (.exit 0) [.rsl 4 rs false] []] =
    (.need (EntClosed [] ∧ EntClosed [] ∧ Says (CS B2) 0 18 false (.loop (loopOf (CS B2) 54 0)) (mkSt [3, 6, 7, 8] [] 18 [.v (.slice none 0 0), .rsl 4 es false, intA (Int.ofNat es.length), intA 0] []) (.exit 0) (mkSt [3] [] 18 [.rsl 4 rs false] [])) (.done (some (.rsl 4 rs false)))) := by kernel_rfl
set_option maxRecDepth 100000 in
theorem r56 (es : List AV) (a b : Int) (u o : Bool) (i : Nat) : roundD (CS B2) 60 0 56 0 47 47 false (loopOf (CS B2) 56 0) [0, 4] [] [0, 4] [] [2] [] [.rsl 4 es false, intA (Int.ofNat i)] [] [.br [.chk [.agg [intA a, intA b, boolA u, boolA o]], .chk [.agg [intA a, intA b, boolA u, boolA o]], .chk [.agg [intA a, intA b, boolA u, boolA o]], .chk [.agg [intA a, intA b, boolA u, boolA o]]] []] =
    (bif decide (Int.ofNat i < Int.ofNat es.length) then (.need (es[i]? = (some (AV.agg [intA a, intA b, boolA u, boolA o]))) (.need (es[i]? = (some (AV.agg [intA a, intA b, boolA u, boolA o]))) (.need (es[i]? = (some (AV.agg [intA a, intA b, boolA u, boolA o]))) (.need (es[i]? = (some (AV.agg [intA a, intA b, boolA u, boolA o]))) (bif firstM [unitM a, unitM b, whenM (decide (a > b)) 11] != 0 then (.need (EntClosed []) (.done (some ((.ret, [intA (firstM [unitM a, unitM b, whenM (decide (a > b)) 11])], []))))) else (.need (EntClosed []) (.done (some ((.nrm, [.rsl 4 es false, intA (IntKind.i64.wrap (Int.ofNat i + 1))], [])))))))))) else (.need (EntClosed []) (.done (some (((.exit 0), [.bad], [])))))) := by kernel_rfl
set_option maxRecDepth 100000 in
theorem t56r (es : List AV) (x : Int) : evTreeD (CS B2) 60 56 [.rsl 4 es false] [.br [] [.loop 0 [0, 4] [] [2] [] .ret [intA x] []]] =
    (bif manyI (Int.ofNat es.length) 128 != 0 then (.done (some (intA (manyI (Int.ofNat es.length) 128)))) else (.need (EntClosed [] ∧ EntClosed [] ∧ Says (CS B2) 0 47 false (.loop (loopOf (CS B2) 56 0)) (mkSt [0, 4] [] 47 [.rsl 4 es false, intA 0] []) .ret (mkSt [2] [] 47 [intA x] [])) (.done (some (intA x))))) := by kernel_rfl
set_option maxRecDepth 100000 in
theorem t56e (es : List AV) : evTreeD (CS B2) 60 56 [.rsl 4 es false] [.br [] [.loop 0 [0, 4] [] [2] [] (.exit 0) [.bad] []]] =
    (bif manyI (Int.ofNat es.length) 128 != 0 then (.done (some (intA (manyI (Int.ofNat es.length) 128)))) else (.need (EntClosed [] ∧ EntClosed [] ∧ Says (CS B2) 0 47 false (.loop (loopOf (CS B2) 56 0)) (mkSt [0, 4] [] 47 [.rsl 4 es false, intA 0] []) (.exit 0) (mkSt [2] [] 47 [.bad] [])) (.done (some (intA 0))))) := by kernel_rfl
/-- A loop that appends what it makes of each element. -/
theorem gather_run {α β : Type} {C : Cx} {nt : Nat} {c : Code} {key sz bb r : Nat} {ts : List Tmp} {ex : Ex} (B : Cod β) (g : α → β) (vs : Nat → AV → List AV) (l : List α) (hx : ex ≠ .nrm) (hl : l.length ≤ lim) (hB : ∀ y, closed (B.enc y) = true) (hbb : bb ≤ 1024)
    (ra : ∀ i x, l[i]? = some x → Says C 0 nt false c (mkSt ts [] nt (vs i nilS) []) .nrm (mkSt ts [key] nt (vs (i + 1) (.sl key 0 sz 0 1)) [(false, .arr sz [B.enc (g x)] false)]))
    (rb : ∀ i x rs, l[i]? = some x → (rs ++ [B.enc (g x)]).length * bb ≤ 35184372088832 → (rs ++ [B.enc (g x)]).length ≤ 35184372088832 → ClosedL (rs ++ [B.enc (g x)]) → Says C 0 nt false c (mkSt ts [key] nt (vs i (.sl key 0 sz 0 rs.length)) [(false, .arr sz rs false)]) .nrm (mkSt ts [key] nt (vs (i + 1) (.sl key 0 sz 0 (rs ++ [B.enc (g x)]).length)) [(false, .arr sz (rs ++ [B.enc (g x)]) false)]))
    (xa : Says C 0 nt false c (mkSt ts [] nt (vs l.length nilS) []) ex (mkSt [r] [] nt [nilS] []))
    (xb : ∀ rs, ClosedL rs → Says C 0 nt false c (mkSt ts [key] nt (vs l.length (.sl key 0 sz 0 rs.length)) [(false, .arr sz rs false)]) ex (mkSt [r] [key] nt [.sl key 0 sz 0 rs.length] [(false, .arr sz rs false)])) :
    LoopRun C 0 nt false c (mkSt ts [] nt (vs 0 nilS) []) ex (mkSt [r] [] nt [.rsl sz ((l.map g).map B.enc) false] []) := by
  have hcl : ∀ m : List β, ClosedL (m.map B.enc) := fun m => ClosedL.map hB
  have h := LoopRun.gather (C := C) (p := 0) (nt := nt) (rd := false) (c := c) (fun _ x => [g x]) 1 (by simp) (fun i (acc : List β) => blSt key sz ts nt (fun a => vs i a) (acc.map B.enc)) ex
    (fun acc => mkSt [r] [] nt [.rsl sz (acc.map B.enc) false] []) l hx
    (fun i x acc hx hacc => by
      have hi := lt_len hx
      have hlen : ((acc ++ [g x]).map B.enc).length ≤ 35184372088832 / 1024 := by simp; unfold lim at hl; omega
      cases acc with
      | nil => exact ra i x hx
      | cons y ys =>
        have e2 : blSt key sz ts nt (fun a => vs (i + 1) a) (((y :: ys) ++ [g x]).map B.enc) = mkSt ts [key] nt (vs (i + 1) (.sl key 0 sz 0 ((y :: ys).map B.enc ++ [B.enc (g x)]).length)) [(false, .arr sz ((y :: ys).map B.enc ++ [B.enc (g x)]) false)] := by
          rw [show ((y :: ys) ++ [g x]).map B.enc = (y :: ys).map B.enc ++ [B.enc (g x)] by simp]; rfl
        rw [show ((y :: ys) ++ [g x]).map B.enc = (y :: ys).map B.enc ++ [B.enc (g x)] by simp] at hlen
        show Says _ _ _ _ _ _ _ (blSt key sz ts nt (fun a => vs (i + 1) a) (((y :: ys) ++ [g x]).map B.enc))
        rw [e2]
        exact rb i x ((y :: ys).map B.enc) hx (by have := Nat.mul_le_mul hlen hbb; omega) (by omega) ((hcl (y :: ys)).append (hcl [g x])))
    (fun acc _ => by
      refine Says.blEnd (key := key) ?_ (hcl acc)
      cases acc with
      | nil => exact xa
      | cons y ys => exact xb ((y :: ys).map B.enc) (hcl _))
  rw [gath_map] at h
  exact h
abbrev vaC : Cod Va := aggC (RC.cons intC (RC.cons intC (RC.cons boolC (RC.one boolC))))
abbrev vasC : Cod (List Va) := listC vaC 4
/-! ### Fields and what follows from them -/
def vchk (v : Va) : Int := firstM [unitM (lowV v), unitM (highV v), whenM (decide (lowV v > highV v)) 11]
def absN (n : Int) : Int := IntKind.i64.wrap (0 - n)
def mx (a b : Int) : Int := if a > b then a else b
def leastV (v : Va) : Int := bif underV v then (bif overV v then 0 else mx (absN (highV v)) 0) else (bif overV v then mx (lowV v) 0 else mx (absN (highV v)) (mx (lowV v) 0))
def mostV (v : Va) : Int := mx (absN (lowV v)) (highV v)
def anyV (v : Va) : Bool := underV v || overV v
def vI (g : Va → Int) : List AV → Option AV := sp1 vaC fun v => some (intA (g v))
def vB (g : Va → Bool) : List AV → Option AV := sp1 vaC fun v => some (boolA (g v))
theorem h124 : Holds 124 (vI lowV) := holds1 fun v r hr => by
  simp only [Option.some.injEq] at hr; subst hr
  exact B2_ok.tr (t124 v.1 v.2.1 v.2.2.1 v.2.2.2) rfl
theorem h125 : Holds 125 (vI highV) := holds1 fun v r hr => by
  simp only [Option.some.injEq] at hr; subst hr
  exact B2_ok.tr (t125 v.1 v.2.1 v.2.2.1 v.2.2.2) rfl
theorem h122 : Holds 122 (vB underV) := holds1 fun v r hr => by
  simp only [Option.some.injEq] at hr; subst hr
  exact B2_ok.tr (t122 v.1 v.2.1 v.2.2.1 v.2.2.2) rfl
theorem h126 : Holds 126 (vB overV) := holds1 fun v r hr => by
  simp only [Option.some.injEq] at hr; subst hr
  exact B2_ok.tr (t126 v.1 v.2.1 v.2.2.1 v.2.2.2) rfl
theorem h127 : Holds 127 (vI adjV) := holds1 fun v r hr => by
  simp only [Option.some.injEq] at hr; subst hr
  obtain ⟨a, b, u, o⟩ := v
  refine B2_ok.tr (t127 a b u o) ?_
  cases u <;> rfl
theorem h128 : Holds 128 wholeG := holds1 fun n r hr => by
  simp only [Option.some.injEq] at hr; subst hr
  exact B2_ok.tr (t128 n) rfl
theorem h134 : Holds 134 (vI vchk) := holds1 fun v r hr => by
  simp only [Option.some.injEq] at hr; subst hr
  exact B2_ok.tr (t134 v.1 v.2.1 v.2.2.1 v.2.2.2) rfl
theorem h135 : Holds 135 (vI leastV) := holds1 fun v r hr => by
  simp only [Option.some.injEq] at hr; subst hr
  obtain ⟨a, b, u, o⟩ := v
  refine B2_ok.tr (t135 a b u o) ?_
  cases u <;> cases o <;> rfl
theorem h136 : Holds 136 (vI mostV) := holds1 fun v r hr => by
  simp only [Option.some.injEq] at hr; subst hr
  exact B2_ok.tr (t136 v.1 v.2.1 v.2.2.1 v.2.2.2) rfl
theorem h137 : Holds 137 (vB anyV) := holds1 fun v r hr => by
  simp only [Option.some.injEq] at hr; subst hr
  obtain ⟨a, b, u, o⟩ := v
  refine B2_ok.tr (t137 a b u o) ?_
  cases u <;> rfl
/-! ### Copies, highs, lows -/
def ownVG : List AV → Option AV := sp1 vasC fun l => bif Nat.ble l.length lim then some (slA vaC 4 l) else none
theorem h54 : Holds 54 ownVG := holds1 fun l r hr => by
  cases hb : Nat.ble l.length lim with
  | false => simp [hb] at hr
  | true =>
    simp only [hb, cond_true, Option.some.injEq] at hr; subst hr
    have hle := Nat.le_of_ble_eq_true hb
    have hlim := limTwo hle
    have h := gather_run (C := CS B2) (nt := 18) (c := loopOf (CS B2) 54 0) (key := 15) (sz := 4) (bb := 24) (r := 3) (ts := [3, 6, 7, 8]) (ex := .exit 0) vaC (fun v => v) (fun i a => [a, .rsl 4 (l.map vaC.enc) false, intA (Int.ofNat l.length), intA (Int.ofNat i)]) l (by simp) hle (fun _ => rfl) (by omega)
      (fun i x hx => by
        have hi := lt_len hx
        refine B2_ok.rndN (r54a (l.map vaC.enc) x.1 x.2.1 x.2.2.1 x.2.2.2 l.length i) ?_
        rw [lt_of hi, wrap_ix hi hlim]
        exact ⟨get_map _ hx, ⟨ClosedL.map (f := vaC.enc) (l := [x]) (fun _ => rfl), trivial⟩, rfl⟩)
      (fun i x rs hx h1 h2 h3 => by
        have hi := lt_len hx
        refine B2_ok.rndN (r54b (l.map vaC.enc) rs x.1 x.2.1 x.2.2.1 x.2.2.2 l.length i rs.length) ?_
        rw [lt_of hi, wrap_ix hi hlim]
        exact ⟨get_map _ hx, ⟨rfl, rfl, rfl, h1, h2, by omega⟩, ⟨h3, trivial⟩, rfl⟩)
      (B2_ok.rndX (r54a (l.map vaC.enc) 0 0 false false l.length l.length) (by rw [lt_self]; exact ⟨trivial, rfl⟩))
      (fun rs hr => B2_ok.rndX (r54b (l.map vaC.enc) rs 0 0 false false l.length l.length rs.length) (by rw [lt_self]; exact ⟨⟨hr, trivial⟩, rfl⟩))
    rw [List.map_id' l] at h
    refine B2_ok.tr (t54 (l.map vaC.enc) (l.map vaC.enc)) ⟨⟨trivial, trivial, ?_⟩, rfl⟩
    rw [List.length_map]
    exact h.says
/-! ### Marks -/
def anyO (l : List Va) : Bool := l.any overV
def unW (l : List Va) (a b : Nat) : Bool := ((l.drop a).take (b - a)).any underV
def unOk (l : List Va) (s : P2) : Bool := Nat.ble l.length lim && winErr (Int.ofNat l.length) s == 0
/-! ### Checks -/
def trcM (l : List Va) : Int := bif manyI (Int.ofNat l.length) 128 != 0 then manyI (Int.ofNat l.length) 128 else firstM (l.map vchk)
def trcG : List AV → Option AV := sp1 vasC fun l => bif Nat.ble l.length lim then some (intA (trcM l)) else none
theorem h56 : Holds 56 trcG := holds1 fun l r hr => by
  cases hb : Nat.ble l.length lim with
  | false => simp [hb] at hr
  | true =>
    simp only [hb, cond_true, Option.some.injEq] at hr; subst hr
    have hl := limTwo (Nat.le_of_ble_eq_true hb)
    have e := e_len' vaC l
    have h := LoopRun.find (C := CS B2) (p := 0) (nt := 47) (rd := false) (c := loopOf (CS B2) 56 0) (fun _ (x : Va) => bif vchk x != 0 then some (vchk x) else none) (fun i => mkSt [0, 4] [] 47 [.rsl 4 (l.map vaC.enc) false, intA (Int.ofNat i)] [])
      (fun t => mkSt [2] [] 47 [intA t] []) (mkSt [2] [] 47 [.bad] []) (.exit 0) (fun _ => .ret) l (by simp) (by simp)
      (fun i x hx => by
        have hi := lt_len hx
        have hr := r56 (l.map vaC.enc) x.1 x.2.1 x.2.2.1 x.2.2.2 i
        rw [e, lt_of hi, wrap_ix hi hl, show firstM [unitM x.1, unitM x.2.1, whenM (decide (x.1 > x.2.1)) 11] = vchk x from rfl] at hr
        have g := get_map vaC.enc hx
        cases h : vchk x != 0 with
        | true => rw [h] at hr; exact B2_ok.rndR hr ⟨g, g, g, g, trivial, rfl⟩
        | false => rw [h] at hr; exact B2_ok.rndN hr ⟨g, g, g, g, trivial, rfl⟩)
      (B2_ok.rndX (r56 (l.map vaC.enc) 0 0 false false l.length) (by rw [e, lt_self]; exact ⟨trivial, rfl⟩))
    rw [srch_err] at h
    unfold trcM
    cases hm : manyI (Int.ofNat l.length) 128 != 0 with
    | true => exact B2_ok.tr (t56e (l.map vaC.enc)) (by rw [e, hm]; rfl)
    | false =>
      cases hq : firstM (l.map vchk) != 0 with
      | true => rw [hq] at h; exact B2_ok.tr (t56r (l.map vaC.enc) (firstM (l.map vchk))) (by rw [e, hm]; exact ⟨⟨trivial, trivial, h.says⟩, rfl⟩)
      | false =>
        rw [hq] at h
        have h0 : firstM (l.map vchk) = 0 := by simpa using hq
        rw [h0]
        exact B2_ok.tr (t56e (l.map vaC.enc)) (by rw [e, hm]; exact ⟨⟨trivial, trivial, h.says⟩, rfl⟩)
def V1 : Specs := ((((((((((((B2.set 124 (vI lowV)).set 125 (vI highV)).set 122 (vB underV)).set 126 (vB overV)).set 127 (vI adjV)).set 128 wholeG).set 134 (vI vchk)).set 135 (vI leastV)).set 136 (vI mostV)).set 137 (vB anyV)).set 54 ownVG).set 56 trcG)
theorem V1_ok : Ok V1 := ((((((((((((B2_ok.set h124).set h125).set h122).set h126).set h127).set h128).set h134).set h135).set h136).set h137).set h54).set h56)
end Go.Vm.S6

namespace Go.Vm.S6
open Go.Proofs Go.RowKit
set_option maxRecDepth 100000 in
theorem r123a124 (es : List AV) (n i : Nat) (x : Va) : roundD (CS V1) 60 0 123 0 22 22 false (loopOf (CS V1) 123 0) [1, 5, 8, 9, 10] [] [1, 5, 8, 9, 10] [19] [5] [] (mapIn (fnV 124) nilS 4 es n i) [] [.chk [vaC.enc x]] =
    (bif decide (Int.ofNat i < Int.ofNat n) then (.need (es[i]? = (some (AV.agg [intA x.fst, intA x.snd.fst, boolA x.snd.snd.fst, boolA x.snd.snd.snd]))) (.need (EntClosed [(false, .arr 1 [intA (lowV x)] false)]) (.done (some ((.nrm, [.fn (Fn.func 124) [] [], .sl 19 0 1 0 1, .rsl 4 es false, intA (Int.ofNat n), intA (IntKind.i64.wrap (Int.ofNat i + 1))], [(false, .arr 1 [intA (lowV x)] false)])))))) else (.need (EntClosed []) (.done (some (((.exit 0), [.v (.slice none 0 0)], [])))))) := by kernel_rfl
set_option maxRecDepth 100000 in
theorem r123b124 (es rs : List AV) (n i k : Nat) (x : Va) : roundD (CS V1) 60 0 123 0 22 22 false (loopOf (CS V1) 123 0) [1, 5, 8, 9, 10] [19] [1, 5, 8, 9, 10] [19] [5] [19] (mapIn (fnV 124) (.sl 19 0 1 0 k) 4 es n i) [(false, .arr 1 rs false)] [.chk [vaC.enc x], .chk rs] =
    (bif decide (Int.ofNat i < Int.ofNat n) then (.need (es[i]? = (some (AV.agg [intA x.fst, intA x.snd.fst, boolA x.snd.snd.fst, boolA x.snd.snd.snd]))) (.need (k = rs.length ∧ true = true ∧ 1 = 1 ∧ (rs ++ ([intA (lowV x)] : List AV)).length * 8 ≤ 35184372088832 ∧ (rs ++ ([intA (lowV x)] : List AV)).length ≤ 35184372088832 ∧ 8 ≠ 0) (.need (EntClosed [(false, .arr 1 (rs ++ ([intA (lowV x)] : List AV)) false)]) (.done (some ((.nrm, [.fn (Fn.func 124) [] [], .sl 19 0 1 0 ((rs ++ ([intA (lowV x)] : List AV)).length), .rsl 4 es false, intA (Int.ofNat n), intA (IntKind.i64.wrap (Int.ofNat i + 1))], [(false, .arr 1 (rs ++ ([intA (lowV x)] : List AV)) false)]))))))) else (.need (EntClosed [(false, .arr 1 rs false)]) (.done (some (((.exit 0), [.sl 19 0 1 0 k], [(false, .arr 1 rs false)])))))) := by kernel_rfl
set_option maxRecDepth 100000 in
theorem t123124 (es rs : List AV) : evTreeD (CS V1) 60 123 [.rsl 4 es false, (fnV 124)] [.loop 0 [1, 5, 8, 9, 10] [] [5] [] (.exit 0) [.rsl 1 rs false] []] =
    (.need (EntClosed [] ∧ EntClosed [] ∧ Says (CS V1) 0 22 false (.loop (loopOf (CS V1) 123 0)) (mkSt [1, 5, 8, 9, 10] [] 22 [.fn (Fn.func 124) [] [], .v (.slice none 0 0), .rsl 4 es false, intA (Int.ofNat es.length), intA 0] []) (.exit 0) (mkSt [5] [] 22 [.rsl 1 rs false] [])) (.done (some (.rsl 1 rs false)))) := by kernel_rfl
set_option maxRecDepth 100000 in
theorem r123a125 (es : List AV) (n i : Nat) (x : Va) : roundD (CS V1) 60 0 123 0 22 22 false (loopOf (CS V1) 123 0) [1, 5, 8, 9, 10] [] [1, 5, 8, 9, 10] [19] [5] [] (mapIn (fnV 125) nilS 4 es n i) [] [.chk [vaC.enc x]] =
    (bif decide (Int.ofNat i < Int.ofNat n) then (.need (es[i]? = (some (AV.agg [intA x.fst, intA x.snd.fst, boolA x.snd.snd.fst, boolA x.snd.snd.snd]))) (.need (EntClosed [(false, .arr 1 [intA (highV x)] false)]) (.done (some ((.nrm, [.fn (Fn.func 125) [] [], .sl 19 0 1 0 1, .rsl 4 es false, intA (Int.ofNat n), intA (IntKind.i64.wrap (Int.ofNat i + 1))], [(false, .arr 1 [intA (highV x)] false)])))))) else (.need (EntClosed []) (.done (some (((.exit 0), [.v (.slice none 0 0)], [])))))) := by kernel_rfl
set_option maxRecDepth 100000 in
theorem r123b125 (es rs : List AV) (n i k : Nat) (x : Va) : roundD (CS V1) 60 0 123 0 22 22 false (loopOf (CS V1) 123 0) [1, 5, 8, 9, 10] [19] [1, 5, 8, 9, 10] [19] [5] [19] (mapIn (fnV 125) (.sl 19 0 1 0 k) 4 es n i) [(false, .arr 1 rs false)] [.chk [vaC.enc x], .chk rs] =
    (bif decide (Int.ofNat i < Int.ofNat n) then (.need (es[i]? = (some (AV.agg [intA x.fst, intA x.snd.fst, boolA x.snd.snd.fst, boolA x.snd.snd.snd]))) (.need (k = rs.length ∧ true = true ∧ 1 = 1 ∧ (rs ++ ([intA (highV x)] : List AV)).length * 8 ≤ 35184372088832 ∧ (rs ++ ([intA (highV x)] : List AV)).length ≤ 35184372088832 ∧ 8 ≠ 0) (.need (EntClosed [(false, .arr 1 (rs ++ ([intA (highV x)] : List AV)) false)]) (.done (some ((.nrm, [.fn (Fn.func 125) [] [], .sl 19 0 1 0 ((rs ++ ([intA (highV x)] : List AV)).length), .rsl 4 es false, intA (Int.ofNat n), intA (IntKind.i64.wrap (Int.ofNat i + 1))], [(false, .arr 1 (rs ++ ([intA (highV x)] : List AV)) false)]))))))) else (.need (EntClosed [(false, .arr 1 rs false)]) (.done (some (((.exit 0), [.sl 19 0 1 0 k], [(false, .arr 1 rs false)])))))) := by kernel_rfl
set_option maxRecDepth 100000 in
theorem t123125 (es rs : List AV) : evTreeD (CS V1) 60 123 [.rsl 4 es false, (fnV 125)] [.loop 0 [1, 5, 8, 9, 10] [] [5] [] (.exit 0) [.rsl 1 rs false] []] =
    (.need (EntClosed [] ∧ EntClosed [] ∧ Says (CS V1) 0 22 false (.loop (loopOf (CS V1) 123 0)) (mkSt [1, 5, 8, 9, 10] [] 22 [.fn (Fn.func 125) [] [], .v (.slice none 0 0), .rsl 4 es false, intA (Int.ofNat es.length), intA 0] []) (.exit 0) (mkSt [5] [] 22 [.rsl 1 rs false] [])) (.done (some (.rsl 1 rs false)))) := by kernel_rfl
set_option maxRecDepth 100000 in
theorem r123a127 (es : List AV) (n i : Nat) (x : Va) : roundD (CS V1) 60 0 123 0 22 22 false (loopOf (CS V1) 123 0) [1, 5, 8, 9, 10] [] [1, 5, 8, 9, 10] [19] [5] [] (mapIn (fnV 127) nilS 4 es n i) [] [.chk [vaC.enc x]] =
    (bif decide (Int.ofNat i < Int.ofNat n) then (.need (es[i]? = (some (AV.agg [intA x.fst, intA x.snd.fst, boolA x.snd.snd.fst, boolA x.snd.snd.snd]))) (.need (EntClosed [(false, .arr 1 [intA (adjV x)] false)]) (.done (some ((.nrm, [.fn (Fn.func 127) [] [], .sl 19 0 1 0 1, .rsl 4 es false, intA (Int.ofNat n), intA (IntKind.i64.wrap (Int.ofNat i + 1))], [(false, .arr 1 [intA (adjV x)] false)])))))) else (.need (EntClosed []) (.done (some (((.exit 0), [.v (.slice none 0 0)], [])))))) := by kernel_rfl
set_option maxRecDepth 100000 in
theorem r123b127 (es rs : List AV) (n i k : Nat) (x : Va) : roundD (CS V1) 60 0 123 0 22 22 false (loopOf (CS V1) 123 0) [1, 5, 8, 9, 10] [19] [1, 5, 8, 9, 10] [19] [5] [19] (mapIn (fnV 127) (.sl 19 0 1 0 k) 4 es n i) [(false, .arr 1 rs false)] [.chk [vaC.enc x], .chk rs] =
    (bif decide (Int.ofNat i < Int.ofNat n) then (.need (es[i]? = (some (AV.agg [intA x.fst, intA x.snd.fst, boolA x.snd.snd.fst, boolA x.snd.snd.snd]))) (.need (k = rs.length ∧ true = true ∧ 1 = 1 ∧ (rs ++ ([intA (adjV x)] : List AV)).length * 8 ≤ 35184372088832 ∧ (rs ++ ([intA (adjV x)] : List AV)).length ≤ 35184372088832 ∧ 8 ≠ 0) (.need (EntClosed [(false, .arr 1 (rs ++ ([intA (adjV x)] : List AV)) false)]) (.done (some ((.nrm, [.fn (Fn.func 127) [] [], .sl 19 0 1 0 ((rs ++ ([intA (adjV x)] : List AV)).length), .rsl 4 es false, intA (Int.ofNat n), intA (IntKind.i64.wrap (Int.ofNat i + 1))], [(false, .arr 1 (rs ++ ([intA (adjV x)] : List AV)) false)]))))))) else (.need (EntClosed [(false, .arr 1 rs false)]) (.done (some (((.exit 0), [.sl 19 0 1 0 k], [(false, .arr 1 rs false)])))))) := by kernel_rfl
set_option maxRecDepth 100000 in
theorem t123127 (es rs : List AV) : evTreeD (CS V1) 60 123 [.rsl 4 es false, (fnV 127)] [.loop 0 [1, 5, 8, 9, 10] [] [5] [] (.exit 0) [.rsl 1 rs false] []] =
    (.need (EntClosed [] ∧ EntClosed [] ∧ Says (CS V1) 0 22 false (.loop (loopOf (CS V1) 123 0)) (mkSt [1, 5, 8, 9, 10] [] 22 [.fn (Fn.func 127) [] [], .v (.slice none 0 0), .rsl 4 es false, intA (Int.ofNat es.length), intA 0] []) (.exit 0) (mkSt [5] [] 22 [.rsl 1 rs false] [])) (.done (some (.rsl 1 rs false)))) := by kernel_rfl
set_option maxRecDepth 100000 in
theorem r123a135 (es : List AV) (n i : Nat) (x : Va) : roundD (CS V1) 60 0 123 0 22 22 false (loopOf (CS V1) 123 0) [1, 5, 8, 9, 10] [] [1, 5, 8, 9, 10] [19] [5] [] (mapIn (fnV 135) nilS 4 es n i) [] [.chk [vaC.enc x]] =
    (bif decide (Int.ofNat i < Int.ofNat n) then (.need (es[i]? = (some (AV.agg [intA x.fst, intA x.snd.fst, boolA x.snd.snd.fst, boolA x.snd.snd.snd]))) (.need (EntClosed [(false, .arr 1 [intA (leastV x)] false)]) (.done (some ((.nrm, [.fn (Fn.func 135) [] [], .sl 19 0 1 0 1, .rsl 4 es false, intA (Int.ofNat n), intA (IntKind.i64.wrap (Int.ofNat i + 1))], [(false, .arr 1 [intA (leastV x)] false)])))))) else (.need (EntClosed []) (.done (some (((.exit 0), [.v (.slice none 0 0)], [])))))) := by kernel_rfl
set_option maxRecDepth 100000 in
theorem r123b135 (es rs : List AV) (n i k : Nat) (x : Va) : roundD (CS V1) 60 0 123 0 22 22 false (loopOf (CS V1) 123 0) [1, 5, 8, 9, 10] [19] [1, 5, 8, 9, 10] [19] [5] [19] (mapIn (fnV 135) (.sl 19 0 1 0 k) 4 es n i) [(false, .arr 1 rs false)] [.chk [vaC.enc x], .chk rs] =
    (bif decide (Int.ofNat i < Int.ofNat n) then (.need (es[i]? = (some (AV.agg [intA x.fst, intA x.snd.fst, boolA x.snd.snd.fst, boolA x.snd.snd.snd]))) (.need (k = rs.length ∧ true = true ∧ 1 = 1 ∧ (rs ++ ([intA (leastV x)] : List AV)).length * 8 ≤ 35184372088832 ∧ (rs ++ ([intA (leastV x)] : List AV)).length ≤ 35184372088832 ∧ 8 ≠ 0) (.need (EntClosed [(false, .arr 1 (rs ++ ([intA (leastV x)] : List AV)) false)]) (.done (some ((.nrm, [.fn (Fn.func 135) [] [], .sl 19 0 1 0 ((rs ++ ([intA (leastV x)] : List AV)).length), .rsl 4 es false, intA (Int.ofNat n), intA (IntKind.i64.wrap (Int.ofNat i + 1))], [(false, .arr 1 (rs ++ ([intA (leastV x)] : List AV)) false)]))))))) else (.need (EntClosed [(false, .arr 1 rs false)]) (.done (some (((.exit 0), [.sl 19 0 1 0 k], [(false, .arr 1 rs false)])))))) := by kernel_rfl
set_option maxRecDepth 100000 in
theorem t123135 (es rs : List AV) : evTreeD (CS V1) 60 123 [.rsl 4 es false, (fnV 135)] [.loop 0 [1, 5, 8, 9, 10] [] [5] [] (.exit 0) [.rsl 1 rs false] []] =
    (.need (EntClosed [] ∧ EntClosed [] ∧ Says (CS V1) 0 22 false (.loop (loopOf (CS V1) 123 0)) (mkSt [1, 5, 8, 9, 10] [] 22 [.fn (Fn.func 135) [] [], .v (.slice none 0 0), .rsl 4 es false, intA (Int.ofNat es.length), intA 0] []) (.exit 0) (mkSt [5] [] 22 [.rsl 1 rs false] [])) (.done (some (.rsl 1 rs false)))) := by kernel_rfl
set_option maxRecDepth 100000 in
theorem r123a136 (es : List AV) (n i : Nat) (x : Va) : roundD (CS V1) 60 0 123 0 22 22 false (loopOf (CS V1) 123 0) [1, 5, 8, 9, 10] [] [1, 5, 8, 9, 10] [19] [5] [] (mapIn (fnV 136) nilS 4 es n i) [] [.chk [vaC.enc x]] =
    (bif decide (Int.ofNat i < Int.ofNat n) then (.need (es[i]? = (some (AV.agg [intA x.fst, intA x.snd.fst, boolA x.snd.snd.fst, boolA x.snd.snd.snd]))) (.need (EntClosed [(false, .arr 1 [intA (mostV x)] false)]) (.done (some ((.nrm, [.fn (Fn.func 136) [] [], .sl 19 0 1 0 1, .rsl 4 es false, intA (Int.ofNat n), intA (IntKind.i64.wrap (Int.ofNat i + 1))], [(false, .arr 1 [intA (mostV x)] false)])))))) else (.need (EntClosed []) (.done (some (((.exit 0), [.v (.slice none 0 0)], [])))))) := by kernel_rfl
set_option maxRecDepth 100000 in
theorem r123b136 (es rs : List AV) (n i k : Nat) (x : Va) : roundD (CS V1) 60 0 123 0 22 22 false (loopOf (CS V1) 123 0) [1, 5, 8, 9, 10] [19] [1, 5, 8, 9, 10] [19] [5] [19] (mapIn (fnV 136) (.sl 19 0 1 0 k) 4 es n i) [(false, .arr 1 rs false)] [.chk [vaC.enc x], .chk rs] =
    (bif decide (Int.ofNat i < Int.ofNat n) then (.need (es[i]? = (some (AV.agg [intA x.fst, intA x.snd.fst, boolA x.snd.snd.fst, boolA x.snd.snd.snd]))) (.need (k = rs.length ∧ true = true ∧ 1 = 1 ∧ (rs ++ ([intA (mostV x)] : List AV)).length * 8 ≤ 35184372088832 ∧ (rs ++ ([intA (mostV x)] : List AV)).length ≤ 35184372088832 ∧ 8 ≠ 0) (.need (EntClosed [(false, .arr 1 (rs ++ ([intA (mostV x)] : List AV)) false)]) (.done (some ((.nrm, [.fn (Fn.func 136) [] [], .sl 19 0 1 0 ((rs ++ ([intA (mostV x)] : List AV)).length), .rsl 4 es false, intA (Int.ofNat n), intA (IntKind.i64.wrap (Int.ofNat i + 1))], [(false, .arr 1 (rs ++ ([intA (mostV x)] : List AV)) false)]))))))) else (.need (EntClosed [(false, .arr 1 rs false)]) (.done (some (((.exit 0), [.sl 19 0 1 0 k], [(false, .arr 1 rs false)])))))) := by kernel_rfl
set_option maxRecDepth 100000 in
theorem t123136 (es rs : List AV) : evTreeD (CS V1) 60 123 [.rsl 4 es false, (fnV 136)] [.loop 0 [1, 5, 8, 9, 10] [] [5] [] (.exit 0) [.rsl 1 rs false] []] =
    (.need (EntClosed [] ∧ EntClosed [] ∧ Says (CS V1) 0 22 false (.loop (loopOf (CS V1) 123 0)) (mkSt [1, 5, 8, 9, 10] [] 22 [.fn (Fn.func 136) [] [], .v (.slice none 0 0), .rsl 4 es false, intA (Int.ofNat es.length), intA 0] []) (.exit 0) (mkSt [5] [] 22 [.rsl 1 rs false] [])) (.done (some (.rsl 1 rs false)))) := by kernel_rfl
set_option maxRecDepth 100000 in
theorem r133a (es : List AV) (n i : Nat) (x : Va) : roundD (CS V1) 60 0 133 0 22 22 false (loopOf (CS V1) 133 0) [1, 5, 8, 9, 10] [] [1, 5, 8, 9, 10] [19] [5] [] (mapIn (fnV 134) nilS 4 es n i) [] [.chk [vaC.enc x]] =
    (bif decide (Int.ofNat i < Int.ofNat n) then (.need (es[i]? = (some (AV.agg [intA x.fst, intA x.snd.fst, boolA x.snd.snd.fst, boolA x.snd.snd.snd]))) (.need (EntClosed [(false, .arr 1 [intA (vchk x)] false)]) (.done (some ((.nrm, [.fn (Fn.func 134) [] [], .sl 19 0 1 0 1, .rsl 4 es false, intA (Int.ofNat n), intA (IntKind.i64.wrap (Int.ofNat i + 1))], [(false, .arr 1 [intA (vchk x)] false)])))))) else (.need (EntClosed []) (.done (some (((.exit 0), [.v (.slice none 0 0)], [])))))) := by kernel_rfl
set_option maxRecDepth 100000 in
theorem r133b (es rs : List AV) (n i k : Nat) (x : Va) : roundD (CS V1) 60 0 133 0 22 22 false (loopOf (CS V1) 133 0) [1, 5, 8, 9, 10] [19] [1, 5, 8, 9, 10] [19] [5] [19] (mapIn (fnV 134) (.sl 19 0 1 0 k) 4 es n i) [(false, .arr 1 rs false)] [.chk [vaC.enc x], .chk rs] =
    (bif decide (Int.ofNat i < Int.ofNat n) then (.need (es[i]? = (some (AV.agg [intA x.fst, intA x.snd.fst, boolA x.snd.snd.fst, boolA x.snd.snd.snd]))) (.need (k = rs.length ∧ true = true ∧ 1 = 1 ∧ (rs ++ ([intA (vchk x)] : List AV)).length * 8 ≤ 35184372088832 ∧ (rs ++ ([intA (vchk x)] : List AV)).length ≤ 35184372088832 ∧ 8 ≠ 0) (.need (EntClosed [(false, .arr 1 (rs ++ ([intA (vchk x)] : List AV)) false)]) (.done (some ((.nrm, [.fn (Fn.func 134) [] [], .sl 19 0 1 0 ((rs ++ ([intA (vchk x)] : List AV)).length), .rsl 4 es false, intA (Int.ofNat n), intA (IntKind.i64.wrap (Int.ofNat i + 1))], [(false, .arr 1 (rs ++ ([intA (vchk x)] : List AV)) false)]))))))) else (.need (EntClosed [(false, .arr 1 rs false)]) (.done (some (((.exit 0), [.sl 19 0 1 0 k], [(false, .arr 1 rs false)])))))) := by kernel_rfl
set_option maxRecDepth 100000 in
theorem t133 (es rs : List AV) : evTreeD (CS V1) 60 133 [.rsl 4 es false, (fnV 134)] [.loop 0 [1, 5, 8, 9, 10] [] [5] [] (.exit 0) [.rsl 1 rs false] []] =
    (.need (EntClosed [] ∧ EntClosed [] ∧ Says (CS V1) 0 22 false (.loop (loopOf (CS V1) 133 0)) (mkSt [1, 5, 8, 9, 10] [] 22 [.fn (Fn.func 134) [] [], .v (.slice none 0 0), .rsl 4 es false, intA (Int.ofNat es.length), intA 0] []) (.exit 0) (mkSt [5] [] 22 [.rsl 1 rs false] [])) (.done (some (.rsl 1 rs false)))) := by kernel_rfl
set_option maxRecDepth 100000 in
theorem r163x122 (es : List AV) (n i : Nat) (x : Va) : roundD (CS V1) 60 0 163 0 19 19 false (loopOf (CS V1) 163 0) [0, 1, 7, 8] [] [0, 1, 7, 8] [] [4] [] [.rsl 4 es false, fnV 122, intA (Int.ofNat n), intA (Int.ofNat i)] [] [.chk [vaC.enc x]] =
    (bif decide (Int.ofNat i < Int.ofNat n) then (.need (es[i]? = (some (AV.agg [intA x.fst, intA x.snd.fst, boolA x.snd.snd.fst, boolA x.snd.snd.snd]))) (bif underV x then (.need (EntClosed []) (.done (some ((.ret, [intA (Int.ofNat i)], []))))) else (.need (EntClosed []) (.done (some ((.nrm, [.rsl 4 es false, .fn (Fn.func 122) [] [], intA (Int.ofNat n), intA (IntKind.i64.wrap (Int.ofNat i + 1))], []))))))) else (.need (EntClosed []) (.done (some (((.exit 0), [.bad], [])))))) := by kernel_rfl
set_option maxRecDepth 100000 in
theorem t163r122 (es : List AV) (m : Int) : evTreeD (CS V1) 60 163 [.rsl 4 es false, fnV 122] [.loop 0 [0, 1, 7, 8] [] [4] [] .ret [intA m] []] =
    (.need (EntClosed [] ∧ EntClosed [] ∧ Says (CS V1) 0 19 false (.loop (loopOf (CS V1) 163 0)) (mkSt [0, 1, 7, 8] [] 19 [.rsl 4 es false, .fn (Fn.func 122) [] [], intA (Int.ofNat es.length), intA 0] []) .ret (mkSt [4] [] 19 [intA m] [])) (.done (some (intA m)))) := by kernel_rfl
set_option maxRecDepth 100000 in
theorem t163e122 (es : List AV) : evTreeD (CS V1) 60 163 [.rsl 4 es false, fnV 122] [.loop 0 [0, 1, 7, 8] [] [4] [] (.exit 0) [.bad] []] =
    (.need (EntClosed [] ∧ EntClosed [] ∧ Says (CS V1) 0 19 false (.loop (loopOf (CS V1) 163 0)) (mkSt [0, 1, 7, 8] [] 19 [.rsl 4 es false, .fn (Fn.func 122) [] [], intA (Int.ofNat es.length), intA 0] []) (.exit 0) (mkSt [4] [] 19 [.bad] [])) (.done (some (intA (-1))))) := by kernel_rfl
set_option maxRecDepth 100000 in
theorem r163x126 (es : List AV) (n i : Nat) (x : Va) : roundD (CS V1) 60 0 163 0 19 19 false (loopOf (CS V1) 163 0) [0, 1, 7, 8] [] [0, 1, 7, 8] [] [4] [] [.rsl 4 es false, fnV 126, intA (Int.ofNat n), intA (Int.ofNat i)] [] [.chk [vaC.enc x]] =
    (bif decide (Int.ofNat i < Int.ofNat n) then (.need (es[i]? = (some (AV.agg [intA x.fst, intA x.snd.fst, boolA x.snd.snd.fst, boolA x.snd.snd.snd]))) (bif overV x then (.need (EntClosed []) (.done (some ((.ret, [intA (Int.ofNat i)], []))))) else (.need (EntClosed []) (.done (some ((.nrm, [.rsl 4 es false, .fn (Fn.func 126) [] [], intA (Int.ofNat n), intA (IntKind.i64.wrap (Int.ofNat i + 1))], []))))))) else (.need (EntClosed []) (.done (some (((.exit 0), [.bad], [])))))) := by kernel_rfl
set_option maxRecDepth 100000 in
theorem t163r126 (es : List AV) (m : Int) : evTreeD (CS V1) 60 163 [.rsl 4 es false, fnV 126] [.loop 0 [0, 1, 7, 8] [] [4] [] .ret [intA m] []] =
    (.need (EntClosed [] ∧ EntClosed [] ∧ Says (CS V1) 0 19 false (.loop (loopOf (CS V1) 163 0)) (mkSt [0, 1, 7, 8] [] 19 [.rsl 4 es false, .fn (Fn.func 126) [] [], intA (Int.ofNat es.length), intA 0] []) .ret (mkSt [4] [] 19 [intA m] [])) (.done (some (intA m)))) := by kernel_rfl
set_option maxRecDepth 100000 in
theorem t163e126 (es : List AV) : evTreeD (CS V1) 60 163 [.rsl 4 es false, fnV 126] [.loop 0 [0, 1, 7, 8] [] [4] [] (.exit 0) [.bad] []] =
    (.need (EntClosed [] ∧ EntClosed [] ∧ Says (CS V1) 0 19 false (.loop (loopOf (CS V1) 163 0)) (mkSt [0, 1, 7, 8] [] 19 [.rsl 4 es false, .fn (Fn.func 126) [] [], intA (Int.ofNat es.length), intA 0] []) (.exit 0) (mkSt [4] [] 19 [.bad] [])) (.done (some (intA (-1))))) := by kernel_rfl
set_option maxRecDepth 100000 in
theorem r163x137 (es : List AV) (n i : Nat) (x : Va) : roundD (CS V1) 60 0 163 0 19 19 false (loopOf (CS V1) 163 0) [0, 1, 7, 8] [] [0, 1, 7, 8] [] [4] [] [.rsl 4 es false, fnV 137, intA (Int.ofNat n), intA (Int.ofNat i)] [] [.chk [vaC.enc x]] =
    (bif decide (Int.ofNat i < Int.ofNat n) then (.need (es[i]? = (some (AV.agg [intA x.fst, intA x.snd.fst, boolA x.snd.snd.fst, boolA x.snd.snd.snd]))) (bif anyV x then (.need (EntClosed []) (.done (some ((.ret, [intA (Int.ofNat i)], []))))) else (.need (EntClosed []) (.done (some ((.nrm, [.rsl 4 es false, .fn (Fn.func 137) [] [], intA (Int.ofNat n), intA (IntKind.i64.wrap (Int.ofNat i + 1))], []))))))) else (.need (EntClosed []) (.done (some (((.exit 0), [.bad], [])))))) := by kernel_rfl
set_option maxRecDepth 100000 in
theorem t163r137 (es : List AV) (m : Int) : evTreeD (CS V1) 60 163 [.rsl 4 es false, fnV 137] [.loop 0 [0, 1, 7, 8] [] [4] [] .ret [intA m] []] =
    (.need (EntClosed [] ∧ EntClosed [] ∧ Says (CS V1) 0 19 false (.loop (loopOf (CS V1) 163 0)) (mkSt [0, 1, 7, 8] [] 19 [.rsl 4 es false, .fn (Fn.func 137) [] [], intA (Int.ofNat es.length), intA 0] []) .ret (mkSt [4] [] 19 [intA m] [])) (.done (some (intA m)))) := by kernel_rfl
set_option maxRecDepth 100000 in
theorem t163e137 (es : List AV) : evTreeD (CS V1) 60 163 [.rsl 4 es false, fnV 137] [.loop 0 [0, 1, 7, 8] [] [4] [] (.exit 0) [.bad] []] =
    (.need (EntClosed [] ∧ EntClosed [] ∧ Says (CS V1) 0 19 false (.loop (loopOf (CS V1) 163 0)) (mkSt [0, 1, 7, 8] [] 19 [.rsl 4 es false, .fn (Fn.func 137) [] [], intA (Int.ofNat es.length), intA 0] []) (.exit 0) (mkSt [4] [] 19 [.bad] [])) (.done (some (intA (-1))))) := by kernel_rfl
/-- Specifications side by side: one function, called with one or another function. -/
def orG (G1 G2 : List AV → Option AV) : List AV → Option AV := fun l => match G1 l with
  | some r => some r
  | none => G2 l
theorem holds_or {f : FuncId} {G1 G2 : List AV → Option AV} (h1 : Holds f G1) (h2 : Holds f G2) : Holds f (orG G1 G2) := fun l r hr => by
  unfold orG at hr
  cases hg : G1 l with
  | some x => rw [hg] at hr; simp only [Option.some.injEq] at hr; subst hr; exact h1 l x hg
  | none => rw [hg] at hr; exact h2 l r hr
theorem or_l {G1 G2 : List AV → Option AV} {l : List AV} {r : AV} (h : G1 l = some r) : orG G1 G2 l = some r := by unfold orG; rw [h]
theorem or_r {G1 G2 : List AV → Option AV} {l : List AV} {r : AV} (h0 : G1 l = none) (h : G2 l = some r) : orG G1 G2 l = some r := by unfold orG; rw [h0]; exact h
theorem fn_ne {α : Type} {A : Cod α} {f g : FuncId} {F : α → Unit → Option AV} {a : AV} (h : Nat.beq g f = false) : sp2 A (fnC f) F [a, fnV g] = none := by
  have hd : (fnC f).dec (fnV g) = none := by
    show (bif isFn f (fnV g) then some () else none) = none
    rw [show isFn f (fnV g) = Nat.beq g f from rfl, h]; rfl
  simp only [sp2, hd]
  cases A.dec a <;> rfl
def mV (f : FuncId) (g : Va → Int) : List AV → Option AV := mapG vaC 4 intC 1 f g
theorem h123_124 : Holds 123 (mV 124 lowV) := mapG_holds fun l hl => mapped_ok (A := vaC) (B := intC) (g := lowV) (fv := fnV 124) (szb := 1) (bb := 8) V1_ok (0, 0, false, false) (fun _ => rfl) ⟨by omega, by omega⟩ r123a124 r123b124 t123124 l hl
theorem h123_125 : Holds 123 (mV 125 highV) := mapG_holds fun l hl => mapped_ok (A := vaC) (B := intC) (g := highV) (fv := fnV 125) (szb := 1) (bb := 8) V1_ok (0, 0, false, false) (fun _ => rfl) ⟨by omega, by omega⟩ r123a125 r123b125 t123125 l hl
theorem h123_127 : Holds 123 (mV 127 adjV) := mapG_holds fun l hl => mapped_ok (A := vaC) (B := intC) (g := adjV) (fv := fnV 127) (szb := 1) (bb := 8) V1_ok (0, 0, false, false) (fun _ => rfl) ⟨by omega, by omega⟩ r123a127 r123b127 t123127 l hl
theorem h123_135 : Holds 123 (mV 135 leastV) := mapG_holds fun l hl => mapped_ok (A := vaC) (B := intC) (g := leastV) (fv := fnV 135) (szb := 1) (bb := 8) V1_ok (0, 0, false, false) (fun _ => rfl) ⟨by omega, by omega⟩ r123a135 r123b135 t123135 l hl
theorem h123_136 : Holds 123 (mV 136 mostV) := mapG_holds fun l hl => mapped_ok (A := vaC) (B := intC) (g := mostV) (fv := fnV 136) (szb := 1) (bb := 8) V1_ok (0, 0, false, false) (fun _ => rfl) ⟨by omega, by omega⟩ r123a136 r123b136 t123136 l hl
def m123G : List AV → Option AV := orG (mV 124 lowV) (orG (mV 125 highV) (orG (mV 127 adjV) (orG (mV 135 leastV) (mV 136 mostV))))
theorem h123 : Holds 123 m123G := holds_or h123_124 (holds_or h123_125 (holds_or h123_127 (holds_or h123_135 h123_136)))
theorem specMV {f : FuncId} {g : Va → Int} {l : List Va} (h : Nat.ble l.length lim = true) : mV f g [slA vaC 4 l, fnV f] = some (slA intC 1 (l.map g)) := by
  have h1 := sp2_at (A := vasC) (B := fnC f) (F := fun l _ => bif Nat.ble l.length lim then some (slA intC 1 (l.map g)) else none) l ()
  rw [h] at h1; exact h1
theorem s124 {l : List Va} (h : Nat.ble l.length lim = true) : m123G [slA vaC 4 l, fnV 124] = some (slA intC 1 (l.map lowV)) := or_l (specMV h)
theorem s125 {l : List Va} (h : Nat.ble l.length lim = true) : m123G [slA vaC 4 l, fnV 125] = some (slA intC 1 (l.map highV)) := or_r (fn_ne rfl) (or_l (specMV h))
theorem s127 {l : List Va} (h : Nat.ble l.length lim = true) : m123G [slA vaC 4 l, fnV 127] = some (slA intC 1 (l.map adjV)) := or_r (fn_ne rfl) (or_r (fn_ne rfl) (or_l (specMV h)))
theorem s135 {l : List Va} (h : Nat.ble l.length lim = true) : m123G [slA vaC 4 l, fnV 135] = some (slA intC 1 (l.map leastV)) := or_r (fn_ne rfl) (or_r (fn_ne rfl) (or_r (fn_ne rfl) (or_l (specMV h))))
theorem s136 {l : List Va} (h : Nat.ble l.length lim = true) : m123G [slA vaC 4 l, fnV 136] = some (slA intC 1 (l.map mostV)) := or_r (fn_ne rfl) (or_r (fn_ne rfl) (or_r (fn_ne rfl) (or_r (fn_ne rfl) (specMV h))))
theorem h133 : Holds 133 (mV 134 vchk) := mapG_holds fun l hl => mapped_ok (A := vaC) (B := intC) (g := vchk) (fv := fnV 134) (szb := 1) (bb := 8) V1_ok (0, 0, false, false) (fun _ => rfl) ⟨by omega, by omega⟩ r133a r133b t133 l hl
/-! ### Where a mark is -/
def idxF (p : Va → Bool) (i : Nat) (x : Va) : Option Int := bif p x then some (Int.ofNat i) else none
def idxM (p : Va → Bool) (l : List Va) : Int := (srch (idxF p) 0 l).getD (-1)
theorem idx_any (p : Va → Bool) : ∀ (l : List Va) (i : Nat), decide ((srch (idxF p) i l).getD (-1) ≥ 0) = l.any p
  | [], _ => rfl
  | x :: r, i => by
    unfold srch
    rw [List.any_cons]
    cases h : p x with
    | true => rw [show idxF p i x = some (Int.ofNat i) by unfold idxF; rw [h]; rfl]; simp
    | false => rw [show idxF p i x = none by unfold idxF; rw [h]; rfl]; exact idx_any p r (i + 1)
def iV (f : FuncId) (p : Va → Bool) : List AV → Option AV := sp2 vasC (fnC f) fun l _ => bif Nat.ble l.length lim then some (intA (idxM p l)) else none
theorem idx_ok {f : FuncId} {p : Va → Bool}
    (r1 : ∀ (es : List AV) (n i : Nat) (x : Va), roundD (CS V1) 60 0 163 0 19 19 false (loopOf (CS V1) 163 0) [0, 1, 7, 8] [] [0, 1, 7, 8] [] [4] [] [.rsl 4 es false, fnV f, intA (Int.ofNat n), intA (Int.ofNat i)] [] [.chk [vaC.enc x]] =
      (bif decide (Int.ofNat i < Int.ofNat n) then (.need (es[i]? = some (vaC.enc x)) (bif p x then (.need (EntClosed []) (.done (some (.ret, [intA (Int.ofNat i)], [])))) else (.need (EntClosed []) (.done (some (.nrm, [.rsl 4 es false, fnV f, intA (Int.ofNat n), intA (IntKind.i64.wrap (Int.ofNat i + 1))], [])))))) else (.need (EntClosed []) (.done (some (.exit 0, [.bad], []))))))
    (tr : ∀ (es : List AV) (m : Int), evTreeD (CS V1) 60 163 [.rsl 4 es false, fnV f] [.loop 0 [0, 1, 7, 8] [] [4] [] .ret [intA m] []] = (.need (EntClosed [] ∧ EntClosed [] ∧ Says (CS V1) 0 19 false (.loop (loopOf (CS V1) 163 0)) (mkSt [0, 1, 7, 8] [] 19 [.rsl 4 es false, fnV f, intA (Int.ofNat es.length), intA 0] []) .ret (mkSt [4] [] 19 [intA m] [])) (.done (some (intA m)))))
    (te : ∀ (es : List AV), evTreeD (CS V1) 60 163 [.rsl 4 es false, fnV f] [.loop 0 [0, 1, 7, 8] [] [4] [] (.exit 0) [.bad] []] = (.need (EntClosed [] ∧ EntClosed [] ∧ Says (CS V1) 0 19 false (.loop (loopOf (CS V1) 163 0)) (mkSt [0, 1, 7, 8] [] 19 [.rsl 4 es false, fnV f, intA (Int.ofNat es.length), intA 0] []) (.exit 0) (mkSt [4] [] 19 [.bad] [])) (.done (some (intA (-1)))))) :
    Holds 163 (iV f p) := holds2 fun l _ r hr => by
  cases hb : Nat.ble l.length lim with
  | false => simp [hb] at hr
  | true =>
    simp only [hb, cond_true, Option.some.injEq] at hr; subst hr
    have hl := limTwo (Nat.le_of_ble_eq_true hb)
    have e := e_len' vaC l
    have h := LoopRun.find (C := CS V1) (p := 0) (nt := 19) (rd := false) (c := loopOf (CS V1) 163 0) (idxF p) (fun i => mkSt [0, 1, 7, 8] [] 19 [.rsl 4 (l.map vaC.enc) false, fnV f, intA (Int.ofNat l.length), intA (Int.ofNat i)] [])
      (fun t => mkSt [4] [] 19 [intA t] []) (mkSt [4] [] 19 [.bad] []) (.exit 0) (fun _ => .ret) l (by simp) (by simp)
      (fun i x hx => by
        have hi := lt_len hx
        have hr := r1 (l.map vaC.enc) l.length i x
        rw [lt_of hi, wrap_ix hi hl] at hr
        unfold idxF
        cases h : p x with
        | true => rw [h] at hr; exact V1_ok.rndR hr ⟨get_map _ hx, trivial, rfl⟩
        | false => rw [h] at hr; exact V1_ok.rndN hr ⟨get_map _ hx, trivial, rfl⟩)
      (V1_ok.rndX (r1 (l.map vaC.enc) l.length l.length (0, 0, false, false)) (by rw [lt_self]; exact ⟨trivial, rfl⟩))
    unfold idxM
    cases hq : srch (idxF p) 0 l with
    | some t => rw [hq] at h; exact V1_ok.tr (tr (l.map vaC.enc) t) ⟨⟨trivial, trivial, by rw [e]; exact h.says⟩, rfl⟩
    | none => rw [hq] at h; exact V1_ok.tr (te (l.map vaC.enc)) ⟨⟨trivial, trivial, by rw [e]; exact h.says⟩, rfl⟩
theorem h163_122 : Holds 163 (iV 122 underV) := idx_ok r163x122 t163r122 t163e122
theorem h163_126 : Holds 163 (iV 126 overV) := idx_ok r163x126 t163r126 t163e126
theorem h163_137 : Holds 163 (iV 137 anyV) := idx_ok r163x137 t163r137 t163e137
def i163G : List AV → Option AV := orG (iV 122 underV) (orG (iV 126 overV) (iV 137 anyV))
theorem h163 : Holds 163 i163G := holds_or h163_122 (holds_or h163_126 h163_137)
theorem specIV {f : FuncId} {p : Va → Bool} {l : List Va} (h : Nat.ble l.length lim = true) : iV f p [slA vaC 4 l, fnV f] = some (intA (idxM p l)) := by
  have h1 := sp2_at (A := vasC) (B := fnC f) (F := fun l _ => bif Nat.ble l.length lim then some (intA (idxM p l)) else none) l ()
  rw [h] at h1; exact h1
theorem i122 {l : List Va} (h : Nat.ble l.length lim = true) : i163G [slA vaC 4 l, fnV 122] = some (intA (idxM underV l)) := or_l (specIV h)
theorem i126 {l : List Va} (h : Nat.ble l.length lim = true) : i163G [slA vaC 4 l, fnV 126] = some (intA (idxM overV l)) := or_r (fn_ne rfl) (or_l (specIV h))
theorem i137 {l : List Va} (h : Nat.ble l.length lim = true) : i163G [slA vaC 4 l, fnV 137] = some (intA (idxM anyV l)) := or_r (fn_ne rfl) (or_r (fn_ne rfl) (specIV h))
def V2 : Specs := (((V1.set 123 m123G).set 133 (mV 134 vchk)).set 163 i163G)
theorem V2_ok : Ok V2 := (((V1_ok.set h123).set h133).set h163)
end Go.Vm.S6

namespace Go.Vm.S6
open Go.Proofs Go.RowKit
set_option maxRecDepth 100000 in
theorem t121 (es : List AV) (f : Nat) (m : Int) : evTreeD (CS V2) 60 121 [.rsl 4 es false, fnV f] [.sp [.rsl 4 es false, fnV f] (intA m)] =
    (.need (([.rsl 4 es false, .fn (Fn.func f) [] []] : List AV) = ([.rsl 4 es false, .fn (Fn.func f) [] []] : List AV) ∧ (Cx.spec (CS V2) 163 ([.rsl 4 es false, .fn (Fn.func f) [] []] : List AV)) = (some (AV.v (.int .i64 m)))) (.done (some (boolA (decide (m ≥ 0)))))) := by kernel_rfl
set_option maxRecDepth 100000 in
theorem t59 (es cs : List AV) (e : Int) : evTreeD (CS V2) 60 59 [.rsl 4 es false] [.sp [intA (Int.ofNat es.length), intA 128] (intA (manyI (Int.ofNat es.length) 128)), .sp [.rsl 4 es false, fnV 134] (.rsl 1 cs false), .sp [.rsl 1 cs false] (intA e)] =
    (.need (([intA (Int.ofNat es.length), intA 128] : List AV) = ([intA (Int.ofNat es.length), intA 128] : List AV) ∧ (Cx.spec (CS V2) 109 ([intA (Int.ofNat es.length), intA 128] : List AV)) = (some (AV.v (.int .i64 (manyI (Int.ofNat es.length) 128))))) (.need (([.rsl 4 es false, .fn (Fn.func 134) [] []] : List AV) = ([.rsl 4 es false, .fn (Fn.func 134) [] []] : List AV) ∧ (Cx.spec (CS V2) 133 ([.rsl 4 es false, .fn (Fn.func 134) [] []] : List AV)) = (some (AV.rsl 1 cs false))) (.need (([.rsl 1 cs false] : List AV) = ([.rsl 1 cs false] : List AV) ∧ (Cx.spec (CS V2) 95 ([.rsl 1 cs false] : List AV)) = (some (AV.v (.int .i64 e)))) (.done (some (intA (firstM [manyI (Int.ofNat es.length) 128, e]))))))) := by kernel_rfl
def cV (f : FuncId) (p : Va → Bool) : List AV → Option AV := sp2 vasC (fnC f) fun l _ => bif Nat.ble l.length lim then some (boolA (l.any p)) else none
theorem cont_ok {f : FuncId} {p : Va → Bool} (hs : ∀ {l : List Va}, Nat.ble l.length lim = true → i163G [slA vaC 4 l, fnV f] = some (intA (idxM p l))) : Holds 121 (cV f p) := holds2 fun l _ r hr => by
  cases hb : Nat.ble l.length lim with
  | false => simp [hb] at hr
  | true =>
    simp only [hb, cond_true, Option.some.injEq] at hr; subst hr
    rw [← idx_any p l 0]
    exact V2_ok.tr (t121 (l.map vaC.enc) f (idxM p l)) ⟨⟨rfl, hs hb⟩, rfl⟩
def c121G : List AV → Option AV := orG (cV 122 underV) (orG (cV 126 overV) (cV 137 anyV))
theorem h121 : Holds 121 c121G := holds_or (cont_ok i122) (holds_or (cont_ok i126) (cont_ok i137))
theorem specCV {f : FuncId} {p : Va → Bool} {l : List Va} (h : Nat.ble l.length lim = true) : cV f p [slA vaC 4 l, fnV f] = some (boolA (l.any p)) := by
  have h1 := sp2_at (A := vasC) (B := fnC f) (F := fun l _ => bif Nat.ble l.length lim then some (boolA (l.any p)) else none) l ()
  rw [h] at h1; exact h1
theorem c122 {l : List Va} (h : Nat.ble l.length lim = true) : c121G [slA vaC 4 l, fnV 122] = some (boolA (l.any underV)) := or_l (specCV h)
theorem c126 {l : List Va} (h : Nat.ble l.length lim = true) : c121G [slA vaC 4 l, fnV 126] = some (boolA (l.any overV)) := or_r (fn_ne rfl) (or_l (specCV h))
theorem c137 {l : List Va} (h : Nat.ble l.length lim = true) : c121G [slA vaC 4 l, fnV 137] = some (boolA (l.any anyV)) := or_r (fn_ne rfl) (or_r (fn_ne rfl) (specCV h))
theorem h59 : Holds 59 trcG := holds1 fun l r hr => by
  cases hb : Nat.ble l.length lim with
  | false => simp [hb] at hr
  | true =>
    simp only [hb, cond_true, Option.some.injEq] at hr; subst hr
    refine V2_ok.tr (t59 (l.map vaC.enc) ((l.map vchk).map intA) (firstM (l.map vchk))) ?_
    rw [e_len']
    refine ⟨⟨rfl, specMany _ _⟩, ⟨rfl, specMV hb⟩, ⟨rfl, specFirst (by rw [List.length_map]; exact hb)⟩, ?_⟩
    rw [firstB]; rfl
def V3 : Specs := ((V2.set 121 c121G).set 59 trcG)
theorem V3_ok : Ok V3 := ((V2_ok.set h121).set h59)
end Go.Vm.S6
