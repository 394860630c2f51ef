/- Ratios, series, the least of a list. -/
import Derived.Test.YtbplbhcgcicgfaaGreatDoorS6T1
namespace Go.Vm.S6
open Go.Proofs Go.RowKit
set_option maxRecDepth 100000 in
theorem t157 (a b g q1 q2 : Int) : evTreeD (CS T1) 60 157 [intA a, intA b] [.sp [intA a, intA b] (intA g), .dv (intA q1), .dv (intA q2)] =
    (.need (([intA a, intA b] : List AV) = ([intA a, intA b] : List AV) ∧ (Cx.spec (CS T1) 159 ([intA a, intA b] : List AV)) = (some (AV.v (.int .i64 g)))) (.need ((abin (CS T1) BinOp.quo 3 (Operand.tmp 9) (Operand.tmp 10) (AV.v (.int .i64 a)) (AV.v (.int .i64 g))) = (some (AV.v (.int .i64 q1)))) (.need ((abin (CS T1) BinOp.quo 3 (Operand.tmp 12) (Operand.tmp 13) (AV.v (.int .i64 b)) (AV.v (.int .i64 g))) = (some (AV.v (.int .i64 q2)))) (.done (some (.agg [intA q1, intA q2])))))) := by kernel_rfl
set_option maxRecDepth 100000 in
theorem t104 (a b g q1 q2 : Int) : evTreeD (CS T1) 60 104 [intA a, intA b] [.br [.sp [] (intA g), .dv (intA q1), .dv (intA q2)] [.sp [intA a, intA b] (intA g), .dv (intA q1), .dv (intA q2)]] =
    (bif decide (b < 0) then (.need (([intA (IntKind.i64.wrap (0 - a)), intA (IntKind.i64.wrap (0 - b))] : List AV) = ([] : List AV) ∧ (Cx.spec (CS T1) 160 ([] : List AV)) = (some (AV.v (.int .i64 g)))) (.need ((abin (CS T1) BinOp.quo 3 (Operand.tmp 15) (Operand.tmp 16) (AV.v (.int .i64 (IntKind.i64.wrap (0 - a)))) (AV.v (.int .i64 g))) = (some (AV.v (.int .i64 q1)))) (.need ((abin (CS T1) BinOp.quo 3 (Operand.tmp 18) (Operand.tmp 19) (AV.v (.int .i64 (IntKind.i64.wrap (0 - b)))) (AV.v (.int .i64 g))) = (some (AV.v (.int .i64 q2)))) (.done (some (.agg [intA q1, intA q2])))))) else (.need (([intA a, intA b] : List AV) = ([intA a, intA b] : List AV) ∧ (Cx.spec (CS T1) 160 ([intA a, intA b] : List AV)) = (some (AV.v (.int .i64 g)))) (.need ((abin (CS T1) BinOp.quo 3 (Operand.tmp 15) (Operand.tmp 16) (AV.v (.int .i64 a)) (AV.v (.int .i64 g))) = (some (AV.v (.int .i64 q1)))) (.need ((abin (CS T1) BinOp.quo 3 (Operand.tmp 18) (Operand.tmp 19) (AV.v (.int .i64 b)) (AV.v (.int .i64 g))) = (some (AV.v (.int .i64 q2)))) (.done (some (.agg [intA q1, intA q2]))))))) := by kernel_rfl
set_option maxRecDepth 100000 in
theorem t119 (a b c d : Int) (e : Bool) : evTreeD (CS T1) 60 119 [.agg [intA a, intA b], .agg [intA c, intA d]] [.eq (boolA e)] =
    (.need ((abin (CS T1) BinOp.eql 28 (Operand.tmp 5) (Operand.tmp 6) (AV.agg [intA a, intA b]) (AV.agg [intA c, intA d])) = (some (AV.v (.bool e)))) (bif e then (.done (some (intA 0))) else (.done (some (intA (cmpI (IntKind.i64.wrap (a * d)) (IntKind.i64.wrap (c * b)))))))) := by kernel_rfl
set_option maxRecDepth 100000 in
theorem t111 (a b : Int) (e : Bool) : evTreeD (CS T1) 60 111 [.agg [intA a, intA b]] [.eq (boolA e)] =
    (.need ((abin (CS T1) BinOp.eql 62 (Operand.tmp 3) (Operand.tmp 4) (AV.agg [intA a, intA b]) (AV.agg [intA 1, intA 1])) = (some (AV.v (.bool e)))) (bif e then (.done (some (intA 0))) else (.done (some (intA (firstM [withinM a 1 1000, withinM b 1 1000])))))) := by kernel_rfl
set_option maxRecDepth 100000 in
theorem t102 (a b g : Int) : evTreeD (CS T1) 60 102 [.agg [intA a, intA b]] [.br [] [.sp [intA a, intA b] (intA g)]] =
    (bif firstM [withinM a 0 5000000000000, withinM b 1 1000000] != 0 then (.done (some (intA (firstM [withinM a 0 5000000000000, withinM b 1 1000000])))) else (.need (([intA a, intA b] : List AV) = ([intA a, intA b] : List AV) ∧ (Cx.spec (CS T1) 159 ([intA a, intA b] : List AV)) = (some (AV.v (.int .i64 g)))) (.done (some (intA (whenM (g != 1) 1)))))) := by kernel_rfl
set_option maxRecDepth 100000 in
theorem r110a (es : List AV) (n i : Nat) (x : Int) : roundD (CS T1) 60 0 110 0 22 22 false (loopOf (CS T1) 110 0) [1, 5, 8, 9, 10] [] [1, 5, 8, 9, 10] [19] [5] [] (mapIn (fnV 106) nilS 1 es n i) [] [.chk [intA x]] =
    (bif decide (Int.ofNat i < Int.ofNat n) then (.need (es[i]? = (some (AV.v (.int .i64 x)))) (.need (EntClosed [(false, .arr 1 [intA (unitM x)] false)]) (.done (some ((.nrm, [.fn (Fn.func 106) [] [], .sl 19 0 1 0 1, .rsl 1 es false, intA (Int.ofNat n), intA (IntKind.i64.wrap (Int.ofNat i + 1))], [(false, .arr 1 [intA (unitM x)] false)])))))) else (.need (EntClosed []) (.done (some (((.exit 0), [.v (.slice none 0 0)], [])))))) := by kernel_rfl
set_option maxRecDepth 100000 in
theorem r110b (es rs : List AV) (n i k : Nat) (x : Int) : roundD (CS T1) 60 0 110 0 22 22 false (loopOf (CS T1) 110 0) [1, 5, 8, 9, 10] [19] [1, 5, 8, 9, 10] [19] [5] [19] (mapIn (fnV 106) (.sl 19 0 1 0 k) 1 es n i) [(false, .arr 1 rs false)] [.chk [intA x], .chk rs] =
    (bif decide (Int.ofNat i < Int.ofNat n) then (.need (es[i]? = (some (AV.v (.int .i64 x)))) (.need (k = rs.length ∧ true = true ∧ 1 = 1 ∧ (rs ++ ([intA (unitM x)] : List AV)).length * 8 ≤ 35184372088832 ∧ (rs ++ ([intA (unitM x)] : List AV)).length ≤ 35184372088832 ∧ 8 ≠ 0) (.need (EntClosed [(false, .arr 1 (rs ++ ([intA (unitM x)] : List AV)) false)]) (.done (some ((.nrm, [.fn (Fn.func 106) [] [], .sl 19 0 1 0 ((rs ++ ([intA (unitM x)] : List AV)).length), .rsl 1 es false, intA (Int.ofNat n), intA (IntKind.i64.wrap (Int.ofNat i + 1))], [(false, .arr 1 (rs ++ ([intA (unitM x)] : List AV)) false)]))))))) else (.need (EntClosed [(false, .arr 1 rs false)]) (.done (some (((.exit 0), [.sl 19 0 1 0 k], [(false, .arr 1 rs false)])))))) := by kernel_rfl
set_option maxRecDepth 100000 in
theorem t110 (es rs : List AV) : evTreeD (CS T1) 60 110 [.rsl 1 es false, (fnV 106)] [.loop 0 [1, 5, 8, 9, 10] [] [5] [] (.exit 0) [.rsl 1 rs false] []] =
    (.need (EntClosed [] ∧ EntClosed [] ∧ Says (CS T1) 0 22 false (.loop (loopOf (CS T1) 110 0)) (mkSt [1, 5, 8, 9, 10] [] 22 [.fn (Fn.func 106) [] [], .v (.slice none 0 0), .rsl 1 es false, intA (Int.ofNat es.length), intA 0] []) (.exit 0) (mkSt [5] [] 22 [.rsl 1 rs false] [])) (.done (some (.rsl 1 rs false)))) := by kernel_rfl
set_option maxRecDepth 100000 in
theorem r113a (es : List AV) (n i : Nat) (x : Int) : roundD (CS T1) 60 0 113 0 22 22 false (loopOf (CS T1) 113 0) [1, 5, 8, 9, 10] [] [1, 5, 8, 9, 10] [19] [5] [] (mapIn (fnV 114) nilS 1 es n i) [] [.chk [intA x]] =
    (bif decide (Int.ofNat i < Int.ofNat n) then (.need (es[i]? = (some (AV.v (.int .i64 x)))) (.need (EntClosed [(false, .arr 1 [intA (absW x)] false)]) (.done (some ((.nrm, [.fn (Fn.func 114) [] [], .sl 19 0 1 0 1, .rsl 1 es false, intA (Int.ofNat n), intA (IntKind.i64.wrap (Int.ofNat i + 1))], [(false, .arr 1 [intA (absW x)] false)])))))) else (.need (EntClosed []) (.done (some (((.exit 0), [.v (.slice none 0 0)], [])))))) := by kernel_rfl
set_option maxRecDepth 100000 in
theorem r113b (es rs : List AV) (n i k : Nat) (x : Int) : roundD (CS T1) 60 0 113 0 22 22 false (loopOf (CS T1) 113 0) [1, 5, 8, 9, 10] [19] [1, 5, 8, 9, 10] [19] [5] [19] (mapIn (fnV 114) (.sl 19 0 1 0 k) 1 es n i) [(false, .arr 1 rs false)] [.chk [intA x], .chk rs] =
    (bif decide (Int.ofNat i < Int.ofNat n) then (.need (es[i]? = (some (AV.v (.int .i64 x)))) (.need (k = rs.length ∧ true = true ∧ 1 = 1 ∧ (rs ++ ([intA (absW x)] : List AV)).length * 8 ≤ 35184372088832 ∧ (rs ++ ([intA (absW x)] : List AV)).length ≤ 35184372088832 ∧ 8 ≠ 0) (.need (EntClosed [(false, .arr 1 (rs ++ ([intA (absW x)] : List AV)) false)]) (.done (some ((.nrm, [.fn (Fn.func 114) [] [], .sl 19 0 1 0 ((rs ++ ([intA (absW x)] : List AV)).length), .rsl 1 es false, intA (Int.ofNat n), intA (IntKind.i64.wrap (Int.ofNat i + 1))], [(false, .arr 1 (rs ++ ([intA (absW x)] : List AV)) false)]))))))) else (.need (EntClosed [(false, .arr 1 rs false)]) (.done (some (((.exit 0), [.sl 19 0 1 0 k], [(false, .arr 1 rs false)])))))) := by kernel_rfl
set_option maxRecDepth 100000 in
theorem t113 (es rs : List AV) : evTreeD (CS T1) 60 113 [.rsl 1 es false, (fnV 114)] [.loop 0 [1, 5, 8, 9, 10] [] [5] [] (.exit 0) [.rsl 1 rs false] []] =
    (.need (EntClosed [] ∧ EntClosed [] ∧ Says (CS T1) 0 22 false (.loop (loopOf (CS T1) 113 0)) (mkSt [1, 5, 8, 9, 10] [] 22 [.fn (Fn.func 114) [] [], .v (.slice none 0 0), .rsl 1 es false, intA (Int.ofNat es.length), intA 0] []) (.exit 0) (mkSt [5] [] 22 [.rsl 1 rs false] [])) (.done (some (.rsl 1 rs false)))) := by kernel_rfl
set_option maxRecDepth 100000 in
theorem r161 (es : List AV) (m x : Int) (i : Nat) : roundD (CS T1) 60 0 161 0 25 25 false (loopOf (CS T1) 161 0) [0, 3, 4] [] [0, 3, 4] [] [3] [] [.rsl 1 es false, intA m, intA (Int.ofNat i)] [] [.chk [intA x]] =
    (bif decide (Int.ofNat i < Int.ofNat es.length) then (.need (es[i]? = (some (AV.v (.int .i64 x)))) (.need (EntClosed []) (.done (some ((.nrm, [.rsl 1 es false, intA (if x < m then x else m), intA (IntKind.i64.wrap (Int.ofNat i + 1))], [])))))) else (.need (EntClosed []) (.done (some (((.exit 0), [intA m], [])))))) := by kernel_rfl
set_option maxRecDepth 100000 in
theorem t161 (es : List AV) (x m : Int) : evTreeD (CS T1) 60 161 [.rsl 1 es false] [.br [] [.chk [intA x], .loop 0 [0, 3, 4] [] [3] [] (.exit 0) [intA m] []]] =
    (bif decide (Int.ofNat es.length < 1) then (.done none) else (.need (es[0]? = (some (AV.v (.int .i64 x)))) (.need (EntClosed [] ∧ EntClosed [] ∧ Says (CS T1) 0 25 false (.loop (loopOf (CS T1) 161 0)) (mkSt [0, 3, 4] [] 25 [.rsl 1 es false, intA x, intA 1] []) (.exit 0) (mkSt [3] [] 25 [intA m] [])) (.done (some (intA m)))))) := by kernel_rfl
theorem eqRa (S : Specs) (xo yo : Operand) (a b c d : Int) : abin (CS S) .eql 28 xo yo (.agg [intA a, intA b]) (.agg [intA c, intA d]) = some (gB (a == c && (b == d && true))) ∧ abin (CS S) .neq 28 xo yo (.agg [intA a, intA b]) (.agg [intA c, intA d]) = some (gB (!(a == c && (b == d && true)))) :=
  abin_agg rfl rfl (by kernel_rfl) (by kernel_rfl)
theorem eqAr2 (S : Specs) (xo yo : Operand) (a b c d : Int) : abin (CS S) .eql 62 xo yo (.agg [intA a, intA b]) (.agg [intA c, intA d]) = some (gB (a == c && (b == d && true))) :=
  (abin_agg rfl rfl (by kernel_rfl) (by kernel_rfl)).1
def lowM (n d : Int) : P2 := (n / Int.gcd n d, d / Int.gcd n d)
def lowOk (a b : Int) : Bool := inN a && (inN b && decide (1 ≤ b))
def lowG : List AV → Option AV := sp2 intC intC fun a b => bif lowOk a b then some (p2A (lowM a b)) else none
theorem specGcd {a b : Int} (h : (inN a && inN b) = true) : gcdG [intA a, intA b] = some (intA (Int.gcd a b)) := by
  have h1 := sp2_at (A := intC) (B := intC) (F := fun a b => bif inN a && inN b then some (intA (Int.gcd a b)) else none) a b
  rw [h] at h1
  exact h1
theorem inN_iff {a : Int} : inN a = true ↔ 0 ≤ a ∧ a < 9223372036854775808 := by unfold inN; simp
theorem quo_in {a : Int} {g : Nat} (h : inN a = true) : IntKind.i64.wrap (a.tdiv g) = a / g := by
  rw [inN_iff] at h
  rw [Int.tdiv_eq_ediv_of_nonneg h.1]
  have h1 : 0 ≤ a / (g : Int) := Int.ediv_nonneg h.1 (by omega)
  have h2 : a / (g : Int) ≤ a := Int.ediv_le_self _ h.1
  exact wrap_in (by omega) (by omega)
theorem low_ok {a b : Int} (h : lowOk a b = true) : inN a = true ∧ inN b = true ∧ 1 ≤ b ∧ (Int.gcd a b : Int) ≠ 0 := by
  unfold lowOk at h
  simp only [Bool.and_eq_true, decide_eq_true_eq] at h
  refine ⟨h.1, h.2.1, h.2.2, ?_⟩
  have : 0 < Int.gcd a b := Int.gcd_pos_of_ne_zero_right _ (by omega)
  omega
theorem h157 : Holds 157 lowG := holds2 fun a b r hr => by
  cases hb : lowOk a b with
  | false => simp [hb] at hr
  | true =>
    simp only [hb, cond_true, Option.some.injEq] at hr; subst hr
    obtain ⟨h1, h2, h3, h4⟩ := low_ok hb
    refine T1_ok.tr (t157 a b (Int.gcd a b) (a / Int.gcd a b) (b / Int.gcd a b)) ⟨⟨rfl, specGcd (by rw [h1, h2]; rfl)⟩, ?_, ?_, rfl⟩
    · rw [← quo_in h1]; exact quo_ok T1 _ _ h4
    · rw [← quo_in h2]; exact quo_ok T1 _ _ h4
theorem h104 : Holds 104 lowG := holds2 fun a b r hr => by
  cases hb : lowOk a b with
  | false => simp [hb] at hr
  | true =>
    simp only [hb, cond_true, Option.some.injEq] at hr; subst hr
    obtain ⟨h1, h2, h3, h4⟩ := low_ok hb
    refine T1_ok.tr (t104 a b (Int.gcd a b) (a / Int.gcd a b) (b / Int.gcd a b)) ?_
    have : decide (b < 0) = false := by simp; omega
    rw [this]
    refine ⟨⟨rfl, specGcd (by rw [h1, h2]; rfl)⟩, ?_, ?_, rfl⟩
    · rw [← quo_in h1]; exact quo_ok T1 _ _ h4
    · rw [← quo_in h2]; exact quo_ok T1 _ _ h4
theorem cmpI_self (a : Int) : cmpI a a = 0 := by unfold cmpI; simp
theorem h119 : Holds 119 cmpRG := holds2 fun x y r hr => by
  simp only [Option.some.injEq] at hr; subst hr
  refine T1_ok.tr (t119 x.1 x.2 y.1 y.2 (x.1 == y.1 && (x.2 == y.2 && true))) ⟨(eqRa T1 _ _ _ _ _ _).1, ?_⟩
  unfold cmpW
  cases h : (x.1 == y.1 && (x.2 == y.2 && true)) with
  | false => rfl
  | true =>
    simp only [Bool.and_eq_true, beq_iff_eq, and_true] at h
    rw [h.1, h.2, cmpI_self]; rfl
def limM (x : P2) : Int := firstM [withinM x.1 1 1000, withinM x.2 1 1000]
def limG : List AV → Option AV := sp1 p2C fun x => some (intA (limM x))
theorem h111 : Holds 111 limG := holds1 fun x r hr => by
  simp only [Option.some.injEq] at hr; subst hr
  refine T1_ok.tr (t111 x.1 x.2 (x.1 == 1 && (x.2 == 1 && true))) ⟨eqAr2 T1 _ _ _ _ _ _, ?_⟩
  unfold limM
  cases h : (x.1 == 1 && (x.2 == 1 && true)) with
  | false => rfl
  | true =>
    simp only [Bool.and_eq_true, beq_iff_eq, and_true] at h
    rw [h.1, h.2]; rfl
theorem within_zero {n lo hi : Int} : withinM n lo hi = 0 ↔ lo ≤ n ∧ n ≤ hi := by
  unfold withinM whenM
  by_cases h1 : n < lo
  · have : decide (n < lo) = true := by simpa using h1
    rw [this]; simp; omega
  · have : decide (n < lo) = false := by simpa using h1
    rw [this, Bool.false_or]
    by_cases h2 : n > hi
    · have : decide (n > hi) = true := by simpa using h2
      rw [this]; simp; omega
    · have : decide (n > hi) = false := by simpa using h2
      rw [this]; simp; omega
def sizeErr (x : P2) : Int := firstM [withinM x.1 0 5000000000000, withinM x.2 1 1000000]
def ratErr (x : P2) : Int := bif sizeErr x != 0 then sizeErr x else whenM ((Int.gcd x.1 x.2 : Int) != 1) 1
theorem size_zero {x : P2} : sizeErr x = 0 ↔ (0 ≤ x.1 ∧ x.1 ≤ 5000000000000) ∧ (1 ≤ x.2 ∧ x.2 ≤ 1000000) := by
  unfold sizeErr
  rw [firstZ, firstZ, within_zero, within_zero]
  simp [firstM]
def ratG : List AV → Option AV := sp1 p2C fun x => some (intA (ratErr x))
theorem h102 : Holds 102 ratG := holds1 fun x r hr => by
  simp only [Option.some.injEq] at hr; subst hr
  refine T1_ok.tr (t102 x.1 x.2 (Int.gcd x.1 x.2)) ?_
  unfold ratErr
  show (bif sizeErr x != 0 then _ else _ : Dt AV).ok _
  cases h : sizeErr x != 0 with
  | true => rfl
  | false =>
    have h0 : sizeErr x = 0 := by simpa using h
    rw [size_zero] at h0
    exact ⟨⟨rfl, specGcd (by rw [Bool.and_eq_true, inN_iff, inN_iff]; omega)⟩, rfl⟩
def units110G : List AV → Option AV := mapG intC 1 intC 1 106 unitM
def abs113G : List AV → Option AV := mapG intC 1 intC 1 114 absW
theorem h110 : Holds 110 units110G := mapG_holds fun l hl => mapped_ok (A := intC) (B := intC) (g := unitM) (fv := fnV 106) (szb := 1) (bb := 8) T1_ok 0 (fun _ => rfl) ⟨by omega, by omega⟩ r110a r110b t110 l hl
theorem h113 : Holds 113 abs113G := mapG_holds fun l hl => mapped_ok (A := intC) (B := intC) (g := absW) (fv := fnV 114) (szb := 1) (bb := 8) T1_ok 0 (fun _ => rfl) ⟨by omega, by omega⟩ r113a r113b t113 l hl
def seriesM (l : List Int) : Int := bif manyI (Int.ofNat l.length) 128 != 0 then manyI (Int.ofNat l.length) 128 else firstM (l.map unitM)
def seriesG : List AV → Option AV := sp1 intsC fun l => bif Nat.ble l.length lim then some (intA (seriesM l)) else none
/-! ### The least of a list -/
def minM : List Int → Int
  | [] => 0
  | x :: r => r.foldl min x
def minG : List AV → Option AV := sp1 intsC fun l => bif Nat.ble l.length lim && !l.isEmpty then some (intA (minM l)) else none
theorem goL_fold {α σ τ : Type} (f : Nat → σ → α → σ) (fin : σ → τ) : ∀ (l : List α) (i : Nat) (s : σ), (∀ i j s x, f i s x = f j s x) → goL (fun i x s => (.inl (f i s x) : σ ⊕ τ)) fin i l s = fin (l.foldl (f 0) s)
  | [], _, _, _ => rfl
  | x :: r, i, s, h => by
    show goL _ fin (i + 1) r (f i s x) = _
    rw [goL_fold f fin r (i + 1) _ h, List.foldl_cons, h i 0]
theorem h161 : Holds 161 minG := holds1 fun l r hr => by
  cases hb : Nat.ble l.length lim && !l.isEmpty with
  | false => simp [hb] at hr
  | true =>
    simp only [hb, cond_true, Option.some.injEq] at hr; subst hr
    rw [Bool.and_eq_true] at hb
    cases l with
    | nil => cases hb.2
    | cons x0 r =>
      have hl := limTwo (Nat.le_of_ble_eq_true hb.1)
      have e := e_len intA (x0 :: r)
      have h := LoopRun.list (C := CS T1) (p := 0) (nt := 25) (rd := false) (c := loopOf (CS T1) 161 0) (step := fun _ x m => (.inl (min m x) : Int ⊕ Int)) (fin := id) (enc := fun i m => mkSt [0, 3, 4] [] 25 [.rsl 1 ((x0 :: r).map intA) false, intA m, intA (Int.ofNat i)] [])
        (ex := fun _ => .exit 0) (out := fun m => mkSt [3] [] 25 [intA m] []) (l := x0 :: r) (fun _ _ => True)
        (fun i x m hx _ => by
          have hi := lt_len hx
          refine ⟨T1_ok.rndN (r161 ((x0 :: r).map intA) m x i) ?_, trivial⟩
          rw [e, lt_of hi, wrap_ix hi hl]
          have : (if x < m then x else m) = min m x := by split <;> omega
          rw [this]
          exact ⟨get_map _ hx, trivial, rfl⟩)
        (fun m _ => ⟨T1_ok.rndX (r161 ((x0 :: r).map intA) m 0 (x0 :: r).length) (by rw [e, lt_self]; exact ⟨trivial, rfl⟩), by simp⟩) r [x0] x0 rfl trivial
      rw [goL_fold (fun _ m x => min m x) id r _ x0 (fun _ _ _ _ => rfl)] at h
      refine T1_ok.tr (t161 ((x0 :: r).map intA) x0 (r.foldl min x0)) ?_
      have hlt : decide (Int.ofNat (x0 :: r).length < 1) = false := by simp; omega
      rw [e, hlt]
      exact ⟨rfl, ⟨trivial, trivial, h.says⟩, rfl⟩
def T2 : Specs := ((((((((T1.set 157 lowG).set 104 lowG).set 119 cmpRG).set 111 limG).set 102 ratG).set 110 units110G).set 113 abs113G).set 161 minG)
theorem T2_ok : Ok T2 := ((((((((T1_ok.set h157).set h104).set h119).set h111).set h102).set h110).set h113).set h161)
end Go.Vm.S6
