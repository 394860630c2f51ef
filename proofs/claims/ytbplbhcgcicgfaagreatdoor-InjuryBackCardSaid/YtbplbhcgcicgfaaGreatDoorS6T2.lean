/- Ratios, series, the least of a list. -/
import Derived.Test.YtbplbhcgcicgfaaGreatDoorS6T1
namespace Go.Vm.S6
open Go.Proofs Go.RowKit
set_option maxRecDepth 100000 in
theorem t104 (a b g q1 q2 : Int) : evTreeD (CS T1) 60 104 [intA a, intA b] [.br [.sp [] (intA g), .dv (intA q1), .dv (intA q2)] [.sp [intA a, intA b] (intA g), .dv (intA q1), .dv (intA q2)]] =
    (bif decide (b < 0) then (.need (([.v (.int .i64 (IntKind.i64.wrap (0 - a))), .v (.int .i64 (IntKind.i64.wrap (0 - b)))] : List AV) = ([] : List AV) ∧ (Cx.spec (CS T1) 160 ([] : List AV)) = (some (AV.v (.int .i64 g)))) (.need ((abin (CS T1) BinOp.quo 3 (Operand.tmp 15) (Operand.tmp 16) (AV.v (.int .i64 (IntKind.i64.wrap (0 - a)))) (AV.v (.int .i64 g))) = (some (AV.v (.int .i64 q1)))) (.need ((abin (CS T1) BinOp.quo 3 (Operand.tmp 18) (Operand.tmp 19) (AV.v (.int .i64 (IntKind.i64.wrap (0 - b)))) (AV.v (.int .i64 g))) = (some (AV.v (.int .i64 q2)))) (.done (some (.agg [.v (.int .i64 q1), .v (.int .i64 q2)])))))) else (.need (asks (CS T1) 160 [.v (.int .i64 a), .v (.int .i64 b)] (AV.v (.int .i64 g))) (.need ((abin (CS T1) BinOp.quo 3 (Operand.tmp 15) (Operand.tmp 16) (AV.v (.int .i64 a)) (AV.v (.int .i64 g))) = (some (AV.v (.int .i64 q1)))) (.need ((abin (CS T1) BinOp.quo 3 (Operand.tmp 18) (Operand.tmp 19) (AV.v (.int .i64 b)) (AV.v (.int .i64 g))) = (some (AV.v (.int .i64 q2)))) (.done (some (.agg [.v (.int .i64 q1), .v (.int .i64 q2)]))))))) := by kernel_rfl
set_option maxRecDepth 100000 in
theorem t119 (a b c d : Int) (e : Bool) : evTreeD (CS T1) 60 119 [.agg [intA a, intA b], .agg [intA c, intA d]] [.eq (boolA e)] =
    (.need ((abin (CS T1) BinOp.eql 28 (Operand.tmp 5) (Operand.tmp 6) (AV.agg [.v (.int .i64 a), .v (.int .i64 b)]) (AV.agg [.v (.int .i64 c), .v (.int .i64 d)])) = (some (AV.v (.bool e)))) (bif e then (.done (some (.v (.int .i64 0)))) else (.done (some (.v (.int .i64 (cmpI (IntKind.i64.wrap (a * d)) (IntKind.i64.wrap (c * b))))))))) := by kernel_rfl
set_option maxRecDepth 100000 in
theorem t102 (a b g : Int) : evTreeD (CS T1) 60 102 [.agg [intA a, intA b]] [.br [] [.sp [intA a, intA b] (intA g)]] =
    (bif firstM [withinM a 0 5000000000000, withinM b 1 1000000] != 0 then (.done (some (.v (.int .i64 (firstM [withinM a 0 5000000000000, withinM b 1 1000000]))))) else (.need (asks (CS T1) 159 [.v (.int .i64 a), .v (.int .i64 b)] (AV.v (.int .i64 g))) (.done (some (.v (.int .i64 (whenM (g != 1) 1))))))) := by kernel_rfl
theorem eqRa (S : Specs) (xo yo : Operand) (a b c d : Int) : abin (CS S) .eql 28 xo yo (.agg [intA a, intA b]) (.agg [intA c, intA d]) = some (gB (a == c && (b == d && true))) ∧ abin (CS S) .neq 28 xo yo (.agg [intA a, intA b]) (.agg [intA c, intA d]) = some (gB (!(a == c && (b == d && true)))) :=
  abin_agg rfl rfl (by kernel_rfl) (by kernel_rfl)
def lowM (n d : Int) : P2 := (n / Int.gcd n d, d / Int.gcd n d)
def lowOk (a b : Int) : Bool := inN a && (inN b && decide (1 ≤ b))
def lowG : List AV → Option AV := sp2 intC intC fun a b => bif lowOk a b then some (p2A (lowM a b)) else none
theorem specGcd {a b : Int} (h : (inN a && inN b) = true) : gcdG [intA a, intA b] = some (intA (Int.gcd a b)) := by
  have h1 := sp2_at (A := intC) (B := intC) (F := fun a b => bif inN a && inN b then some (intA (Int.gcd a b)) else none) a b
  rw [h] at h1
  exact h1
theorem inN_iff {a : Int} : inN a = true ↔ 0 ≤ a ∧ a < 9223372036854775808 := by unfold inN; simp
theorem quo_in {a : Int} {g : Nat} (h : inN a = true) : IntKind.i64.wrap (a.tdiv g) = a / g := by
  rw [inN_iff] at h
  rw [Int.tdiv_eq_ediv_of_nonneg h.1]
  have h1 : 0 ≤ a / (g : Int) := Int.ediv_nonneg h.1 (by omega)
  have h2 : a / (g : Int) ≤ a := Int.ediv_le_self _ h.1
  exact wrap_in (by omega) (by omega)
theorem low_ok {a b : Int} (h : lowOk a b = true) : inN a = true ∧ inN b = true ∧ 1 ≤ b ∧ (Int.gcd a b : Int) ≠ 0 := by
  unfold lowOk at h
  simp only [Bool.and_eq_true, decide_eq_true_eq] at h
  refine ⟨h.1, h.2.1, h.2.2, ?_⟩
  have : 0 < Int.gcd a b := Int.gcd_pos_of_ne_zero_right _ (by omega)
  omega
theorem h104 : Holds 104 lowG := holds2 fun a b r hr => by
  cases hb : lowOk a b with
  | false => simp [hb] at hr
  | true =>
    simp only [hb, cond_true, Option.some.injEq] at hr; subst hr
    obtain ⟨h1, h2, h3, h4⟩ := low_ok hb
    refine T1_ok.tr (t104 a b (Int.gcd a b) (a / Int.gcd a b) (b / Int.gcd a b)) ?_
    have : decide (b < 0) = false := by simp; omega
    rw [this]
    refine ⟨⟨rfl, specGcd (by rw [h1, h2]; rfl)⟩, ?_, ?_, rfl⟩
    · rw [← quo_in h1]; exact quo_ok T1 _ _ h4
    · rw [← quo_in h2]; exact quo_ok T1 _ _ h4
theorem cmpI_self (a : Int) : cmpI a a = 0 := by unfold cmpI; simp
theorem h119 : Holds 119 cmpRG := holds2 fun x y r hr => by
  simp only [Option.some.injEq] at hr; subst hr
  refine T1_ok.tr (t119 x.1 x.2 y.1 y.2 (x.1 == y.1 && (x.2 == y.2 && true))) ⟨(eqRa T1 _ _ _ _ _ _).1, ?_⟩
  unfold cmpW
  cases h : (x.1 == y.1 && (x.2 == y.2 && true)) with
  | false => rfl
  | true =>
    simp only [Bool.and_eq_true, beq_iff_eq, and_true] at h
    rw [h.1, h.2, cmpI_self]; rfl
theorem within_zero {n lo hi : Int} : withinM n lo hi = 0 ↔ lo ≤ n ∧ n ≤ hi := by
  unfold withinM whenM
  by_cases h1 : n < lo
  · have : decide (n < lo) = true := by simpa using h1
    rw [this]; simp; omega
  · have : decide (n < lo) = false := by simpa using h1
    rw [this, Bool.false_or]
    by_cases h2 : n > hi
    · have : decide (n > hi) = true := by simpa using h2
      rw [this]; simp; omega
    · have : decide (n > hi) = false := by simpa using h2
      rw [this]; simp; omega
def sizeErr (x : P2) : Int := firstM [withinM x.1 0 5000000000000, withinM x.2 1 1000000]
def ratErr (x : P2) : Int := bif sizeErr x != 0 then sizeErr x else whenM ((Int.gcd x.1 x.2 : Int) != 1) 1
theorem size_zero {x : P2} : sizeErr x = 0 ↔ (0 ≤ x.1 ∧ x.1 ≤ 5000000000000) ∧ (1 ≤ x.2 ∧ x.2 ≤ 1000000) := by
  unfold sizeErr
  rw [firstZ, firstZ, within_zero, within_zero]
  simp [firstM]
def ratG : List AV → Option AV := sp1 p2C fun x => some (intA (ratErr x))
theorem h102 : Holds 102 ratG := holds1 fun x r hr => by
  simp only [Option.some.injEq] at hr; subst hr
  refine T1_ok.tr (t102 x.1 x.2 (Int.gcd x.1 x.2)) ?_
  unfold ratErr
  show (bif sizeErr x != 0 then _ else _ : Dt AV).ok _
  cases h : sizeErr x != 0 with
  | true => rfl
  | false =>
    have h0 : sizeErr x = 0 := by simpa using h
    rw [size_zero] at h0
    exact ⟨⟨rfl, specGcd (by rw [Bool.and_eq_true, inN_iff, inN_iff]; omega)⟩, rfl⟩
/-! ### The least of a list -/
theorem goL_fold {α σ τ : Type} (f : Nat → σ → α → σ) (fin : σ → τ) : ∀ (l : List α) (i : Nat) (s : σ), (∀ i j s x, f i s x = f j s x) → goL (fun i x s => (.inl (f i s x) : σ ⊕ τ)) fin i l s = fin (l.foldl (f 0) s)
  | [], _, _, _ => rfl
  | x :: r, i, s, h => by
    show goL _ fin (i + 1) r (f i s x) = _
    rw [goL_fold f fin r (i + 1) _ h, List.foldl_cons, h i 0]
def T2 : Specs := (((T1.set 104 lowG).set 119 cmpRG).set 102 ratG)
theorem T2_ok : Ok T2 := (((T1_ok.set h104).set h119).set h102)
end Go.Vm.S6
