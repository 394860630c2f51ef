/- Checks, comparisons, divisors. -/
import Derived.Test.YtbplbhcgcicgfaaGreatDoorS6Kit
namespace Go.Vm.S6
open Go.Proofs Go.RowKit
set_option maxRecDepth 100000 in
theorem t109 (n m : Int) : evTreeD (CS S2) 60 109 [intA n, intA m] [] =
    (.done (some (.v (.int .i64 (firstM [whenM (n == 0) 12, whenM (decide (n > m)) 5]))))) := by kernel_rfl
set_option maxRecDepth 100000 in
theorem t103 (n m : Int) : evTreeD (CS S2) 60 103 [intA n, intA m] [] =
    (.done (some (.v (.int .i64 (firstM [whenM (n == 0) 12, whenM (decide (n > m)) 5]))))) := by kernel_rfl
set_option maxRecDepth 100000 in
theorem t162 (a b : Int) : evTreeD (CS S2) 60 162 [intA a, intA b] [] =
    (bif a != a then (bif b != b then (.done (some (.v (.int .i64 0)))) else (.done (some (.v (.int .i64 (-1)))))) else (bif b != b then (.done (some (.v (.int .i64 1)))) else (bif decide (a < b) then (.done (some (.v (.int .i64 (-1))))) else (bif decide (a > b) then (.done (some (.v (.int .i64 1)))) else (.done (some (.v (.int .i64 0)))))))) := by kernel_rfl
set_option maxRecDepth 100000 in
theorem t80 (a b c d : Int) : evTreeD (CS S2) 60 80 [.agg [intA a, intA b], .agg [intA c, intA d]] [] =
    (bif decide (IntKind.i64.wrap (a * d) < IntKind.i64.wrap (c * b)) then (.done (some (.v (.int .i64 (-1))))) else (bif decide (IntKind.i64.wrap (a * d) > IntKind.i64.wrap (c * b)) then (.done (some (.v (.int .i64 1)))) else (.done (some (.v (.int .i64 0)))))) := by kernel_rfl
set_option maxRecDepth 100000 in
theorem r159 (a b q : Int) : roundD (CS S2) 60 0 159 0 12 12 false (loopOf (CS S2) 159 0) [0, 1] [] [0, 1] [] [0] [] [intA a, intA b] [] [.dv (intA q)] =
    (bif b != 0 then (.need ((abin (CS S2) BinOp.rem 3 (Operand.tmp 8) (Operand.tmp 9) (AV.v (.int .i64 a)) (AV.v (.int .i64 b))) = (some (AV.v (.int .i64 q)))) (.need (EntClosed []) (.done (some ((.nrm, [.v (.int .i64 b), .v (.int .i64 q)], [])))))) else (.need (EntClosed []) (.done (some (((.exit 0), [.v (.int .i64 a)], [])))))) := by kernel_rfl
set_option maxRecDepth 100000 in
theorem r160 (a b q : Int) : roundD (CS S2) 60 0 160 0 20 20 false (loopOf (CS S2) 160 0) [0, 1] [] [0, 1] [] [0] [] [intA a, intA b] [] [.dv (intA q)] =
    (bif b != 0 then (.need ((abin (CS S2) BinOp.rem 3 (Operand.tmp 16) (Operand.tmp 17) (AV.v (.int .i64 a)) (AV.v (.int .i64 b))) = (some (AV.v (.int .i64 q)))) (.need (EntClosed []) (.done (some ((.nrm, [.v (.int .i64 b), .v (.int .i64 q)], [])))))) else (.need (EntClosed []) (.done (some (((.exit 0), [.v (.int .i64 a)], [])))))) := by kernel_rfl
set_option maxRecDepth 100000 in
theorem t159 (a b g : Int) : evTreeD (CS S2) 60 159 [intA a, intA b] [.loop 0 [0, 1] [] [0] [] (.exit 0) [intA g] []] =
    (.need (EntClosed [] ∧ EntClosed [] ∧ Says (CS S2) 0 12 false (.loop (loopOf (CS S2) 159 0)) (mkSt [0, 1] [] 12 [.v (.int .i64 a), .v (.int .i64 b)] []) (.exit 0) (mkSt [0] [] 12 [.v (.int .i64 g)] [])) (.done (some (.v (.int .i64 g))))) := by kernel_rfl
set_option maxRecDepth 100000 in
theorem t160 (a b g : Int) : evTreeD (CS S2) 60 160 [intA a, intA b] [.loop 0 [0, 1] [] [0] [] (.exit 0) [intA g] []] =
    (.need (EntClosed [] ∧ EntClosed [] ∧ Says (CS S2) 0 20 false (.loop (loopOf (CS S2) 160 0)) (mkSt [0, 1] [] 20 [.v (.int .i64 (if IntKind.i64.wrap (0 - a) > a then IntKind.i64.wrap (0 - a) else a)), .v (.int .i64 (if IntKind.i64.wrap (0 - b) > b then IntKind.i64.wrap (0 - b) else b))] []) (.exit 0) (mkSt [0] [] 20 [.v (.int .i64 g)] [])) (.done (some (.v (.int .i64 g))))) := by kernel_rfl
theorem rem_ok (S : Specs) (xo yo : Operand) {a b : Int} (hb : b ≠ 0) : abin (CS S) .rem 3 xo yo (intA a) (intA b) = some (intA (a.tmod b)) := by
  unfold abin
  simp only [toV]
  simp [eqGuard, binOp, Op.intDiv, hb]
  rfl
theorem quo_ok (S : Specs) (xo yo : Operand) {a b : Int} (hb : b ≠ 0) : abin (CS S) .quo 3 xo yo (intA a) (intA b) = some (intA (IntKind.i64.wrap (a.tdiv b))) := by
  unfold abin
  simp only [toV]
  simp [eqGuard, binOp, Op.intDiv, hb]
  rfl
abbrev P2 : Type := Int × Int
abbrev p2A (x : P2) : AV := .agg [intA x.1, intA x.2]
def p2C : Cod P2 := aggC (RC.cons intC (RC.one intC))
abbrev intsC : Cod (List Int) := listC intC 1
def manyI (n m : Int) : Int := firstM [whenM (n == 0) 12, whenM (decide (n > m)) 5]
def absW (n : Int) : Int := if IntKind.i64.wrap (0 - n) > n then IntKind.i64.wrap (0 - n) else n
def cmpI (a b : Int) : Int := bif decide (a < b) then -1 else bif decide (a > b) then 1 else 0
def cmpW (x y : P2) : Int := cmpI (IntKind.i64.wrap (x.1 * y.2)) (IntKind.i64.wrap (y.1 * x.2))
def manyG : List AV → Option AV := sp2 intC intC fun n m => some (intA (manyI n m))
def cmpG : List AV → Option AV := sp2 intC intC fun a b => some (intA (cmpI a b))
def cmpRG : List AV → Option AV := sp2 p2C p2C fun x y => some (intA (cmpW x y))
def inN (a : Int) : Bool := decide (0 ≤ a) && decide (a < 9223372036854775808)
def gcdG : List AV → Option AV := sp2 intC intC fun a b => bif inN a && inN b then some (intA (Int.gcd a b)) else none
theorem h109 : Holds 109 manyG := holds2 fun n m r hr => by
  simp only [Option.some.injEq] at hr; subst hr; exact S2_ok.tr (t109 n m) rfl
theorem h103 : Holds 103 manyG := holds2 fun n m r hr => by
  simp only [Option.some.injEq] at hr; subst hr; exact S2_ok.tr (t103 n m) rfl
theorem h162 : Holds 162 cmpG := holds2 fun a b r hr => by
  simp only [Option.some.injEq] at hr; subst hr
  refine S2_ok.tr (t162 a b) ?_
  have e1 : (a != a) = false := by simp
  have e2 : (b != b) = false := by simp
  unfold cmpI
  rw [e1, e2]
  cases decide (a < b) with
  | true => rfl
  | false => cases decide (a > b) <;> rfl
theorem h80 : Holds 80 cmpRG := holds2 fun x y r hr => by
  simp only [Option.some.injEq] at hr; subst hr
  refine S2_ok.tr (t80 x.1 x.2 y.1 y.2) ?_
  unfold cmpW cmpI
  cases decide (IntKind.i64.wrap (x.1 * y.2) < IntKind.i64.wrap (y.1 * x.2)) with
  | true => rfl
  | false => cases decide (IntKind.i64.wrap (x.1 * y.2) > IntKind.i64.wrap (y.1 * x.2)) <;> rfl
/-! ### The greatest common divisor -/
def gcdR (s : P2) : P2 ⊕ Int := bif s.2 != 0 then .inl (s.2, s.1.tmod s.2) else .inr s.1
theorem gcd_run : ∀ (n a b : Nat), b < n → goW gcdR n ((a : Int), (b : Int)) = some ((Nat.gcd a b : Nat) : Int)
  | 0, _, b, h => absurd h (Nat.not_lt_zero b)
  | n + 1, a, b, h => by
    unfold goW
    by_cases hb : b = 0
    · subst hb
      have e : gcdR ((a : Int), ((0 : Nat) : Int)) = .inr (a : Int) := rfl
      rw [e]; simp
    · have h1 : ((b : Int) != 0) = true := by simp [hb]
      have e : gcdR ((a : Int), (b : Int)) = .inl ((b : Int), ((a % b : Nat) : Int)) := by unfold gcdR; dsimp only; rw [h1]; rfl
      rw [e]
      dsimp only
      have hm : a % b < b := Nat.mod_lt _ (by omega)
      rw [gcd_run n b (a % b) (by omega)]
      rw [Nat.gcd_comm b (a % b), ← Nat.gcd_rec b a, Nat.gcd_comm b a]
theorem gcd_loop159 {a b : Nat} : LoopRun (CS S2) 0 12 false (loopOf (CS S2) 159 0) (mkSt [0, 1] [] 12 [intA a, intA b] []) (.exit 0) (mkSt [0] [] 12 [intA (Nat.gcd a b : Nat)] []) :=
  LoopRun.rounds (rnd := gcdR) (enc := fun s => mkSt [0, 1] [] 12 [intA s.1, intA s.2] []) (ex := fun _ => .exit 0) (out := fun g => mkSt [0] [] 12 [intA g] []) (fun _ => True) (fun s _ => by
    unfold gcdR
    cases h : s.2 != 0 with
    | true =>
      have hb : s.2 ≠ 0 := by simpa using h
      exact ⟨S2_ok.rndN (r159 s.1 s.2 (s.1.tmod s.2)) (by rw [h]; exact ⟨rem_ok S2 _ _ hb, trivial, rfl⟩), trivial⟩
    | false => exact ⟨S2_ok.rndX (r159 s.1 s.2 0) (by rw [h]; exact ⟨trivial, rfl⟩), by simp⟩) (b + 1) (a, b) _ trivial (gcd_run (b + 1) a b (by omega))
theorem gcd_loop160 {a b : Nat} : LoopRun (CS S2) 0 20 false (loopOf (CS S2) 160 0) (mkSt [0, 1] [] 20 [intA a, intA b] []) (.exit 0) (mkSt [0] [] 20 [intA (Nat.gcd a b : Nat)] []) :=
  LoopRun.rounds (rnd := gcdR) (enc := fun s => mkSt [0, 1] [] 20 [intA s.1, intA s.2] []) (ex := fun _ => .exit 0) (out := fun g => mkSt [0] [] 20 [intA g] []) (fun _ => True) (fun s _ => by
    unfold gcdR
    cases h : s.2 != 0 with
    | true =>
      have hb : s.2 ≠ 0 := by simpa using h
      exact ⟨S2_ok.rndN (r160 s.1 s.2 (s.1.tmod s.2)) (by rw [h]; exact ⟨rem_ok S2 _ _ hb, trivial, rfl⟩), trivial⟩
    | false => exact ⟨S2_ok.rndX (r160 s.1 s.2 0) (by rw [h]; exact ⟨trivial, rfl⟩), by simp⟩) (b + 1) (a, b) _ trivial (gcd_run (b + 1) a b (by omega))
theorem inN_nat {a : Int} (h : inN a = true) : ∃ n : Nat, a = n ∧ (n : Int) < 9223372036854775808 := by
  unfold inN at h
  simp only [Bool.and_eq_true, decide_eq_true_eq] at h
  exact ⟨a.toNat, by omega, by omega⟩
theorem absW_in {n : Int} (h1 : -9223372036854775807 ≤ n) (h2 : n < 9223372036854775808) : absW n = max n (-n) := by
  unfold absW
  rw [wrap_in (by omega) (by omega)]
  split <;> omega
theorem h159 : Holds 159 gcdG := holds2 fun a b r hr => by
  cases hb : inN a && inN b with
  | false => simp [hb] at hr
  | true =>
    simp only [hb, cond_true, Option.some.injEq] at hr; subst hr
    rw [Bool.and_eq_true] at hb
    obtain ⟨m, rfl, _⟩ := inN_nat hb.1
    obtain ⟨n, rfl, _⟩ := inN_nat hb.2
    exact S2_ok.tr (t159 m n (Int.gcd m n)) ⟨⟨trivial, trivial, gcd_loop159.says⟩, rfl⟩
theorem h160 : Holds 160 gcdG := holds2 fun a b r hr => by
  cases hb : inN a && inN b with
  | false => simp [hb] at hr
  | true =>
    simp only [hb, cond_true, Option.some.injEq] at hr; subst hr
    rw [Bool.and_eq_true] at hb
    obtain ⟨m, rfl, hm⟩ := inN_nat hb.1
    obtain ⟨n, rfl, hn⟩ := inN_nat hb.2
    have e1 : absW (m : Int) = m := by rw [absW_in (by omega) hm]; omega
    have e2 : absW (n : Int) = n := by rw [absW_in (by omega) hn]; omega
    have t := t160 m n (Int.gcd m n)
    have e1' : (if IntKind.i64.wrap (0 - (m : Int)) > (m : Int) then IntKind.i64.wrap (0 - (m : Int)) else (m : Int)) = m := e1
    have e2' : (if IntKind.i64.wrap (0 - (n : Int)) > (n : Int) then IntKind.i64.wrap (0 - (n : Int)) else (n : Int)) = n := e2
    rw [e1', e2'] at t
    exact S2_ok.tr t ⟨⟨trivial, trivial, gcd_loop160.says⟩, rfl⟩
def T1 : Specs := ((((((S2.set 109 manyG).set 103 manyG).set 162 cmpG).set 80 cmpRG).set 159 gcdG).set 160 gcdG)
theorem T1_ok : Ok T1 := ((((((S2_ok.set h109).set h103).set h162).set h80).set h159).set h160)
end Go.Vm.S6
