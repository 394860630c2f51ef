/- Parts of a dummy: divisors. -/
import Derived.Test.YtliikgffjphhjaaGreatDoorS3GF
namespace Go.Vm.S3
open Go.Proofs Go.RowKit
set_option maxRecDepth 100000 in
theorem r172n (a b : Int) (q : Int) : roundD (CS P13) 60 0 172 0 20 20 false (loopOf (CS P13) 172 0) [0, 1] [] [0, 1] [] [0] [] [intA a, intA b] [] [.as 14 true, .dv (intA q)] =
    (.need ((b != 0) = true) (.need ((abin (CS P13) BinOp.rem 3 (Operand.tmp 16) (Operand.tmp 17) (AV.v (.int .i64 a)) (AV.v (.int .i64 b))) = (some (AV.v (.int .i64 q)))) (.need (EntClosed []) (.done (some ((.nrm, [.v (.int .i64 b), .v (.int .i64 q)], []))))))) := by kernel_rfl
set_option maxRecDepth 100000 in
theorem r172x (a b : Int) : roundD (CS P13) 60 0 172 0 20 20 false (loopOf (CS P13) 172 0) [0, 1] [] [0, 1] [] [0] [] [intA a, intA b] [] [.as 14 false] =
    (.need ((b != 0) = false) (.need (EntClosed []) (.done (some (((.exit 0), [.v (.int .i64 a)], [])))))) := by kernel_rfl
set_option maxRecDepth 100000 in
theorem t172 (a b g : Int) : evTreeD (CS P13) 60 172 [intA a, intA b] [.loop 0 [0, 1] [] [0] [] (.exit 0) [intA g] []] =
    (.need (EntClosed [] ∧ EntClosed [] ∧ Says (CS P13) 0 20 false (.loop (loopOf (CS P13) 172 0)) (mkSt [0, 1] [] 20 [.v (.int .i64 (if IntKind.i64.wrap (0 - a) > a then IntKind.i64.wrap (0 - a) else a)), .v (.int .i64 (if IntKind.i64.wrap (0 - b) > b then IntKind.i64.wrap (0 - b) else b))] []) (.exit 0) (mkSt [0] [] 20 [.v (.int .i64 g)] [])) (.done (some (.v (.int .i64 g))))) := by kernel_rfl
set_option maxRecDepth 100000 in
theorem r104n (n d a b : Int) (q : Int) : roundD (CS P13) 60 0 104 0 25 25 false (loopOf (CS P13) 104 0) [0, 1, 4, 5, 6] [4] [0, 1, 4, 5, 6] [4] [0, 1, 4, 5] [4] [intA n, intA d, .ptr 4 0 0, intA a, intA b] [(false, .box [intA 0, intA 0])] [.as 13 true, .dv (intA q)] =
    (.need ((b != 0) = true) (.need ((abin (CS P13) BinOp.rem 3 (Operand.tmp 15) (Operand.tmp 16) (AV.v (.int .i64 a)) (AV.v (.int .i64 b))) = (some (AV.v (.int .i64 q)))) (.need (EntClosed [(false, .box [.v (.int .i64 0), .v (.int .i64 0)])]) (.done (some ((.nrm, [.v (.int .i64 n), .v (.int .i64 d), .ptr 4 0 0, .v (.int .i64 b), .v (.int .i64 q)], [(false, .box [.v (.int .i64 0), .v (.int .i64 0)])]))))))) := by kernel_rfl
set_option maxRecDepth 100000 in
theorem r104x (n d a b : Int) : roundD (CS P13) 60 0 104 0 25 25 false (loopOf (CS P13) 104 0) [0, 1, 4, 5, 6] [4] [0, 1, 4, 5, 6] [4] [0, 1, 4, 5] [4] [intA n, intA d, .ptr 4 0 0, intA a, intA b] [(false, .box [intA 0, intA 0])] [.as 13 false] =
    (.need ((b != 0) = false) (.need (EntClosed [(false, .box [.v (.int .i64 0), .v (.int .i64 0)])]) (.done (some (((.exit 0), [.v (.int .i64 n), .v (.int .i64 d), .ptr 4 0 0, .v (.int .i64 a)], [(false, .box [.v (.int .i64 0), .v (.int .i64 0)])])))))) := by kernel_rfl
set_option maxRecDepth 100000 in
theorem t104 (n d g q1 q2 : Int) : evTreeD (CS P13) 60 104 [intA n, intA d] [.loop 0 [0, 1, 4, 5, 6] [4] [0, 1, 4, 5] [4] (.exit 0) [intA n, intA d, .ptr 4 0 0, intA g] [(false, .box [intA 0, intA 0])], .dv (intA q1), .dv (intA q2)] =
    (.need (EntClosed [(false, .box [.v (.int .i64 0), .v (.int .i64 0)])] ∧ EntClosed [(false, .box [.v (.int .i64 0), .v (.int .i64 0)])] ∧ Says (CS P13) 0 25 false (.loop (loopOf (CS P13) 104 0)) (mkSt [0, 1, 4, 5, 6] [4] 25 [.v (.int .i64 n), .v (.int .i64 d), .ptr 4 0 0, .v (.int .i64 (if IntKind.i64.wrap (0 - n) > n then IntKind.i64.wrap (0 - n) else n)), .v (.int .i64 d)] [(false, .box [.v (.int .i64 0), .v (.int .i64 0)])]) (.exit 0) (mkSt [0, 1, 4, 5] [4] 25 [.v (.int .i64 n), .v (.int .i64 d), .ptr 4 0 0, .v (.int .i64 g)] [(false, .box [.v (.int .i64 0), .v (.int .i64 0)])])) (.need ((abin (CS P13) BinOp.quo 3 (Operand.tmp 18) (Operand.tmp 19) (AV.v (.int .i64 n)) (AV.v (.int .i64 g))) = (some (AV.v (.int .i64 q1)))) (.need ((abin (CS P13) BinOp.quo 3 (Operand.tmp 21) (Operand.tmp 22) (AV.v (.int .i64 d)) (AV.v (.int .i64 g))) = (some (AV.v (.int .i64 q2)))) (.done (some (.agg [.v (.int .i64 q1), .v (.int .i64 q2)])))))) := by kernel_rfl
/-! ### The greatest common divisor -/
theorem rem_ok (S : Specs) (xo yo : Operand) {a b : Int} (hb : b ≠ 0) : abin (CS S) .rem 3 xo yo (intA a) (intA b) = some (intA (a.tmod b)) := by
  unfold abin
  simp only [toV]
  simp [eqGuard, binOp, Op.intDiv, hb]
  rfl
theorem quo_ok (S : Specs) (xo yo : Operand) {a b : Int} (hb : b ≠ 0) : abin (CS S) .quo 3 xo yo (intA a) (intA b) = some (intA (IntKind.i64.wrap (a.tdiv b))) := by
  unfold abin
  simp only [toV]
  simp [eqGuard, binOp, Op.intDiv, hb]
  rfl
def gcdR (s : I2) : I2 ⊕ Int := bif s.2 != 0 then .inl (s.2, s.1.tmod s.2) else .inr s.1
theorem gcd_run : ∀ (n a b : Nat), b < n → goW gcdR n ((a : Int), (b : Int)) = some ((Nat.gcd a b : Nat) : Int)
  | 0, _, b, h => absurd h (Nat.not_lt_zero b)
  | n + 1, a, b, h => by
    unfold goW
    by_cases hb : b = 0
    · subst hb
      have e : gcdR ((a : Int), ((0 : Nat) : Int)) = .inr (a : Int) := rfl
      rw [e]; simp
    · have h1 : ((b : Int) != 0) = true := by simp [hb]
      have e : gcdR ((a : Int), (b : Int)) = .inl ((b : Int), ((a % b : Nat) : Int)) := by unfold gcdR; dsimp only; rw [h1]; rfl
      rw [e]
      dsimp only
      have hm : a % b < b := Nat.mod_lt _ (by omega)
      rw [gcd_run n b (a % b) (by omega)]
      rw [Nat.gcd_comm b (a % b), ← Nat.gcd_rec b a, Nat.gcd_comm b a]
theorem gcd_loop172 {a b : Nat} : LoopRun (CS P13) 0 20 false (loopOf (CS P13) 172 0) (mkSt [0, 1] [] 20 [intA a, intA b] []) (.exit 0) (mkSt [0] [] 20 [intA (Nat.gcd a b : Nat)] []) :=
  LoopRun.rounds (rnd := gcdR) (enc := fun s => mkSt [0, 1] [] 20 [intA s.1, intA s.2] []) (ex := fun _ => .exit 0) (out := fun g => mkSt [0] [] 20 [intA g] []) (fun _ => True) (fun s _ => by
    unfold gcdR
    cases h : s.2 != 0 with
    | true =>
      have hb : s.2 ≠ 0 := by simpa using h
      exact ⟨P13_ok.rndN (r172n s.1 s.2 (s.1.tmod s.2)) ⟨h, rem_ok P13 _ _ hb, trivial, rfl⟩, trivial⟩
    | false => exact ⟨P13_ok.rndX (r172x s.1 s.2) ⟨h, trivial, rfl⟩, by simp⟩) (b + 1) (a, b) _ trivial (gcd_run (b + 1) a b (by omega))
theorem gcd_loop104 (n d : Int) {a b : Nat} : LoopRun (CS P13) 0 25 false (loopOf (CS P13) 104 0) (mkSt [0, 1, 4, 5, 6] [4] 25 [intA n, intA d, .ptr 4 0 0, intA a, intA b] [(false, .box [intA 0, intA 0])]) (.exit 0) (mkSt [0, 1, 4, 5] [4] 25 [intA n, intA d, .ptr 4 0 0, intA (Nat.gcd a b : Nat)] [(false, .box [intA 0, intA 0])]) :=
  LoopRun.rounds (rnd := gcdR) (enc := fun s => mkSt [0, 1, 4, 5, 6] [4] 25 [intA n, intA d, .ptr 4 0 0, intA s.1, intA s.2] [(false, .box [intA 0, intA 0])]) (ex := fun _ => .exit 0) (out := fun g => mkSt [0, 1, 4, 5] [4] 25 [intA n, intA d, .ptr 4 0 0, intA g] [(false, .box [intA 0, intA 0])]) (fun _ => True) (fun s _ => by
    unfold gcdR
    cases h : s.2 != 0 with
    | true =>
      have hb : s.2 ≠ 0 := by simpa using h
      exact ⟨P13_ok.rndN (r104n n d s.1 s.2 (s.1.tmod s.2)) ⟨h, rem_ok P13 _ _ hb, trivial, rfl⟩, trivial⟩
    | false => exact ⟨P13_ok.rndX (r104x n d s.1 s.2) ⟨h, trivial, rfl⟩, by simp⟩) (b + 1) (a, b) _ trivial (gcd_run (b + 1) a b (by omega))
/-! ### In lowest terms -/
def midI (n : Int) : Bool := decide (-1000000000000000 ≤ n) && decide (n ≤ 1000000000000000)
theorem midI_iff {n : Int} : midI n = true ↔ -1000000000000000 ≤ n ∧ n ≤ 1000000000000000 := by unfold midI; simp
theorem abs_mid {n : Int} (h : midI n = true) : (if IntKind.i64.wrap (0 - n) > n then IntKind.i64.wrap (0 - n) else n) = (n.natAbs : Int) := by
  rw [midI_iff] at h
  rw [wrap_in (by omega) (by omega)]
  split <;> omega
theorem quo_mid {n : Int} {g : Nat} (h : midI n = true) : IntKind.i64.wrap (n.tdiv g) = n.tdiv g := by
  rw [midI_iff] at h
  have h1 : (n.tdiv (g : Int)).natAbs ≤ n.natAbs := by
    rw [Int.natAbs_tdiv]; exact Nat.div_le_self _ _
  exact wrap_in (by omega) (by omega)
def lowM (n d : Int) : I2 := (n.tdiv (Int.gcd n d : Nat), d.tdiv (Int.gcd n d : Nat))
def lowOk (n d : Int) : Bool := midI n && (midI d && decide (1 ≤ d))
abbrev lowA (x : I2) : AV := .agg [intA x.1, intA x.2]
def lowG : List AV → Option AV := sp2 intC intC fun n d => bif lowOk n d then some (lowA (lowM n d)) else none
theorem lowOk_iff {n d : Int} (h : lowOk n d = true) : midI n = true ∧ midI d = true ∧ 1 ≤ d ∧ ((Int.gcd n d : Nat) : Int) ≠ 0 := by
  unfold lowOk at h
  simp only [Bool.and_eq_true, decide_eq_true_eq] at h
  refine ⟨h.1, h.2.1, h.2.2, ?_⟩
  have : 0 < Int.gcd n d := Int.gcd_pos_of_ne_zero_right _ (by omega)
  omega
def gcd172G : List AV → Option AV := sp2 intC intC fun n d => bif midI n && midI d then some (intA (Int.gcd n d : Nat)) else none
theorem h172 : Holds 172 gcd172G := holds2 fun n d r hr => by
  cases hb : midI n && midI d with
  | false => simp [hb] at hr
  | true =>
    simp only [hb, cond_true, Option.some.injEq] at hr; subst hr
    rw [Bool.and_eq_true] at hb
    have t := t172 n d (Int.gcd n d : Nat)
    rw [abs_mid hb.1, abs_mid hb.2] at t
    exact P13_ok.tr t ⟨⟨trivial, trivial, (gcd_loop172 (a := n.natAbs) (b := d.natAbs)).says⟩, rfl⟩
theorem h104 : Holds 104 lowG := holds2 fun n d r hr => by
  cases hb : lowOk n d with
  | false => simp [hb] at hr
  | true =>
    simp only [hb, cond_true, Option.some.injEq] at hr; subst hr
    obtain ⟨h1, h2, h3, h4⟩ := lowOk_iff hb
    have t := t104 n d (Int.gcd n d : Nat) (lowM n d).1 (lowM n d).2
    have e : d = (d.natAbs : Int) := by omega
    rw [abs_mid h1] at t
    have hl := (gcd_loop104 n d (a := n.natAbs) (b := d.natAbs)).says
    rw [← e] at hl
    refine P13_ok.tr t ⟨⟨trivial, trivial, hl⟩, ?_, ?_, rfl⟩
    · rw [show (lowM n d).1 = n.tdiv (Int.gcd n d : Nat) from rfl, ← quo_mid h1]; exact quo_ok P13 _ _ h4
    · rw [show (lowM n d).2 = d.tdiv (Int.gcd n d : Nat) from rfl, ← quo_mid h2]; exact quo_ok P13 _ _ h4
def P14 : Specs := ((P13.set 172 gcd172G).set 104 lowG)
theorem P14_ok : Ok P14 := ((P13_ok.set h172).set h104)
end Go.Vm.S3

namespace Go.Vm.S3
open Go.Proofs Go.RowKit
set_option maxRecDepth 100000 in
theorem t90 (a b g q1 q2 : Int) : evTreeD (CS P14) 60 90 [intA a, intA b] [.as 7 false, .sp [intA a, intA b] (intA g), .dv (intA q1), .dv (intA q2)] =
    (.need ((decide (b < 0)) = false) (.need (([.v (.int .i64 a), .v (.int .i64 b)] : List AV) = ([.v (.int .i64 a), .v (.int .i64 b)] : List AV) ∧ (Cx.spec (CS P14) 172 ([.v (.int .i64 a), .v (.int .i64 b)] : List AV)) = (some (AV.v (.int .i64 g)))) (.need ((abin (CS P14) BinOp.quo 3 (Operand.tmp 15) (Operand.tmp 16) (AV.v (.int .i64 a)) (AV.v (.int .i64 g))) = (some (AV.v (.int .i64 q1)))) (.need ((abin (CS P14) BinOp.quo 3 (Operand.tmp 18) (Operand.tmp 19) (AV.v (.int .i64 b)) (AV.v (.int .i64 g))) = (some (AV.v (.int .i64 q2)))) (.done (some (.agg [.v (.int .i64 q1), .v (.int .i64 q2)]))))))) := by kernel_rfl
theorem sp172 {n d : Int} (h1 : midI n = true) (h2 : midI d = true) : gcd172G [intA n, intA d] = some (intA (Int.gcd n d : Nat)) := by
  have h := sp2_at (A := intC) (B := intC) (F := fun n d => bif midI n && midI d then some (intA (Int.gcd n d : Nat)) else none) n d
  rw [h1, h2] at h; exact h
theorem h90 : Holds 90 lowG := holds2 fun n d r hr => by
  cases hb : lowOk n d with
  | false => simp [hb] at hr
  | true =>
    simp only [hb, cond_true, Option.some.injEq] at hr; subst hr
    obtain ⟨h1, h2, h3, h4⟩ := lowOk_iff hb
    refine P14_ok.tr (t90 n d (Int.gcd n d : Nat) (lowM n d).1 (lowM n d).2) ⟨by simp; omega, ⟨rfl, sp172 h1 h2⟩, ?_, ?_, rfl⟩
    · rw [show (lowM n d).1 = n.tdiv (Int.gcd n d : Nat) from rfl, ← quo_mid h1]; exact quo_ok P14 _ _ h4
    · rw [show (lowM n d).2 = d.tdiv (Int.gcd n d : Nat) from rfl, ← quo_mid h2]; exact quo_ok P14 _ _ h4
def P15 : Specs := (P14.set 90 lowG)
theorem P15_ok : Ok P15 := (P14_ok.set h90)
end Go.Vm.S3

namespace Go.Vm.S3
open Go.Proofs Go.RowKit
set_option maxRecDepth 100000 in
theorem r29n (es ns : List AV) (s : ByteArray) (i : Nat) (t : V3) (w : ByteArray) (k : Nat) (v u : V3) (a b : ByteArray) (m x y z : Int) (cs : List AV) : roundD (CS P15) 60 0 29 0 74 74 false (loopOf (CS P15) 29 0) [0, 1, 4, 5, 6, 7] [4, 5] [0, 1, 4, 5, 6, 7] [4, 5] [0, 1, 4, 5] [4, 5] [.rsl 7 es false, strA s, .ptr 4 0 0, .ptr 5 1 0, .rsl 1 ns false, intA (Int.ofNat i)] [(false, .box [intA 0, intA 0, intA 0, intA 0, intA 0, intA 0]), (false, .box [intA t.1, intA t.2.1, intA t.2.2])] [.as 17 true, .chk [strA w], .sp [.rsl 7 es false, strA w] (intA (Int.ofNat k)), .chk [.agg [strA a, strA b, intA m, intA x, intA y, intA z, .rsl 2 cs false]], .chk [strA w], .sp [.rsl 7 es false, strA w] (vA v), .ar (intA u.1), .ar (intA u.2.1), .ar (intA u.2.2)] =
    (.need ((decide (Int.ofNat i < Int.ofNat ns.length)) = true) (.need (ns[i]? = (some (AV.v (.string w)))) (.need (([.rsl 7 es false, .v (.string w)] : List AV) = ([.rsl 7 es false, .v (.string w)] : List AV) ∧ (Cx.spec (CS P15) 24 ([.rsl 7 es false, .v (.string w)] : List AV)) = (some (AV.v (.int .i64 (Int.ofNat k))))) (.need (es[k]? = (some (AV.agg [.v (.string a), .v (.string b), .v (.int .i64 m), .v (.int .i64 x), .v (.int .i64 y), .v (.int .i64 z), .rsl 2 cs false]))) (.need (ns[i]? = (some (AV.v (.string w)))) (.need (([.rsl 7 es false, .v (.string w)] : List AV) = ([.rsl 7 es false, .v (.string w)] : List AV) ∧ (Cx.spec (CS P15) 27 ([.rsl 7 es false, .v (.string w)] : List AV)) = (some (AV.agg [.v (.int .i64 v.fst), .v (.int .i64 v.snd.fst), .v (.int .i64 v.snd.snd)]))) (.need ((abin (CS P15) BinOp.add 3 (Operand.tmp 37) (Operand.tmp 41) (AV.v (.int .i64 t.fst)) (AV.v (.int .i64 (IntKind.i64.wrap (m * v.fst))))) = (some (AV.v (.int .i64 u.fst)))) (.need ((abin (CS P15) BinOp.add 3 (Operand.tmp 44) (Operand.tmp 48) (AV.v (.int .i64 t.snd.fst)) (AV.v (.int .i64 (IntKind.i64.wrap (m * v.snd.fst))))) = (some (AV.v (.int .i64 u.snd.fst)))) (.need ((abin (CS P15) BinOp.add 3 (Operand.tmp 51) (Operand.tmp 55) (AV.v (.int .i64 t.snd.snd)) (AV.v (.int .i64 (IntKind.i64.wrap (m * v.snd.snd))))) = (some (AV.v (.int .i64 u.snd.snd)))) (.need (EntClosed [(false, .box [.v (.int .i64 0), .v (.int .i64 0), .v (.int .i64 0), .v (.int .i64 0), .v (.int .i64 0), .v (.int .i64 0)]), (false, .box [.v (.int .i64 u.fst), .v (.int .i64 u.snd.fst), .v (.int .i64 u.snd.snd)])]) (.done (some ((.nrm, [.rsl 7 es false, .v (.string s), .ptr 4 0 0, .ptr 5 1 0, .rsl 1 ns false, .v (.int .i64 (IntKind.i64.wrap (Int.ofNat i + 1)))], [(false, .box [.v (.int .i64 0), .v (.int .i64 0), .v (.int .i64 0), .v (.int .i64 0), .v (.int .i64 0), .v (.int .i64 0)]), (false, .box [.v (.int .i64 u.fst), .v (.int .i64 u.snd.fst), .v (.int .i64 u.snd.snd)])])))))))))))))) := by kernel_rfl
set_option maxRecDepth 100000 in
theorem r29x (es ns : List AV) (s : ByteArray) (i : Nat) (t : V3) : roundD (CS P15) 60 0 29 0 74 74 false (loopOf (CS P15) 29 0) [0, 1, 4, 5, 6, 7] [4, 5] [0, 1, 4, 5, 6, 7] [4, 5] [0, 1, 4, 5] [4, 5] [.rsl 7 es false, strA s, .ptr 4 0 0, .ptr 5 1 0, .rsl 1 ns false, intA (Int.ofNat i)] [(false, .box [intA 0, intA 0, intA 0, intA 0, intA 0, intA 0]), (false, .box [intA t.1, intA t.2.1, intA t.2.2])] [.as 17 false] =
    (.need ((decide (Int.ofNat i < Int.ofNat ns.length)) = false) (.need (EntClosed [(false, .box [.v (.int .i64 0), .v (.int .i64 0), .v (.int .i64 0), .v (.int .i64 0), .v (.int .i64 0), .v (.int .i64 0)]), (false, .box [.v (.int .i64 t.fst), .v (.int .i64 t.snd.fst), .v (.int .i64 t.snd.snd)])]) (.done (some (((.exit 0), [.rsl 7 es false, .v (.string s), .ptr 4 0 0, .ptr 5 1 0], [(false, .box [.v (.int .i64 0), .v (.int .i64 0), .v (.int .i64 0), .v (.int .i64 0), .v (.int .i64 0), .v (.int .i64 0)]), (false, .box [.v (.int .i64 t.fst), .v (.int .i64 t.snd.fst), .v (.int .i64 t.snd.snd)])])))))) := by kernel_rfl
set_option maxRecDepth 100000 in
theorem t29 (es ns : List AV) (s : ByteArray) (t : V3) (m : Int) (p q r : I2) : evTreeD (CS P15) 60 29 [.rsl 7 es false, strA s] [.sp [.rsl 7 es false, strA s] (.rsl 1 ns false), .loop 0 [0, 1, 4, 5, 6, 7] [4, 5] [0, 1, 4, 5] [4, 5] (.exit 0) [.rsl 7 es false, strA s, .ptr 4 0 0, .ptr 5 1 0] [(false, .box [intA 0, intA 0, intA 0, intA 0, intA 0, intA 0]), (false, .box [intA t.1, intA t.2.1, intA t.2.2])], .sp [.rsl 7 es false, strA s] (intA m), .sp [intA t.1, intA m] (lowA p), .sp [intA t.2.1, intA m] (lowA q), .sp [intA t.2.2, intA m] (lowA r)] =
    (.need (([.rsl 7 es false, .v (.string s)] : List AV) = ([.rsl 7 es false, .v (.string s)] : List AV) ∧ (Cx.spec (CS P15) 26 ([.rsl 7 es false, .v (.string s)] : List AV)) = (some (AV.rsl 1 ns false))) (.need (EntClosed [(false, .box [.v (.int .i64 0), .v (.int .i64 0), .v (.int .i64 0), .v (.int .i64 0), .v (.int .i64 0), .v (.int .i64 0)]), (false, .box [.v (.int .i64 0), .v (.int .i64 0), .v (.int .i64 0)])] ∧ EntClosed [(false, .box [.v (.int .i64 0), .v (.int .i64 0), .v (.int .i64 0), .v (.int .i64 0), .v (.int .i64 0), .v (.int .i64 0)]), (false, .box [.v (.int .i64 t.fst), .v (.int .i64 t.snd.fst), .v (.int .i64 t.snd.snd)])] ∧ Says (CS P15) 0 74 false (.loop (loopOf (CS P15) 29 0)) (mkSt [0, 1, 4, 5, 6, 7] [4, 5] 74 [.rsl 7 es false, .v (.string s), .ptr 4 0 0, .ptr 5 1 0, .rsl 1 ns false, .v (.int .i64 0)] [(false, .box [.v (.int .i64 0), .v (.int .i64 0), .v (.int .i64 0), .v (.int .i64 0), .v (.int .i64 0), .v (.int .i64 0)]), (false, .box [.v (.int .i64 0), .v (.int .i64 0), .v (.int .i64 0)])]) (.exit 0) (mkSt [0, 1, 4, 5] [4, 5] 74 [.rsl 7 es false, .v (.string s), .ptr 4 0 0, .ptr 5 1 0] [(false, .box [.v (.int .i64 0), .v (.int .i64 0), .v (.int .i64 0), .v (.int .i64 0), .v (.int .i64 0), .v (.int .i64 0)]), (false, .box [.v (.int .i64 t.fst), .v (.int .i64 t.snd.fst), .v (.int .i64 t.snd.snd)])])) (.need (([.rsl 7 es false, .v (.string s)] : List AV) = ([.rsl 7 es false, .v (.string s)] : List AV) ∧ (Cx.spec (CS P15) 28 ([.rsl 7 es false, .v (.string s)] : List AV)) = (some (AV.v (.int .i64 m)))) (.need (([.v (.int .i64 t.fst), .v (.int .i64 m)] : List AV) = ([.v (.int .i64 t.fst), .v (.int .i64 m)] : List AV) ∧ (Cx.spec (CS P15) 90 ([.v (.int .i64 t.fst), .v (.int .i64 m)] : List AV)) = (some (AV.agg [.v (.int .i64 p.fst), .v (.int .i64 p.snd)]))) (.need (([.v (.int .i64 t.snd.fst), .v (.int .i64 m)] : List AV) = ([.v (.int .i64 t.snd.fst), .v (.int .i64 m)] : List AV) ∧ (Cx.spec (CS P15) 90 ([.v (.int .i64 t.snd.fst), .v (.int .i64 m)] : List AV)) = (some (AV.agg [.v (.int .i64 q.fst), .v (.int .i64 q.snd)]))) (.need (([.v (.int .i64 t.snd.snd), .v (.int .i64 m)] : List AV) = ([.v (.int .i64 t.snd.snd), .v (.int .i64 m)] : List AV) ∧ (Cx.spec (CS P15) 90 ([.v (.int .i64 t.snd.snd), .v (.int .i64 m)] : List AV)) = (some (AV.agg [.v (.int .i64 r.fst), .v (.int .i64 r.snd)]))) (.done (some (.agg [.v (.int .i64 p.fst), .v (.int .i64 p.snd), .v (.int .i64 q.fst), .v (.int .i64 q.snd), .v (.int .i64 r.fst), .v (.int .i64 r.snd)]))))))))) := by kernel_rfl
set_option maxRecDepth 100000 in
theorem r20n (es rs : List AV) (n i : Nat) (t : V3) (v u : V3) (a b : ByteArray) (m x y z : Int) (cs : List AV) : roundD (CS P15) 60 0 20 0 83 83 false (loopOf (CS P15) 20 0) [0, 4, 7, 8, 23, 24, 25] [4, 8] [0, 4, 7, 8, 23, 24, 25] [4, 8] [4, 7, 8] [4, 8] [.rsl 7 es false, .ptr 4 0 0, .rsl 7 rs false, .ptr 8 1 0, .rsl 7 rs false, intA (Int.ofNat n), intA (Int.ofNat i)] [(false, .box [intA 0, intA 0, intA 0, intA 0, intA 0, intA 0]), (false, .box [intA t.1, intA t.2.1, intA t.2.2])] [.as 26 true, .chk [.agg [strA a, strA b, intA m, intA x, intA y, intA z, .rsl 2 cs false]], .sp [.rsl 7 es false, strA a] (vA v), .skip, .ar (intA u.1), .skip, .skip, .ar (intA u.2.1), .skip, .skip, .ar (intA u.2.2), .skip] =
    (.need ((decide (Int.ofNat i < Int.ofNat n)) = true) (.need (rs[i]? = (some (AV.agg [.v (.string a), .v (.string b), .v (.int .i64 m), .v (.int .i64 x), .v (.int .i64 y), .v (.int .i64 z), .rsl 2 cs false]))) (.need (([.rsl 7 es false, .v (.string a)] : List AV) = ([.rsl 7 es false, .v (.string a)] : List AV) ∧ (Cx.spec (CS P15) 102 ([.rsl 7 es false, .v (.string a)] : List AV)) = (some (AV.agg [.v (.int .i64 v.fst), .v (.int .i64 v.snd.fst), .v (.int .i64 v.snd.snd)]))) (.need ((abin (CS P15) BinOp.add 3 (Operand.tmp 34) (Operand.tmp 39) (AV.v (.int .i64 t.fst)) (AV.v (.int .i64 (IntKind.i64.wrap (m * v.fst))))) = (some (AV.v (.int .i64 u.fst)))) (.need ((abin (CS P15) BinOp.add 3 (Operand.tmp 43) (Operand.tmp 48) (AV.v (.int .i64 t.snd.fst)) (AV.v (.int .i64 (IntKind.i64.wrap (m * v.snd.fst))))) = (some (AV.v (.int .i64 u.snd.fst)))) (.need ((abin (CS P15) BinOp.add 3 (Operand.tmp 52) (Operand.tmp 57) (AV.v (.int .i64 t.snd.snd)) (AV.v (.int .i64 (IntKind.i64.wrap (m * v.snd.snd))))) = (some (AV.v (.int .i64 u.snd.snd)))) (.need (EntClosed [(false, .box [.v (.int .i64 0), .v (.int .i64 0), .v (.int .i64 0), .v (.int .i64 0), .v (.int .i64 0), .v (.int .i64 0)]), (false, .box [.v (.int .i64 u.fst), .v (.int .i64 u.snd.fst), .v (.int .i64 u.snd.snd)])]) (.done (some ((.nrm, [.rsl 7 es false, .ptr 4 0 0, .rsl 7 rs false, .ptr 8 1 0, .rsl 7 rs false, .v (.int .i64 (Int.ofNat n)), .v (.int .i64 (IntKind.i64.wrap (Int.ofNat i + 1)))], [(false, .box [.v (.int .i64 0), .v (.int .i64 0), .v (.int .i64 0), .v (.int .i64 0), .v (.int .i64 0), .v (.int .i64 0)]), (false, .box [.v (.int .i64 u.fst), .v (.int .i64 u.snd.fst), .v (.int .i64 u.snd.snd)])]))))))))))) := by kernel_rfl
set_option maxRecDepth 100000 in
theorem r20x (es rs : List AV) (n i : Nat) (t : V3) : roundD (CS P15) 60 0 20 0 83 83 false (loopOf (CS P15) 20 0) [0, 4, 7, 8, 23, 24, 25] [4, 8] [0, 4, 7, 8, 23, 24, 25] [4, 8] [4, 7, 8] [4, 8] [.rsl 7 es false, .ptr 4 0 0, .rsl 7 rs false, .ptr 8 1 0, .rsl 7 rs false, intA (Int.ofNat n), intA (Int.ofNat i)] [(false, .box [intA 0, intA 0, intA 0, intA 0, intA 0, intA 0]), (false, .box [intA t.1, intA t.2.1, intA t.2.2])] [.as 26 false] =
    (.need ((decide (Int.ofNat i < Int.ofNat n)) = false) (.need (EntClosed [(false, .box [.v (.int .i64 0), .v (.int .i64 0), .v (.int .i64 0), .v (.int .i64 0), .v (.int .i64 0), .v (.int .i64 0)]), (false, .box [.v (.int .i64 t.fst), .v (.int .i64 t.snd.fst), .v (.int .i64 t.snd.snd)])]) (.done (some (((.exit 0), [.ptr 4 0 0, .rsl 7 rs false, .ptr 8 1 0], [(false, .box [.v (.int .i64 0), .v (.int .i64 0), .v (.int .i64 0), .v (.int .i64 0), .v (.int .i64 0), .v (.int .i64 0)]), (false, .box [.v (.int .i64 t.fst), .v (.int .i64 t.snd.fst), .v (.int .i64 t.snd.snd)])])))))) := by kernel_rfl
set_option maxRecDepth 100000 in
theorem t20a (es : List AV) (s : ByteArray) (e : Int) : evTreeD (CS P15) 60 20 [.rsl 7 es false, strA s] [.sp [.rsl 7 es false, strA s] (intA e), .as 17 true] =
    (.need (([.rsl 7 es false, .v (.string s)] : List AV) = ([.rsl 7 es false, .v (.string s)] : List AV) ∧ (Cx.spec (CS P15) 100 ([.rsl 7 es false, .v (.string s)] : List AV)) = (some (AV.v (.int .i64 e)))) (.need ((e != 0) = true) (.done (some (.tup [.agg [.v (.int .i64 0), .v (.int .i64 0), .v (.int .i64 0), .v (.int .i64 0), .v (.int .i64 0), .v (.int .i64 0)], .v (.int .i64 e)]))))) := by kernel_rfl
set_option maxRecDepth 100000 in
theorem t20z (es rs : List AV) (s : ByteArray) (e m : Int) (t : V3) : evTreeD (CS P15) 60 20 [.rsl 7 es false, strA s] [.sp [.rsl 7 es false, strA s] (intA e), .as 17 false, .sp [.rsl 7 es false, strA s] (.rsl 7 rs false), .loop 0 [0, 4, 7, 8, 23, 24, 25] [4, 8] [4, 7, 8] [4, 8] (.exit 0) [.ptr 4 0 0, .rsl 7 rs false, .ptr 8 1 0] [(false, .box [intA 0, intA 0, intA 0, intA 0, intA 0, intA 0]), (false, .box [intA t.1, intA t.2.1, intA t.2.2])], .sp [.rsl 7 rs false] (intA m), .eq (boolA true)] =
    (.need (([.rsl 7 es false, .v (.string s)] : List AV) = ([.rsl 7 es false, .v (.string s)] : List AV) ∧ (Cx.spec (CS P15) 100 ([.rsl 7 es false, .v (.string s)] : List AV)) = (some (AV.v (.int .i64 e)))) (.need ((e != 0) = false) (.need (([.rsl 7 es false, .v (.string s)] : List AV) = ([.rsl 7 es false, .v (.string s)] : List AV) ∧ (Cx.spec (CS P15) 101 ([.rsl 7 es false, .v (.string s)] : List AV)) = (some (AV.rsl 7 rs false))) (.need (EntClosed [(false, .box [.v (.int .i64 0), .v (.int .i64 0), .v (.int .i64 0), .v (.int .i64 0), .v (.int .i64 0), .v (.int .i64 0)]), (false, .box [.v (.int .i64 0), .v (.int .i64 0), .v (.int .i64 0)])] ∧ EntClosed [(false, .box [.v (.int .i64 0), .v (.int .i64 0), .v (.int .i64 0), .v (.int .i64 0), .v (.int .i64 0), .v (.int .i64 0)]), (false, .box [.v (.int .i64 t.fst), .v (.int .i64 t.snd.fst), .v (.int .i64 t.snd.snd)])] ∧ Says (CS P15) 0 83 false (.loop (loopOf (CS P15) 20 0)) (mkSt [0, 4, 7, 8, 23, 24, 25] [4, 8] 83 [.rsl 7 es false, .ptr 4 0 0, .rsl 7 rs false, .ptr 8 1 0, .rsl 7 rs false, .v (.int .i64 (Int.ofNat rs.length)), .v (.int .i64 0)] [(false, .box [.v (.int .i64 0), .v (.int .i64 0), .v (.int .i64 0), .v (.int .i64 0), .v (.int .i64 0), .v (.int .i64 0)]), (false, .box [.v (.int .i64 0), .v (.int .i64 0), .v (.int .i64 0)])]) (.exit 0) (mkSt [4, 7, 8] [4, 8] 83 [.ptr 4 0 0, .rsl 7 rs false, .ptr 8 1 0] [(false, .box [.v (.int .i64 0), .v (.int .i64 0), .v (.int .i64 0), .v (.int .i64 0), .v (.int .i64 0), .v (.int .i64 0)]), (false, .box [.v (.int .i64 t.fst), .v (.int .i64 t.snd.fst), .v (.int .i64 t.snd.snd)])])) (.need (([.rsl 7 rs false] : List AV) = ([.rsl 7 rs false] : List AV) ∧ (Cx.spec (CS P15) 103 ([.rsl 7 rs false] : List AV)) = (some (AV.v (.int .i64 m)))) (.need ((abin (CS P15) BinOp.eql 172 (Operand.tmp 63) (Operand.tmp 64) (AV.agg [.v (.int .i64 t.fst), .v (.int .i64 t.snd.fst), .v (.int .i64 t.snd.snd)]) (AV.agg [.v (.int .i64 0), .v (.int .i64 0), .v (.int .i64 0)])) = (some (AV.v (.bool true)))) (.done (some (.tup [.agg [.v (.int .i64 0), .v (.int .i64 1), .v (.int .i64 0), .v (.int .i64 1), .v (.int .i64 0), .v (.int .i64 1)], .v (.int .i64 0)]))))))))) := by kernel_rfl
set_option maxRecDepth 100000 in
theorem t20n (es rs : List AV) (s : ByteArray) (e m : Int) (t : V3) (p q r : I2) : evTreeD (CS P15) 60 20 [.rsl 7 es false, strA s] [.sp [.rsl 7 es false, strA s] (intA e), .as 17 false, .sp [.rsl 7 es false, strA s] (.rsl 7 rs false), .loop 0 [0, 4, 7, 8, 23, 24, 25] [4, 8] [4, 7, 8] [4, 8] (.exit 0) [.ptr 4 0 0, .rsl 7 rs false, .ptr 8 1 0] [(false, .box [intA 0, intA 0, intA 0, intA 0, intA 0, intA 0]), (false, .box [intA t.1, intA t.2.1, intA t.2.2])], .sp [.rsl 7 rs false] (intA m), .eq (boolA false), .sp [intA t.1, intA m] (lowA p), .sp [intA t.2.1, intA m] (lowA q), .sp [intA t.2.2, intA m] (lowA r)] =
    (.need (([.rsl 7 es false, .v (.string s)] : List AV) = ([.rsl 7 es false, .v (.string s)] : List AV) ∧ (Cx.spec (CS P15) 100 ([.rsl 7 es false, .v (.string s)] : List AV)) = (some (AV.v (.int .i64 e)))) (.need ((e != 0) = false) (.need (([.rsl 7 es false, .v (.string s)] : List AV) = ([.rsl 7 es false, .v (.string s)] : List AV) ∧ (Cx.spec (CS P15) 101 ([.rsl 7 es false, .v (.string s)] : List AV)) = (some (AV.rsl 7 rs false))) (.need (EntClosed [(false, .box [.v (.int .i64 0), .v (.int .i64 0), .v (.int .i64 0), .v (.int .i64 0), .v (.int .i64 0), .v (.int .i64 0)]), (false, .box [.v (.int .i64 0), .v (.int .i64 0), .v (.int .i64 0)])] ∧ EntClosed [(false, .box [.v (.int .i64 0), .v (.int .i64 0), .v (.int .i64 0), .v (.int .i64 0), .v (.int .i64 0), .v (.int .i64 0)]), (false, .box [.v (.int .i64 t.fst), .v (.int .i64 t.snd.fst), .v (.int .i64 t.snd.snd)])] ∧ Says (CS P15) 0 83 false (.loop (loopOf (CS P15) 20 0)) (mkSt [0, 4, 7, 8, 23, 24, 25] [4, 8] 83 [.rsl 7 es false, .ptr 4 0 0, .rsl 7 rs false, .ptr 8 1 0, .rsl 7 rs false, .v (.int .i64 (Int.ofNat rs.length)), .v (.int .i64 0)] [(false, .box [.v (.int .i64 0), .v (.int .i64 0), .v (.int .i64 0), .v (.int .i64 0), .v (.int .i64 0), .v (.int .i64 0)]), (false, .box [.v (.int .i64 0), .v (.int .i64 0), .v (.int .i64 0)])]) (.exit 0) (mkSt [4, 7, 8] [4, 8] 83 [.ptr 4 0 0, .rsl 7 rs false, .ptr 8 1 0] [(false, .box [.v (.int .i64 0), .v (.int .i64 0), .v (.int .i64 0), .v (.int .i64 0), .v (.int .i64 0), .v (.int .i64 0)]), (false, .box [.v (.int .i64 t.fst), .v (.int .i64 t.snd.fst), .v (.int .i64 t.snd.snd)])])) (.need (([.rsl 7 rs false] : List AV) = ([.rsl 7 rs false] : List AV) ∧ (Cx.spec (CS P15) 103 ([.rsl 7 rs false] : List AV)) = (some (AV.v (.int .i64 m)))) (.need ((abin (CS P15) BinOp.eql 172 (Operand.tmp 63) (Operand.tmp 64) (AV.agg [.v (.int .i64 t.fst), .v (.int .i64 t.snd.fst), .v (.int .i64 t.snd.snd)]) (AV.agg [.v (.int .i64 0), .v (.int .i64 0), .v (.int .i64 0)])) = (some (AV.v (.bool false)))) (.need (([.v (.int .i64 t.fst), .v (.int .i64 m)] : List AV) = ([.v (.int .i64 t.fst), .v (.int .i64 m)] : List AV) ∧ (Cx.spec (CS P15) 104 ([.v (.int .i64 t.fst), .v (.int .i64 m)] : List AV)) = (some (AV.agg [.v (.int .i64 p.fst), .v (.int .i64 p.snd)]))) (.need (([.v (.int .i64 t.snd.fst), .v (.int .i64 m)] : List AV) = ([.v (.int .i64 t.snd.fst), .v (.int .i64 m)] : List AV) ∧ (Cx.spec (CS P15) 104 ([.v (.int .i64 t.snd.fst), .v (.int .i64 m)] : List AV)) = (some (AV.agg [.v (.int .i64 q.fst), .v (.int .i64 q.snd)]))) (.need (([.v (.int .i64 t.snd.snd), .v (.int .i64 m)] : List AV) = ([.v (.int .i64 t.snd.snd), .v (.int .i64 m)] : List AV) ∧ (Cx.spec (CS P15) 104 ([.v (.int .i64 t.snd.snd), .v (.int .i64 m)] : List AV)) = (some (AV.agg [.v (.int .i64 r.fst), .v (.int .i64 r.snd)]))) (.done (some (.tup [.agg [.v (.int .i64 p.fst), .v (.int .i64 p.snd), .v (.int .i64 q.fst), .v (.int .i64 q.snd), .v (.int .i64 r.fst), .v (.int .i64 r.snd)], .v (.int .i64 0)])))))))))))) := by kernel_rfl
/-! ### Bounds -/
theorem placeVB {l : List Pt} (h0 : partsM l = 0) (s : ByteArray) : VB 16 (placeM' l s) := by
  have key : ∀ (r pre : List Nat) (v : V3), pre ++ r = cI l s → VB pre.length v → VB (cI l s).length (r.foldl (fun v k => addV v (atP l k)) v) := by
    intro r
    induction r with
    | nil => intro pre v h hv; rw [List.append_nil] at h; subst h; exact hv
    | cons k r ih =>
      intro pre v h hv
      have hx : (cI l s)[pre.length]? = some k := by rw [← h]; simp
      rw [cI_at] at hx
      have := ih (pre ++ [k]) (addV v (atP l k)) (by rw [List.append_assoc]; exact h) (by rw [List.length_append]; exact VB_next h0 (orb_lt hx) hv)
      exact this
  have h := key (cI l s) [] (0, 0, 0) rfl (by unfold VB; simp)
  have hlen := parts_len h0
  have hcl := cI_len l s
  unfold placeM'
  generalize List.foldl (fun v k => addV v (atP l k)) (0, 0, 0) (cI l s) = v at h
  unfold VB at h ⊢
  omega
def addS (t : V3) (m : Int) (v : V3) : V3 := (t.1 + m * v.1, t.2.1 + m * v.2.1, t.2.2 + m * v.2.2)
def cenM (l : List Pt) (s : ByteArray) : V3 := (brM l s).foldl (fun t x => addS t x.2.2.1 (placeM' l x.1)) (0, 0, 0)
def CB (n : Nat) (t : V3) : Prop := (-16000000000 * (n : Int) ≤ t.1 ∧ t.1 ≤ 16000000000 * (n : Int)) ∧ (-16000000000 * (n : Int) ≤ t.2.1 ∧ t.2.1 ≤ 16000000000 * (n : Int)) ∧ -16000000000 * (n : Int) ≤ t.2.2 ∧ t.2.2 ≤ 16000000000 * (n : Int)
theorem mulB {m v : Int} (h1 : 1 ≤ m) (h2 : m ≤ 100000) (h3 : -160000 ≤ v) (h4 : v ≤ 160000) : -16000000000 ≤ m * v ∧ m * v ≤ 16000000000 := by
  have h : (m * v).natAbs ≤ 100000 * 160000 := by
    rw [Int.natAbs_mul]; exact Nat.mul_le_mul (by omega) (by omega)
  omega
theorem CB_next {l : List Pt} (h0 : partsM l = 0) {x : Pt} {k : Nat} (hk : l[k]? = some x) {j : Nat} {t : V3} (ht : CB j t) : CB (j + 1) (addS t x.2.2.1 (placeM' l x.1)) := by
  have g := (goodP h0 hk).mass
  have hv := placeVB h0 x.1
  generalize placeM' l x.1 = v at hv ⊢
  obtain ⟨⟨v1, v2⟩, ⟨v3, v4⟩, v5, v6⟩ := hv
  obtain ⟨a1, a2⟩ := mulB g.1 g.2 (v := v.1) (by omega) (by omega)
  obtain ⟨a3, a4⟩ := mulB g.1 g.2 (v := v.2.1) (by omega) (by omega)
  obtain ⟨a5, a6⟩ := mulB g.1 g.2 (v := v.2.2) (by omega) (by omega)
  unfold CB addS at *
  simp only at *
  omega
theorem addMul (x y : Operand) {t m v : Int} (h1 : 1 ≤ m) (h2 : m ≤ 100000) (h3 : -160000 ≤ v) (h4 : v ≤ 160000) (h5 : -300000000000 ≤ t) (h6 : t ≤ 300000000000) :
    abin (CS P15) BinOp.add 3 x y (AV.v (.int .i64 t)) (AV.v (.int .i64 (IntKind.i64.wrap (m * v)))) = some (AV.v (.int .i64 (t + m * v))) := by
  obtain ⟨a1, a2⟩ := mulB h1 h2 h3 h4
  rw [wrap_in (by omega) (by omega)]
  show some (AV.v (.int .i64 (IntKind.i64.wrap (t + m * v)))) = _
  rw [wrap_in (by omega) (by omega)]
theorem addS3 {l : List Pt} (h0 : partsM l = 0) {x : Pt} {k : Nat} (hk : l[k]? = some x) {j : Nat} (hj : j ≤ 16) {t : V3} (ht : CB j t) :
    (∀ o p, abin (CS P15) BinOp.add 3 o p (AV.v (.int .i64 t.1)) (AV.v (.int .i64 (IntKind.i64.wrap (x.2.2.1 * (placeM' l x.1).1)))) = some (AV.v (.int .i64 (addS t x.2.2.1 (placeM' l x.1)).1))) ∧
    (∀ o p, abin (CS P15) BinOp.add 3 o p (AV.v (.int .i64 t.2.1)) (AV.v (.int .i64 (IntKind.i64.wrap (x.2.2.1 * (placeM' l x.1).2.1)))) = some (AV.v (.int .i64 (addS t x.2.2.1 (placeM' l x.1)).2.1))) ∧
    ∀ o p, abin (CS P15) BinOp.add 3 o p (AV.v (.int .i64 t.2.2)) (AV.v (.int .i64 (IntKind.i64.wrap (x.2.2.1 * (placeM' l x.1).2.2)))) = some (AV.v (.int .i64 (addS t x.2.2.1 (placeM' l x.1)).2.2)) := by
  have g := (goodP h0 hk).mass
  have hv := placeVB h0 x.1
  generalize placeM' l x.1 = v at hv ⊢
  obtain ⟨⟨v1, v2⟩, ⟨v3, v4⟩, v5, v6⟩ := hv
  unfold CB at ht
  exact ⟨fun o p => addMul o p g.1 g.2 (by omega) (by omega) (by omega) (by omega), fun o p => addMul o p g.1 g.2 (by omega) (by omega) (by omega) (by omega), fun o p => addMul o p g.1 g.2 (by omega) (by omega) (by omega) (by omega)⟩
theorem cenCB {l : List Pt} (h0 : partsM l = 0) (s : ByteArray) : CB 16 (cenM l s) := by
  have key : ∀ (r pre : List Pt) (v : V3), pre ++ r = brM l s → CB pre.length v → CB (brM l s).length (r.foldl (fun t x => addS t x.2.2.1 (placeM' l x.1)) v) := by
    intro r
    induction r with
    | nil => intro pre v h hv; rw [List.append_nil] at h; subst h; exact hv
    | cons x r ih =>
      intro pre v h hv
      have hx : x ∈ brM l s := by rw [← h]; simp
      obtain ⟨k, hk, _⟩ := br_at h0 hx
      exact ih (pre ++ [x]) _ (by rw [List.append_assoc]; exact h) (by rw [List.length_append]; exact CB_next h0 hk hv)
  have h := key (brM l s) [] (0, 0, 0) rfl (by unfold CB; simp)
  have h16 := br_lim h0 s
  unfold cenM
  generalize List.foldl (fun t (x : Pt) => addS t x.2.2.1 (placeM' l x.1)) (0, 0, 0) (brM l s) = v at h
  unfold CB at h ⊢
  omega
theorem massB : ∀ (r : List Pt) (d : Int), (∀ y ∈ r, 1 ≤ y.2.2.1 ∧ y.2.2.1 ≤ 100000) → 0 ≤ d → d + 100000 * r.length ≤ 1000000000000 →
    d + r.length ≤ r.foldl (fun s p => IntKind.i64.wrap (s + p.2.2.1)) d ∧ r.foldl (fun s p => IntKind.i64.wrap (s + p.2.2.1)) d ≤ d + 100000 * r.length
  | [], d, _, _, _ => by simp
  | y :: r, d, h, hd, hb => by
    have hy := h y (by simp)
    rw [List.length_cons] at hb
    rw [List.foldl_cons, wrap_in (by omega) (by omega), List.length_cons]
    have := massB r (d + y.2.2.1) (fun z hz => h z (by simp [hz])) (by omega) (by omega)
    omega
theorem seq_self (a : ByteArray) : seq a a = true := by unfold seq; simp
/-- A part lies in its own branch. -/
theorem br_self {l : List Pt} {s : ByteArray} (hs : hasP l s = true) : ∃ x, x ∈ brM l s := by
  rw [hasP_ix] at hs
  cases hf : findIx s (nms l) 0 with
  | none => rw [hf] at hs; cases hs
  | some k =>
    have hn := find_name hf
    have hk := find_lt hf
    refine ⟨atP l k, List.mem_filter.2 ⟨List.mem_of_getElem? (atP_get hk), ?_⟩⟩
    show hasWordM (chainN l (atP l k).1) s = true
    rw [hn]
    unfold hasWordM chainN
    rw [List.any_map, List.any_eq_true]
    have h0 : (cI l s)[0]? = some k := by rw [cI_at]; exact hf
    refine ⟨k, List.mem_of_getElem? h0, ?_⟩
    show seq (atP l k).1 s = true
    rw [hn]; exact seq_self s
theorem br_mass {l : List Pt} (h0 : partsM l = 0) {s : ByteArray} (hs : hasP l s = true) : 1 ≤ massM (brM l s) ∧ massM (brM l s) ≤ 1600000 := by
  have h16 := br_lim h0 s
  have h := massB (brM l s) 0 (fun x hx => by obtain ⟨k, hk, _⟩ := br_at h0 hx; exact (goodP h0 hk).mass) (by omega) (by omega)
  obtain ⟨x, hx⟩ := br_self hs
  have hp := List.length_pos_of_mem hx
  unfold massM
  omega
/-! ### The centre of mass -/
def cenA (l : List Pt) (s : ByteArray) : AV := .agg [intA (lowM (cenM l s).1 (massM (brM l s))).1, intA (lowM (cenM l s).1 (massM (brM l s))).2, intA (lowM (cenM l s).2.1 (massM (brM l s))).1, intA (lowM (cenM l s).2.1 (massM (brM l s))).2, intA (lowM (cenM l s).2.2 (massM (brM l s))).1, intA (lowM (cenM l s).2.2 (massM (brM l s))).2]
theorem spLow {n d : Int} (h1 : -1000000000000000 ≤ n) (h2 : n ≤ 1000000000000000) (h3 : 1 ≤ d) (h4 : d ≤ 1000000000000000) : lowG [intA n, intA d] = some (lowA (lowM n d)) := by
  have h := sp2_at (A := intC) (B := intC) (F := fun n d => bif lowOk n d then some (lowA (lowM n d)) else none) n d
  rw [show lowOk n d = true by unfold lowOk midI; simp; omega] at h
  exact h
theorem spLow3 {l : List Pt} (h0 : partsM l = 0) {s : ByteArray} (hs : hasP l s = true) : lowG [intA (cenM l s).1, intA (massM (brM l s))] = some (lowA (lowM (cenM l s).1 (massM (brM l s)))) ∧
    lowG [intA (cenM l s).2.1, intA (massM (brM l s))] = some (lowA (lowM (cenM l s).2.1 (massM (brM l s)))) ∧ lowG [intA (cenM l s).2.2, intA (massM (brM l s))] = some (lowA (lowM (cenM l s).2.2 (massM (brM l s)))) := by
  have hm := br_mass h0 hs
  have hc := cenCB h0 s
  unfold CB at hc
  exact ⟨spLow (by omega) (by omega) hm.1 (by omega), spLow (by omega) (by omega) hm.1 (by omega), spLow (by omega) (by omega) hm.1 (by omega)⟩
theorem low_zero {d : Int} (h : 1 ≤ d) : lowM 0 d = (0, 1) := by
  unfold lowM
  have e : ((Int.gcd 0 d : Nat) : Int) = d := by rw [Int.gcd_zero_left]; omega
  rw [e, Int.zero_tdiv, Int.tdiv_self (by omega)]
abbrev bb20 (t : V3) : List (Bool × Blk) := [(false, .box [intA 0, intA 0, intA 0, intA 0, intA 0, intA 0]), (false, .box [intA t.1, intA t.2.1, intA t.2.2])]
def centre29G : List AV → Option AV := sp2 ptsC strC fun l s => bif decide (partsM l = 0) && hasP l s then some (cenA l s) else none
theorem h29 : Holds 29 centre29G := holds2 fun l s r hr => by
  cases hb : decide (partsM l = 0) && hasP l s with
  | false => simp [hb] at hr
  | true =>
    simp only [hb, cond_true, Option.some.injEq] at hr; subst hr
    rw [Bool.and_eq_true] at hb
    have h0 : partsM l = 0 := of_decide_eq_true hb.1
    have hs := hb.2
    have hlen := parts_len h0
    have h16 := br_lim h0 s
    have h63 : Nat.blt l.length two63 = true := Nat.ble_eq_true_of_le (Nat.lt_of_le_of_lt hlen.2 (by decide))
    have hns : ((nms (brM l s)).map strC.enc).length = (brM l s).length := by unfold nms; simp
    have h := LoopRun.list (C := CS P15) (p := 0) (nt := 74) (rd := false) (c := loopOf (CS P15) 29 0) (step := fun _ (x : Pt) (t : V3) => (.inl (addS t x.2.2.1 (placeM' l x.1)) : V3 ⊕ V3)) (fin := id)
      (enc := fun j t => mkSt [0, 1, 4, 5, 6, 7] [4, 5] 74 [.rsl 7 (l.map ptC.enc) false, strA s, .ptr 4 0 0, .ptr 5 1 0, .rsl 1 ((nms (brM l s)).map strC.enc) false, intA (Int.ofNat j)] (bb20 t))
      (ex := fun _ => .exit 0) (out := fun t => mkSt [0, 1, 4, 5] [4, 5] 74 [.rsl 7 (l.map ptC.enc) false, strA s, .ptr 4 0 0, .ptr 5 1 0] (bb20 t)) (l := brM l s) (fun j t => CB j t)
      (fun j x t hx ht => by
        have hj := lt_len hx
        have hnm : ((nms (brM l s)).map strC.enc)[j]? = some (strA x.1) := by
          unfold nms
          rw [List.map_map]
          exact get_map _ hx
        obtain ⟨k, hk, hf0⟩ := br_at h0 (List.mem_of_getElem? hx)
        have hf := spFindP (l := l) x.1 h63
        rw [findP_o, hf0] at hf
        have hp : place27G [slA ptC 7 l, strA x.1] = some (vA (placeM' l x.1)) := by
          have := sp2_at (A := ptsC) (B := strC) (F := fun l s => bif decide (partsM l = 0) then some (vA (placeM' l s)) else none) l x.1
          rw [hb.1] at this; exact this
        obtain ⟨q1, q2, q3⟩ := addS3 h0 hk (by omega) ht
        have hr := r29n (l.map ptC.enc) ((nms (brM l s)).map strC.enc) s j t x.1 k (placeM' l x.1) (addS t x.2.2.1 (placeM' l x.1)) x.1 x.2.1 x.2.2.1 x.2.2.2.1 x.2.2.2.2.1 x.2.2.2.2.2.1 (x.co.map ivC.enc)
        rw [wrap_ix hj (Nat.lt_of_le_of_lt h16 (by decide))] at hr
        exact ⟨P15_ok.rndN hr ⟨by rw [hns]; exact lt_of hj, hnm, ⟨rfl, hf⟩, get_map _ hk, hnm, ⟨rfl, hp⟩, q1 _ _, q2 _ _, q3 _ _, trivial, rfl⟩, CB_next h0 hk ht⟩)
      (fun t _ => ⟨P15_ok.rndX (r29x (l.map ptC.enc) ((nms (brM l s)).map strC.enc) s (brM l s).length t) ⟨by rw [hns]; exact lt_self _, trivial, rfl⟩, by simp⟩)
      (brM l s) [] (0, 0, 0) rfl (by unfold CB; simp)
    rw [show ([] : List Pt).length = 0 from rfl, goL_all (fun (t : V3) (x : Pt) => addS t x.2.2.1 (placeM' l x.1)) id] at h
    have hsp := spBrN (l := l) s (by unfold lim; omega)
    rw [branch_names] at hsp
    have hms : mass28G [slA ptC 7 l, strA s] = some (intA (massM (brM l s))) := by
      have := sp2_at (A := ptsC) (B := strC) (F := fun l s => bif decide (partsM l = 0) then some (intA (massM (brM l s))) else none) l s
      rw [hb.1] at this; exact this
    obtain ⟨w1, w2, w3⟩ := spLow3 h0 hs
    exact P15_ok.tr (t29 (l.map ptC.enc) ((nms (brM l s)).map strC.enc) s (cenM l s) (massM (brM l s)) (lowM (cenM l s).1 (massM (brM l s))) (lowM (cenM l s).2.1 (massM (brM l s))) (lowM (cenM l s).2.2 (massM (brM l s))))
      ⟨⟨rfl, hsp⟩, ⟨trivial, trivial, h.says⟩, ⟨rfl, hms⟩, ⟨rfl, w1⟩, ⟨rfl, w2⟩, ⟨rfl, w3⟩, rfl⟩
theorem eq172 (S : Specs) (xo yo : Operand) (a b c d e f : Int) : abin (CS S) .eql 172 xo yo (.agg [intA a, intA b, intA c]) (.agg [intA d, intA e, intA f]) = some (gB (a == d && (b == e && (c == f && true)))) :=
  (abin_agg rfl rfl (by kernel_rfl) (by kernel_rfl)).1
def zero6 : AV := .agg [intA 0, intA 0, intA 0, intA 0, intA 0, intA 0]
def centre20G := ansG zero6 cenA
theorem h20 : Holds 20 centre20G := ans_holds
  (fun l s ho hc => P15_ok.tr (t20a (l.map ptC.enc) s (cpM l s)) ⟨⟨rfl, spCp s ho⟩, hc, rfl⟩)
  (fun l s ho hc h0 hs => by
    have hlen := parts_len h0
    have h16 := br_lim h0 s
    have e := e_pt (brM l s)
    have h := LoopRun.list (C := CS P15) (p := 0) (nt := 83) (rd := false) (c := loopOf (CS P15) 20 0) (step := fun _ (x : Pt) (t : V3) => (.inl (addS t x.2.2.1 (placeM' l x.1)) : V3 ⊕ V3)) (fin := id)
      (enc := fun j t => mkSt [0, 4, 7, 8, 23, 24, 25] [4, 8] 83 [.rsl 7 (l.map ptC.enc) false, .ptr 4 0 0, .rsl 7 ((brM l s).map ptC.enc) false, .ptr 8 1 0, .rsl 7 ((brM l s).map ptC.enc) false, intA (Int.ofNat ((brM l s).map ptC.enc).length), intA (Int.ofNat j)] (bb20 t))
      (ex := fun _ => .exit 0) (out := fun t => mkSt [4, 7, 8] [4, 8] 83 [.ptr 4 0 0, .rsl 7 ((brM l s).map ptC.enc) false, .ptr 8 1 0] (bb20 t)) (l := brM l s) (fun j t => CB j t)
      (fun j x t hx ht => by
        have hj := lt_len hx
        obtain ⟨k, hk, _⟩ := br_at h0 (List.mem_of_getElem? hx)
        have hp := spPl h0 (hasOwn h0 hk)
        obtain ⟨q1, q2, q3⟩ := addS3 h0 hk (by omega) ht
        have hr := r20n (l.map ptC.enc) ((brM l s).map ptC.enc) ((brM l s).map ptC.enc).length j t (placeM' l x.1) (addS t x.2.2.1 (placeM' l x.1)) x.1 x.2.1 x.2.2.1 x.2.2.2.1 x.2.2.2.2.1 x.2.2.2.2.2.1 (x.co.map ivC.enc)
        rw [wrap_ix hj (Nat.lt_of_le_of_lt h16 (by decide))] at hr
        exact ⟨P15_ok.rndN hr ⟨by rw [e]; exact lt_of hj, get_map _ hx, ⟨rfl, hp⟩, q1 _ _, q2 _ _, q3 _ _, trivial, rfl⟩, CB_next h0 hk ht⟩)
      (fun t _ => ⟨P15_ok.rndX (r20x (l.map ptC.enc) ((brM l s).map ptC.enc) ((brM l s).map ptC.enc).length (brM l s).length t) ⟨by rw [e]; exact lt_self _, trivial, rfl⟩, by simp⟩)
      (brM l s) [] (0, 0, 0) rfl (by unfold CB; simp)
    rw [show ([] : List Pt).length = 0 from rfl, goL_all (fun (t : V3) (x : Pt) => addS t x.2.2.1 (placeM' l x.1)) id] at h
    have hms := spMass (l := brM l s) (Nat.lt_of_le_of_lt h16 (by decide))
    have he := eq172 P15 (.tmp 63) (.tmp 64) (cenM l s).1 (cenM l s).2.1 (cenM l s).2.2 0 0 0
    cases hz : ((cenM l s).1 == 0 && ((cenM l s).2.1 == 0 && ((cenM l s).2.2 == 0 && true))) with
    | true =>
      rw [hz] at he
      have ec : cenA l s = .agg [intA 0, intA 1, intA 0, intA 1, intA 0, intA 1] := by
        simp only [Bool.and_eq_true, beq_iff_eq, and_true] at hz
        unfold cenA
        rw [hz.1, hz.2.1, hz.2.2, low_zero (br_mass h0 hs).1]
      rw [ec]
      exact P15_ok.tr (t20z (l.map ptC.enc) ((brM l s).map ptC.enc) s (cpM l s) (massM (brM l s)) (cenM l s)) ⟨⟨rfl, spCp s ho⟩, hc, ⟨rfl, spBr s h0⟩, ⟨trivial, trivial, h.says⟩, ⟨rfl, hms⟩, he, rfl⟩
    | false =>
      rw [hz] at he
      obtain ⟨w1, w2, w3⟩ := spLow3 h0 hs
      exact P15_ok.tr (t20n (l.map ptC.enc) ((brM l s).map ptC.enc) s (cpM l s) (massM (brM l s)) (cenM l s) (lowM (cenM l s).1 (massM (brM l s))) (lowM (cenM l s).2.1 (massM (brM l s))) (lowM (cenM l s).2.2 (massM (brM l s))))
        ⟨⟨rfl, spCp s ho⟩, hc, ⟨rfl, spBr s h0⟩, ⟨trivial, trivial, h.says⟩, ⟨rfl, hms⟩, he, ⟨rfl, w1⟩, ⟨rfl, w2⟩, ⟨rfl, w3⟩, rfl⟩)
def P16 : Specs := ((P15.set 29 centre29G).set 20 centre20G)
theorem P16_ok : Ok P16 := ((P15_ok.set h29).set h20)
end Go.Vm.S3
