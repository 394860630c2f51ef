/- Series, counts, worth. -/
import Derived.Test.YtbplbhcgcicgfaaGreatDoorS6Plain
namespace Go.Vm.S6
open Go.Proofs Go.RowKit
set_option maxRecDepth 100000 in
theorem t38 (es cs : List AV) (e : Int) : evTreeD (CS T2) 60 38 [.rsl 1 es false] [.sp [intA (Int.ofNat es.length), intA 128] (intA (manyI (Int.ofNat es.length) 128)), .sp [.rsl 1 es false, fnV 106] (.rsl 1 cs false), .sp [.rsl 1 cs false] (intA e)] =
    (.need (([intA (Int.ofNat es.length), intA 128] : List AV) = ([intA (Int.ofNat es.length), intA 128] : List AV) ∧ (Cx.spec (CS T2) 109 ([intA (Int.ofNat es.length), intA 128] : List AV)) = (some (AV.v (.int .i64 (manyI (Int.ofNat es.length) 128))))) (.need (([.rsl 1 es false, .fn (Fn.func 106) [] []] : List AV) = ([.rsl 1 es false, .fn (Fn.func 106) [] []] : List AV) ∧ (Cx.spec (CS T2) 110 ([.rsl 1 es false, .fn (Fn.func 106) [] []] : List AV)) = (some (AV.rsl 1 cs false))) (.need (([.rsl 1 cs false] : List AV) = ([.rsl 1 cs false] : List AV) ∧ (Cx.spec (CS T2) 95 ([.rsl 1 cs false] : List AV)) = (some (AV.v (.int .i64 e)))) (.done (some (intA (firstM [manyI (Int.ofNat es.length) 128, e]))))))) := by kernel_rfl
set_option maxRecDepth 100000 in
theorem t97 (s n : Int) (r : P2) : evTreeD (CS T2) 60 97 [intA s, intA n] [.br [] [.sp [intA (IntKind.i64.wrap (s * s)), intA n] (p2A r)]] =
    (bif decide (s ≤ 0) then (.done (some (.agg [intA 0, intA 1]))) else (.need (([intA (IntKind.i64.wrap (s * s)), intA n] : List AV) = ([intA (IntKind.i64.wrap (s * s)), intA n] : List AV) ∧ (Cx.spec (CS T2) 157 ([intA (IntKind.i64.wrap (s * s)), intA n] : List AV)) = (some (AV.agg [intA r.fst, intA r.snd]))) (.done (some (.agg [intA r.fst, intA r.snd]))))) := by kernel_rfl
set_option maxRecDepth 100000 in
theorem t26 (a b : Int) (r : P2) (e : Bool) : evTreeD (CS T2) 60 26 [.agg [intA a, intA b]] [.br [] [.sp [intA a, intA b] (p2A r), .eq (boolA e)]] =
    (bif firstM [withinM a 0 5000000000000, withinM b 1 1000000] != 0 then (.done (some (intA (firstM [withinM a 0 5000000000000, withinM b 1 1000000])))) else (.need (([intA a, intA b] : List AV) = ([intA a, intA b] : List AV) ∧ (Cx.spec (CS T2) 104 ([intA a, intA b] : List AV)) = (some (AV.agg [intA r.fst, intA r.snd]))) (.need ((abin (CS T2) BinOp.neq 28 (Operand.tmp 19) (Operand.tmp 20) (AV.agg [intA r.fst, intA r.snd]) (AV.agg [intA a, intA b])) = (some (AV.v (.bool e)))) (.done (some (intA (whenM e 1))))))) := by kernel_rfl
/-! ### The program's check of a series -/
theorem specMany (n m : Int) : manyG [intA n, intA m] = some (intA (manyI n m)) := sp2_at (A := intC) (B := intC) (F := fun n m => some (intA (manyI n m))) n m
theorem specUnits {l : List Int} (h : Nat.ble l.length lim = true) : units110G [slA intC 1 l, fnV 106] = some (slA intC 1 (l.map unitM)) := by
  have h1 := sp2_at (A := listC intC 1) (B := fnC 106) (F := fun l _ => bif Nat.ble l.length lim then some (slA intC 1 (l.map unitM)) else none) l ()
  rw [h] at h1; exact h1
theorem specFirst {l : List Int} (h : Nat.ble l.length lim = true) : firstG [slA intC 1 l] = some (intA (firstM l)) := by
  have h1 := sp1_at (A := listC intC 1) (F := firstF) l
  have : Nat.blt l.length two63 = true := by have := Nat.le_of_ble_eq_true h; unfold lim at this; simp [Nat.blt]; unfold two63; omega
  unfold firstF at h1
  rw [this] at h1; exact h1
theorem seriesEq (l : List Int) : firstM [manyI (Int.ofNat l.length) 128, firstM (l.map unitM)] = seriesM l := firstB _ _
theorem h38 : Holds 38 seriesG := holds1 fun l r hr => by
  cases hb : Nat.ble l.length lim with
  | false => simp [hb] at hr
  | true =>
    simp only [hb, cond_true, Option.some.injEq] at hr; subst hr
    refine T2_ok.tr (t38 (l.map intA) ((l.map unitM).map intA) (firstM (l.map unitM))) ?_
    rw [e_len]
    refine ⟨⟨rfl, specMany _ _⟩, ⟨rfl, specUnits hb⟩, ⟨rfl, specFirst (by rw [List.length_map]; exact hb)⟩, ?_⟩
    rw [seriesEq]; rfl
theorem manyZ {n : Int} : manyI n 128 = 0 ↔ n ≠ 0 ∧ n ≤ 128 := by
  unfold manyI
  rw [firstZ, firstZ]
  unfold whenM
  by_cases h1 : n = 0
  · simp [h1]
  · have h2 : (n == 0) = false := by simpa using h1
    rw [h2]
    by_cases h3 : n > 128
    · simp [h3]
    · have h4 : decide (n > 128) = false := by simpa using h3
      rw [h4]; simp [firstM]; omega
theorem firstAll {α : Type} {g : α → Int} : ∀ {l : List α}, firstM (l.map g) = 0 ↔ ∀ x ∈ l, g x = 0
  | [] => by simp [firstM]
  | x :: r => by rw [List.map_cons, firstZ, firstAll]; simp
def Ser (l : List Int) : Prop := 1 ≤ l.length ∧ l.length ≤ 128 ∧ ∀ x ∈ l, -16384 ≤ x ∧ x ≤ 16384
theorem seriesZ {l : List Int} : seriesM l = 0 ↔ Ser l := by
  rw [← seriesEq, firstZ, firstZ, manyZ, firstAll]
  have h1 : firstM [] = 0 := rfl
  unfold Ser unitM
  simp only [within_zero, h1, and_true, Int.ofNat_eq_natCast]
  constructor
  · rintro ⟨⟨h2, h3⟩, h4⟩; exact ⟨by omega, by omega, h4⟩
  · rintro ⟨h2, h3, h4⟩; exact ⟨⟨by omega, by omega⟩, h4⟩
theorem Ser.two {l : List Int} (h : Ser l) : l.length < two63 := by have := h.2.1; unfold two63; omega
theorem Ser.ble {l : List Int} (h : Ser l) : Nat.ble l.length lim = true := Nat.ble_eq_true_of_le (by have := h.2.1; unfold lim; omega)
/-! ### Counts above a level -/
/-! ### The worth of a sum -/
def worOk (s n : Int) : Bool := decide (-3000000 ≤ s) && (decide (s ≤ 3000000) && (decide (1 ≤ n) && decide (n ≤ 1000000)))
theorem worOk_iff {s n : Int} : worOk s n = true ↔ (-3000000 ≤ s ∧ s ≤ 3000000) ∧ 1 ≤ n ∧ n ≤ 1000000 := by unfold worOk; simp; omega
theorem sq_bd {s : Int} (h : -3000000 ≤ s ∧ s ≤ 3000000) : 0 ≤ s * s ∧ s * s ≤ 9000000000000 := by
  have h1 : s * s = (s.natAbs : Int) * (s.natAbs : Int) := by rw [← Int.natAbs_mul_self']
  have h2 : s.natAbs ≤ 3000000 := by omega
  rw [h1]
  have h3 : s.natAbs * s.natAbs ≤ 3000000 * 3000000 := Nat.mul_le_mul h2 h2
  constructor
  · exact Int.mul_nonneg (by omega) (by omega)
  · have : ((s.natAbs * s.natAbs : Nat) : Int) ≤ ((3000000 * 3000000 : Nat) : Int) := Int.ofNat_le.2 h3
    rw [Int.natCast_mul] at this
    exact this
theorem specLow {a b : Int} (h : lowOk a b = true) : lowG [intA a, intA b] = some (p2A (lowM a b)) := by
  have h1 := sp2_at (A := intC) (B := intC) (F := fun a b => bif lowOk a b then some (p2A (lowM a b)) else none) a b
  rw [h] at h1; exact h1
theorem sqOk {s n : Int} (h : worOk s n = true) : IntKind.i64.wrap (s * s) = s * s ∧ lowOk (s * s) n = true := by
  rw [worOk_iff] at h
  have hs := sq_bd h.1
  refine ⟨wrap_in (by omega) (by omega), ?_⟩
  unfold lowOk
  simp only [Bool.and_eq_true, inN_iff, decide_eq_true_eq]
  omega
def worthG : List AV → Option AV := sp2 intC intC fun s n => bif worOk s n then some (p2A (worthM s n)) else none
theorem h97 : Holds 97 worthG := holds2 fun s n r hr => by
  cases hb : worOk s n with
  | false => simp [hb] at hr
  | true =>
    simp only [hb, cond_true, Option.some.injEq] at hr; subst hr
    obtain ⟨h1, h2⟩ := sqOk hb
    refine T2_ok.tr (t97 s n (lowM (s * s) n)) ?_
    rw [h1]
    unfold worthM
    cases decide (s ≤ 0) with
    | true => rfl
    | false => exact ⟨⟨rfl, specLow h2⟩, rfl⟩
/-! ### Sums of windows -/
def winI (l : List Int) (a b : Nat) : List Int := (l.drop a).take (b - a)
theorem winI_len {l : List Int} {a b : Nat} (h : a < b ∧ b ≤ l.length) : (winI l a b).length = b - a := by unfold winI; simp; omega
theorem winI_mem {l : List Int} {a b : Nat} {x : Int} (h : x ∈ winI l a b) : x ∈ l := List.mem_of_mem_drop (List.mem_of_mem_take h)
theorem sum_bd : ∀ {w : List Int} {s : Int} {i : Nat}, (∀ x ∈ w, -16384 ≤ x ∧ x ≤ 16384) → -(16384 * (i : Int)) ≤ s ∧ s ≤ 16384 * (i : Int) → -(16384 * ((i + w.length : Nat) : Int)) ≤ w.foldl (· + ·) s ∧ w.foldl (· + ·) s ≤ 16384 * ((i + w.length : Nat) : Int)
  | [], s, i, _, h => h
  | x :: r, s, i, hx, h => by
    have h1 := hx x (by simp)
    have := sum_bd (w := r) (s := s + x) (i := i + 1) (fun y hy => hx y (by simp [hy])) (by constructor <;> omega)
    rw [List.foldl_cons, List.length_cons, show i + (r.length + 1) = i + 1 + r.length by omega]
    exact this
theorem sumW {l : List Int} {a b : Nat} (h : Ser l) (hw : a < b ∧ b ≤ l.length) : worOk (sumM (winI l a b)) (Int.ofNat (b - a)) = true := by
  have h1 := sum_bd (w := winI l a b) (s := 0) (i := 0) (fun x hx => h.2.2 x (winI_mem hx)) (by omega)
  rw [winI_len hw] at h1
  have h2 := h.2.1
  rw [worOk_iff]
  unfold sumM
  simp only [Int.ofNat_eq_natCast]
  omega
def wthM (l : List Int) (a b : Nat) : P2 := worthM (sumM (winI l a b)) (Int.ofNat (b - a))
def natOf : Int → Nat
  | .ofNat n => n
  | .negSucc _ => 0
theorem winZ {n : Nat} {s : P2} (h : winErr (Int.ofNat n) s = 0) : ∃ a b : Nat, s = (Int.ofNat a, Int.ofNat b) ∧ a < b ∧ b ≤ n := by
  obtain ⟨a, b⟩ := s
  have h1 := whenZ (by omega) h
  simp only [Bool.or_eq_false_iff, decide_eq_false_iff_not] at h1
  obtain ⟨h2, h3, h4⟩ := h1
  cases a with
  | negSucc a => exact absurd (Int.negSucc_lt_zero a) h2
  | ofNat a => cases b with
    | negSucc b => simp at h3; omega
    | ofNat b => exact ⟨a, b, rfl, by simp at h3; omega, by simp at h4; omega⟩
theorem winW {n a b : Nat} (h : a < b ∧ b ≤ n) : winErr (Int.ofNat n) (Int.ofNat a, Int.ofNat b) = 0 := by
  unfold winErr
  have h1 : decide ((Int.ofNat a, Int.ofNat b).1 < 0) = false := by simp
  have h2 : decide ((Int.ofNat a, Int.ofNat b).1 ≥ (Int.ofNat a, Int.ofNat b).2) = false := by simp; omega
  have h3 : decide ((Int.ofNat a, Int.ofNat b).2 > Int.ofNat n) = false := by simp; omega
  rw [h1, h2, h3]; rfl
theorem sub_nat {a b : Nat} (h : a ≤ b) (hb : b < two63) : IntKind.i64.wrap (Int.ofNat b - Int.ofNat a) = Int.ofNat (b - a) := by
  have : Int.ofNat b - Int.ofNat a = Int.ofNat (b - a) := by simp only [Int.ofNat_eq_natCast]; omega
  rw [this]; exact wrap_in (by simp only [Int.ofNat_eq_natCast]; omega) (by unfold two63 at hb; simp only [Int.ofNat_eq_natCast]; omega)
/-! ### Checks of ratios, sums of two -/
theorem h26 : Holds 26 ratG := holds1 fun x r hr => by
  simp only [Option.some.injEq] at hr; subst hr
  refine T2_ok.tr (t26 x.1 x.2 (lowM x.1 x.2) (!((lowM x.1 x.2).1 == x.1 && ((lowM x.1 x.2).2 == x.2 && true)))) ?_
  unfold ratErr
  show (bif sizeErr x != 0 then _ else _ : Dt AV).ok _
  cases h : sizeErr x != 0 with
  | true => rfl
  | false =>
    have h0 : sizeErr x = 0 := by simpa using h
    rw [size_zero] at h0
    refine ⟨⟨rfl, specLow (by unfold lowOk; simp only [Bool.and_eq_true, inN_iff, decide_eq_true_eq]; omega)⟩, (eqRa T2 _ _ _ _ _ _).2, ?_⟩
    have := lowM_self (n := x.1) (d := x.2) (by omega)
    have h2 : ((lowM x.1 x.2).1 == x.1 && ((lowM x.1 x.2).2 == x.2 && true)) = (Int.gcd x.1 x.2 == 1) := by
      rw [← this, Bool.and_true]; rfl
    rw [h2]
    have h3 : (!(Int.gcd x.1 x.2 == 1)) = ((Int.gcd x.1 x.2 : Int) != 1) := by
      rw [Bool.eq_iff_iff]; simp; omega
    rw [h3]; rfl
theorem limZ {k : P2} : limM k = 0 ↔ (1 ≤ k.1 ∧ k.1 ≤ 1000) ∧ 1 ≤ k.2 ∧ k.2 ≤ 1000 := by
  unfold limM
  rw [firstZ, firstZ, within_zero, within_zero]
  simp [firstM]
theorem mul_bd {x y a b : Int} (hx : 0 ≤ x ∧ x ≤ a) (hy : 0 ≤ y ∧ y ≤ b) : 0 ≤ x * y ∧ x * y ≤ a * b :=
  ⟨Int.mul_nonneg hx.1 hy.1, Int.mul_le_mul hx.2 hy.2 hy.1 (by omega)⟩
def T3 : Specs := (((T2.set 38 seriesG).set 97 worthG).set 26 ratG)
theorem T3_ok : Ok T3 := (((T2_ok.set h38).set h97).set h26)
end Go.Vm.S6
