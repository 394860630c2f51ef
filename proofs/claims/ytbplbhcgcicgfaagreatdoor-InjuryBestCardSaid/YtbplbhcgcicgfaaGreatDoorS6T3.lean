/- Series, counts, worth. -/
import Derived.Test.YtbplbhcgcicgfaaGreatDoorS6Plain
namespace Go.Vm.S6
open Go.Proofs Go.RowKit
set_option maxRecDepth 100000 in
theorem t38 (es cs : List AV) (e : Int) : evTreeD (CS T2) 60 38 [.rsl 1 es false] [.sp [intA (Int.ofNat es.length), intA 128] (intA (manyI (Int.ofNat es.length) 128)), .sp [.rsl 1 es false, fnV 106] (.rsl 1 cs false), .sp [.rsl 1 cs false] (intA e)] =
    (.need (([.v (.int .i64 (Int.ofNat es.length)), .v (.int .i64 128)] : List AV) = ([.v (.int .i64 (Int.ofNat es.length)), .v (.int .i64 128)] : List AV) ∧ (Cx.spec (CS T2) 109 ([.v (.int .i64 (Int.ofNat es.length)), .v (.int .i64 128)] : List AV)) = (some (AV.v (.int .i64 (manyI (Int.ofNat es.length) 128))))) (.need (([.rsl 1 es false, .fn (Fn.func 106) [] []] : List AV) = ([.rsl 1 es false, .fn (Fn.func 106) [] []] : List AV) ∧ (Cx.spec (CS T2) 110 ([.rsl 1 es false, .fn (Fn.func 106) [] []] : List AV)) = (some (AV.rsl 1 cs false))) (.need (([.rsl 1 cs false] : List AV) = ([.rsl 1 cs false] : List AV) ∧ (Cx.spec (CS T2) 95 ([.rsl 1 cs false] : List AV)) = (some (AV.v (.int .i64 e)))) (.done (some (.v (.int .i64 (firstM [manyI (Int.ofNat es.length) 128, e])))))))) := by kernel_rfl
set_option maxRecDepth 100000 in
theorem r36 (es : List AV) (c k x : Int) (i : Nat) : roundD (CS T2) 60 0 36 0 22 22 false (loopOf (CS T2) 36 0) [0, 1, 5, 6] [] [0, 1, 5, 6] [] [5] [] [.rsl 1 es false, intA c, intA k, intA (Int.ofNat i)] [] [.br [.chk [intA x]] []] =
    (bif decide (Int.ofNat i < Int.ofNat es.length) then (.need (es[i]? = (some (AV.v (.int .i64 x)))) (bif decide (x ≥ c) then (.need (EntClosed []) (.done (some ((.nrm, [.rsl 1 es false, .v (.int .i64 c), .v (.int .i64 (IntKind.i64.wrap (k + 1))), .v (.int .i64 (IntKind.i64.wrap (Int.ofNat i + 1)))], []))))) else (.need (EntClosed []) (.done (some ((.nrm, [.rsl 1 es false, .v (.int .i64 c), .v (.int .i64 k), .v (.int .i64 (IntKind.i64.wrap (Int.ofNat i + 1)))], []))))))) else (.need (EntClosed []) (.done (some (((.exit 0), [.v (.int .i64 k)], [])))))) := by kernel_rfl
set_option maxRecDepth 100000 in
theorem t36 (es : List AV) (c k : Int) : evTreeD (CS T2) 60 36 [.rsl 1 es false, intA c] [.loop 0 [0, 1, 5, 6] [] [5] [] (.exit 0) [intA k] []] =
    (.need (EntClosed [] ∧ EntClosed [] ∧ Says (CS T2) 0 22 false (.loop (loopOf (CS T2) 36 0)) (mkSt [0, 1, 5, 6] [] 22 [.rsl 1 es false, .v (.int .i64 c), .v (.int .i64 0), .v (.int .i64 0)] []) (.exit 0) (mkSt [5] [] 22 [.v (.int .i64 k)] [])) (.done (some (.v (.int .i64 k))))) := by kernel_rfl
set_option maxRecDepth 100000 in
theorem r31 (es : List AV) (c k x : Int) (n i : Nat) : roundD (CS T2) 60 0 31 0 32 32 false (loopOf (CS T2) 31 0) [1, 7, 19, 20, 21] [] [1, 7, 19, 20, 21] [] [7] [] [intA c, intA k, .rsl 1 es false, intA (Int.ofNat n), intA (Int.ofNat i)] [] [.br [.chk [intA x]] []] =
    (bif decide (Int.ofNat i < Int.ofNat n) then (.need (es[i]? = (some (AV.v (.int .i64 x)))) (bif decide (x ≥ c) then (.need (EntClosed []) (.done (some ((.nrm, [.v (.int .i64 c), .v (.int .i64 (IntKind.i64.wrap (k + 1))), .rsl 1 es false, .v (.int .i64 (Int.ofNat n)), .v (.int .i64 (IntKind.i64.wrap (Int.ofNat i + 1)))], []))))) else (.need (EntClosed []) (.done (some ((.nrm, [.v (.int .i64 c), .v (.int .i64 k), .rsl 1 es false, .v (.int .i64 (Int.ofNat n)), .v (.int .i64 (IntKind.i64.wrap (Int.ofNat i + 1)))], []))))))) else (.need (EntClosed []) (.done (some (((.exit 0), [.v (.int .i64 k)], [])))))) := by kernel_rfl
set_option maxRecDepth 100000 in
theorem r27b (es : List AV) (a b s x : Int) (i : Nat) : roundD (CS T2) 60 0 27 0 33 33 false (loopOf (CS T2) 27 0) [0, 3, 4, 5, 6] [3, 4] [0, 3, 4, 5, 6] [3, 4] [3, 4, 5] [3, 4] [.rsl 1 es false, .ptr 3 0 0, .ptr 4 1 0, intA s, intA (Int.ofNat i)] [(false, .box [intA a, intA b]), (false, .box [intA 0, intA 0])] [.br [.chk [intA x]] []] =
    (bif decide (Int.ofNat i < b) then (.need (es[i]? = (some (AV.v (.int .i64 x)))) (.need (EntClosed [(false, .box [.v (.int .i64 a), .v (.int .i64 b)]), (false, .box [.v (.int .i64 0), .v (.int .i64 0)])]) (.done (some ((.nrm, [.rsl 1 es false, .ptr 3 0 0, .ptr 4 1 0, .v (.int .i64 (IntKind.i64.wrap (s + x))), .v (.int .i64 (IntKind.i64.wrap (Int.ofNat i + 1)))], [(false, .box [.v (.int .i64 a), .v (.int .i64 b)]), (false, .box [.v (.int .i64 0), .v (.int .i64 0)])])))))) else (.need (EntClosed [(false, .box [.v (.int .i64 a), .v (.int .i64 b)]), (false, .box [.v (.int .i64 0), .v (.int .i64 0)])]) (.done (some (((.exit 0), [.ptr 3 0 0, .ptr 4 1 0, .v (.int .i64 s)], [(false, .box [.v (.int .i64 a), .v (.int .i64 b)]), (false, .box [.v (.int .i64 0), .v (.int .i64 0)])])))))) := by kernel_rfl
set_option maxRecDepth 100000 in
theorem t97 (s n : Int) (r : P2) : evTreeD (CS T2) 60 97 [intA s, intA n] [.br [] [.sp [intA (IntKind.i64.wrap (s * s)), intA n] (p2A r)]] =
    (bif decide (s ≤ 0) then (.done (some (.agg [.v (.int .i64 0), .v (.int .i64 1)]))) else (.need (([.v (.int .i64 (IntKind.i64.wrap (s * s))), .v (.int .i64 n)] : List AV) = ([.v (.int .i64 (IntKind.i64.wrap (s * s))), .v (.int .i64 n)] : List AV) ∧ (Cx.spec (CS T2) 157 ([.v (.int .i64 (IntKind.i64.wrap (s * s))), .v (.int .i64 n)] : List AV)) = (some (AV.agg [.v (.int .i64 r.fst), .v (.int .i64 r.snd)]))) (.done (some (.agg [.v (.int .i64 r.fst), .v (.int .i64 r.snd)]))))) := by kernel_rfl
set_option maxRecDepth 100000 in
theorem t27 (es : List AV) (a b s : Int) (r : P2) : evTreeD (CS T2) 60 27 [.rsl 1 es false, .agg [intA a, intA b]] [.loop 0 [0, 3, 4, 5, 6] [3, 4] [3, 4, 5] [3, 4] (.exit 0) [.ptr 3 0 0, .ptr 4 1 0, intA s] [(false, .box [intA a, intA b]), (false, .box [intA 0, intA 0])], .br [] [.sp [intA (IntKind.i64.wrap (s * s)), intA (IntKind.i64.wrap (b - a))] (p2A r)]] =
    (.need (EntClosed [(false, .box [.v (.int .i64 a), .v (.int .i64 b)]), (false, .box [.v (.int .i64 0), .v (.int .i64 0)])] ∧ EntClosed [(false, .box [.v (.int .i64 a), .v (.int .i64 b)]), (false, .box [.v (.int .i64 0), .v (.int .i64 0)])] ∧ Says (CS T2) 0 33 false (.loop (loopOf (CS T2) 27 0)) (mkSt [0, 3, 4, 5, 6] [3, 4] 33 [.rsl 1 es false, .ptr 3 0 0, .ptr 4 1 0, .v (.int .i64 0), .v (.int .i64 a)] [(false, .box [.v (.int .i64 a), .v (.int .i64 b)]), (false, .box [.v (.int .i64 0), .v (.int .i64 0)])]) (.exit 0) (mkSt [3, 4, 5] [3, 4] 33 [.ptr 3 0 0, .ptr 4 1 0, .v (.int .i64 s)] [(false, .box [.v (.int .i64 a), .v (.int .i64 b)]), (false, .box [.v (.int .i64 0), .v (.int .i64 0)])])) (bif decide (s ≤ 0) then (.done (some (.agg [.v (.int .i64 0), .v (.int .i64 1)]))) else (.need (([.v (.int .i64 (IntKind.i64.wrap (s * s))), .v (.int .i64 (IntKind.i64.wrap (b - a)))] : List AV) = ([.v (.int .i64 (IntKind.i64.wrap (s * s))), .v (.int .i64 (IntKind.i64.wrap (b - a)))] : List AV) ∧ (Cx.spec (CS T2) 104 ([.v (.int .i64 (IntKind.i64.wrap (s * s))), .v (.int .i64 (IntKind.i64.wrap (b - a)))] : List AV)) = (some (AV.agg [.v (.int .i64 r.fst), .v (.int .i64 r.snd)]))) (.done (some (.agg [.v (.int .i64 r.fst), .v (.int .i64 r.snd)])))))) := by kernel_rfl
set_option maxRecDepth 100000 in
theorem t26 (a b : Int) (r : P2) (e : Bool) : evTreeD (CS T2) 60 26 [.agg [intA a, intA b]] [.br [] [.sp [intA a, intA b] (p2A r), .eq (boolA e)]] =
    (bif firstM [withinM a 0 5000000000000, withinM b 1 1000000] != 0 then (.done (some (.v (.int .i64 (firstM [withinM a 0 5000000000000, withinM b 1 1000000]))))) else (.need (([.v (.int .i64 a), .v (.int .i64 b)] : List AV) = ([.v (.int .i64 a), .v (.int .i64 b)] : List AV) ∧ (Cx.spec (CS T2) 104 ([.v (.int .i64 a), .v (.int .i64 b)] : List AV)) = (some (AV.agg [.v (.int .i64 r.fst), .v (.int .i64 r.snd)]))) (.need ((abin (CS T2) BinOp.neq 28 (Operand.tmp 19) (Operand.tmp 20) (AV.agg [.v (.int .i64 r.fst), .v (.int .i64 r.snd)]) (AV.agg [.v (.int .i64 a), .v (.int .i64 b)])) = (some (AV.v (.bool e)))) (.done (some (.v (.int .i64 (whenM e 1)))))))) := by kernel_rfl
set_option maxRecDepth 100000 in
theorem t116 (x y a b : Int) (r : P2) : evTreeD (CS T2) 60 116 [intA x, intA y, .agg [intA a, intA b]] [.skip, .skip, .skip, .skip, .sp [intA (IntKind.i64.wrap (IntKind.i64.wrap (x * b) + IntKind.i64.wrap (y * a))), intA (IntKind.i64.wrap (a * b))] (p2A r)] =
    (.need (([.v (.int .i64 (IntKind.i64.wrap (IntKind.i64.wrap (x * b) + IntKind.i64.wrap (y * a)))), .v (.int .i64 (IntKind.i64.wrap (a * b)))] : List AV) = ([.v (.int .i64 (IntKind.i64.wrap (IntKind.i64.wrap (x * b) + IntKind.i64.wrap (y * a)))), .v (.int .i64 (IntKind.i64.wrap (a * b)))] : List AV) ∧ (Cx.spec (CS T2) 104 ([.v (.int .i64 (IntKind.i64.wrap (IntKind.i64.wrap (x * b) + IntKind.i64.wrap (y * a)))), .v (.int .i64 (IntKind.i64.wrap (a * b)))] : List AV)) = (some (AV.agg [.v (.int .i64 r.fst), .v (.int .i64 r.snd)]))) (.done (some (.agg [.v (.int .i64 r.fst), .v (.int .i64 r.snd)])))) := by kernel_rfl
set_option maxRecDepth 100000 in
theorem r18 (es : List AV) (a b s x : Int) (n i : Nat) : roundD (CS T2) 60 0 18 0 43 43 false (loopOf (CS T2) 18 0) [3, 4, 7, 26, 27, 28] [3, 4] [3, 4, 7, 26, 27, 28] [3, 4] [3, 4, 7] [3, 4] [.ptr 3 0 0, .ptr 4 1 0, intA s, .rsl 1 es false, intA (Int.ofNat n), intA (Int.ofNat i)] [(false, .box [intA a, intA b]), (false, .box [intA 0, intA 0])] [.br [.chk [intA x]] []] =
    (bif decide (Int.ofNat i < Int.ofNat n) then (.need (es[i]? = (some (AV.v (.int .i64 x)))) (.need (EntClosed [(false, .box [.v (.int .i64 a), .v (.int .i64 b)]), (false, .box [.v (.int .i64 0), .v (.int .i64 0)])]) (.done (some ((.nrm, [.ptr 3 0 0, .ptr 4 1 0, .v (.int .i64 (IntKind.i64.wrap (s + x))), .rsl 1 es false, .v (.int .i64 (Int.ofNat n)), .v (.int .i64 (IntKind.i64.wrap (Int.ofNat i + 1)))], [(false, .box [.v (.int .i64 a), .v (.int .i64 b)]), (false, .box [.v (.int .i64 0), .v (.int .i64 0)])])))))) else (.need (EntClosed [(false, .box [.v (.int .i64 a), .v (.int .i64 b)]), (false, .box [.v (.int .i64 0), .v (.int .i64 0)])]) (.done (some (((.exit 0), [.ptr 3 0 0, .ptr 4 1 0, .v (.int .i64 s)], [(false, .box [.v (.int .i64 a), .v (.int .i64 b)]), (false, .box [.v (.int .i64 0), .v (.int .i64 0)])])))))) := by kernel_rfl
/-! ### The program's check of a series -/
theorem specMany (n m : Int) : manyG [intA n, intA m] = some (intA (manyI n m)) := sp2_at (A := intC) (B := intC) (F := fun n m => some (intA (manyI n m))) n m
theorem specUnits {l : List Int} (h : Nat.ble l.length lim = true) : units110G [slA intC 1 l, fnV 106] = some (slA intC 1 (l.map unitM)) := by
  have h1 := sp2_at (A := listC intC 1) (B := fnC 106) (F := fun l _ => bif Nat.ble l.length lim then some (slA intC 1 (l.map unitM)) else none) l ()
  rw [h] at h1; exact h1
theorem specFirst {l : List Int} (h : Nat.ble l.length lim = true) : firstG [slA intC 1 l] = some (intA (firstM l)) := by
  have h1 := sp1_at (A := listC intC 1) (F := firstF) l
  have : Nat.blt l.length two63 = true := by have := Nat.le_of_ble_eq_true h; unfold lim at this; simp [Nat.blt]; unfold two63; omega
  unfold firstF at h1
  rw [this] at h1; exact h1
theorem seriesEq (l : List Int) : firstM [manyI (Int.ofNat l.length) 128, firstM (l.map unitM)] = seriesM l := firstB _ _
theorem h38 : Holds 38 seriesG := holds1 fun l r hr => by
  cases hb : Nat.ble l.length lim with
  | false => simp [hb] at hr
  | true =>
    simp only [hb, cond_true, Option.some.injEq] at hr; subst hr
    refine T2_ok.tr (t38 (l.map intA) ((l.map unitM).map intA) (firstM (l.map unitM))) ?_
    rw [e_len]
    refine ⟨⟨rfl, specMany _ _⟩, ⟨rfl, specUnits hb⟩, ⟨rfl, specFirst (by rw [List.length_map]; exact hb)⟩, ?_⟩
    rw [seriesEq]; rfl
theorem manyZ {n : Int} : manyI n 128 = 0 ↔ n ≠ 0 ∧ n ≤ 128 := by
  unfold manyI
  rw [firstZ, firstZ]
  unfold whenM
  by_cases h1 : n = 0
  · simp [h1]
  · have h2 : (n == 0) = false := by simpa using h1
    rw [h2]
    by_cases h3 : n > 128
    · simp [h3]
    · have h4 : decide (n > 128) = false := by simpa using h3
      rw [h4]; simp [firstM]; omega
theorem firstAll {α : Type} {g : α → Int} : ∀ {l : List α}, firstM (l.map g) = 0 ↔ ∀ x ∈ l, g x = 0
  | [] => by simp [firstM]
  | x :: r => by rw [List.map_cons, firstZ, firstAll]; simp
def Ser (l : List Int) : Prop := 1 ≤ l.length ∧ l.length ≤ 128 ∧ ∀ x ∈ l, -16384 ≤ x ∧ x ≤ 16384
theorem seriesZ {l : List Int} : seriesM l = 0 ↔ Ser l := by
  rw [← seriesEq, firstZ, firstZ, manyZ, firstAll]
  have h1 : firstM [] = 0 := rfl
  unfold Ser unitM
  simp only [within_zero, h1, and_true, Int.ofNat_eq_natCast]
  constructor
  · rintro ⟨⟨h2, h3⟩, h4⟩; exact ⟨by omega, by omega, h4⟩
  · rintro ⟨h2, h3, h4⟩; exact ⟨⟨by omega, by omega⟩, h4⟩
theorem Ser.two {l : List Int} (h : Ser l) : l.length < two63 := by have := h.2.1; unfold two63; omega
theorem Ser.ble {l : List Int} (h : Ser l) : Nat.ble l.length lim = true := Nat.ble_eq_true_of_le (by have := h.2.1; unfold lim; omega)
/-! ### Counts above a level -/
def abvS (c : Int) (k : Nat) (x : Int) : Nat := bif decide (x ≥ c) then k + 1 else k
def abvM (l : List Int) (c : Int) : Int := Int.ofNat (l.foldl (abvS c) 0)
theorem abvS_le (c : Int) (k : Nat) (x : Int) {i : Nat} (h : k ≤ i) : abvS c k x ≤ i + 1 := by
  unfold abvS; cases decide (x ≥ c) with
  | true => show k + 1 ≤ i + 1; omega
  | false => show k ≤ i + 1; omega
theorem abvS_wrap {c : Int} {k i : Nat} (hk : k ≤ i) (hi : i < two63) : IntKind.i64.wrap (Int.ofNat k + 1) = Int.ofNat (k + 1) := wrap_succ (by unfold two63 at hi; omega)
def abvG : List AV → Option AV := sp2 intsC intC fun l c => bif Nat.ble l.length lim then some (intA (abvM l c)) else none
theorem h36 : Holds 36 abvG := holds2 fun l c r hr => by
  cases hb : Nat.ble l.length lim with
  | false => simp [hb] at hr
  | true =>
    simp only [hb, cond_true, Option.some.injEq] at hr; subst hr
    have hl := limTwo (Nat.le_of_ble_eq_true hb)
    have e := e_len intA l
    have h := LoopRun.list (C := CS T2) (p := 0) (nt := 22) (rd := false) (c := loopOf (CS T2) 36 0) (step := fun _ x k => (.inl (abvS c k x) : Nat ⊕ Nat)) (fin := id)
      (enc := fun i k => mkSt [0, 1, 5, 6] [] 22 [.rsl 1 (l.map intA) false, intA c, intA (Int.ofNat k), intA (Int.ofNat i)] []) (ex := fun _ => .exit 0) (out := fun k => mkSt [5] [] 22 [intA (Int.ofNat k)] []) (l := l) (fun i k => k ≤ i)
      (fun i x k hx hk => by
        have hi := lt_len hx
        refine ⟨T2_ok.rndN (r36 (l.map intA) c (Int.ofNat k) x i) ?_, abvS_le c k x hk⟩
        rw [e, lt_of hi, wrap_ix hi hl, abvS_wrap (c := c) hk (by omega)]
        refine ⟨get_map _ hx, ?_⟩
        unfold abvS
        cases decide (x ≥ c) with
        | true => exact ⟨trivial, rfl⟩
        | false => exact ⟨trivial, rfl⟩)
      (fun k _ => ⟨T2_ok.rndX (r36 (l.map intA) c (Int.ofNat k) 0 l.length) (by rw [e, lt_self]; exact ⟨trivial, rfl⟩), by simp⟩) l [] 0 rfl (Nat.le_refl 0)
    rw [goL_fold (fun _ k x => abvS c k x) id l _ 0 (fun _ _ _ _ => rfl)] at h
    exact T2_ok.tr (t36 (l.map intA) c (abvM l c)) ⟨⟨trivial, trivial, h.says⟩, rfl⟩
/-! ### The worth of a sum -/
def worOk (s n : Int) : Bool := decide (-3000000 ≤ s) && (decide (s ≤ 3000000) && (decide (1 ≤ n) && decide (n ≤ 1000000)))
theorem worOk_iff {s n : Int} : worOk s n = true ↔ (-3000000 ≤ s ∧ s ≤ 3000000) ∧ 1 ≤ n ∧ n ≤ 1000000 := by unfold worOk; simp; omega
theorem sq_bd {s : Int} (h : -3000000 ≤ s ∧ s ≤ 3000000) : 0 ≤ s * s ∧ s * s ≤ 9000000000000 := by
  have h1 : s * s = (s.natAbs : Int) * (s.natAbs : Int) := by rw [← Int.natAbs_mul_self']
  have h2 : s.natAbs ≤ 3000000 := by omega
  rw [h1]
  have h3 : s.natAbs * s.natAbs ≤ 3000000 * 3000000 := Nat.mul_le_mul h2 h2
  constructor
  · exact Int.mul_nonneg (by omega) (by omega)
  · have : ((s.natAbs * s.natAbs : Nat) : Int) ≤ ((3000000 * 3000000 : Nat) : Int) := Int.ofNat_le.2 h3
    rw [Int.natCast_mul] at this
    exact this
theorem specLow {a b : Int} (h : lowOk a b = true) : lowG [intA a, intA b] = some (p2A (lowM a b)) := by
  have h1 := sp2_at (A := intC) (B := intC) (F := fun a b => bif lowOk a b then some (p2A (lowM a b)) else none) a b
  rw [h] at h1; exact h1
theorem sqOk {s n : Int} (h : worOk s n = true) : IntKind.i64.wrap (s * s) = s * s ∧ lowOk (s * s) n = true := by
  rw [worOk_iff] at h
  have hs := sq_bd h.1
  refine ⟨wrap_in (by omega) (by omega), ?_⟩
  unfold lowOk
  simp only [Bool.and_eq_true, inN_iff, decide_eq_true_eq]
  omega
def worthG : List AV → Option AV := sp2 intC intC fun s n => bif worOk s n then some (p2A (worthM s n)) else none
theorem h97 : Holds 97 worthG := holds2 fun s n r hr => by
  cases hb : worOk s n with
  | false => simp [hb] at hr
  | true =>
    simp only [hb, cond_true, Option.some.injEq] at hr; subst hr
    obtain ⟨h1, h2⟩ := sqOk hb
    refine T2_ok.tr (t97 s n (lowM (s * s) n)) ?_
    rw [h1]
    unfold worthM
    cases decide (s ≤ 0) with
    | true => rfl
    | false => exact ⟨⟨rfl, specLow h2⟩, rfl⟩
/-! ### Sums of windows -/
def winI (l : List Int) (a b : Nat) : List Int := (l.drop a).take (b - a)
def winOk (l : List Int) (a b : Nat) : Bool := Nat.blt a b && Nat.ble b l.length
theorem winOk_iff {l : List Int} {a b : Nat} : winOk l a b = true ↔ a < b ∧ b ≤ l.length := by unfold winOk; simp [Nat.blt]; omega
theorem winI_len {l : List Int} {a b : Nat} (h : a < b ∧ b ≤ l.length) : (winI l a b).length = b - a := by unfold winI; simp; omega
theorem winI_get {l : List Int} {a b i : Nat} {x : Int} (h : (winI l a b)[i]? = some x) : l[a + i]? = some x ∧ i < b - a := by
  unfold winI at h
  rw [List.getElem?_take] at h
  split at h
  · rename_i hi
    rw [List.getElem?_drop] at h
    exact ⟨h, hi⟩
  · cases h
theorem winI_mem {l : List Int} {a b : Nat} {x : Int} (h : x ∈ winI l a b) : x ∈ l := List.mem_of_mem_drop (List.mem_of_mem_take h)
theorem sum_bd : ∀ {w : List Int} {s : Int} {i : Nat}, (∀ x ∈ w, -16384 ≤ x ∧ x ≤ 16384) → -(16384 * (i : Int)) ≤ s ∧ s ≤ 16384 * (i : Int) → -(16384 * ((i + w.length : Nat) : Int)) ≤ w.foldl (· + ·) s ∧ w.foldl (· + ·) s ≤ 16384 * ((i + w.length : Nat) : Int)
  | [], s, i, _, h => h
  | x :: r, s, i, hx, h => by
    have h1 := hx x (by simp)
    have := sum_bd (w := r) (s := s + x) (i := i + 1) (fun y hy => hx y (by simp [hy])) (by constructor <;> omega)
    rw [List.foldl_cons, List.length_cons, show i + (r.length + 1) = i + 1 + r.length by omega]
    exact this
theorem sumW {l : List Int} {a b : Nat} (h : Ser l) (hw : a < b ∧ b ≤ l.length) : worOk (sumM (winI l a b)) (Int.ofNat (b - a)) = true := by
  have h1 := sum_bd (w := winI l a b) (s := 0) (i := 0) (fun x hx => h.2.2 x (winI_mem hx)) (by omega)
  rw [winI_len hw] at h1
  have h2 := h.2.1
  rw [worOk_iff]
  unfold sumM
  simp only [Int.ofNat_eq_natCast]
  omega
def wthM (l : List Int) (a b : Nat) : P2 := worthM (sumM (winI l a b)) (Int.ofNat (b - a))
def natOf : Int → Nat
  | .ofNat n => n
  | .negSucc _ => 0
def wthOk (l : List Int) (s : P2) : Bool := seriesM l == 0 && winErr (Int.ofNat l.length) s == 0
theorem winZ {n : Nat} {s : P2} (h : winErr (Int.ofNat n) s = 0) : ∃ a b : Nat, s = (Int.ofNat a, Int.ofNat b) ∧ a < b ∧ b ≤ n := by
  obtain ⟨a, b⟩ := s
  have h1 := whenZ (by omega) h
  simp only [Bool.or_eq_false_iff, decide_eq_false_iff_not] at h1
  obtain ⟨h2, h3, h4⟩ := h1
  cases a with
  | negSucc a => exact absurd (Int.negSucc_lt_zero a) h2
  | ofNat a => cases b with
    | negSucc b => simp at h3; omega
    | ofNat b => exact ⟨a, b, rfl, by simp at h3; omega, by simp at h4; omega⟩
theorem winW {n a b : Nat} (h : a < b ∧ b ≤ n) : winErr (Int.ofNat n) (Int.ofNat a, Int.ofNat b) = 0 := by
  unfold winErr
  have h1 : decide ((Int.ofNat a, Int.ofNat b).1 < 0) = false := by simp
  have h2 : decide ((Int.ofNat a, Int.ofNat b).1 ≥ (Int.ofNat a, Int.ofNat b).2) = false := by simp; omega
  have h3 : decide ((Int.ofNat a, Int.ofNat b).2 > Int.ofNat n) = false := by simp; omega
  rw [h1, h2, h3]; rfl
def wthG : List AV → Option AV := sp2 intsC p2C fun l s => bif wthOk l s then some (p2A (wthM l (natOf s.1) (natOf s.2))) else none
theorem sub_nat {a b : Nat} (h : a ≤ b) (hb : b < two63) : IntKind.i64.wrap (Int.ofNat b - Int.ofNat a) = Int.ofNat (b - a) := by
  have : Int.ofNat b - Int.ofNat a = Int.ofNat (b - a) := by simp only [Int.ofNat_eq_natCast]; omega
  rw [this]; exact wrap_in (by simp only [Int.ofNat_eq_natCast]; omega) (by unfold two63 at hb; simp only [Int.ofNat_eq_natCast]; omega)
theorem wthZ {l : List Int} {s : P2} (h : wthOk l s = true) : Ser l ∧ ∃ a b : Nat, s = (Int.ofNat a, Int.ofNat b) ∧ a < b ∧ b ≤ l.length := by
  unfold wthOk at h
  simp only [Bool.and_eq_true, beq_iff_eq] at h
  exact ⟨seriesZ.1 h.1, winZ h.2⟩
theorem h27 : Holds 27 wthG := holds2 fun l s r hr => by
  cases hb : wthOk l s with
  | false => simp [hb] at hr
  | true =>
    simp only [hb, cond_true, Option.some.injEq] at hr; subst hr
    obtain ⟨hser, a, b, rfl, hab⟩ := wthZ hb
    have hl := hser.two
    have h := LoopRun.list (C := CS T2) (p := 0) (nt := 33) (rd := false) (c := loopOf (CS T2) 27 0) (step := fun _ x s => (.inl (s + x) : Int ⊕ Int)) (fin := id)
      (enc := fun i s => mkSt [0, 3, 4, 5, 6] [3, 4] 33 [.rsl 1 (l.map intA) false, .ptr 3 0 0, .ptr 4 1 0, intA s, intA (Int.ofNat (a + i))] [(false, .box [intA (Int.ofNat a), intA (Int.ofNat b)]), (false, .box [intA 0, intA 0])])
      (ex := fun _ => .exit 0) (out := fun s => mkSt [3, 4, 5] [3, 4] 33 [.ptr 3 0 0, .ptr 4 1 0, intA s] [(false, .box [intA (Int.ofNat a), intA (Int.ofNat b)]), (false, .box [intA 0, intA 0])]) (l := winI l a b) (fun i s => -(16384 * (i : Int)) ≤ s ∧ s ≤ 16384 * (i : Int))
      (fun i x s hx hs => by
        obtain ⟨h1, h2⟩ := winI_get hx
        have h3 := hser.2.2 x (List.mem_of_getElem? h1)
        have h4 := hser.2.1
        refine ⟨T2_ok.rndN (r27b (l.map intA) (Int.ofNat a) (Int.ofNat b) s x (a + i)) ?_, by constructor <;> omega⟩
        rw [lt_of (show a + i < b by omega), wrap_ix (show a + i < b by omega) (by omega), wrap_in (by omega) (by omega)]
        exact ⟨get_map _ h1, trivial, rfl⟩)
      (fun s _ => ⟨T2_ok.rndX (r27b (l.map intA) (Int.ofNat a) (Int.ofNat b) s 0 (a + (winI l a b).length)) (by rw [winI_len hab, show a + (b - a) = b by omega, lt_self]; exact ⟨trivial, rfl⟩), by simp⟩)
      (winI l a b) [] 0 rfl (by simp)
    rw [goL_fold (fun _ s x => s + x) id _ _ 0 (fun _ _ _ _ => rfl)] at h
    obtain ⟨h1, h2⟩ := sqOk (sumW hser hab)
    refine T2_ok.tr (t27 (l.map intA) (Int.ofNat a) (Int.ofNat b) (sumM (winI l a b)) (lowM (sumM (winI l a b) * sumM (winI l a b)) (Int.ofNat (b - a)))) ⟨⟨trivial, trivial, h.says⟩, ?_⟩
    rw [h1, sub_nat (by omega) (by omega)]
    show (bif _ then _ else _ : Dt AV).ok (p2A (worthM (sumM (winI l a b)) (Int.ofNat (b - a))))
    unfold worthM
    cases decide (sumM (winI l a b) ≤ 0) with
    | true => rfl
    | false => exact ⟨⟨rfl, specLow h2⟩, rfl⟩
/-! ### Checks of ratios, sums of two -/
theorem h26 : Holds 26 ratG := holds1 fun x r hr => by
  simp only [Option.some.injEq] at hr; subst hr
  refine T2_ok.tr (t26 x.1 x.2 (lowM x.1 x.2) (!((lowM x.1 x.2).1 == x.1 && ((lowM x.1 x.2).2 == x.2 && true)))) ?_
  unfold ratErr
  show (bif sizeErr x != 0 then _ else _ : Dt AV).ok _
  cases h : sizeErr x != 0 with
  | true => rfl
  | false =>
    have h0 : sizeErr x = 0 := by simpa using h
    rw [size_zero] at h0
    refine ⟨⟨rfl, specLow (by unfold lowOk; simp only [Bool.and_eq_true, inN_iff, decide_eq_true_eq]; omega)⟩, (eqRa T2 _ _ _ _ _ _).2, ?_⟩
    have := lowM_self (n := x.1) (d := x.2) (by omega)
    have h2 : ((lowM x.1 x.2).1 == x.1 && ((lowM x.1 x.2).2 == x.2 && true)) = (Int.gcd x.1 x.2 == 1) := by
      rw [← this, Bool.and_true]; rfl
    rw [h2]
    have h3 : (!(Int.gcd x.1 x.2 == 1)) = ((Int.gcd x.1 x.2 : Int) != 1) := by
      rw [Bool.eq_iff_iff]; simp; omega
    rw [h3]; rfl
def sumsOk (x y : Int) (k : P2) : Bool := decide (0 ≤ x) && (decide (x ≤ 1000000) && (decide (0 ≤ y) && (decide (y ≤ 1000000) && (limM k == 0))))
def sumsM (x y : Int) (k : P2) : P2 := lowM (x * k.2 + y * k.1) (k.1 * k.2)
def sumsG : List AV → Option AV := sp3 intC intC p2C fun x y k => bif sumsOk x y k then some (p2A (sumsM x y k)) else none
theorem limZ {k : P2} : limM k = 0 ↔ (1 ≤ k.1 ∧ k.1 ≤ 1000) ∧ 1 ≤ k.2 ∧ k.2 ≤ 1000 := by
  unfold limM
  rw [firstZ, firstZ, within_zero, within_zero]
  simp [firstM]
theorem mul_bd {x y a b : Int} (hx : 0 ≤ x ∧ x ≤ a) (hy : 0 ≤ y ∧ y ≤ b) : 0 ≤ x * y ∧ x * y ≤ a * b :=
  ⟨Int.mul_nonneg hx.1 hy.1, Int.mul_le_mul hx.2 hy.2 hy.1 (by omega)⟩
theorem h116 : Holds 116 sumsG := holds3 fun x y k r hr => by
  cases hb : sumsOk x y k with
  | false => simp [hb] at hr
  | true =>
    simp only [hb, cond_true, Option.some.injEq] at hr; subst hr
    unfold sumsOk at hb
    simp only [Bool.and_eq_true, decide_eq_true_eq, beq_iff_eq, limZ] at hb
    obtain ⟨h1, h2, h3, h4, h5⟩ := hb
    have e1 := mul_bd ⟨h1, h2⟩ ⟨by omega, h5.2.2⟩
    have e2 := mul_bd ⟨h3, h4⟩ ⟨by omega, h5.1.2⟩
    have e3 := mul_bd ⟨by omega, h5.1.2⟩ ⟨by omega, h5.2.2⟩
    have e4 : 1 ≤ k.1 * k.2 := by have := Int.mul_le_mul h5.1.1 h5.2.1 (by omega) (by omega); omega
    refine T2_ok.tr (t116 x y k.1 k.2 (sumsM x y k)) ?_
    rw [wrap_in (n := x * k.2) (by omega) (by omega), wrap_in (n := y * k.1) (by omega) (by omega), wrap_in (n := k.1 * k.2) (by omega) (by omega), wrap_in (by omega) (by omega)]
    exact ⟨⟨rfl, specLow (by unfold lowOk; simp only [Bool.and_eq_true, inN_iff, decide_eq_true_eq]; omega)⟩, rfl⟩
def T3 : Specs := (((((T2.set 38 seriesG).set 36 abvG).set 97 worthG).set 27 wthG).set 26 ratG).set 116 sumsG
theorem T3_ok : Ok T3 := (((((T2_ok.set h38).set h36).set h97).set h27).set h26).set h116
end Go.Vm.S6
