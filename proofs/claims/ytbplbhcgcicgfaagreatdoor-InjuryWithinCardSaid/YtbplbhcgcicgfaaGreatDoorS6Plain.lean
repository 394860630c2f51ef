/- Plain laws: searches over windows, ratios in lowest terms, held levels. -/
import Derived.Test.YtbplbhcgcicgfaaGreatDoorS6T2
namespace Go.Vm.S6
abbrev Ra : Type := Int × Int
abbrev Sp : Type := Int × Int
def cmpM (a b : Ra) : Int := bif decide (a.1 * b.2 < b.1 * a.2) then -1 else bif decide (a.1 * b.2 > b.1 * a.2) then 1 else 0
def sumM (l : List Int) : Int := l.foldl (· + ·) 0
def worthM (s n : Int) : Ra := bif decide (s ≤ 0) then (0, 1) else lowM (s * s) n
abbrev BW : Type := Bool × Sp × Ra
def pickM (is : Bool) (w : Sp × Ra) (st : BW) : BW := bif is && (!st.1 || decide (cmpM w.2 st.2.2 > 0)) then (true, w) else st
def winM (l : List Int) (f n : Nat) : Sp × Ra := ((Int.ofNat f, Int.ofNat (f + n)), worthM (sumM ((l.drop f).take n)) (Int.ofNat n))
def bw0 : BW := (false, (0, 0), (0, 0))
/-- The program's search: all lengths from 1 on. -/
def bestM (is : Nat → Nat → Bool) (l : List Int) (lo hi : Nat) : BW :=
  (List.range l.length).foldl (fun st f => (List.range' 1 (min hi (l.length - f))).foldl (fun st n => bif decide (n < lo) then st else pickM (is f n) (winM l f n) st) st) bw0
/-- The reference's. -/
def bestR (l : List Int) (lo hi : Nat) : BW :=
  (List.range l.length).foldl (fun st f => (List.range' lo (min hi (l.length - f) + 1 - lo)).foldl (fun st n => pickM true (winM l f n) st) st) bw0
theorem foldl_skip {α β : Type} (p : α → Bool) (g : β → α → β) : ∀ (l : List α) (s : β), (∀ x ∈ l, p x = true) → l.foldl (fun s x => bif p x then s else g s x) s = s
  | [], _, _ => rfl
  | x :: r, s, h => by
    rw [List.foldl_cons, h x (by simp)]
    exact foldl_skip p g r s (fun y hy => h y (by simp [hy]))
theorem foldl_go {α β : Type} (p : α → Bool) (g : β → α → β) : ∀ (l : List α) (s : β), (∀ x ∈ l, p x = false) → l.foldl (fun s x => bif p x then s else g s x) s = l.foldl g s
  | [], _, _ => rfl
  | x :: r, s, h => by
    rw [List.foldl_cons, List.foldl_cons, h x (by simp)]
    exact foldl_go p g r _ (fun y hy => h y (by simp [hy]))
theorem foldl_from {β : Type} (g : β → Nat → β) (lo k : Nat) (hlo : 1 ≤ lo) (s : β) : (List.range' 1 k).foldl (fun s n => bif decide (n < lo) then s else g s n) s = (List.range' lo (k + 1 - lo)).foldl g s := by
  by_cases h : lo ≤ k
  · have e : List.range' 1 k = List.range' 1 (lo - 1) ++ List.range' lo (k + 1 - lo) := by
      have := List.range'_append (s := 1) (m := lo - 1) (n := k + 1 - lo) (step := 1)
      rw [show 1 + 1 * (lo - 1) = lo by omega, show lo - 1 + (k + 1 - lo) = k by omega] at this
      exact this.symm
    rw [e, List.foldl_append, foldl_skip (fun n => decide (n < lo)) g (List.range' 1 (lo - 1)) s (fun x hx => by rw [List.mem_range'_1] at hx; simp; omega),
      foldl_go (fun n => decide (n < lo)) g _ _ (fun x hx => by rw [List.mem_range'_1] at hx; simp; omega)]
  · rw [foldl_skip (fun n => decide (n < lo)) g, show k + 1 - lo = 0 by omega]
    · rfl
    · intro x hx; rw [List.mem_range'_1] at hx; simp; omega
theorem best_eq (l : List Int) (lo hi : Nat) (h : 1 ≤ lo) : bestM (fun _ _ => true) l lo hi = bestR l lo hi := by
  unfold bestM bestR
  congr 1
  funext st f
  exact foldl_from (fun st n => pickM true (winM l f n) st) lo _ h st
/-! ### Ratios in lowest terms -/
theorem lowM_self {n d : Int} (hd : 1 ≤ d) : (lowM n d == (n, d)) = (Int.gcd n d == 1) := by
  rw [Bool.eq_iff_iff, beq_iff_eq, beq_iff_eq]
  unfold lowM
  constructor
  · intro h
    have h2 : d / (Int.gcd n d : Int) = d := congrArg Prod.snd h
    have hg : 0 < Int.gcd n d := Int.gcd_pos_of_ne_zero_right _ (by omega)
    have hdv : (Int.gcd n d : Int) ∣ d := Int.gcd_dvd_right ..
    obtain ⟨c, hc⟩ := hdv
    by_cases h1 : Int.gcd n d = 1
    · exact h1
    · exfalso
      have hlt : d / (Int.gcd n d : Int) < d := by
        rw [Int.ediv_lt_iff_lt_mul (by omega)]
        have : d * 1 < d * (Int.gcd n d : Int) := Int.mul_lt_mul_of_pos_left (by omega) (by omega)
        omega
      omega
  · intro h; rw [h]; simp
/-! ### Longest -/
theorem goL_cons {α σ τ : Type} (step : Nat → α → σ → σ ⊕ τ) (fin : σ → τ) (i : Nat) (x : α) (r : List α) (s : σ) : goL step fin i (x :: r) s = match step i x s with
    | .inl s' => goL step fin (i + 1) r s'
    | .inr t => t := rfl
/-! ### Held -/
def minW (l : List Int) (f n : Nat) : Int := minM ((l.drop f).take n)
/-- The program keeps where the window begins. -/
def heldP (l : List Int) (n : Nat) : Int × Int := (List.range (l.length - n + 1)).foldl (fun st f => bif decide (minW l f n > st.1) then (minW l f n, Int.ofNat f) else st) (-16385, 0)
theorem foldl_min_ge (b : Int) : ∀ (l : List Int) (x : Int), b ≤ x → (∀ y ∈ l, b ≤ y) → b ≤ l.foldl min x
  | [], x, h, _ => h
  | y :: r, x, h, k => foldl_min_ge b r (min x y) (by have := k y (by simp); omega) (fun z hz => k z (by simp [hz]))
theorem minW_ge {l : List Int} {f n : Nat} (b : Int) (hb : b ≤ 0) (h : ∀ x ∈ l, b ≤ x) : b ≤ minW l f n := by
  unfold minW
  cases hl : (l.drop f).take n with
  | nil => exact hb
  | cons x r =>
    have hm : ∀ y ∈ x :: r, b ≤ y := fun y hy => h y (by rw [← hl] at hy; exact List.mem_of_mem_drop (List.mem_of_mem_take hy))
    exact foldl_min_ge b r x (hm x (by simp)) (fun y hy => hm y (by simp [hy]))
/-! ### Combined -/
abbrev MI : Type := Int × Int
/-- The greatest number and its index: the program begins below all. -/
def mostP : List Int → Nat → MI → MI
  | [], _, s => s
  | x :: r, i, s => mostP r (i + 1) (bif decide (x > s.1) then (x, Int.ofNat i) else s)
theorem cmp_gt {a b : Ra} : decide (cmpM a b > 0) = decide (a.1 * b.2 > b.1 * a.2) := by
  unfold cmpM
  rw [decide_eq_decide]
  by_cases h : a.1 * b.2 < b.1 * a.2
  · have : decide (a.1 * b.2 < b.1 * a.2) = true := by simpa using h
    rw [this]; simp; omega
  · have : decide (a.1 * b.2 < b.1 * a.2) = false := by simpa using h
    rw [this]
    by_cases h2 : a.1 * b.2 > b.1 * a.2
    · have : decide (a.1 * b.2 > b.1 * a.2) = true := by simpa using h2
      rw [this]; simp; omega
    · have : decide (a.1 * b.2 > b.1 * a.2) = false := by simpa using h2
      rw [this]; simp; omega
/-! ### Bounds -/
theorem worth_num {s n : Int} (_hn : 1 ≤ n) : 0 ≤ (worthM s n).1 ∧ ((worthM s n).1 = 0 → worthM s n = (0, 1)) := by
  unfold worthM
  by_cases h : s ≤ 0
  · have : decide (s ≤ 0) = true := by simpa using h
    rw [this]; exact ⟨Int.le_refl _, fun _ => rfl⟩
  · have : decide (s ≤ 0) = false := by simpa using h
    rw [this, cond_false]
    have hs : 0 < s * s := Int.mul_pos (by omega) (by omega)
    have hg : 0 < Int.gcd (s * s) n := Int.gcd_pos_of_ne_zero_left _ (by omega)
    have hp : 0 < (lowM (s * s) n).1 := by
      unfold lowM
      obtain ⟨a, ha⟩ : (Int.gcd (s * s) n : Int) ∣ s * s := Int.gcd_dvd_left ..
      have : s * s / (Int.gcd (s * s) n : Int) = a := by
        have : s * s / (Int.gcd (s * s) n : Int) = (Int.gcd (s * s) n : Int) * a / (Int.gcd (s * s) n : Int) := by rw [← ha]
        rw [this]; exact Int.mul_ediv_cancel_left _ (by omega)
      dsimp only
      rw [this]
      rcases Int.lt_or_le 0 a with h | h
      · exact h
      · have := Int.mul_nonpos_of_nonneg_of_nonpos (a := (Int.gcd (s * s) n : Int)) (b := a) (by omega) h; omega
    exact ⟨by omega, fun h => by omega⟩
/-- The reference begins with 0. -/
def lowStep (is : Bool) (w : Ra) (st : Ra) : Ra := bif is && decide (cmpM w st > 0) then w else st
def lowR (is : Nat → Nat → Bool) (l : List Int) (lo hi : Nat) : Ra :=
  (List.range l.length).foldl (fun st f => (List.range' lo (min hi (l.length - f) + 1 - lo)).foldl (fun st n => lowStep (is f n) (winM l f n).2 st) st) (0, 1)
def lowOf (b : BW) : Ra := bif b.1 then b.2.2 else (0, 1)
theorem low_step {is : Bool} {w : Sp × Ra} {b : BW} (h0 : 0 ≤ w.2.1) (h1 : w.2.1 = 0 → w.2 = (0, 1)) : lowOf (pickM is w b) = lowStep is w.2 (lowOf b) := by
  unfold pickM lowStep lowOf
  cases is with
  | false => rfl
  | true =>
    simp only [Bool.true_and]
    cases hb : b.1 with
    | true =>
      simp only [Bool.not_true, Bool.false_or, cond_true]
      cases decide (cmpM w.2 b.2.2 > 0) with
      | true => rfl
      | false => simp [hb]
    | false =>
      simp only [Bool.not_false, Bool.true_or, cond_true, cond_false]
      by_cases hz : w.2.1 = 0
      · rw [h1 hz]; rfl
      · have : decide (cmpM w.2 (0, 1) > 0) = true := by rw [cmp_gt]; simp; omega
        rw [this]; rfl
theorem foldl_map2 {α β γ : Type} (f : β → γ) (g : β → α → β) (h : γ → α → γ) : ∀ (l : List α) (s : β), (∀ s x, x ∈ l → f (g s x) = h (f s) x) → f (l.foldl g s) = l.foldl h (f s)
  | [], _, _ => rfl
  | x :: r, s, k => by
    rw [List.foldl_cons, List.foldl_cons, ← k s x (by simp)]
    exact foldl_map2 f g h r _ (fun s y hy => k s y (by simp [hy]))
theorem low_eq (is : Nat → Nat → Bool) (l : List Int) (lo hi : Nat) (h : 1 ≤ lo) : lowOf (bestM is l lo hi) = lowR is l lo hi := by
  unfold bestM lowR
  refine (foldl_map2 lowOf _ (fun st f => (List.range' lo (min hi (l.length - f) + 1 - lo)).foldl (fun st n => lowStep (is f n) (winM l f n).2 st) st) _ _ (fun st f _ => ?_)).trans rfl
  rw [foldl_from (fun st n => pickM (is f n) (winM l f n) st) lo _ h]
  refine foldl_map2 lowOf _ _ _ _ (fun s n hn => ?_)
  rw [List.mem_range'_1] at hn
  have := worth_num (s := sumM ((l.drop f).take n)) (n := Int.ofNat n) (by simp only [Int.ofNat_eq_natCast]; omega)
  exact low_step this.1 this.2
/-! ### The held level of a trace: low, high, under, over -/
abbrev Va : Type := Int × Int × Bool × Bool
def lowV (v : Va) : Int := v.1
def highV (v : Va) : Int := v.2.1
def underV (v : Va) : Bool := v.2.2.1
def overV (v : Va) : Bool := v.2.2.2
def adjV (v : Va) : Int := bif underV v then -16384 else lowV v
theorem minM_le {l : List Int} {x : Int} (h : x ∈ l) : minM l ≤ x := by
  have key : ∀ (r : List Int) (a : Int), r.foldl min a ≤ a ∧ ∀ y ∈ r, r.foldl min a ≤ y := by
    intro r
    induction r with
    | nil => intro a; exact ⟨Int.le_refl _, fun y hy => by simp at hy⟩
    | cons b r ih =>
      intro a
      obtain ⟨h1, h2⟩ := ih (min a b)
      refine ⟨Int.le_trans h1 (Int.min_le_left _ _), fun y hy => ?_⟩
      rw [List.foldl_cons]
      rcases List.mem_cons.1 hy with rfl | hy
      · exact Int.le_trans h1 (Int.min_le_right _ _)
      · exact h2 y hy
  cases l with
  | nil => simp at h
  | cons a r =>
    rcases List.mem_cons.1 h with rfl | h
    · exact (key r x).1
    · exact (key r a).2 x h
end Go.Vm.S6
