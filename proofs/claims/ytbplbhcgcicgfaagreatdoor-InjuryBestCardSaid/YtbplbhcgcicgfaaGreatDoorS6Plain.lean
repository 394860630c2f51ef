/- Plain laws: searches over windows, ratios in lowest terms, held levels. -/
import Derived.Test.YtbplbhcgcicgfaaGreatDoorS6T2
namespace Go.Vm.S6
abbrev Ra : Type := Int × Int
abbrev Sp : Type := Int × Int
def cmpM (a b : Ra) : Int := bif decide (a.1 * b.2 < b.1 * a.2) then -1 else bif decide (a.1 * b.2 > b.1 * a.2) then 1 else 0
def sumM (l : List Int) : Int := l.foldl (· + ·) 0
def worthM (s n : Int) : Ra := bif decide (s ≤ 0) then (0, 1) else lowM (s * s) n
abbrev BW : Type := Bool × Sp × Ra
def pickM (is : Bool) (w : Sp × Ra) (st : BW) : BW := bif is && (!st.1 || decide (cmpM w.2 st.2.2 > 0)) then (true, w) else st
def winM (l : List Int) (f n : Nat) : Sp × Ra := ((Int.ofNat f, Int.ofNat (f + n)), worthM (sumM ((l.drop f).take n)) (Int.ofNat n))
def bw0 : BW := (false, (0, 0), (0, 0))
/-- The program's search: all lengths from 1 on. -/
def bestM (is : Nat → Nat → Bool) (l : List Int) (lo hi : Nat) : BW :=
  (List.range l.length).foldl (fun st f => (List.range' 1 (min hi (l.length - f))).foldl (fun st n => bif decide (n < lo) then st else pickM (is f n) (winM l f n) st) st) bw0
/-- The reference's. -/
def bestR (l : List Int) (lo hi : Nat) : BW :=
  (List.range l.length).foldl (fun st f => (List.range' lo (min hi (l.length - f) + 1 - lo)).foldl (fun st n => pickM true (winM l f n) st) st) bw0
theorem foldl_skip {α β : Type} (p : α → Bool) (g : β → α → β) : ∀ (l : List α) (s : β), (∀ x ∈ l, p x = true) → l.foldl (fun s x => bif p x then s else g s x) s = s
  | [], _, _ => rfl
  | x :: r, s, h => by
    rw [List.foldl_cons, h x (by simp)]
    exact foldl_skip p g r s (fun y hy => h y (by simp [hy]))
theorem foldl_go {α β : Type} (p : α → Bool) (g : β → α → β) : ∀ (l : List α) (s : β), (∀ x ∈ l, p x = false) → l.foldl (fun s x => bif p x then s else g s x) s = l.foldl g s
  | [], _, _ => rfl
  | x :: r, s, h => by
    rw [List.foldl_cons, List.foldl_cons, h x (by simp)]
    exact foldl_go p g r _ (fun y hy => h y (by simp [hy]))
theorem foldl_from {β : Type} (g : β → Nat → β) (lo k : Nat) (hlo : 1 ≤ lo) (s : β) : (List.range' 1 k).foldl (fun s n => bif decide (n < lo) then s else g s n) s = (List.range' lo (k + 1 - lo)).foldl g s := by
  by_cases h : lo ≤ k
  · have e : List.range' 1 k = List.range' 1 (lo - 1) ++ List.range' lo (k + 1 - lo) := by
      have := List.range'_append (s := 1) (m := lo - 1) (n := k + 1 - lo) (step := 1)
      rw [show 1 + 1 * (lo - 1) = lo by omega, show lo - 1 + (k + 1 - lo) = k by omega] at this
      exact this.symm
    rw [e, List.foldl_append, foldl_skip (fun n => decide (n < lo)) g (List.range' 1 (lo - 1)) s (fun x hx => by rw [List.mem_range'_1] at hx; simp; omega),
      foldl_go (fun n => decide (n < lo)) g _ _ (fun x hx => by rw [List.mem_range'_1] at hx; simp; omega)]
  · rw [foldl_skip (fun n => decide (n < lo)) g, show k + 1 - lo = 0 by omega]
    · rfl
    · intro x hx; rw [List.mem_range'_1] at hx; simp; omega
theorem best_eq (l : List Int) (lo hi : Nat) (h : 1 ≤ lo) : bestM (fun _ _ => true) l lo hi = bestR l lo hi := by
  unfold bestM bestR
  congr 1
  funext st f
  exact foldl_from (fun st n => pickM true (winM l f n) st) lo _ h st
/-! ### Ratios in lowest terms -/
theorem lowM_self {n d : Int} (hd : 1 ≤ d) : (lowM n d == (n, d)) = (Int.gcd n d == 1) := by
  rw [Bool.eq_iff_iff, beq_iff_eq, beq_iff_eq]
  unfold lowM
  constructor
  · intro h
    have h2 : d / (Int.gcd n d : Int) = d := congrArg Prod.snd h
    have hg : 0 < Int.gcd n d := Int.gcd_pos_of_ne_zero_right _ (by omega)
    have hdv : (Int.gcd n d : Int) ∣ d := Int.gcd_dvd_right ..
    obtain ⟨c, hc⟩ := hdv
    by_cases h1 : Int.gcd n d = 1
    · exact h1
    · exfalso
      have hlt : d / (Int.gcd n d : Int) < d := by
        rw [Int.ediv_lt_iff_lt_mul (by omega)]
        have : d * 1 < d * (Int.gcd n d : Int) := Int.mul_lt_mul_of_pos_left (by omega) (by omega)
        omega
      omega
  · intro h; rw [h]; simp
/-! ### Longest -/
def lenS (s : Sp) : Int := s.2 - s.1
def longStep (level : Int) (f : Nat) (i : Nat) (x : Int) (out : Sp) : Sp ⊕ Sp :=
  bif decide (x < level) then .inr out else .inl (bif decide (Int.ofNat (i + 1) > lenS out) then (Int.ofNat f, Int.ofNat (f + (i + 1))) else out)
def longP (l : List Int) (level : Int) : Sp := (List.range l.length).foldl (fun out f => goL (longStep level f) id 0 (l.drop f) out) (0, 0)
def runL (level : Int) : List Int → Nat
  | [] => 0
  | x :: r => bif decide (x ≥ level) then runL level r + 1 else 0
def longR (l : List Int) (level : Int) : Sp := (List.range l.length).foldl (fun out f => bif decide (Int.ofNat (runL level (l.drop f)) > lenS out) then (Int.ofNat f, Int.ofNat (f + runL level (l.drop f))) else out) (0, 0)
theorem goL_cons {α σ τ : Type} (step : Nat → α → σ → σ ⊕ τ) (fin : σ → τ) (i : Nat) (x : α) (r : List α) (s : σ) : goL step fin i (x :: r) s = match step i x s with
    | .inl s' => goL step fin (i + 1) r s'
    | .inr t => t := rfl
theorem long_in (level : Int) (f : Nat) : ∀ (r : List Int) (i : Nat) (out : Sp), Int.ofNat i ≤ lenS out →
    goL (longStep level f) id i r out = bif decide (Int.ofNat (i + runL level r) > lenS out) then (Int.ofNat f, Int.ofNat (f + (i + runL level r))) else out
  | [], i, out, h => by
    unfold goL runL
    have : decide (Int.ofNat (i + 0) > lenS out) = false := by simp only [Int.ofNat_eq_natCast] at *; simp; omega
    rw [this]; rfl
  | x :: r, i, out, h => by
    rw [goL_cons]
    unfold runL
    by_cases hx : x < level
    · have h1 : decide (x < level) = true := by simpa using hx
      have h2 : decide (x ≥ level) = false := by simp; omega
      have hs : longStep level f i x out = .inr out := by unfold longStep; rw [h1]; rfl
      rw [hs, h2]
      have : decide (Int.ofNat (i + 0) > lenS out) = false := by simp only [Int.ofNat_eq_natCast] at *; simp; omega
      simp only [cond_false, this]
    · have h1 : decide (x < level) = false := by simpa using hx
      have h2 : decide (x ≥ level) = true := by simp; omega
      rw [h2]
      by_cases hl : Int.ofNat (i + 1) > lenS out
      · have h3 : decide (Int.ofNat (i + 1) > lenS out) = true := by simpa using hl
        have hs : longStep level f i x out = .inl (Int.ofNat f, Int.ofNat (f + (i + 1))) := by unfold longStep; rw [h1, h3]; rfl
        rw [hs]
        dsimp only
        rw [long_in level f r (i + 1) (Int.ofNat f, Int.ofNat (f + (i + 1))) (by unfold lenS; simp only [Int.ofNat_eq_natCast]; omega)]
        have h4 : decide (Int.ofNat (i + (runL level r + 1)) > lenS out) = true := by simp only [Int.ofNat_eq_natCast, decide_eq_true_eq] at *; omega
        rw [cond_true, h4, cond_true]
        rw [show i + (runL level r + 1) = i + 1 + runL level r by omega]
        cases hd : decide (Int.ofNat (i + 1 + runL level r) > lenS (Int.ofNat f, Int.ofNat (f + (i + 1)))) with
        | true => rfl
        | false =>
          have hd := of_decide_eq_false hd
          simp only [lenS, Int.ofNat_eq_natCast] at hd
          have : runL level r = 0 := by omega
          rw [this]; rfl
      · have h3 : decide (Int.ofNat (i + 1) > lenS out) = false := by simpa using hl
        have hs : longStep level f i x out = .inl out := by unfold longStep; rw [h1, h3]; rfl
        rw [hs]
        dsimp only
        rw [long_in level f r (i + 1) out (by simp only [Int.ofNat_eq_natCast] at *; omega), cond_true]
        rw [show i + (runL level r + 1) = i + 1 + runL level r by omega]
theorem foldl_inv {α β : Type} {P : β → Prop} (g h : β → α → β) : ∀ (l : List α) (s : β), P s → (∀ s x, P s → P (h s x)) → (∀ s x, P s → g s x = h s x) → l.foldl g s = l.foldl h s
  | [], _, _, _, _ => rfl
  | x :: r, s, hp, h1, h2 => by
    rw [List.foldl_cons, List.foldl_cons, h2 s x hp]
    exact foldl_inv g h r _ (h1 s x hp) h1 h2
theorem long_eq (l : List Int) (level : Int) : longP l level = longR l level := by
  unfold longP longR
  refine foldl_inv (P := fun out => 0 ≤ lenS out) _ _ _ _ (by simp [lenS]) (fun s f hs => ?_) (fun s f hs => ?_)
  · cases h : decide (Int.ofNat (runL level (l.drop f)) > lenS s) with
    | true => simp only [cond_true, lenS, Int.ofNat_eq_natCast]; omega
    | false => simpa using hs
  · have := long_in level f (l.drop f) 0 s (by simpa using hs)
    simpa using this
/-! ### Held -/
def minW (l : List Int) (f n : Nat) : Int := minM ((l.drop f).take n)
/-- The program keeps where the window begins. -/
def heldP (l : List Int) (n : Nat) : Int × Int := (List.range (l.length - n + 1)).foldl (fun st f => bif decide (minW l f n > st.1) then (minW l f n, Int.ofNat f) else st) (-16385, 0)
def heldR (l : List Int) (n : Nat) : Int × Sp := (List.range (l.length - n + 1)).foldl (fun st f => bif decide (minW l f n > st.1) then (minW l f n, (Int.ofNat f, Int.ofNat (f + n))) else st) (-16385, (0, 0))
theorem held_step (l : List Int) (n : Nat) : ∀ (r : List Nat) (a : Int) (f : Int),
    r.foldl (fun st f => bif decide (minW l f n > st.1) then (minW l f n, (Int.ofNat f, Int.ofNat (f + n))) else st) (a, (f, f + Int.ofNat n)) =
      ((r.foldl (fun st f => bif decide (minW l f n > st.1) then (minW l f n, Int.ofNat f) else st) (a, f)).1, ((r.foldl (fun st f => bif decide (minW l f n > st.1) then (minW l f n, Int.ofNat f) else st) (a, f)).2, (r.foldl (fun st f => bif decide (minW l f n > st.1) then (minW l f n, Int.ofNat f) else st) (a, f)).2 + Int.ofNat n))
  | [], _, _ => rfl
  | x :: r, a, f => by
    rw [List.foldl_cons, List.foldl_cons]
    cases h : decide (minW l x n > a) with
    | true =>
      simp only [cond_true]
      have := held_step l n r (minW l x n) (Int.ofNat x)
      simpa using this
    | false => simp only [cond_false]; exact held_step l n r a f
theorem foldl_min_ge (b : Int) : ∀ (l : List Int) (x : Int), b ≤ x → (∀ y ∈ l, b ≤ y) → b ≤ l.foldl min x
  | [], x, h, _ => h
  | y :: r, x, h, k => foldl_min_ge b r (min x y) (by have := k y (by simp); omega) (fun z hz => k z (by simp [hz]))
theorem minW_ge {l : List Int} {f n : Nat} (b : Int) (hb : b ≤ 0) (h : ∀ x ∈ l, b ≤ x) : b ≤ minW l f n := by
  unfold minW
  cases hl : (l.drop f).take n with
  | nil => exact hb
  | cons x r =>
    have hm : ∀ y ∈ x :: r, b ≤ y := fun y hy => h y (by rw [← hl] at hy; exact List.mem_of_mem_drop (List.mem_of_mem_take hy))
    exact foldl_min_ge b r x (hm x (by simp)) (fun y hy => hm y (by simp [hy]))
theorem held_eq (l : List Int) (n : Nat) (h : ∀ x ∈ l, -16384 ≤ x) : heldR l n = ((heldP l n).1, ((heldP l n).2, (heldP l n).2 + Int.ofNat n)) := by
  unfold heldR heldP
  rw [List.range_succ_eq_map, List.foldl_cons, List.foldl_cons]
  have h0 : decide (minW l 0 n > -16385) = true := by
    have := minW_ge (l := l) (f := 0) (n := n) (-16384) (by omega) h
    simp; omega
  simp only [h0, cond_true]
  have := held_step l n (List.map Nat.succ (List.range (l.length - n))) (minW l 0 n) 0
  simpa using this
/-! ### Combined -/
abbrev MI : Type := Int × Int
/-- The greatest number and its index: the program begins below all. -/
def mostP : List Int → Nat → MI → MI
  | [], _, s => s
  | x :: r, i, s => mostP r (i + 1) (bif decide (x > s.1) then (x, Int.ofNat i) else s)
/-- The reference compares ratios with one divisor, in lowest terms. -/
def ratP (d : Int) : List Int → Nat → Ra × Int → Ra × Int
  | [], _, s => s
  | x :: r, i, s => ratP d r (i + 1) (bif (Nat.beq i 0) || decide (cmpM (lowM x d) s.1 > 0) then (lowM x d, Int.ofNat i) else s)
theorem cmp_gt {a b : Ra} : decide (cmpM a b > 0) = decide (a.1 * b.2 > b.1 * a.2) := by
  unfold cmpM
  rw [decide_eq_decide]
  by_cases h : a.1 * b.2 < b.1 * a.2
  · have : decide (a.1 * b.2 < b.1 * a.2) = true := by simpa using h
    rw [this]; simp; omega
  · have : decide (a.1 * b.2 < b.1 * a.2) = false := by simpa using h
    rw [this]
    by_cases h2 : a.1 * b.2 > b.1 * a.2
    · have : decide (a.1 * b.2 > b.1 * a.2) = true := by simpa using h2
      rw [this]; simp; omega
    · have : decide (a.1 * b.2 > b.1 * a.2) = false := by simpa using h2
      rw [this]; simp; omega
/-- Ratios with one divisor are compared by their numbers. -/
theorem cmp_low {x y d : Int} (hd : 0 < d) : ((lowM x d).1 * (lowM y d).2 > (lowM y d).1 * (lowM x d).2) ↔ x > y := by
  unfold lowM
  have g1 : 0 < Int.gcd x d := Int.gcd_pos_of_ne_zero_right _ (by omega)
  have g2 : 0 < Int.gcd y d := Int.gcd_pos_of_ne_zero_right _ (by omega)
  obtain ⟨a, ha⟩ : (Int.gcd x d : Int) ∣ x := Int.gcd_dvd_left ..
  obtain ⟨b, hb⟩ : (Int.gcd x d : Int) ∣ d := Int.gcd_dvd_right ..
  obtain ⟨c, hc⟩ : (Int.gcd y d : Int) ∣ y := Int.gcd_dvd_left ..
  obtain ⟨e, he⟩ : (Int.gcd y d : Int) ∣ d := Int.gcd_dvd_right ..
  generalize hG : (Int.gcd x d : Int) = G at *
  generalize hK : (Int.gcd y d : Int) = K at *
  have hGp : 0 < G := by omega
  have hKp : 0 < K := by omega
  have q1 : x / G = a := by rw [ha]; exact Int.mul_ediv_cancel_left _ (by omega)
  have q2 : d / G = b := by rw [hb]; exact Int.mul_ediv_cancel_left _ (by omega)
  have q3 : y / K = c := by rw [hc]; exact Int.mul_ediv_cancel_left _ (by omega)
  have q4 : d / K = e := by
    have : d / K = K * e / K := by rw [← he]
    rw [this]; exact Int.mul_ediv_cancel_left _ (by omega)
  dsimp only
  rw [q1, q2, q3, q4]
  have hbp : 0 < b := by
    rcases Int.lt_or_le 0 b with h | h
    · exact h
    · have := Int.mul_nonpos_of_nonneg_of_nonpos (a := G) (b := b) (by omega) h; omega
  have hep : 0 < e := by
    rcases Int.lt_or_le 0 e with h | h
    · exact h
    · have := Int.mul_nonpos_of_nonneg_of_nonpos (a := K) (b := e) (by omega) h; omega
  -- a * e > c * b, times d = G b = K e
  have k1 : a * e * (G * K) = x * (K * e) := by rw [ha]; rw [Int.mul_assoc, Int.mul_comm G a, Int.mul_assoc]; congr 1; rw [Int.mul_left_comm, Int.mul_comm e K]
  have k2 : c * b * (G * K) = y * (G * b) := by rw [hc]; rw [Int.mul_assoc, Int.mul_comm K c, Int.mul_assoc]; congr 1; rw [Int.mul_comm G K, Int.mul_left_comm, Int.mul_comm b G]
  have hGK : 0 < G * K := Int.mul_pos hGp hKp
  constructor
  · intro h
    have : c * b * (G * K) < a * e * (G * K) := Int.mul_lt_mul_of_pos_right h hGK
    rw [k1, k2, ← he, ← hb] at this
    exact Int.lt_of_mul_lt_mul_right this (by omega)
  · intro h
    have : y * d < x * d := Int.mul_lt_mul_of_pos_right h hd
    have h2 : c * b * (G * K) < a * e * (G * K) := by rw [k1, k2, ← he, ← hb]; exact this
    exact Int.lt_of_mul_lt_mul_right h2 (by omega)
theorem rat_step {d : Int} (hd : 0 < d) : ∀ (r : List Int) (i : Nat) (n : Int) (k : Int), ratP d r (i + 1) (lowM n d, k) = (lowM (mostP r (i + 1) (n, k)).1 d, (mostP r (i + 1) (n, k)).2)
  | [], _, _, _ => rfl
  | x :: r, i, n, k => by
    unfold ratP mostP
    have h0 : Nat.beq (i + 1) 0 = false := rfl
    have h1 : decide (cmpM (lowM x d) (lowM n d) > 0) = decide (x > n) := by rw [cmp_gt, decide_eq_decide]; exact cmp_low hd
    rw [h0, Bool.false_or]
    dsimp only
    rw [h1]
    cases decide (x > n) with
    | true => exact rat_step hd r (i + 1) x (Int.ofNat (i + 1))
    | false => exact rat_step hd r (i + 1) n k
theorem rat_eq {d : Int} (hd : 0 < d) {l : List Int} (hl : l ≠ []) (h : ∀ x ∈ l, 0 ≤ x) (s : Ra × Int) : ratP d l 0 s = (lowM (mostP l 0 (-1, 0)).1 d, (mostP l 0 (-1, 0)).2) := by
  cases l with
  | nil => exact absurd rfl hl
  | cons x r =>
    unfold ratP mostP
    have : decide (x > -1) = true := by have := h x (by simp); simp; omega
    dsimp only
    rw [this]
    exact rat_step hd r 0 x (Int.ofNat 0)
/-! ### Bounds -/
theorem worth_num {s n : Int} (_hn : 1 ≤ n) : 0 ≤ (worthM s n).1 ∧ ((worthM s n).1 = 0 → worthM s n = (0, 1)) := by
  unfold worthM
  by_cases h : s ≤ 0
  · have : decide (s ≤ 0) = true := by simpa using h
    rw [this]; exact ⟨Int.le_refl _, fun _ => rfl⟩
  · have : decide (s ≤ 0) = false := by simpa using h
    rw [this, cond_false]
    have hs : 0 < s * s := Int.mul_pos (by omega) (by omega)
    have hg : 0 < Int.gcd (s * s) n := Int.gcd_pos_of_ne_zero_left _ (by omega)
    have hp : 0 < (lowM (s * s) n).1 := by
      unfold lowM
      obtain ⟨a, ha⟩ : (Int.gcd (s * s) n : Int) ∣ s * s := Int.gcd_dvd_left ..
      have : s * s / (Int.gcd (s * s) n : Int) = a := by
        have : s * s / (Int.gcd (s * s) n : Int) = (Int.gcd (s * s) n : Int) * a / (Int.gcd (s * s) n : Int) := by rw [← ha]
        rw [this]; exact Int.mul_ediv_cancel_left _ (by omega)
      dsimp only
      rw [this]
      rcases Int.lt_or_le 0 a with h | h
      · exact h
      · have := Int.mul_nonpos_of_nonneg_of_nonpos (a := (Int.gcd (s * s) n : Int)) (b := a) (by omega) h; omega
    exact ⟨by omega, fun h => by omega⟩
/-- The reference begins with 0. -/
def lowStep (is : Bool) (w : Ra) (st : Ra) : Ra := bif is && decide (cmpM w st > 0) then w else st
def lowR (is : Nat → Nat → Bool) (l : List Int) (lo hi : Nat) : Ra :=
  (List.range l.length).foldl (fun st f => (List.range' lo (min hi (l.length - f) + 1 - lo)).foldl (fun st n => lowStep (is f n) (winM l f n).2 st) st) (0, 1)
def lowOf (b : BW) : Ra := bif b.1 then b.2.2 else (0, 1)
theorem low_step {is : Bool} {w : Sp × Ra} {b : BW} (h0 : 0 ≤ w.2.1) (h1 : w.2.1 = 0 → w.2 = (0, 1)) : lowOf (pickM is w b) = lowStep is w.2 (lowOf b) := by
  unfold pickM lowStep lowOf
  cases is with
  | false => rfl
  | true =>
    simp only [Bool.true_and]
    cases hb : b.1 with
    | true =>
      simp only [Bool.not_true, Bool.false_or, cond_true]
      cases decide (cmpM w.2 b.2.2 > 0) with
      | true => rfl
      | false => simp [hb]
    | false =>
      simp only [Bool.not_false, Bool.true_or, cond_true, cond_false]
      by_cases hz : w.2.1 = 0
      · rw [h1 hz]; rfl
      · have : decide (cmpM w.2 (0, 1) > 0) = true := by rw [cmp_gt]; simp; omega
        rw [this]; rfl
theorem foldl_map2 {α β γ : Type} (f : β → γ) (g : β → α → β) (h : γ → α → γ) : ∀ (l : List α) (s : β), (∀ s x, x ∈ l → f (g s x) = h (f s) x) → f (l.foldl g s) = l.foldl h (f s)
  | [], _, _ => rfl
  | x :: r, s, k => by
    rw [List.foldl_cons, List.foldl_cons, ← k s x (by simp)]
    exact foldl_map2 f g h r _ (fun s y hy => k s y (by simp [hy]))
theorem low_eq (is : Nat → Nat → Bool) (l : List Int) (lo hi : Nat) (h : 1 ≤ lo) : lowOf (bestM is l lo hi) = lowR is l lo hi := by
  unfold bestM lowR
  refine (foldl_map2 lowOf _ (fun st f => (List.range' lo (min hi (l.length - f) + 1 - lo)).foldl (fun st n => lowStep (is f n) (winM l f n).2 st) st) _ _ (fun st f _ => ?_)).trans rfl
  rw [foldl_from (fun st n => pickM (is f n) (winM l f n) st) lo _ h]
  refine foldl_map2 lowOf _ _ _ _ (fun s n hn => ?_)
  rw [List.mem_range'_1] at hn
  have := worth_num (s := sumM ((l.drop f).take n)) (n := Int.ofNat n) (by simp only [Int.ofNat_eq_natCast]; omega)
  exact low_step this.1 this.2
/-- Is there a window? -/
theorem pick_found {w : Sp × Ra} {st : BW} : (pickM true w st).1 = true := by
  unfold pickM
  cases h : true && (!st.1 || decide (cmpM w.2 st.2.2 > 0)) with
  | true => rfl
  | false =>
    have : st.1 = true := by simp at h; exact h.1
    exact this
theorem foldl_pick (l : List Int) (f : Nat) : ∀ (r : List Nat) (st : BW), (r.foldl (fun st n => pickM true (winM l f n) st) st).1 = (st.1 || !r.isEmpty)
  | [], st => by simp
  | n :: r, st => by
    rw [List.foldl_cons, foldl_pick l f r, pick_found]; simp
theorem foldl_found (l : List Int) (lo hi : Nat) : ∀ (r : List Nat) (st : BW), (r.foldl (fun st f => (List.range' lo (min hi (l.length - f) + 1 - lo)).foldl (fun st n => pickM true (winM l f n) st) st) st).1 = (st.1 || r.any fun f => decide (lo ≤ min hi (l.length - f)))
  | [], st => by simp
  | f :: r, st => by
    rw [List.foldl_cons, foldl_found l lo hi r, foldl_pick]
    have : (!(List.range' lo (min hi (l.length - f) + 1 - lo)).isEmpty) = decide (lo ≤ min hi (l.length - f)) := by
      rw [Bool.eq_iff_iff]
      simp only [Bool.not_eq_true', List.isEmpty_eq_false_iff, ne_eq, List.range'_eq_nil_iff, decide_eq_true_eq]
      omega
    rw [this]; simp [Bool.or_assoc]
theorem found_eq {l : List Int} {lo hi : Nat} (h : 1 ≤ lo) (hh : lo ≤ hi) : (bestR l lo hi).1 = decide (lo ≤ l.length) := by
  unfold bestR
  rw [foldl_found]
  show (false || _) = _
  rw [Bool.false_or, Bool.eq_iff_iff, List.any_eq_true, decide_eq_true_eq]
  constructor
  · rintro ⟨f, hf, h2⟩
    simp only [decide_eq_true_eq] at h2; omega
  · intro hl
    exact ⟨0, by simp; omega, by simp; omega⟩
/-! ### The held level of a trace: low, high, under, over -/
abbrev Va : Type := Int × Int × Bool × Bool
def lowV (v : Va) : Int := v.1
def highV (v : Va) : Int := v.2.1
def underV (v : Va) : Bool := v.2.2.1
def overV (v : Va) : Bool := v.2.2.2
def adjV (v : Va) : Int := bif underV v then -16384 else lowV v
/-- The reference: the greatest of the least of each window that is not open below, at least 0. -/
def holdR (l : List Va) (n : Nat) : Int := (List.range (l.length - n + 1)).foldl (fun st f => bif !((l.drop f).take n).any underV then max st (minW (l.map lowV) f n) else st) 0
theorem minM_le {l : List Int} {x : Int} (h : x ∈ l) : minM l ≤ x := by
  have key : ∀ (r : List Int) (a : Int), r.foldl min a ≤ a ∧ ∀ y ∈ r, r.foldl min a ≤ y := by
    intro r
    induction r with
    | nil => intro a; exact ⟨Int.le_refl _, fun y hy => by simp at hy⟩
    | cons b r ih =>
      intro a
      obtain ⟨h1, h2⟩ := ih (min a b)
      refine ⟨Int.le_trans h1 (Int.min_le_left _ _), fun y hy => ?_⟩
      rw [List.foldl_cons]
      rcases List.mem_cons.1 hy with rfl | hy
      · exact Int.le_trans h1 (Int.min_le_right _ _)
      · exact h2 y hy
  cases l with
  | nil => simp at h
  | cons a r =>
    rcases List.mem_cons.1 h with rfl | h
    · exact (key r x).1
    · exact (key r a).2 x h
theorem hold_step {l : List Va} {n : Nat} (f : Nat) (st : Int) :
    max 0 (bif decide (minW (l.map adjV) f n > st) then minW (l.map adjV) f n else st) = bif !((l.drop f).take n).any underV then max (max 0 st) (minW (l.map lowV) f n) else max 0 st := by
  cases h : ((l.drop f).take n).any underV with
  | true =>
    simp only [Bool.not_true, cond_false]
    have : minW (l.map adjV) f n ≤ -16384 := by
      rw [List.any_eq_true] at h
      obtain ⟨v, hv, hu⟩ := h
      unfold minW
      rw [← List.map_drop, ← List.map_take]
      refine minM_le (List.mem_map.2 ⟨v, hv, ?_⟩)
      unfold adjV; rw [hu]; rfl
    cases h2 : decide (minW (l.map adjV) f n > st) with
    | true => have h2 := of_decide_eq_true h2; simp only [cond_true]; omega
    | false => rfl
  | false =>
    simp only [Bool.not_false, cond_true]
    have e : minW (l.map adjV) f n = minW (l.map lowV) f n := by
      unfold minW
      rw [← List.map_drop, ← List.map_take, ← List.map_drop, ← List.map_take]
      congr 1
      refine List.map_congr_left fun v hv => ?_
      rw [List.any_eq_false] at h
      have := h v hv
      unfold adjV
      cases hu : underV v with
      | true => exact absurd hu this
      | false => rfl
    rw [e]
    by_cases hg : minW (l.map lowV) f n > st
    · have : decide (minW (l.map lowV) f n > st) = true := by simpa using hg
      rw [this, cond_true]; omega
    · have : decide (minW (l.map lowV) f n > st) = false := by simpa using hg
      rw [this, cond_false]; omega
theorem hold_eq (l : List Va) (n : Nat) : max 0 (heldP (l.map adjV) n).1 = holdR l n := by
  unfold heldP holdR
  rw [List.length_map]
  have := foldl_map2 (fun st : Int × Int => max 0 st.1) (fun st f => bif decide (minW (l.map adjV) f n > st.1) then (minW (l.map adjV) f n, Int.ofNat f) else st) (fun st f => bif !((l.drop f).take n).any underV then max st (minW (l.map lowV) f n) else st) (List.range (l.length - n + 1)) (-16385, 0) (fun st f _ => by
    have := hold_step (l := l) (n := n) f st.1
    rw [← this]
    cases decide (minW (l.map adjV) f n > st.1) <;> rfl)
  exact this
end Go.Vm.S6
