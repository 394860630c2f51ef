/- Plain laws: the best window is the greatest; ratios in lowest terms. -/
import Derived.Test.YtbplbhcgcicgfaaGreatDoorS6B2
namespace Go.Vm.S6
/-! ### The best window: what it is -/
def leR (a b : Ra) : Prop := a.1 * b.2 ≤ b.1 * a.2
def ltR (a b : Ra) : Prop := a.1 * b.2 < b.1 * a.2
def PosR (a : Ra) : Prop := 0 ≤ a.1 ∧ 0 < a.2
theorem leR_rfl (a : Ra) : leR a a := Int.le_refl _
theorem leR_trans {a b c : Ra} (ha : PosR a) (hb : PosR b) (hc : PosR c) (h : leR a b) (k : leR b c) : leR a c := by
  unfold leR at *
  have h1 : a.1 * b.2 * c.2 ≤ b.1 * a.2 * c.2 := Int.mul_le_mul_of_nonneg_right h (by have := hc.2; omega)
  have h2 : b.1 * c.2 * a.2 ≤ c.1 * b.2 * a.2 := Int.mul_le_mul_of_nonneg_right k (by have := ha.2; omega)
  have e1 : b.1 * a.2 * c.2 = b.1 * c.2 * a.2 := by rw [Int.mul_assoc, Int.mul_comm a.2, ← Int.mul_assoc]
  have e2 : a.1 * b.2 * c.2 = b.2 * (a.1 * c.2) := by rw [Int.mul_comm a.1, Int.mul_assoc]
  have e3 : c.1 * b.2 * a.2 = b.2 * (c.1 * a.2) := by rw [Int.mul_comm c.1, Int.mul_assoc]
  have : b.2 * (a.1 * c.2) ≤ b.2 * (c.1 * a.2) := by omega
  exact Int.le_of_mul_le_mul_left this hb.2
theorem ltR_of_lt_le {a b c : Ra} (ha : PosR a) (hb : PosR b) (hc : PosR c) (h : ltR a b) (k : leR b c) : ltR a c := by
  unfold leR ltR at *
  have h1 : a.1 * b.2 * c.2 < b.1 * a.2 * c.2 := Int.mul_lt_mul_of_pos_right h hc.2
  have h2 : b.1 * c.2 * a.2 ≤ c.1 * b.2 * a.2 := Int.mul_le_mul_of_nonneg_right k (by have := ha.2; omega)
  have e1 : b.1 * a.2 * c.2 = b.1 * c.2 * a.2 := by rw [Int.mul_assoc, Int.mul_comm a.2, ← Int.mul_assoc]
  have e2 : a.1 * b.2 * c.2 = b.2 * (a.1 * c.2) := by rw [Int.mul_comm a.1, Int.mul_assoc]
  have e3 : c.1 * b.2 * a.2 = b.2 * (c.1 * a.2) := by rw [Int.mul_comm c.1, Int.mul_assoc]
  have : b.2 * (a.1 * c.2) < b.2 * (c.1 * a.2) := by omega
  exact Int.lt_of_mul_lt_mul_left this (by have := hb.2; omega)
theorem ltR_of_le_lt {a b c : Ra} (ha : PosR a) (hb : PosR b) (hc : PosR c) (h : leR a b) (k : ltR b c) : ltR a c := by
  unfold leR ltR at *
  have h1 : a.1 * b.2 * c.2 ≤ b.1 * a.2 * c.2 := Int.mul_le_mul_of_nonneg_right h (by have := hc.2; omega)
  have h2 : b.1 * c.2 * a.2 < c.1 * b.2 * a.2 := Int.mul_lt_mul_of_pos_right k ha.2
  have e1 : b.1 * a.2 * c.2 = b.1 * c.2 * a.2 := by rw [Int.mul_assoc, Int.mul_comm a.2, ← Int.mul_assoc]
  have e2 : a.1 * b.2 * c.2 = b.2 * (a.1 * c.2) := by rw [Int.mul_comm a.1, Int.mul_assoc]
  have e3 : c.1 * b.2 * a.2 = b.2 * (c.1 * a.2) := by rw [Int.mul_comm c.1, Int.mul_assoc]
  have : b.2 * (a.1 * c.2) < b.2 * (c.1 * a.2) := by omega
  exact Int.lt_of_mul_lt_mul_left this (by have := hb.2; omega)
theorem ltR.le {a b : Ra} (h : ltR a b) : leR a b := Int.le_of_lt h
theorem not_ltR {a b : Ra} : ¬ ltR a b ↔ leR b a := by unfold ltR leR; omega
theorem cmpM_gt {a b : Ra} : cmpM a b > 0 ↔ ltR b a := by
  unfold cmpM ltR
  by_cases h : a.1 * b.2 < b.1 * a.2
  · rw [decide_eq_true h]; simp; omega
  · rw [decide_eq_false h, cond_false]
    by_cases h2 : a.1 * b.2 > b.1 * a.2
    · rw [decide_eq_true h2]; simp; omega
    · rw [decide_eq_false h2]; simp; omega
theorem cmpM_lt {a b : Ra} : cmpM a b < 0 ↔ ltR a b := by
  unfold cmpM ltR
  by_cases h : a.1 * b.2 < b.1 * a.2
  · rw [decide_eq_true h]; simp; omega
  · rw [decide_eq_false h, cond_false]
    by_cases h2 : a.1 * b.2 > b.1 * a.2
    · rw [decide_eq_true h2]; simp; omega
    · rw [decide_eq_false h2]; simp; omega
theorem cmpM_zero {a b : Ra} : cmpM a b = 0 ↔ a.1 * b.2 = b.1 * a.2 := by
  have h1 := cmpM_gt (a := a) (b := b)
  have h2 := cmpM_lt (a := a) (b := b)
  unfold ltR at *
  omega
/-! Ratios in lowest terms. -/
theorem lowM_nat {x d : Nat} (_hd : 0 < d) : lowM (x : Int) (d : Int) = (((x / Nat.gcd x d : Nat) : Int), ((d / Nat.gcd x d : Nat) : Int)) := by
  unfold lowM
  rw [show Int.gcd (x : Int) (d : Int) = Nat.gcd x d from rfl]
  rfl
theorem coprime_div {x d : Nat} (hd : 0 < d) : Nat.gcd (x / Nat.gcd x d) (d / Nat.gcd x d) = 1 := by
  have hg : 0 < Nat.gcd x d := Nat.gcd_pos_of_pos_right _ hd
  exact Nat.coprime_div_gcd_div_gcd hg
theorem lowest_unique {a b c e : Nat} (h1 : Nat.gcd a b = 1) (h2 : Nat.gcd c e = 1) (hb : 0 < b) (he : 0 < e) (h : a * e = c * b) : a = c ∧ b = e := by
  have d1 : b ∣ e := by
    have : b ∣ a * e := ⟨c, by rw [h, Nat.mul_comm]⟩
    exact Nat.Coprime.dvd_of_dvd_mul_left (show Nat.Coprime b a by rw [Nat.coprime_comm]; exact h1) this
  have d2 : e ∣ b := by
    have : e ∣ c * b := ⟨a, by rw [← h, Nat.mul_comm]⟩
    exact Nat.Coprime.dvd_of_dvd_mul_left (show Nat.Coprime e c by rw [Nat.coprime_comm]; exact h2) this
  have hbe : b = e := Nat.dvd_antisymm d1 d2
  subst hbe
  exact ⟨Nat.eq_of_mul_eq_mul_right hb h, rfl⟩
/-- A ratio in lowest terms. -/
def LowR (a : Ra) : Prop := 0 ≤ a.1 ∧ 0 < a.2 ∧ Int.gcd a.1 a.2 = 1
theorem LowR.pos {a : Ra} (h : LowR a) : PosR a := ⟨h.1, h.2.1⟩
theorem LowR.eq {a b : Ra} (ha : LowR a) (hb : LowR b) (h : a.1 * b.2 = b.1 * a.2) : a = b := by
  obtain ⟨a1, a2⟩ := a
  obtain ⟨b1, b2⟩ := b
  obtain ⟨p1, p2, p3⟩ := ha
  obtain ⟨q1, q2, q3⟩ := hb
  simp only at *
  obtain ⟨x, rfl⟩ := Int.eq_ofNat_of_zero_le p1
  obtain ⟨y, rfl⟩ := Int.eq_ofNat_of_zero_le (Int.le_of_lt p2)
  obtain ⟨z, rfl⟩ := Int.eq_ofNat_of_zero_le q1
  obtain ⟨w, rfl⟩ := Int.eq_ofNat_of_zero_le (Int.le_of_lt q2)
  obtain ⟨r1, r2⟩ := lowest_unique (a := x) (b := y) (c := z) (e := w) p3 q3 (by omega) (by omega) (by exact_mod_cast h)
  rw [r1, r2]
theorem lowM_low {x d : Int} (hx : 0 ≤ x) (hd : 0 < d) : LowR (lowM x d) := by
  obtain ⟨x, rfl⟩ := Int.eq_ofNat_of_zero_le hx
  obtain ⟨d, rfl⟩ := Int.eq_ofNat_of_zero_le (Int.le_of_lt hd)
  have hd' : 0 < d := by omega
  have hg : 0 < Nat.gcd x d := Nat.gcd_pos_of_pos_right _ hd'
  rw [lowM_nat hd']
  refine ⟨Int.natCast_nonneg _, ?_, coprime_div hd'⟩
  have : 0 < d / Nat.gcd x d := Nat.div_pos (Nat.le_of_dvd hd' (Nat.gcd_dvd_right ..)) hg
  dsimp only
  exact_mod_cast this
theorem lowM_val {x d : Int} (hx : 0 ≤ x) (hd : 0 < d) : (lowM x d).1 * d = x * (lowM x d).2 := by
  obtain ⟨x, rfl⟩ := Int.eq_ofNat_of_zero_le hx
  obtain ⟨d, rfl⟩ := Int.eq_ofNat_of_zero_le (Int.le_of_lt hd)
  have hd' : 0 < d := by omega
  rw [lowM_nat hd']
  obtain ⟨a, ha⟩ := Nat.gcd_dvd_left x d
  obtain ⟨b, hb⟩ := Nat.gcd_dvd_right x d
  have hg : 0 < Nat.gcd x d := Nat.gcd_pos_of_pos_right _ hd'
  generalize Nat.gcd x d = g at *
  subst ha; subst hb
  rw [Nat.mul_div_cancel_left _ hg, Nat.mul_div_cancel_left _ hg]
  have : a * (g * b) = g * a * b := by rw [Nat.mul_left_comm, Nat.mul_assoc]
  dsimp only
  exact_mod_cast this
/-! The worth of a sum. -/
def posS (s : Int) : Int := max s 0
theorem worth_low (s : Int) {n : Int} (hn : 0 < n) : worthM s n = lowM (posS s * posS s) n := by
  unfold worthM posS
  by_cases h : s ≤ 0
  · rw [decide_eq_true h, Int.max_eq_right h, cond_true]
    unfold lowM
    have e : Int.gcd (0 * 0) n = n.natAbs := by simp
    rw [e, show (n.natAbs : Int) = n by omega]
    simp [Int.ediv_self (show n ≠ 0 by omega)]
  · rw [decide_eq_false h, cond_false, Int.max_eq_left (by omega)]
theorem sq_nn (s : Int) : 0 ≤ posS s * posS s := Int.mul_nonneg (by unfold posS; omega) (by unfold posS; omega)
theorem worth_lowR (s : Int) {n : Int} (hn : 0 < n) : LowR (worthM s n) := by
  rw [worth_low s hn]; exact lowM_low (sq_nn s) hn
theorem worth_val (s : Int) {n : Int} (hn : 0 < n) : (worthM s n).1 * n = posS s * posS s * (worthM s n).2 := by
  rw [worth_low s hn]; exact lowM_val (sq_nn s) hn
/-- Two ratios are compared as what they are the lowest terms of. -/
theorem leR_val {a b : Ra} {x n y m : Int} (ha : PosR a) (hb : PosR b) (hn : 0 < n) (hm : 0 < m) (e1 : a.1 * n = x * a.2) (e2 : b.1 * m = y * b.2) : leR a b ↔ x * m ≤ y * n := by
  unfold leR
  have hp : 0 < n * m := Int.mul_pos hn hm
  have hq : 0 < a.2 * b.2 := Int.mul_pos ha.2 hb.2
  have k1 : a.1 * b.2 * (n * m) = x * m * (a.2 * b.2) := by
    calc a.1 * b.2 * (n * m) = (a.1 * n) * (b.2 * m) := by ac_rfl
      _ = (x * a.2) * (b.2 * m) := by rw [e1]
      _ = x * m * (a.2 * b.2) := by ac_rfl
  have k2 : b.1 * a.2 * (n * m) = y * n * (a.2 * b.2) := by
    calc b.1 * a.2 * (n * m) = (b.1 * m) * (a.2 * n) := by ac_rfl
      _ = (y * b.2) * (a.2 * n) := by rw [e2]
      _ = y * n * (a.2 * b.2) := by ac_rfl
  constructor
  · intro h
    have := Int.mul_le_mul_of_nonneg_right h (Int.le_of_lt hp)
    rw [k1, k2] at this
    exact Int.le_of_mul_le_mul_right this hq
  · intro h
    have := Int.mul_le_mul_of_nonneg_right h (Int.le_of_lt hq)
    rw [← k1, ← k2] at this
    exact Int.le_of_mul_le_mul_right this hp
theorem posS_mono {s t : Int} (h : s ≤ t) : posS s * posS s ≤ posS t * posS t := by
  have h1 : posS s ≤ posS t := by unfold posS; omega
  have h0 : 0 ≤ posS s := by unfold posS; omega
  exact Int.mul_le_mul h1 h1 h0 (by omega)
theorem worth_mono {s t n : Int} (hn : 0 < n) (h : s ≤ t) : leR (worthM s n) (worthM t n) := by
  rw [leR_val (worth_lowR s hn).pos (worth_lowR t hn).pos hn hn (worth_val s hn) (worth_val t hn)]
  exact Int.mul_le_mul_of_nonneg_right (posS_mono h) (by omega)
/-! The fold. -/
theorem pickW {w : Sp × Ra} {st : Sp × Ra} : pickM true w (true, st) = (true, bif decide (cmpM w.2 st.2 > 0) then w else st) := by
  unfold pickM
  simp only [Bool.not_true, Bool.false_or, Bool.true_and]
  cases decide (cmpM w.2 st.2 > 0) <;> rfl
theorem pick_from : ∀ (qs : List (Sp × Ra)) (w0 : Sp × Ra), PosR w0.2 → (∀ u ∈ qs, PosR u.2) →
    ∃ w, qs.foldl (fun st w => pickM true w st) (true, w0) = (true, w) ∧ leR w0.2 w.2 ∧ (∀ u ∈ qs, leR u.2 w.2) ∧ (w = w0 ∨ ∃ pre post, qs = pre ++ w :: post ∧ ltR w0.2 w.2 ∧ ∀ u ∈ pre, ltR u.2 w.2)
  | [], w0, _, _ => ⟨w0, rfl, leR_rfl _, fun u hu => by simp at hu, .inl rfl⟩
  | x :: r, w0, h0, hq => by
    have hx := hq x (by simp)
    have hr : ∀ u ∈ r, PosR u.2 := fun u hu => hq u (by simp [hu])
    rw [List.foldl_cons, pickW]
    cases hd : decide (cmpM x.2 w0.2 > 0) with
    | true =>
      have hlt : ltR w0.2 x.2 := cmpM_gt.1 (of_decide_eq_true hd)
      rw [cond_true]
      obtain ⟨w, e, h1, h2, h3⟩ := pick_from r x hx hr
      have hw : PosR w.2 := by
        rcases h3 with rfl | ⟨pre, post, rfl, _⟩
        · exact hx
        · exact hr w (by simp)
      refine ⟨w, e, (ltR_of_lt_le h0 hx hw hlt h1).le, fun u hu => ?_, ?_⟩
      · rcases List.mem_cons.1 hu with rfl | hu
        · exact h1
        · exact h2 u hu
      · rcases h3 with rfl | ⟨pre, post, rfl, h4, h5⟩
        · exact .inr ⟨[], r, rfl, hlt, fun u hu => by simp at hu⟩
        · refine .inr ⟨x :: pre, post, rfl, ltR_of_lt_le h0 hx hw hlt h1, fun u hu => ?_⟩
          rcases List.mem_cons.1 hu with rfl | hu
          · exact h4
          · exact h5 u hu
    | false =>
      have hle : leR x.2 w0.2 := by
        have := of_decide_eq_false hd
        rw [cmpM_gt, not_ltR] at this; exact this
      rw [cond_false]
      obtain ⟨w, e, h1, h2, h3⟩ := pick_from r w0 h0 hr
      have hw : PosR w.2 := by
        rcases h3 with rfl | ⟨pre, post, rfl, _⟩
        · exact h0
        · exact hr w (by simp)
      refine ⟨w, e, h1, fun u hu => ?_, ?_⟩
      · rcases List.mem_cons.1 hu with rfl | hu
        · exact leR_trans hx h0 hw hle h1
        · exact h2 u hu
      · rcases h3 with rfl | ⟨pre, post, rfl, h4, h5⟩
        · exact .inl rfl
        · refine .inr ⟨x :: pre, post, rfl, h4, fun u hu => ?_⟩
          rcases List.mem_cons.1 hu with rfl | hu
          · exact ltR_of_le_lt hx h0 hw hle h4
          · exact h5 u hu
theorem pick_all (x : Sp × Ra) (r : List (Sp × Ra)) (h : ∀ u ∈ x :: r, PosR u.2) :
    ∃ w pre post, (x :: r).foldl (fun st w => pickM true w st) bw0 = (true, w) ∧ x :: r = pre ++ w :: post ∧ (∀ u ∈ x :: r, leR u.2 w.2) ∧ ∀ u ∈ pre, ltR u.2 w.2 := by
  rw [List.foldl_cons, show pickM true x bw0 = (true, x) from rfl]
  obtain ⟨w, e, h1, h2, h3⟩ := pick_from r x (h x (by simp)) (fun u hu => h u (by simp [hu]))
  rcases h3 with rfl | ⟨pre, post, rfl, h4, h5⟩
  · refine ⟨w, [], r, e, rfl, fun u hu => ?_, fun u hu => by simp at hu⟩
    rcases List.mem_cons.1 hu with rfl | hu
    · exact h1
    · exact h2 u hu
  · refine ⟨w, x :: pre, post, e, rfl, fun u hu => ?_, fun u hu => ?_⟩
    · rcases List.mem_cons.1 hu with rfl | hu
      · exact h1
      · exact h2 u hu
    · rcases List.mem_cons.1 hu with rfl | hu
      · exact h4
      · exact h5 u hu
/-! All windows, by their beginnings. -/
def winsL (n lo hi : Nat) : List (Nat × Nat) := (List.range n).flatMap fun f => (List.range' lo (min hi (n - f) + 1 - lo)).map fun k => (f, f + k)
theorem mem_wins {n lo hi f t : Nat} : (f, t) ∈ winsL n lo hi ↔ f < n ∧ f + lo ≤ t ∧ t ≤ f + hi ∧ t ≤ n := by
  unfold winsL
  simp only [List.mem_flatMap, List.mem_range, List.mem_map, List.mem_range'_1, Prod.mk.injEq]
  constructor
  · rintro ⟨g, hg, k, hk, rfl, rfl⟩; omega
  · intro h; exact ⟨f, h.1, t - f, by omega, rfl, by omega⟩
def lexB (p q : Nat × Nat) : Prop := p.1 < q.1 ∨ p.1 = q.1 ∧ p.2 < q.2
theorem wins_lex (n lo hi : Nat) : (winsL n lo hi).Pairwise lexB := by
  unfold winsL
  rw [List.pairwise_flatMap]
  refine ⟨fun f _ => ?_, ?_⟩
  · rw [List.pairwise_map]
    exact (List.pairwise_lt_range' (s := lo) (n := min hi (n - f) + 1 - lo)).imp fun {a b} h => .inr ⟨rfl, by omega⟩
  · refine (List.pairwise_lt_range (n := n)).imp fun {a b} h x hx y hy => ?_
    rw [List.mem_map] at hx hy
    obtain ⟨_, _, rfl⟩ := hx
    obtain ⟨_, _, rfl⟩ := hy
    exact .inl h
def winP (l : List Int) (p : Nat × Nat) : Sp × Ra := ((Int.ofNat p.1, Int.ofNat p.2), wthM l p.1 p.2)
theorem best_fold (l : List Int) (lo hi : Nat) : bestR l lo hi = ((winsL l.length lo hi).map (winP l)).foldl (fun st w => pickM true w st) bw0 := by
  unfold bestR winsL
  rw [List.foldl_map, List.foldl_flatMap]
  congr 1
  funext st f
  rw [List.foldl_map]
  congr 1
  funext st k
  congr 1
  unfold winP wthM winM winI
  simp only [Nat.add_sub_cancel_left]
/-- The best worth: a window has it, and none has more. -/
structure BestIs (l : List Int) (lo hi : Nat) (a b : Nat) : Prop where
  mem : (a, b) ∈ winsL l.length lo hi
  le : ∀ f t, (f, t) ∈ winsL l.length lo hi → leR (wthM l f t) (wthM l a b)
theorem wth_low {l : List Int} {n lo hi f t : Nat} (hlo : 1 ≤ lo) (h : (f, t) ∈ winsL n lo hi) : LowR (wthM l f t) := by
  rw [mem_wins] at h
  exact worth_lowR _ (by simp only [Int.ofNat_eq_natCast]; omega)
theorem best_is {l : List Int} {lo hi : Nat} (hlo : 1 ≤ lo) (h : lo ≤ hi) (hl : lo ≤ l.length) :
    ∃ a b, bestR l lo hi = (true, (Int.ofNat a, Int.ofNat b), wthM l a b) ∧ BestIs l lo hi a b ∧ ∀ f t, (f, t) ∈ winsL l.length lo hi → lexB (f, t) (a, b) → ltR (wthM l f t) (wthM l a b) := by
  rw [best_fold]
  have hne : (0, lo) ∈ winsL l.length lo hi := by rw [mem_wins]; omega
  have hlex := wins_lex l.length lo hi
  have hpos : ∀ p ∈ winsL l.length lo hi, LowR (winP l p).2 := fun p hp => wth_low hlo (show (p.1, p.2) ∈ _ from hp)
  have hmem : ∀ f t, (f, t) ∈ winsL l.length lo hi → (f, t) ∈ winsL l.length lo hi := fun _ _ h => h
  generalize hW : winsL l.length lo hi = W at *
  cases W with
  | nil => simp at hne
  | cons x r =>
    obtain ⟨w, pre, post, e, hs, hle, hlt⟩ := pick_all (winP l x) (r.map (winP l)) (fun u hu => by
      rw [← List.map_cons, List.mem_map] at hu
      obtain ⟨p, hp, rfl⟩ := hu
      exact (hpos p hp).pos)
    rw [← List.map_cons] at hs hle
    obtain ⟨pre', post', hs', hp1, hp2⟩ := List.map_eq_append_iff.1 hs
    obtain ⟨y, post'', hpo, hy, hp3⟩ := List.map_eq_cons_iff.1 hp2
    subst hpo; subst hy
    obtain ⟨a, b⟩ := y
    rw [List.map_cons]
    refine ⟨a, b, e, ⟨?_, fun f t hft => ?_⟩, fun f t hft hlx => ?_⟩
    · rw [hW, hs']; simp
    · rw [hW] at hft
      exact hle (winP l (f, t)) (List.mem_map.2 ⟨_, hft, rfl⟩)
    · rw [hs'] at hft hlex
      rw [List.pairwise_append] at hlex
      rcases List.mem_append.1 hft with h1 | h1
      · exact hlt (winP l (f, t)) (by rw [← hp1]; exact List.mem_map.2 ⟨_, h1, rfl⟩)
      · exfalso
        rcases List.mem_cons.1 h1 with h2 | h2
        · rw [h2] at hlx; unfold lexB at hlx; omega
        · have := (List.pairwise_cons.1 hlex.2.1).1 _ h2
          unfold lexB at this hlx; simp only at this hlx; omega
end Go.Vm.S6
