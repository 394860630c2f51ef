/- Plain laws: the best window is the greatest; ratios in lowest terms. -/
import Derived.Test.YtbplbhcgcicgfaaGreatDoorS6B2
namespace Go.Vm.S6
/-! ### The best window: what it is -/
def leR (a b : Ra) : Prop := a.1 * b.2 ≤ b.1 * a.2
def ltR (a b : Ra) : Prop := a.1 * b.2 < b.1 * a.2
def PosR (a : Ra) : Prop := 0 ≤ a.1 ∧ 0 < a.2
theorem leR_rfl (a : Ra) : leR a a := Int.le_refl _
theorem leR_trans {a b c : Ra} (ha : PosR a) (hb : PosR b) (hc : PosR c) (h : leR a b) (k : leR b c) : leR a c := by
  unfold leR at *
  have h1 : a.1 * b.2 * c.2 ≤ b.1 * a.2 * c.2 := Int.mul_le_mul_of_nonneg_right h (by have := hc.2; omega)
  have h2 : b.1 * c.2 * a.2 ≤ c.1 * b.2 * a.2 := Int.mul_le_mul_of_nonneg_right k (by have := ha.2; omega)
  have e1 : b.1 * a.2 * c.2 = b.1 * c.2 * a.2 := by rw [Int.mul_assoc, Int.mul_comm a.2, ← Int.mul_assoc]
  have e2 : a.1 * b.2 * c.2 = b.2 * (a.1 * c.2) := by rw [Int.mul_comm a.1, Int.mul_assoc]
  have e3 : c.1 * b.2 * a.2 = b.2 * (c.1 * a.2) := by rw [Int.mul_comm c.1, Int.mul_assoc]
  have : b.2 * (a.1 * c.2) ≤ b.2 * (c.1 * a.2) := by omega
  exact Int.le_of_mul_le_mul_left this hb.2
theorem ltR_of_lt_le {a b c : Ra} (ha : PosR a) (hb : PosR b) (hc : PosR c) (h : ltR a b) (k : leR b c) : ltR a c := by
  unfold leR ltR at *
  have h1 : a.1 * b.2 * c.2 < b.1 * a.2 * c.2 := Int.mul_lt_mul_of_pos_right h hc.2
  have h2 : b.1 * c.2 * a.2 ≤ c.1 * b.2 * a.2 := Int.mul_le_mul_of_nonneg_right k (by have := ha.2; omega)
  have e1 : b.1 * a.2 * c.2 = b.1 * c.2 * a.2 := by rw [Int.mul_assoc, Int.mul_comm a.2, ← Int.mul_assoc]
  have e2 : a.1 * b.2 * c.2 = b.2 * (a.1 * c.2) := by rw [Int.mul_comm a.1, Int.mul_assoc]
  have e3 : c.1 * b.2 * a.2 = b.2 * (c.1 * a.2) := by rw [Int.mul_comm c.1, Int.mul_assoc]
  have : b.2 * (a.1 * c.2) < b.2 * (c.1 * a.2) := by omega
  exact Int.lt_of_mul_lt_mul_left this (by have := hb.2; omega)
theorem ltR_of_le_lt {a b c : Ra} (ha : PosR a) (hb : PosR b) (hc : PosR c) (h : leR a b) (k : ltR b c) : ltR a c := by
  unfold leR ltR at *
  have h1 : a.1 * b.2 * c.2 ≤ b.1 * a.2 * c.2 := Int.mul_le_mul_of_nonneg_right h (by have := hc.2; omega)
  have h2 : b.1 * c.2 * a.2 < c.1 * b.2 * a.2 := Int.mul_lt_mul_of_pos_right k ha.2
  have e1 : b.1 * a.2 * c.2 = b.1 * c.2 * a.2 := by rw [Int.mul_assoc, Int.mul_comm a.2, ← Int.mul_assoc]
  have e2 : a.1 * b.2 * c.2 = b.2 * (a.1 * c.2) := by rw [Int.mul_comm a.1, Int.mul_assoc]
  have e3 : c.1 * b.2 * a.2 = b.2 * (c.1 * a.2) := by rw [Int.mul_comm c.1, Int.mul_assoc]
  have : b.2 * (a.1 * c.2) < b.2 * (c.1 * a.2) := by omega
  exact Int.lt_of_mul_lt_mul_left this (by have := hb.2; omega)
theorem ltR.le {a b : Ra} (h : ltR a b) : leR a b := Int.le_of_lt h
theorem not_ltR {a b : Ra} : ¬ ltR a b ↔ leR b a := by unfold ltR leR; omega
theorem cmpM_gt {a b : Ra} : cmpM a b > 0 ↔ ltR b a := by
  unfold cmpM ltR
  by_cases h : a.1 * b.2 < b.1 * a.2
  · rw [decide_eq_true h]; simp; omega
  · rw [decide_eq_false h, cond_false]
    by_cases h2 : a.1 * b.2 > b.1 * a.2
    · rw [decide_eq_true h2]; simp; omega
    · rw [decide_eq_false h2]; simp; omega
theorem cmpM_lt {a b : Ra} : cmpM a b < 0 ↔ ltR a b := by
  unfold cmpM ltR
  by_cases h : a.1 * b.2 < b.1 * a.2
  · rw [decide_eq_true h]; simp; omega
  · rw [decide_eq_false h, cond_false]
    by_cases h2 : a.1 * b.2 > b.1 * a.2
    · rw [decide_eq_true h2]; simp; omega
    · rw [decide_eq_false h2]; simp; omega
/-! Ratios in lowest terms. -/
theorem lowM_nat {x d : Nat} (_hd : 0 < d) : lowM (x : Int) (d : Int) = (((x / Nat.gcd x d : Nat) : Int), ((d / Nat.gcd x d : Nat) : Int)) := by
  unfold lowM
  rw [show Int.gcd (x : Int) (d : Int) = Nat.gcd x d from rfl]
  rfl
theorem coprime_div {x d : Nat} (hd : 0 < d) : Nat.gcd (x / Nat.gcd x d) (d / Nat.gcd x d) = 1 := by
  have hg : 0 < Nat.gcd x d := Nat.gcd_pos_of_pos_right _ hd
  exact Nat.coprime_div_gcd_div_gcd hg
theorem lowest_unique {a b c e : Nat} (h1 : Nat.gcd a b = 1) (h2 : Nat.gcd c e = 1) (hb : 0 < b) (he : 0 < e) (h : a * e = c * b) : a = c ∧ b = e := by
  have d1 : b ∣ e := by
    have : b ∣ a * e := ⟨c, by rw [h, Nat.mul_comm]⟩
    exact Nat.Coprime.dvd_of_dvd_mul_left (show Nat.Coprime b a by rw [Nat.coprime_comm]; exact h1) this
  have d2 : e ∣ b := by
    have : e ∣ c * b := ⟨a, by rw [← h, Nat.mul_comm]⟩
    exact Nat.Coprime.dvd_of_dvd_mul_left (show Nat.Coprime e c by rw [Nat.coprime_comm]; exact h2) this
  have hbe : b = e := Nat.dvd_antisymm d1 d2
  subst hbe
  exact ⟨Nat.eq_of_mul_eq_mul_right hb h, rfl⟩
/-- A ratio in lowest terms. -/
def LowR (a : Ra) : Prop := 0 ≤ a.1 ∧ 0 < a.2 ∧ Int.gcd a.1 a.2 = 1
theorem LowR.pos {a : Ra} (h : LowR a) : PosR a := ⟨h.1, h.2.1⟩
theorem LowR.eq {a b : Ra} (ha : LowR a) (hb : LowR b) (h : a.1 * b.2 = b.1 * a.2) : a = b := by
  obtain ⟨a1, a2⟩ := a
  obtain ⟨b1, b2⟩ := b
  obtain ⟨p1, p2, p3⟩ := ha
  obtain ⟨q1, q2, q3⟩ := hb
  simp only at *
  obtain ⟨x, rfl⟩ := Int.eq_ofNat_of_zero_le p1
  obtain ⟨y, rfl⟩ := Int.eq_ofNat_of_zero_le (Int.le_of_lt p2)
  obtain ⟨z, rfl⟩ := Int.eq_ofNat_of_zero_le q1
  obtain ⟨w, rfl⟩ := Int.eq_ofNat_of_zero_le (Int.le_of_lt q2)
  obtain ⟨r1, r2⟩ := lowest_unique (a := x) (b := y) (c := z) (e := w) p3 q3 (by omega) (by omega) (by exact_mod_cast h)
  rw [r1, r2]
theorem lowM_low {x d : Int} (hx : 0 ≤ x) (hd : 0 < d) : LowR (lowM x d) := by
  obtain ⟨x, rfl⟩ := Int.eq_ofNat_of_zero_le hx
  obtain ⟨d, rfl⟩ := Int.eq_ofNat_of_zero_le (Int.le_of_lt hd)
  have hd' : 0 < d := by omega
  have hg : 0 < Nat.gcd x d := Nat.gcd_pos_of_pos_right _ hd'
  rw [lowM_nat hd']
  refine ⟨Int.natCast_nonneg _, ?_, coprime_div hd'⟩
  have : 0 < d / Nat.gcd x d := Nat.div_pos (Nat.le_of_dvd hd' (Nat.gcd_dvd_right ..)) hg
  dsimp only
  exact_mod_cast this
theorem lowM_val {x d : Int} (hx : 0 ≤ x) (hd : 0 < d) : (lowM x d).1 * d = x * (lowM x d).2 := by
  obtain ⟨x, rfl⟩ := Int.eq_ofNat_of_zero_le hx
  obtain ⟨d, rfl⟩ := Int.eq_ofNat_of_zero_le (Int.le_of_lt hd)
  have hd' : 0 < d := by omega
  rw [lowM_nat hd']
  obtain ⟨a, ha⟩ := Nat.gcd_dvd_left x d
  obtain ⟨b, hb⟩ := Nat.gcd_dvd_right x d
  have hg : 0 < Nat.gcd x d := Nat.gcd_pos_of_pos_right _ hd'
  generalize Nat.gcd x d = g at *
  subst ha; subst hb
  rw [Nat.mul_div_cancel_left _ hg, Nat.mul_div_cancel_left _ hg]
  have : a * (g * b) = g * a * b := by rw [Nat.mul_left_comm, Nat.mul_assoc]
  dsimp only
  exact_mod_cast this
/-! The worth of a sum. -/
def posS (s : Int) : Int := max s 0
theorem worth_low (s : Int) {n : Int} (hn : 0 < n) : worthM s n = lowM (posS s * posS s) n := by
  unfold worthM posS
  by_cases h : s ≤ 0
  · rw [decide_eq_true h, Int.max_eq_right h, cond_true]
    unfold lowM
    have e : Int.gcd (0 * 0) n = n.natAbs := by simp
    rw [e, show (n.natAbs : Int) = n by omega]
    simp [Int.ediv_self (show n ≠ 0 by omega)]
  · rw [decide_eq_false h, cond_false, Int.max_eq_left (by omega)]
theorem sq_nn (s : Int) : 0 ≤ posS s * posS s := Int.mul_nonneg (by unfold posS; omega) (by unfold posS; omega)
theorem worth_lowR (s : Int) {n : Int} (hn : 0 < n) : LowR (worthM s n) := by
  rw [worth_low s hn]; exact lowM_low (sq_nn s) hn
theorem worth_val (s : Int) {n : Int} (hn : 0 < n) : (worthM s n).1 * n = posS s * posS s * (worthM s n).2 := by
  rw [worth_low s hn]; exact lowM_val (sq_nn s) hn
/-- Two ratios are compared as what they are the lowest terms of. -/
theorem leR_val {a b : Ra} {x n y m : Int} (ha : PosR a) (hb : PosR b) (hn : 0 < n) (hm : 0 < m) (e1 : a.1 * n = x * a.2) (e2 : b.1 * m = y * b.2) : leR a b ↔ x * m ≤ y * n := by
  unfold leR
  have hp : 0 < n * m := Int.mul_pos hn hm
  have hq : 0 < a.2 * b.2 := Int.mul_pos ha.2 hb.2
  have k1 : a.1 * b.2 * (n * m) = x * m * (a.2 * b.2) := by
    calc a.1 * b.2 * (n * m) = (a.1 * n) * (b.2 * m) := by ac_rfl
      _ = (x * a.2) * (b.2 * m) := by rw [e1]
      _ = x * m * (a.2 * b.2) := by ac_rfl
  have k2 : b.1 * a.2 * (n * m) = y * n * (a.2 * b.2) := by
    calc b.1 * a.2 * (n * m) = (b.1 * m) * (a.2 * n) := by ac_rfl
      _ = (y * b.2) * (a.2 * n) := by rw [e2]
      _ = y * n * (a.2 * b.2) := by ac_rfl
  constructor
  · intro h
    have := Int.mul_le_mul_of_nonneg_right h (Int.le_of_lt hp)
    rw [k1, k2] at this
    exact Int.le_of_mul_le_mul_right this hq
  · intro h
    have := Int.mul_le_mul_of_nonneg_right h (Int.le_of_lt hq)
    rw [← k1, ← k2] at this
    exact Int.le_of_mul_le_mul_right this hp
theorem posS_mono {s t : Int} (h : s ≤ t) : posS s * posS s ≤ posS t * posS t := by
  have h1 : posS s ≤ posS t := by unfold posS; omega
  have h0 : 0 ≤ posS s := by unfold posS; omega
  exact Int.mul_le_mul h1 h1 h0 (by omega)
theorem worth_mono {s t n : Int} (hn : 0 < n) (h : s ≤ t) : leR (worthM s n) (worthM t n) := by
  rw [leR_val (worth_lowR s hn).pos (worth_lowR t hn).pos hn hn (worth_val s hn) (worth_val t hn)]
  exact Int.mul_le_mul_of_nonneg_right (posS_mono h) (by omega)
/-! The fold. -/
theorem pickW {w : Sp × Ra} {st : Sp × Ra} : pickM true w (true, st) = (true, bif decide (cmpM w.2 st.2 > 0) then w else st) := by
  unfold pickM
  simp only [Bool.not_true, Bool.false_or, Bool.true_and]
  cases decide (cmpM w.2 st.2 > 0) <;> rfl
theorem pick_from : ∀ (qs : List (Sp × Ra)) (w0 : Sp × Ra), PosR w0.2 → (∀ u ∈ qs, PosR u.2) →
    ∃ w, qs.foldl (fun st w => pickM true w st) (true, w0) = (true, w) ∧ leR w0.2 w.2 ∧ (∀ u ∈ qs, leR u.2 w.2) ∧ (w = w0 ∨ ∃ pre post, qs = pre ++ w :: post ∧ ltR w0.2 w.2 ∧ ∀ u ∈ pre, ltR u.2 w.2)
  | [], w0, _, _ => ⟨w0, rfl, leR_rfl _, fun u hu => by simp at hu, .inl rfl⟩
  | x :: r, w0, h0, hq => by
    have hx := hq x (by simp)
    have hr : ∀ u ∈ r, PosR u.2 := fun u hu => hq u (by simp [hu])
    rw [List.foldl_cons, pickW]
    cases hd : decide (cmpM x.2 w0.2 > 0) with
    | true =>
      have hlt : ltR w0.2 x.2 := cmpM_gt.1 (of_decide_eq_true hd)
      rw [cond_true]
      obtain ⟨w, e, h1, h2, h3⟩ := pick_from r x hx hr
      have hw : PosR w.2 := by
        rcases h3 with rfl | ⟨pre, post, rfl, _⟩
        · exact hx
        · exact hr w (by simp)
      refine ⟨w, e, (ltR_of_lt_le h0 hx hw hlt h1).le, fun u hu => ?_, ?_⟩
      · rcases List.mem_cons.1 hu with rfl | hu
        · exact h1
        · exact h2 u hu
      · rcases h3 with rfl | ⟨pre, post, rfl, h4, h5⟩
        · exact .inr ⟨[], r, rfl, hlt, fun u hu => by simp at hu⟩
        · refine .inr ⟨x :: pre, post, rfl, ltR_of_lt_le h0 hx hw hlt h1, fun u hu => ?_⟩
          rcases List.mem_cons.1 hu with rfl | hu
          · exact h4
          · exact h5 u hu
    | false =>
      have hle : leR x.2 w0.2 := by
        have := of_decide_eq_false hd
        rw [cmpM_gt, not_ltR] at this; exact this
      rw [cond_false]
      obtain ⟨w, e, h1, h2, h3⟩ := pick_from r w0 h0 hr
      have hw : PosR w.2 := by
        rcases h3 with rfl | ⟨pre, post, rfl, _⟩
        · exact h0
        · exact hr w (by simp)
      refine ⟨w, e, h1, fun u hu => ?_, ?_⟩
      · rcases List.mem_cons.1 hu with rfl | hu
        · exact leR_trans hx h0 hw hle h1
        · exact h2 u hu
      · rcases h3 with rfl | ⟨pre, post, rfl, h4, h5⟩
        · exact .inl rfl
        · refine .inr ⟨x :: pre, post, rfl, h4, fun u hu => ?_⟩
          rcases List.mem_cons.1 hu with rfl | hu
          · exact ltR_of_le_lt hx h0 hw hle h4
          · exact h5 u hu
theorem pick_all (x : Sp × Ra) (r : List (Sp × Ra)) (h : ∀ u ∈ x :: r, PosR u.2) :
    ∃ w pre post, (x :: r).foldl (fun st w => pickM true w st) bw0 = (true, w) ∧ x :: r = pre ++ w :: post ∧ (∀ u ∈ x :: r, leR u.2 w.2) ∧ ∀ u ∈ pre, ltR u.2 w.2 := by
  rw [List.foldl_cons, show pickM true x bw0 = (true, x) from rfl]
  obtain ⟨w, e, h1, h2, h3⟩ := pick_from r x (h x (by simp)) (fun u hu => h u (by simp [hu]))
  rcases h3 with rfl | ⟨pre, post, rfl, h4, h5⟩
  · refine ⟨w, [], r, e, rfl, fun u hu => ?_, fun u hu => by simp at hu⟩
    rcases List.mem_cons.1 hu with rfl | hu
    · exact h1
    · exact h2 u hu
  · refine ⟨w, x :: pre, post, e, rfl, fun u hu => ?_, fun u hu => ?_⟩
    · rcases List.mem_cons.1 hu with rfl | hu
      · exact h1
      · exact h2 u hu
    · rcases List.mem_cons.1 hu with rfl | hu
      · exact h4
      · exact h5 u hu
/-! All windows, by their beginnings. -/
def winsL (n lo hi : Nat) : List (Nat × Nat) := (List.range n).flatMap fun f => (List.range' lo (min hi (n - f) + 1 - lo)).map fun k => (f, f + k)
theorem mem_wins {n lo hi f t : Nat} : (f, t) ∈ winsL n lo hi ↔ f < n ∧ f + lo ≤ t ∧ t ≤ f + hi ∧ t ≤ n := by
  unfold winsL
  simp only [List.mem_flatMap, List.mem_range, List.mem_map, List.mem_range'_1, Prod.mk.injEq]
  constructor
  · rintro ⟨g, hg, k, hk, rfl, rfl⟩; omega
  · intro h; exact ⟨f, h.1, t - f, by omega, rfl, by omega⟩
def lexB (p q : Nat × Nat) : Prop := p.1 < q.1 ∨ p.1 = q.1 ∧ p.2 < q.2
theorem wins_lex (n lo hi : Nat) : (winsL n lo hi).Pairwise lexB := by
  unfold winsL
  rw [List.pairwise_flatMap]
  refine ⟨fun f _ => ?_, ?_⟩
  · rw [List.pairwise_map]
    exact (List.pairwise_lt_range' (s := lo) (n := min hi (n - f) + 1 - lo)).imp fun {a b} h => .inr ⟨rfl, by omega⟩
  · refine (List.pairwise_lt_range (n := n)).imp fun {a b} h x hx y hy => ?_
    rw [List.mem_map] at hx hy
    obtain ⟨_, _, rfl⟩ := hx
    obtain ⟨_, _, rfl⟩ := hy
    exact .inl h
def winP (l : List Int) (p : Nat × Nat) : Sp × Ra := ((Int.ofNat p.1, Int.ofNat p.2), wthM l p.1 p.2)
theorem best_fold (l : List Int) (lo hi : Nat) : bestR l lo hi = ((winsL l.length lo hi).map (winP l)).foldl (fun st w => pickM true w st) bw0 := by
  unfold bestR winsL
  rw [List.foldl_map, List.foldl_flatMap]
  congr 1
  funext st f
  rw [List.foldl_map]
  congr 1
  funext st k
  congr 1
  unfold winP wthM winM winI
  simp only [Nat.add_sub_cancel_left]
/-- The best worth: a window has it, and none has more. -/
structure BestIs (l : List Int) (lo hi : Nat) (a b : Nat) : Prop where
  mem : (a, b) ∈ winsL l.length lo hi
  le : ∀ f t, (f, t) ∈ winsL l.length lo hi → leR (wthM l f t) (wthM l a b)
theorem wth_low {l : List Int} {n lo hi f t : Nat} (hlo : 1 ≤ lo) (h : (f, t) ∈ winsL n lo hi) : LowR (wthM l f t) := by
  rw [mem_wins] at h
  exact worth_lowR _ (by simp only [Int.ofNat_eq_natCast]; omega)
theorem best_is {l : List Int} {lo hi : Nat} (hlo : 1 ≤ lo) (h : lo ≤ hi) (hl : lo ≤ l.length) :
    ∃ a b, bestR l lo hi = (true, (Int.ofNat a, Int.ofNat b), wthM l a b) ∧ BestIs l lo hi a b ∧ ∀ f t, (f, t) ∈ winsL l.length lo hi → lexB (f, t) (a, b) → ltR (wthM l f t) (wthM l a b) := by
  rw [best_fold]
  have hne : (0, lo) ∈ winsL l.length lo hi := by rw [mem_wins]; omega
  have hlex := wins_lex l.length lo hi
  have hpos : ∀ p ∈ winsL l.length lo hi, LowR (winP l p).2 := fun p hp => wth_low hlo (show (p.1, p.2) ∈ _ from hp)
  have hmem : ∀ f t, (f, t) ∈ winsL l.length lo hi → (f, t) ∈ winsL l.length lo hi := fun _ _ h => h
  generalize hW : winsL l.length lo hi = W at *
  cases W with
  | nil => simp at hne
  | cons x r =>
    obtain ⟨w, pre, post, e, hs, hle, hlt⟩ := pick_all (winP l x) (r.map (winP l)) (fun u hu => by
      rw [← List.map_cons, List.mem_map] at hu
      obtain ⟨p, hp, rfl⟩ := hu
      exact (hpos p hp).pos)
    rw [← List.map_cons] at hs hle
    obtain ⟨pre', post', hs', hp1, hp2⟩ := List.map_eq_append_iff.1 hs
    obtain ⟨y, post'', hpo, hy, hp3⟩ := List.map_eq_cons_iff.1 hp2
    subst hpo; subst hy
    obtain ⟨a, b⟩ := y
    rw [List.map_cons]
    refine ⟨a, b, e, ⟨?_, fun f t hft => ?_⟩, fun f t hft hlx => ?_⟩
    · rw [hW, hs']; simp
    · rw [hW] at hft
      exact hle (winP l (f, t)) (List.mem_map.2 ⟨_, hft, rfl⟩)
    · rw [hs'] at hft hlex
      rw [List.pairwise_append] at hlex
      rcases List.mem_append.1 hft with h1 | h1
      · exact hlt (winP l (f, t)) (by rw [← hp1]; exact List.mem_map.2 ⟨_, h1, rfl⟩)
      · exfalso
        rcases List.mem_cons.1 h1 with h2 | h2
        · rw [h2] at hlx; unfold lexB at hlx; omega
        · have := (List.pairwise_cons.1 hlex.2.1).1 _ h2
          unfold lexB at this hlx; simp only at this hlx; omega
end Go.Vm.S6

namespace Go.Vm.S6
/-! Sums of windows: greater integers, and turned around. -/
def geL : List Int → List Int → Prop
  | [], [] => True
  | x :: r, y :: q => x ≤ y ∧ geL r q
  | _, _ => False
theorem geL.len : ∀ {l m : List Int}, geL l m → l.length = m.length
  | [], [], _ => rfl
  | _ :: _, _ :: _, h => by rw [List.length_cons, List.length_cons, geL.len h.2]
  | [], _ :: _, h => h.elim
  | _ :: _, [], h => h.elim
theorem geL.drop : ∀ {l m : List Int} (n : Nat), geL l m → geL (l.drop n) (m.drop n)
  | [], [], n, _ => by simp [geL]
  | x :: r, y :: q, 0, h => h
  | x :: r, y :: q, n + 1, h => geL.drop n h.2
  | [], _ :: _, _, h => h.elim
  | _ :: _, [], _, h => h.elim
theorem geL.take : ∀ {l m : List Int} (n : Nat), geL l m → geL (l.take n) (m.take n)
  | [], [], n, _ => by simp [geL]
  | x :: r, y :: q, 0, _ => trivial
  | x :: r, y :: q, n + 1, h => ⟨h.1, geL.take n h.2⟩
  | [], _ :: _, _, h => h.elim
  | _ :: _, [], _, h => h.elim
theorem geL.foldl : ∀ {l m : List Int} {s t : Int}, geL l m → s ≤ t → l.foldl (· + ·) s ≤ m.foldl (· + ·) t
  | [], [], _, _, _, k => k
  | x :: r, y :: q, s, t, h, k => geL.foldl (l := r) (m := q) h.2 (by have := h.1; dsimp only; omega)
  | [], _ :: _, _, _, h, _ => h.elim
  | _ :: _, [], _, _, h, _ => h.elim
theorem geL.wth {l m : List Int} (h : geL l m) {a b : Nat} (hab : a < b) : leR (wthM l a b) (wthM m a b) := by
  unfold wthM
  refine worth_mono (by simp only [Int.ofNat_eq_natCast]; omega) ?_
  unfold sumM winI
  exact ((h.drop a).take (b - a)).foldl (Int.le_refl 0)
theorem best_ge {l m : List Int} {lo hi a b c d : Nat} (hlo : 1 ≤ lo) (h : geL l m) (h1 : BestIs l lo hi a b) (h2 : BestIs m lo hi c d) : leR (wthM l a b) (wthM m c d) := by
  have hm : (a, b) ∈ winsL m.length lo hi := by rw [← h.len]; exact h1.mem
  have hab := h1.mem
  rw [mem_wins] at hab
  exact leR_trans (wth_low hlo h1.mem).pos (wth_low hlo hm).pos (wth_low hlo h2.mem).pos (h.wth (by omega)) (h2.le a b hm)
end Go.Vm.S6

namespace Go.Vm.S6
/-! ### Held levels and longest spans: what they are -/
theorem foldl_min_mem : ∀ (r : List Int) (a : Int), r.foldl min a = a ∨ r.foldl min a ∈ r
  | [], _ => .inl rfl
  | x :: r, a => by
    rw [List.foldl_cons]
    rcases foldl_min_mem r (min a x) with h | h
    · by_cases hs : a ≤ x
      · rw [Int.min_eq_left hs] at h ⊢; exact .inl h
      · rw [Int.min_eq_right (by omega)] at h ⊢; rw [h]; exact .inr (by simp)
    · exact .inr (by simp [h])
theorem minM_mem {l : List Int} (h : l ≠ []) : minM l ∈ l := by
  cases l with
  | nil => exact absurd rfl h
  | cons x r =>
    rcases foldl_min_mem r x with h | h
    · rw [show minM (x :: r) = r.foldl min x from rfl, h]; simp
    · exact List.mem_cons_of_mem _ h
/-- All integers from f on, up to t, are at least v. -/
def allGe (l : List Int) (v : Int) (f t : Nat) : Prop := ∀ i x, f ≤ i → i < t → l[i]? = some x → v ≤ x
theorem mem_win {l : List Int} {f n : Nat} {x : Int} : x ∈ (l.drop f).take n ↔ ∃ i, f ≤ i ∧ i < f + n ∧ l[i]? = some x := by
  rw [List.mem_iff_getElem?]
  constructor
  · rintro ⟨j, hj⟩
    rw [List.getElem?_take] at hj
    split at hj
    · rw [List.getElem?_drop] at hj; exact ⟨f + j, by omega, by omega, hj⟩
    · cases hj
  · rintro ⟨i, h1, h2, h3⟩
    refine ⟨i - f, ?_⟩
    rw [List.getElem?_take, if_pos (by omega), List.getElem?_drop, show f + (i - f) = i by omega]; exact h3
theorem minW_all {l : List Int} {f n : Nat} : allGe l (minW l f n) f (f + n) := fun i _ h1 h2 h3 => minM_le (mem_win.2 ⟨i, h1, h2, h3⟩)
theorem minW_of {l : List Int} {f n : Nat} {v : Int} (hn : 1 ≤ n) (hf : f + n ≤ l.length) (h : allGe l v f (f + n)) : v ≤ minW l f n := by
  have hne : (l.drop f).take n ≠ [] := by
    intro h0
    have := congrArg List.length h0
    rw [List.length_take, List.length_drop, List.length_nil] at this
    omega
  obtain ⟨i, h1, h2, h3⟩ := mem_win.1 (minM_mem hne)
  exact h i _ h1 h2 h3
theorem heldP_spec {l : List Int} {n : Nat} (hb : ∀ x ∈ l, -16384 ≤ x) : ∃ f, heldP l n = (minW l f n, Int.ofNat f) ∧ f ≤ l.length - n ∧ ∀ g, g ≤ l.length - n → minW l g n ≤ minW l f n := by
  have key : ∀ (r : List Nat) (f0 : Nat), ∃ f, r.foldl (fun st f => bif decide (minW l f n > st.1) then (minW l f n, Int.ofNat f) else st) (minW l f0 n, Int.ofNat f0) = (minW l f n, Int.ofNat f) ∧ (f = f0 ∨ f ∈ r) ∧ minW l f0 n ≤ minW l f n ∧ ∀ g ∈ r, minW l g n ≤ minW l f n := by
    intro r
    induction r with
    | nil => intro f0; exact ⟨f0, rfl, .inl rfl, Int.le_refl _, fun g hg => by simp at hg⟩
    | cons x r ih =>
      intro f0
      rw [List.foldl_cons]
      by_cases h : minW l x n > minW l f0 n
      · have hd : decide (minW l x n > (minW l f0 n, Int.ofNat f0).1) = true := by simpa using h
        rw [hd, cond_true]
        obtain ⟨f, e, h1, h2, h3⟩ := ih x
        refine ⟨f, e, ?_, by omega, fun g hg => ?_⟩
        · rcases h1 with rfl | h1
          · exact .inr (by simp)
          · exact .inr (by simp [h1])
        · rcases List.mem_cons.1 hg with rfl | hg
          · exact h2
          · exact h3 g hg
      · have hd : decide (minW l x n > (minW l f0 n, Int.ofNat f0).1) = false := by simpa using h
        rw [hd, cond_false]
        obtain ⟨f, e, h1, h2, h3⟩ := ih f0
        refine ⟨f, e, ?_, h2, fun g hg => ?_⟩
        · rcases h1 with rfl | h1
          · exact .inl rfl
          · exact .inr (by simp [h1])
        · rcases List.mem_cons.1 hg with rfl | hg
          · omega
          · exact h3 g hg
  unfold heldP
  rw [List.range_succ_eq_map, List.foldl_cons]
  have h0 : decide (minW l 0 n > -16385) = true := by
    have := minW_ge (l := l) (f := 0) (n := n) (-16384) (by omega) hb
    simp; omega
  simp only [h0, cond_true]
  obtain ⟨f, e, h1, h2, h3⟩ := key (List.map Nat.succ (List.range (l.length - n))) 0
  refine ⟨f, e, ?_, fun g hg => ?_⟩
  · rcases h1 with rfl | h1
    · omega
    · rw [List.mem_map] at h1
      obtain ⟨y, hy, rfl⟩ := h1
      rw [List.mem_range] at hy; omega
  · cases g with
    | zero => exact h2
    | succ g => exact h3 (g + 1) (by rw [List.mem_map]; exact ⟨g, by rw [List.mem_range]; omega, rfl⟩)
/-! The law's own questions. -/
end Go.Vm.S6

namespace Go.Vm.S6
open Go.Proofs Go.RowKit
theorem spHeld {l : List Int} (h : Ser l) {n : Nat} (hn : 1 ≤ n ∧ n ≤ l.length) : ∃ f, hdG [slA intC 1 l, intA (Int.ofNat n)] = some (.tup [intA (minW l f n), p2A (Int.ofNat f, Int.ofNat (f + n)), intA 0]) ∧ f ≤ l.length - n ∧ ∀ g, g ≤ l.length - n → minW l g n ≤ minW l f n := by
  obtain ⟨f, e, h1, h2⟩ := heldP_spec (l := l) (n := n) (fun x hx => (h.2.2 x hx).1)
  refine ⟨f, ?_, h1, h2⟩
  have hl2 := h.2.1
  have hb : Nat.ble l.length lim = true := Nat.ble_eq_true_of_le (by unfold lim; omega)
  have h0 : hErr l (Int.ofNat n) = 0 := by
    unfold hErr cntM
    rw [firstZ, firstZ, firstZ, within_zero, seriesZ]
    refine ⟨h, by simp only [Int.ofNat_eq_natCast]; omega, ?_, rfl⟩
    have : decide (Int.ofNat l.length < Int.ofNat n) = false := by simp only [decide_eq_false_iff_not, Int.ofNat_eq_natCast]; omega
    rw [this]; rfl
  have := specAt2 (A := intsC) (B := intC) (b := fun l _ => Nat.ble l.length lim) (F := fun l c => hdM l c) l (Int.ofNat n) hb
  unfold hdM at this
  rw [h0, show natOf (Int.ofNat n) = n from rfl, e] at this
  exact this
theorem RaB_of {l : List Int} (h : Ser l) {a b : Nat} (hw : a < b ∧ b ≤ l.length) : RaB (wthM l a b) := worth_bd (sumW h hw)
theorem ratOk {l : List Int} (h : Ser l) {a b : Nat} (hw : a < b ∧ b ≤ l.length) : ratErr (wthM l a b) = 0 := by
  have hL := worth_lowR (sumM (winI l a b)) (n := Int.ofNat (b - a)) (by simp only [Int.ofNat_eq_natCast]; omega)
  have hs := sumW h hw
  have hb := RaB_of h hw
  rw [worOk_iff] at hs
  have hsb : -2097152 ≤ sumM (winI l a b) ∧ sumM (winI l a b) ≤ 2097152 := by
    have h2 := h.2.1
    have := sum_bd (w := winI l a b) (s := 0) (i := 0) (fun x hx => h.2.2 x (List.mem_of_mem_drop (List.mem_of_mem_take hx))) (by omega)
    have h3 : (winI l a b).length ≤ 128 := by unfold winI; rw [List.length_take]; omega
    unfold sumM
    omega
  have hn : (wthM l a b).1 ≤ 5000000000000 := by
    unfold wthM worthM
    cases decide (sumM (winI l a b) ≤ 0) with
    | true => show (0 : Int) ≤ 5000000000000; decide
    | false =>
      rw [cond_false]
      have hsq : sumM (winI l a b) * sumM (winI l a b) ≤ 5000000000000 := by
        rcases Int.le_total 0 (sumM (winI l a b)) with h0 | h0
        · have := Int.mul_le_mul hsb.2 hsb.2 h0 (by omega); omega
        · have := Int.mul_le_mul (a := -sumM (winI l a b)) (b := -sumM (winI l a b)) (c := 2097152) (d := 2097152) (by omega) (by omega) (by omega) (by omega)
          rw [Int.neg_mul_neg] at this
          omega
      exact (lowM_bd (b := 5000000000000) (c := 1000000) ⟨by have := sq_bd (s := sumM (winI l a b)) hs.1; omega, hsq⟩ ⟨by omega, by omega⟩).1.2
  unfold ratErr
  have h0 : sizeErr (wthM l a b) = 0 := size_zero.2 ⟨⟨hb.1.1, hn⟩, by have := hL.2.1; unfold wthM; omega, hb.2.2⟩
  rw [h0]
  show whenM ((Int.gcd (wthM l a b).1 (wthM l a b).2 : Int) != 1) 1 = 0
  rw [show Int.gcd (wthM l a b).1 (wthM l a b).2 = 1 from hL.2.2]
  rfl
theorem spRat (x : P2) : ratG [p2A x] = some (intA (ratErr x)) := sp1_at (A := p2C) (F := fun x => some (intA (ratErr x))) x
theorem spCmp (x y : P2) : cmpRG [p2A x, p2A y] = some (intA (cmpW x y)) := sp2_at (A := p2C) (B := p2C) (F := fun x y => some (intA (cmpW x y))) x y
theorem lenOkN {lo hi : Nat} (h : 1 ≤ lo ∧ lo ≤ hi ∧ hi ≤ 128) : lenM (Int.ofNat lo, Int.ofNat hi) = 0 := by
  unfold lenM
  rw [firstZ, firstZ, firstZ, within_zero, within_zero]
  refine ⟨by simp only [Int.ofNat_eq_natCast]; omega, by simp only [Int.ofNat_eq_natCast]; omega, ?_, rfl⟩
  have : decide (Int.ofNat lo > Int.ofNat hi) = false := by simp only [decide_eq_false_iff_not, Int.ofNat_eq_natCast]; omega
  show whenM (decide (Int.ofNat lo > Int.ofNat hi)) 11 = 0
  rw [this]; rfl
/-- What 'Best' finds, and what 'CheckBest' answers. -/
theorem spBest {l : List Int} (h : Ser l) {lo hi : Nat} (hk : 1 ≤ lo ∧ lo ≤ hi ∧ hi ≤ 128) (hl : lo ≤ l.length) : ∃ a b : Nat, bestB l (Int.ofNat lo, Int.ofNat hi) = (true, (Int.ofNat a, Int.ofNat b), wthM l a b) ∧
    pbeG [slA intC 1 l, p2A (Int.ofNat lo, Int.ofNat hi)] = some (.tup [p2A (Int.ofNat a, Int.ofNat b), p2A (wthM l a b), intA 0]) ∧ BestIs l lo hi a b ∧ ∀ f t, (f, t) ∈ winsL l.length lo hi → lexB (f, t) (a, b) → ltR (wthM l f t) (wthM l a b) := by
  obtain ⟨a, b, e, h1, h2⟩ := best_is (l := l) hk.1 hk.2.1 hl
  have eB : bestB l (Int.ofNat lo, Int.ofNat hi) = (true, (Int.ofNat a, Int.ofNat b), wthM l a b) := (best_eq l lo hi hk.1).trans e
  refine ⟨a, b, eB, ?_, h1, h2⟩
  have hb : Nat.ble l.length lim = true := Nat.ble_eq_true_of_le (by unfold lim; have := h.2.1; omega)
  have := specAt2 (A := intsC) (B := p2C) (b := fun l _ => Nat.ble l.length lim) (F := fun l k => pbeM l k) l (Int.ofNat lo, Int.ofNat hi) hb
  have h0 : bErr l (Int.ofNat lo, Int.ofNat hi) = 0 := by
    unfold bErr; rw [firstZ, firstZ, seriesZ]; exact ⟨h, lenOkN hk, rfl⟩
  unfold pbeM at this
  rw [h0, eB] at this
  exact this
end Go.Vm.S6
