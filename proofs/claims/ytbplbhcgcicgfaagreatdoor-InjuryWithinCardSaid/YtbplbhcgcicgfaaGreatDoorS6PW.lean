/- Plain laws: integers within a trace. -/
import Derived.Test.YtbplbhcgcicgfaaGreatDoorS6V8
import Derived.Test.YtbplbhcgcicgfaaGreatDoorS6M2
import Derived.Test.YtbplbhcgcicgfaaGreatDoorS6PA
namespace Go.Vm.S6
/-! ### Integers within a trace -/
theorem geL.at : ∀ {l m : List Int} {i : Nat} {x y : Int}, geL l m → l[i]? = some x → m[i]? = some y → x ≤ y
  | a :: r, b :: q, 0, x, y, h, h1, h2 => by simp only [List.getElem?_cons_zero, Option.some.injEq] at h1 h2; subst h1; subst h2; exact h.1
  | a :: r, b :: q, i + 1, x, y, h, h1, h2 => geL.at (l := r) (m := q) h.2 (by simpa using h1) (by simpa using h2)
  | [], _, _, _, _, _, h1, _ => by simp at h1
  | _ :: _, [], _, _, _, h, _, _ => h.elim
/-- An integer within a value, or beyond an end that is open. -/
def inV (v : Va) (x : Int) : Prop := (underV v = true ∨ lowV v ≤ x) ∧ (overV v = true ∨ x ≤ highV v) ∧ -16384 ≤ x ∧ x ≤ 16384
def inL : List Va → List Int → Prop
  | [], [] => True
  | v :: r, x :: q => inV v x ∧ inL r q
  | _, _ => False
theorem inL.len : ∀ {l : List Va} {m : List Int}, inL l m → l.length = m.length
  | [], [], _ => rfl
  | _ :: _, _ :: _, h => by rw [List.length_cons, List.length_cons, inL.len h.2]
  | [], _ :: _, h => h.elim
  | _ :: _, [], h => h.elim
theorem inL.bd : ∀ {l : List Va} {m : List Int}, inL l m → ∀ x ∈ m, -16384 ≤ x ∧ x ≤ 16384
  | [], [], _, x, hx => by simp at hx
  | v :: r, y :: q, h, x, hx => by
    rcases List.mem_cons.1 hx with rfl | hx
    · exact h.1.2.2
    · exact inL.bd h.2 x hx
  | [], _ :: _, h, _, _ => h.elim
  | _ :: _, [], h, _, _ => h.elim
theorem inL.adj : ∀ {l : List Va} {m : List Int}, inL l m → geL (l.map adjV) m
  | [], [], _ => trivial
  | v :: r, x :: q, h => ⟨by
      have := h.1
      unfold inV at this
      unfold adjV
      cases hu : underV v with
      | true => rw [cond_true]; omega
      | false => rw [cond_false]; rw [hu] at this; simp at this; omega, inL.adj h.2⟩
  | [], _ :: _, h => h.elim
  | _ :: _, [], h => h.elim
theorem inL.high : ∀ {l : List Va} {m : List Int}, inL l m → l.any overV = false → geL m (l.map highV)
  | [], [], _, _ => trivial
  | v :: r, x :: q, h, k => by
    rw [List.any_cons, Bool.or_eq_false_iff] at k
    refine ⟨?_, inL.high h.2 k.2⟩
    have := h.1.2.1
    rw [k.1] at this
    simpa using this
  | [], _ :: _, h, _ => h.elim
  | _ :: _, [], h, _ => h.elim
theorem inL.low : ∀ {l : List Va} {m : List Int}, inL l m → l.any underV = false → geL (l.map lowV) m
  | [], [], _, _ => trivial
  | v :: r, x :: q, h, k => by
    rw [List.any_cons, Bool.or_eq_false_iff] at k
    refine ⟨?_, inL.low h.2 k.2⟩
    have := h.1.1
    rw [k.1] at this
    simpa using this
  | [], _ :: _, h, _ => h.elim
  | _ :: _, [], h, _ => h.elim
theorem inL.drop : ∀ {l : List Va} {m : List Int} (n : Nat), inL l m → inL (l.drop n) (m.drop n)
  | [], [], n, _ => by simp [inL]
  | x :: r, y :: q, 0, h => h
  | x :: r, y :: q, n + 1, h => inL.drop n h.2
  | [], _ :: _, _, h => h.elim
  | _ :: _, [], _, h => h.elim
theorem inL.take : ∀ {l : List Va} {m : List Int} (n : Nat), inL l m → inL (l.take n) (m.take n)
  | [], [], n, _ => by simp [inL]
  | x :: r, y :: q, 0, _ => trivial
  | x :: r, y :: q, n + 1, h => ⟨h.1, inL.take n h.2⟩
  | [], _ :: _, _, h => h.elim
  | _ :: _, [], _, h => h.elim
/-- A window that is not open below has no greater worth of its lows. -/
theorem wth_low_in {l : List Va} {m : List Int} (h : inL l m) {a b : Nat} (hab : a < b) (hu : unW l a b = false) : leR (wthM (l.map lowV) a b) (wthM m a b) := by
  unfold wthM
  refine worth_mono (by simp only [Int.ofNat_eq_natCast]; omega) ?_
  unfold sumM winI
  rw [← List.map_drop, ← List.map_take]
  exact (((h.drop a).take (b - a)).low hu).foldl (Int.le_refl 0)
theorem within_low {l : List Va} {m : List Int} {lo hi a b : Nat} (hlo : 1 ≤ lo) (h : inL l m) (hm : BestIs m lo hi a b) : PosR (lowOf (bestM (isU l) (l.map lowV) lo hi)) ∧ leR (lowOf (bestM (isU l) (l.map lowV) lo hi)) (wthM m a b) := by
  rw [low_eq _ _ _ _ hlo]
  have hl := h.len
  have hp := (wth_low (l := m) hlo hm.mem).pos
  unfold lowR
  refine foldl_P (fun st : Ra => PosR st ∧ leR st (wthM m a b)) _ _ _ ⟨⟨by simp, by simp⟩, ?_⟩ fun st f hf hs => foldl_P (fun st : Ra => PosR st ∧ leR st (wthM m a b)) _ _ _ hs fun st n hn hs => ?_
  · unfold leR; have := hp.1; show 0 * _ ≤ _ * 1; omega
  · rw [List.mem_range, List.length_map] at hf
    rw [List.mem_range'_1, List.length_map] at hn
    unfold lowStep
    cases hc : isU l f n && decide (cmpM (winM (l.map lowV) f n).2 st > 0) with
    | false => exact hs
    | true =>
      rw [Bool.and_eq_true] at hc
      have hu : unW l f (f + n) = false := by have := hc.1; unfold isU at this; simpa using this
      have e : (winM (l.map lowV) f n).2 = wthM (l.map lowV) f (f + n) := by unfold winM wthM winI; simp only [Nat.add_sub_cancel_left]
      rw [cond_true, e]
      have hw : (f, f + n) ∈ winsL m.length lo hi := by rw [mem_wins]; omega
      have p1 := (wth_low (l := l.map lowV) hlo hw).pos
      exact ⟨p1, leR_trans p1 (wth_low (l := m) hlo hw).pos hp (wth_low_in h (by omega) hu) (hm.le _ _ hw)⟩
theorem within_high {l : List Va} {m : List Int} {lo hi a b c d : Nat} (hlo : 1 ≤ lo) (h : inL l m) (hm : BestIs m lo hi a b) (hh : BestIs (l.map highV) lo hi c d) (ho : anyO l = false) : leR (wthM m a b) (wthM (l.map highV) c d) :=
  best_ge hlo (h.high ho) hm hh
theorem minW_mono {l m : List Int} (h : geL l m) {g n : Nat} (hn : 1 ≤ n) (hg : g + n ≤ l.length) : minW l g n ≤ minW m g n := by
  refine minW_of hn (by rw [← h.len]; exact hg) fun i y h1 h2 h3 => ?_
  have hi : i < l.length := by omega
  have e : l[i]? = some l[i] := List.getElem?_eq_getElem hi
  have := minW_all i _ h1 h2 e
  have := h.at e h3
  omega
theorem held_mono {l m : List Int} {n : Nat} (h : geL l m) (hn : 1 ≤ n) (hl : n ≤ l.length) (h1 : ∀ x ∈ l, -16384 ≤ x) (h2 : ∀ x ∈ m, -16384 ≤ x) : (heldP l n).1 ≤ (heldP m n).1 := by
  obtain ⟨f, e, k1, k2⟩ := heldP_spec (n := n) h1
  obtain ⟨g, e', q1, q2⟩ := heldP_spec (n := n) h2
  rw [e, e']
  have hlm := h.len
  have := minW_mono h hn (g := f) (by omega)
  have := q2 f (by omega)
  show minW l f n ≤ minW m g n
  omega
theorem most_mono : ∀ {l m : List Int} {i j : Nat} {s t : MI}, geL l m → s.1 ≤ t.1 → (mostP l i s).1 ≤ (mostP m j t).1
  | [], [], _, _, _, _, _, k => k
  | x :: r, y :: q, i, j, s, t, h, k => by
    unfold mostP
    refine most_mono (l := r) (m := q) h.2 ?_
    have := h.1
    by_cases h1 : x > s.1
    · rw [decide_eq_true h1]
      by_cases h2 : y > t.1
      · rw [decide_eq_true h2]; exact this
      · rw [decide_eq_false h2]; simp only [cond_true, cond_false]; omega
    · rw [decide_eq_false h1]
      by_cases h2 : y > t.1
      · rw [decide_eq_true h2]; simp only [cond_true, cond_false]; omega
      · rw [decide_eq_false h2]; exact k
  | [], _ :: _, _, _, _, _, h, _ => h.elim
  | _ :: _, [], _, _, _, _, h, _ => h.elim
theorem most_ge : ∀ (l : List Int) (i : Nat) (s : MI), s.1 ≤ (mostP l i s).1 ∧ ∀ x ∈ l, x ≤ (mostP l i s).1
  | [], _, s => ⟨Int.le_refl _, fun x hx => by simp at hx⟩
  | y :: r, i, s => by
    unfold mostP
    obtain ⟨h1, h2⟩ := most_ge r (i + 1) (bif decide (y > s.1) then (y, Int.ofNat i) else s)
    have hy : y ≤ (bif decide (y > s.1) then (y, Int.ofNat i) else s).1 ∧ s.1 ≤ (bif decide (y > s.1) then (y, Int.ofNat i) else s).1 := by
      by_cases h : y > s.1
      · rw [decide_eq_true h]; simp only [cond_true]; omega
      · rw [decide_eq_false h]; simp only [cond_false]; omega
    refine ⟨by omega, fun x hx => ?_⟩
    rcases List.mem_cons.1 hx with rfl | hx
    · omega
    · exact h2 x hx
theorem low_mono {x y d : Int} (hx : 0 ≤ x) (hd : 0 < d) (h : x ≤ y) : leR (lowM x d) (lowM y d) := by
  rw [leR_val (lowM_low hx hd).pos (lowM_low (by omega) hd).pos hd hd (lowM_val hx hd) (lowM_val (by omega) hd)]
  exact Int.mul_le_mul_of_nonneg_right h (by omega)
theorem le_cmp {a b : Ra} : leR a b ↔ cmpM b a ≥ 0 := by
  rw [← not_ltR, ← cmpM_lt]
  omega
/-! The margin. -/
theorem margin_in {lo hi w x : Ra} {o : Bool} {m : Int} (plo : PosR lo) (phi : PosR hi) (pw : PosR w) (px : PosR x) (h1 : leR lo w) (h2 : o = false → leR w hi)
    (hm : m = bif !o && decide (cmpM hi x < 0) then -1 else bif decide (cmpM lo x > 0) then 1 else 0) : m = 0 ∨ cmpM w x = m := by
  cases hc : !o && decide (cmpM hi x < 0) with
  | true =>
    rw [hc, cond_true] at hm
    rw [Bool.and_eq_true] at hc
    have ho : o = false := by simpa using hc.1
    have hl := ltR_of_le_lt pw phi px (h2 ho) (cmpM_lt.1 (of_decide_eq_true hc.2))
    right
    rw [hm]
    unfold cmpM
    unfold ltR at hl
    rw [decide_eq_true hl]; rfl
  | false =>
    rw [hc, cond_false] at hm
    cases hd : decide (cmpM lo x > 0) with
    | false => rw [hd] at hm; exact .inl hm
    | true =>
      rw [hd, cond_true] at hm
      have hl := ltR_of_lt_le px plo pw (cmpM_gt.1 (of_decide_eq_true hd)) h1
      right
      rw [hm]
      unfold cmpM
      unfold ltR at hl
      rw [decide_eq_false (by omega), decide_eq_true (by omega)]; rfl
/-! The risk. -/
def risesF : List St3 → Int → Prop
  | [], _ => True
  | s :: r, n => n ≤ s.2.2 ∧ risesF r s.2.2
theorem risk_mono (p q : St3 → Bool) : ∀ {l : List St3} {n a b : Int}, risesF l n → a ≤ n → a ≤ b → b ≤ n → (∀ s ∈ l, p s = true → q s = true) →
    l.foldl (fun v s => bif p s then s.2.2 else v) a ≤ l.foldl (fun v s => bif q s then s.2.2 else v) b
  | [], _, _, _, _, _, h, _, _ => h
  | x :: r, n, a, b, h, h1, h2, h3, hpq => by
    rw [List.foldl_cons, List.foldl_cons]
    have hx := h.1
    have hr : ∀ s ∈ r, p s = true → q s = true := fun s hs => hpq s (by simp [hs])
    cases hp : p x with
    | true =>
      rw [hpq x (by simp) hp]
      exact risk_mono p q h.2 (Int.le_refl _) (Int.le_refl _) (Int.le_refl _) hr
    | false =>
      cases hq : q x with
      | true => exact risk_mono p q h.2 (by simp only [cond_false]; omega) (by simp only [cond_false, cond_true]; omega) (Int.le_refl _) hr
      | false => exact risk_mono p q h.2 (by simp only [cond_false]; omega) h2 (by simp only [cond_false]; omega) hr
theorem risk_last (p : St3 → Bool) : ∀ {l : List St3} {n a : Int}, risesF l n → a ≤ n → ∀ t, l[l.length - 1]? = some t → l.foldl (fun v s => bif p s then s.2.2 else v) a ≤ t.2.2
  | [], _, _, _, _, t, ht => by simp at ht
  | [x], n, a, h, h1, t, ht => by
    simp only [List.length_singleton, Nat.sub_self, List.getElem?_cons_zero, Option.some.injEq] at ht
    subst ht
    have := h.1
    simp only [List.foldl_cons, List.foldl_nil]
    cases p x <;> simp only [cond_true, cond_false] <;> omega
  | x :: y :: r, n, a, h, h1, t, ht => by
    rw [List.foldl_cons]
    have := h.1
    refine risk_last p (l := y :: r) h.2 ?_ t ?_
    · cases p x <;> simp only [cond_true, cond_false] <;> omega
    · simpa using ht
/-! Where an integer is within a value. -/
theorem part_in {a b p : Int} (h : a ≤ b) (hp : 0 ≤ p ∧ p ≤ 255) : a ≤ a + (p * (b - a)).tdiv 255 ∧ a + (p * (b - a)).tdiv 255 ≤ b := by
  have h1 : 0 ≤ p * (b - a) := Int.mul_nonneg hp.1 (by omega)
  have h2 : p * (b - a) ≤ 255 * (b - a) := Int.mul_le_mul_of_nonneg_right hp.2 (by omega)
  rw [Int.tdiv_eq_ediv_of_nonneg h1]
  omega
end Go.Vm.S6
