/- Plain laws: held levels and longest spans. -/
import Derived.Test.YtbplbhcgcicgfaaGreatDoorS6PB2
namespace Go.Vm.S6
/-! ### Held levels and longest spans: what they are -/
theorem foldl_min_mem : ∀ (r : List Int) (a : Int), r.foldl min a = a ∨ r.foldl min a ∈ r
  | [], _ => .inl rfl
  | x :: r, a => by
    rw [List.foldl_cons]
    rcases foldl_min_mem r (min a x) with h | h
    · by_cases hs : a ≤ x
      · rw [Int.min_eq_left hs] at h ⊢; exact .inl h
      · rw [Int.min_eq_right (by omega)] at h ⊢; rw [h]; exact .inr (by simp)
    · exact .inr (by simp [h])
theorem minM_mem {l : List Int} (h : l ≠ []) : minM l ∈ l := by
  cases l with
  | nil => exact absurd rfl h
  | cons x r =>
    rcases foldl_min_mem r x with h | h
    · rw [show minM (x :: r) = r.foldl min x from rfl, h]; simp
    · exact List.mem_cons_of_mem _ h
/-- All integers from f on, up to t, are at least v. -/
def allGe (l : List Int) (v : Int) (f t : Nat) : Prop := ∀ i x, f ≤ i → i < t → l[i]? = some x → v ≤ x
theorem mem_win {l : List Int} {f n : Nat} {x : Int} : x ∈ (l.drop f).take n ↔ ∃ i, f ≤ i ∧ i < f + n ∧ l[i]? = some x := by
  rw [List.mem_iff_getElem?]
  constructor
  · rintro ⟨j, hj⟩
    rw [List.getElem?_take] at hj
    split at hj
    · rw [List.getElem?_drop] at hj; exact ⟨f + j, by omega, by omega, hj⟩
    · cases hj
  · rintro ⟨i, h1, h2, h3⟩
    refine ⟨i - f, ?_⟩
    rw [List.getElem?_take, if_pos (by omega), List.getElem?_drop, show f + (i - f) = i by omega]; exact h3
theorem minW_all {l : List Int} {f n : Nat} : allGe l (minW l f n) f (f + n) := fun i _ h1 h2 h3 => minM_le (mem_win.2 ⟨i, h1, h2, h3⟩)
theorem minW_of {l : List Int} {f n : Nat} {v : Int} (hn : 1 ≤ n) (hf : f + n ≤ l.length) (h : allGe l v f (f + n)) : v ≤ minW l f n := by
  have hne : (l.drop f).take n ≠ [] := by
    intro h0
    have := congrArg List.length h0
    rw [List.length_take, List.length_drop, List.length_nil] at this
    omega
  obtain ⟨i, h1, h2, h3⟩ := mem_win.1 (minM_mem hne)
  exact h i _ h1 h2 h3
theorem heldP_spec {l : List Int} {n : Nat} (hb : ∀ x ∈ l, -16384 ≤ x) : ∃ f, heldP l n = (minW l f n, Int.ofNat f) ∧ f ≤ l.length - n ∧ ∀ g, g ≤ l.length - n → minW l g n ≤ minW l f n := by
  have key : ∀ (r : List Nat) (f0 : Nat), ∃ f, r.foldl (fun st f => bif decide (minW l f n > st.1) then (minW l f n, Int.ofNat f) else st) (minW l f0 n, Int.ofNat f0) = (minW l f n, Int.ofNat f) ∧ (f = f0 ∨ f ∈ r) ∧ minW l f0 n ≤ minW l f n ∧ ∀ g ∈ r, minW l g n ≤ minW l f n := by
    intro r
    induction r with
    | nil => intro f0; exact ⟨f0, rfl, .inl rfl, Int.le_refl _, fun g hg => by simp at hg⟩
    | cons x r ih =>
      intro f0
      rw [List.foldl_cons]
      by_cases h : minW l x n > minW l f0 n
      · have hd : decide (minW l x n > (minW l f0 n, Int.ofNat f0).1) = true := by simpa using h
        rw [hd, cond_true]
        obtain ⟨f, e, h1, h2, h3⟩ := ih x
        refine ⟨f, e, ?_, by omega, fun g hg => ?_⟩
        · rcases h1 with rfl | h1
          · exact .inr (by simp)
          · exact .inr (by simp [h1])
        · rcases List.mem_cons.1 hg with rfl | hg
          · exact h2
          · exact h3 g hg
      · have hd : decide (minW l x n > (minW l f0 n, Int.ofNat f0).1) = false := by simpa using h
        rw [hd, cond_false]
        obtain ⟨f, e, h1, h2, h3⟩ := ih f0
        refine ⟨f, e, ?_, h2, fun g hg => ?_⟩
        · rcases h1 with rfl | h1
          · exact .inl rfl
          · exact .inr (by simp [h1])
        · rcases List.mem_cons.1 hg with rfl | hg
          · omega
          · exact h3 g hg
  unfold heldP
  rw [List.range_succ_eq_map, List.foldl_cons]
  have h0 : decide (minW l 0 n > -16385) = true := by
    have := minW_ge (l := l) (f := 0) (n := n) (-16384) (by omega) hb
    simp; omega
  simp only [h0, cond_true]
  obtain ⟨f, e, h1, h2, h3⟩ := key (List.map Nat.succ (List.range (l.length - n))) 0
  refine ⟨f, e, ?_, fun g hg => ?_⟩
  · rcases h1 with rfl | h1
    · omega
    · rw [List.mem_map] at h1
      obtain ⟨y, hy, rfl⟩ := h1
      rw [List.mem_range] at hy; omega
  · cases g with
    | zero => exact h2
    | succ g => exact h3 (g + 1) (by rw [List.mem_map]; exact ⟨g, by rw [List.mem_range]; omega, rfl⟩)
theorem runL_all {level : Int} : ∀ {l : List Int} {f : Nat}, f ≤ l.length → allGe l level f (f + runL level (l.drop f)) ∧ f + runL level (l.drop f) ≤ l.length := by
  have key : ∀ (r : List Int), (∀ (i : Nat) x, i < runL level r → r[i]? = some x → level ≤ x) ∧ runL level r ≤ r.length := by
    intro r
    induction r with
    | nil => exact ⟨fun i x h => by simp [runL] at h, Nat.le_refl _⟩
    | cons y r ih =>
      unfold runL
      by_cases h : y ≥ level
      · rw [decide_eq_true h, cond_true]
        refine ⟨fun i x hi hx => ?_, by rw [List.length_cons]; omega⟩
        cases i with
        | zero => simp only [List.getElem?_cons_zero, Option.some.injEq] at hx; subst hx; exact h
        | succ i => exact ih.1 i x (by omega) (by simpa using hx)
      · rw [decide_eq_false h, cond_false]
        exact ⟨fun i x hi => by omega, by omega⟩
  intro l f hf
  obtain ⟨h1, h2⟩ := key (l.drop f)
  rw [List.length_drop] at h2
  refine ⟨fun i x hi hi2 hx => h1 (i - f) x (by omega) ?_, by omega⟩
  rw [List.getElem?_drop, show f + (i - f) = i by omega]; exact hx
theorem runL_ge {level : Int} {l : List Int} {f t : Nat} (ht : t ≤ l.length) (h : allGe l level f t) : t - f ≤ runL level (l.drop f) := by
  have key : ∀ (r : List Int) (n : Nat), n ≤ r.length → (∀ (i : Nat) x, i < n → r[i]? = some x → level ≤ x) → n ≤ runL level r := by
    intro r
    induction r with
    | nil => intro n hn _; simp at hn; omega
    | cons y r ih =>
      intro n hn h
      cases n with
      | zero => omega
      | succ n =>
        unfold runL
        have hy : y ≥ level := h 0 y (by omega) rfl
        rw [decide_eq_true hy, cond_true]
        have := ih n (by rw [List.length_cons] at hn; omega) (fun i x hi hx => h (i + 1) x (by omega) (by simpa using hx))
        omega
  refine key (l.drop f) (t - f) (by rw [List.length_drop]; omega) fun i x hi hx => ?_
  rw [List.getElem?_drop] at hx
  exact h (f + i) x (by omega) (by omega) hx
theorem longR_spec (l : List Int) (level : Int) : ∃ a b : Nat, longR l level = (Int.ofNat a, Int.ofNat b) ∧ a ≤ b ∧ b ≤ l.length ∧ allGe l level a b ∧ ∀ f t, t ≤ l.length → allGe l level f t → t - f ≤ b - a := by
  have key : ∀ (r : List Nat) (a b : Nat), a ≤ b → b ≤ l.length → allGe l level a b → (∀ x ∈ r, x ≤ l.length) →
      ∃ a' b' : Nat, r.foldl (fun out f => bif decide (Int.ofNat (runL level (l.drop f)) > lenS out) then (Int.ofNat f, Int.ofNat (f + runL level (l.drop f))) else out) (Int.ofNat a, Int.ofNat b) = (Int.ofNat a', Int.ofNat b') ∧ a' ≤ b' ∧ b' ≤ l.length ∧ allGe l level a' b' ∧ b - a ≤ b' - a' ∧ ∀ x ∈ r, runL level (l.drop x) ≤ b' - a' := by
    intro r
    induction r with
    | nil => intro a b h1 h2 h3 _; exact ⟨a, b, rfl, h1, h2, h3, Nat.le_refl _, fun x hx => by simp at hx⟩
    | cons x r ih =>
      intro a b h1 h2 h3 h4
      rw [List.foldl_cons]
      have hx := h4 x (by simp)
      have hr : ∀ y ∈ r, y ≤ l.length := fun y hy => h4 y (by simp [hy])
      obtain ⟨k1, k2⟩ := runL_all (level := level) hx
      by_cases h : Int.ofNat (runL level (l.drop x)) > lenS (Int.ofNat a, Int.ofNat b)
      · rw [decide_eq_true h, cond_true]
        unfold lenS at h
        simp only [Int.ofNat_eq_natCast] at h
        obtain ⟨a', b', e, g1, g2, g3, g4, g5⟩ := ih x (x + runL level (l.drop x)) (by omega) k2 k1 hr
        refine ⟨a', b', e, g1, g2, g3, by omega, fun y hy => ?_⟩
        rcases List.mem_cons.1 hy with rfl | hy
        · omega
        · exact g5 y hy
      · rw [decide_eq_false h, cond_false]
        unfold lenS at h
        simp only [Int.ofNat_eq_natCast] at h
        obtain ⟨a', b', e, g1, g2, g3, g4, g5⟩ := ih a b h1 h2 h3 hr
        refine ⟨a', b', e, g1, g2, g3, g4, fun y hy => ?_⟩
        rcases List.mem_cons.1 hy with rfl | hy
        · omega
        · exact g5 y hy
  obtain ⟨a, b, e, h1, h2, h3, _, h5⟩ := key (List.range l.length) 0 0 (Nat.le_refl 0) (Nat.zero_le _) (fun i x _ h => by omega) (fun x hx => by rw [List.mem_range] at hx; omega)
  refine ⟨a, b, e, h1, h2, h3, fun f t ht h => ?_⟩
  by_cases hft : f < t
  · exact Nat.le_trans (runL_ge ht h) (h5 f (by rw [List.mem_range]; omega))
  · omega
/-! The law's own questions. -/
theorem own_ge {l : List Int} {n f a b : Nat} (h2 : f + n ≤ l.length) (h : ∀ x y, y ≤ l.length → allGe l (minW l f n) x y → y - x ≤ b - a) : n ≤ b - a := by
  have := h f (f + n) h2 minW_all
  omega
theorem above_lt {l : List Int} {n f a b : Nat} (hn : 1 ≤ n) (hm : ∀ g, g ≤ l.length - n → minW l g n ≤ minW l f n) (h2 : b ≤ l.length) (h3 : allGe l (minW l f n + 1) a b) : b - a < n := by
  by_cases h : b - a < n
  · exact h
  · exfalso
    have := minW_of (l := l) (f := a) (n := n) (v := minW l f n + 1) hn (by omega) (fun i x h4 h5 h6 => h3 i x h4 (by omega) h6)
    have := hm a (by omega)
    omega
theorem less_le {l : List Int} {n f g : Nat} (hn : 1 ≤ n) (hl : n + 1 ≤ l.length) (hm : ∀ g, g ≤ l.length - n → minW l g n ≤ minW l f n) (hg : g ≤ l.length - (n + 1)) : minW l g (n + 1) ≤ minW l f n := by
  have h1 := minW_of (l := l) (f := g) (n := n) (v := minW l g (n + 1)) hn (by omega) (fun i x h4 h5 h6 => minW_all i x h4 (by omega) h6)
  have := hm g (by omega)
  omega
end Go.Vm.S6
