/- Part of a proof. -/
import Derived.Test.YtbplbhcgcicgfaaGreatDoorS6LA
namespace Go.Vm.S6
/-! ### Ranks -/
section
variable {α : Type}
/-- An element goes left past those that it is less than. -/
def insR (lt : α → α → Bool) (x : α) : List α → List α
  | [] => [x]
  | y :: r => bif lt x y then y :: insR lt x r else x :: y :: r
theorem insR_perm (lt : α → α → Bool) (x : α) : ∀ (l : List α), (insR lt x l).Perm (x :: l)
  | [] => List.Perm.refl _
  | y :: r => by
    unfold insR
    cases lt x y with
    | true => exact ((insR_perm lt x r).cons y).trans (List.Perm.swap x y r)
    | false => exact List.Perm.refl _
/-- The inner loop: the element at j, ahead of it a row. -/
def innM (lt : α → α → Bool) : Nat → List α → List α
  | 0, d => d
  | j + 1, d => match d[j + 1]?, d[j]? with
    | some x, some y => bif lt x y then innM lt j ((d.set (j + 1) y).set j x) else d
    | _, _ => d
theorem innM_app (lt : α → α → Bool) (x : α) : ∀ (r t : List α), innM lt r.length (r.reverse ++ x :: t) = (insR lt x r).reverse ++ t
  | [], t => by simp [innM, insR]
  | y :: r, t => by
    unfold innM insR
    rw [List.length_cons, List.reverse_cons, List.append_assoc]
    have e1 : (r.reverse ++ ([y] ++ x :: t))[r.length + 1]? = some x := by
      rw [List.getElem?_append_right (by simp)]; simp
    have e2 : (r.reverse ++ ([y] ++ x :: t))[r.length]? = some y := by
      rw [List.getElem?_append_right (by simp)]; simp
    dsimp only
    rw [e1, e2]
    dsimp only
    cases lt x y with
    | true =>
      rw [cond_true, cond_true]
      have e3 : ((r.reverse ++ ([y] ++ x :: t)).set (r.length + 1) y).set r.length x = r.reverse ++ x :: (y :: t) := by
        rw [List.set_append_right _ _ (by simp), List.set_append_right _ _ (by simp)]
        simp
      rw [e3, innM_app lt x r (y :: t)]
      simp
    | false =>
      rw [cond_false, cond_false]
      simp
/-- The sort, from a place on. -/
def sortM (lt : α → α → Bool) : List α → List α → List α
  | acc, [] => acc
  | acc, x :: t => sortM lt (insR lt x acc) t
theorem sortM_perm (lt : α → α → Bool) : ∀ (t acc : List α), (sortM lt acc t).Perm (acc ++ t)
  | [], acc => by simp [sortM]
  | x :: t, acc => by
    unfold sortM
    refine (sortM_perm lt t (insR lt x acc)).trans ?_
    exact ((insR_perm lt x acc).append_right t).trans (List.perm_middle.symm)
end
/-- What comes ahead of what: a lesser one, or an equal one with a lesser index. -/
def ahd (lt : Nat → Nat → Bool) (i k : Nat) : Prop := lt i k = true ∨ lt k i = false ∧ i < k
structure Swo (lt : Nat → Nat → Bool) : Prop where
  asy : ∀ i k, lt i k = true → lt k i = false
  neg : ∀ i j k, lt i k = true → lt i j = true ∨ lt j k = true
theorem ahd_asy {lt : Nat → Nat → Bool} (h : Swo lt) {i k : Nat} (h1 : ahd lt i k) (h2 : ahd lt k i) : False := by
  rcases h1 with h1 | ⟨h1, h1'⟩ <;> rcases h2 with h2 | ⟨h2, h2'⟩
  · rw [h.asy _ _ h1] at h2; cases h2
  · rw [h1] at h2; cases h2
  · rw [h1] at h2; cases h2
  · omega
theorem ahd_trans {lt : Nat → Nat → Bool} (h : Swo lt) {i j k : Nat} (h1 : ahd lt i j) (h2 : ahd lt j k) : ahd lt i k := by
  unfold ahd
  rcases h1 with h1 | ⟨h1, h1'⟩ <;> rcases h2 with h2 | ⟨h2, h2'⟩
  · rcases h.neg i k j h1 with h3 | h3
    · exact .inl h3
    · rw [h.asy _ _ h2] at h3; cases h3
  · rcases h.neg i k j h1 with h3 | h3
    · exact .inl h3
    · rw [h2] at h3; cases h3
  · rcases h.neg j i k h2 with h3 | h3
    · rw [h1] at h3; cases h3
    · exact .inl h3
  · cases h3 : lt i k with
    | true => exact .inl rfl
    | false =>
      refine .inr ⟨?_, by omega⟩
      cases h4 : lt k i with
      | false => rfl
      | true =>
        rcases h.neg k j i h4 with h5 | h5
        · rw [h2] at h5; cases h5
        · rw [h1] at h5; cases h5
/-- A row in descending order takes a greater index. -/
theorem insR_sorted {lt : Nat → Nat → Bool} (h : Swo lt) (x : Nat) : ∀ (l : List Nat), (∀ y ∈ l, y < x) → l.Pairwise (fun a b => ahd lt b a) → (insR lt x l).Pairwise (fun a b => ahd lt b a)
  | [], _, _ => by simp [insR]
  | y :: r, hx, hp => by
    unfold insR
    obtain ⟨h1, h2⟩ := List.pairwise_cons.1 hp
    cases hxy : lt x y with
    | true =>
      rw [cond_true, List.pairwise_cons]
      refine ⟨fun z hz => ?_, insR_sorted h x r (fun z hz => hx z (by simp [hz])) h2⟩
      rcases List.mem_cons.1 ((insR_perm lt x r).mem_iff.1 hz) with rfl | hz
      · exact .inl hxy
      · exact h1 z hz
    | false =>
      rw [cond_false, List.pairwise_cons]
      have hyx : ahd lt y x := .inr ⟨hxy, hx y (by simp)⟩
      refine ⟨fun z hz => ?_, hp⟩
      rcases List.mem_cons.1 hz with rfl | hz
      · exact hyx
      · exact ahd_trans h (h1 z hz) hyx
theorem sortM_sorted {lt : Nat → Nat → Bool} (h : Swo lt) : ∀ (n k : Nat) (acc : List Nat), (∀ y ∈ acc, y < k) → acc.Pairwise (fun a b => ahd lt b a) → (sortM lt acc (List.range' k n)).Pairwise (fun a b => ahd lt b a)
  | 0, _, acc, _, h2 => h2
  | n + 1, k, acc, h1, h2 => by
    rw [List.range'_succ]
    unfold sortM
    refine sortM_sorted h n (k + 1) _ (fun y hy => ?_) (insR_sorted h k acc h1 h2)
    rcases List.mem_cons.1 ((insR_perm lt k acc).mem_iff.1 hy) with rfl | hy
    · omega
    · have := h1 y hy; omega
/-- The program's ranks. -/
def rankP (lt : Nat → Nat → Bool) (n : Nat) : List Nat := (sortM lt [] (List.range' 0 n)).reverse
theorem rankP_perm (lt : Nat → Nat → Bool) (n : Nat) : (rankP lt n).Perm (List.range n) := by
  unfold rankP
  refine (List.reverse_perm _).trans ?_
  have := sortM_perm lt (List.range' 0 n) []
  rw [List.nil_append, ← List.range_eq_range'] at this
  rw [← List.range_eq_range']
  exact this
theorem rankP_sorted {lt : Nat → Nat → Bool} (h : Swo lt) (n : Nat) : (rankP lt n).Pairwise (ahd lt) := by
  unfold rankP
  rw [List.pairwise_reverse]
  exact sortM_sorted h n 0 [] (fun y hy => by simp at hy) (List.Pairwise.nil)
/-- The reference's: the first least one of those that are not taken. -/
def selM (lt : Nat → Nat → Bool) (tk : Nat → Bool) (n : Nat) : Option Nat :=
  (List.range n).foldl (fun b i => bif !tk i && (match b with | none => true | some j => lt i j) then some i else b) none
theorem selM_spec {lt : Nat → Nat → Bool} (h : Swo lt) (tk : Nat → Bool) : ∀ n, (selM lt tk n = none ∧ ∀ i, i < n → tk i = true) ∨ ∃ b, selM lt tk n = some b ∧ b < n ∧ tk b = false ∧ ∀ i, i < n → tk i = false → i ≠ b → ahd lt b i
  | 0 => .inl ⟨rfl, fun i hi => by omega⟩
  | n + 1 => by
    have e : selM lt tk (n + 1) = (fun b i => bif !tk i && (match b with | none => true | some j => lt i j) then some i else b) (selM lt tk n) n := by
      unfold selM; rw [List.range_succ, List.foldl_append]; rfl
    rw [e]
    dsimp only
    rcases selM_spec h tk n with ⟨h1, h2⟩ | ⟨b, h1, h2, h3, h4⟩
    · rw [h1]
      dsimp only
      cases ht : tk n with
      | true =>
        refine .inl ⟨rfl, fun i hi => ?_⟩
        by_cases hin : i = n
        · rw [hin]; exact ht
        · exact h2 i (by omega)
      | false =>
        refine .inr ⟨n, rfl, by omega, ht, fun i hi hti hne => ?_⟩
        have := h2 i (by omega)
        rw [hti] at this; cases this
    · rw [h1]
      dsimp only
      right
      cases ht : tk n with
      | true =>
        refine ⟨b, rfl, by omega, h3, fun i hi hti hne => ?_⟩
        by_cases hin : i = n
        · rw [hin, ht] at hti; cases hti
        · exact h4 i (by omega) hti hne
      | false =>
        cases hl : lt n b with
        | true =>
          refine ⟨n, rfl, by omega, ht, fun i hi hti hne => ?_⟩
          by_cases hib : i = b
          · rw [hib]; exact .inl hl
          · exact ahd_trans h (.inl hl) (h4 i (by omega) hti hib)
        | false =>
          refine ⟨b, rfl, by omega, h3, fun i hi hti hne => ?_⟩
          by_cases hin : i = n
          · rw [hin]; exact .inr ⟨hl, h2⟩
          · exact h4 i (by omega) hti hne
def hasN (l : List Nat) (i : Nat) : Bool := l.any (Nat.beq i)
theorem hasN_iff {l : List Nat} {i : Nat} : hasN l i = true ↔ i ∈ l := by
  unfold hasN
  rw [List.any_eq_true]
  exact ⟨fun ⟨x, hx, he⟩ => by rw [Nat.eq_of_beq_eq_true he]; exact hx, fun h => ⟨i, h, Nat.beq_refl i⟩⟩
/-- Rounds of the reference. -/
def rankR (lt : Nat → Nat → Bool) (n : Nat) : Nat → List Nat
  | 0 => []
  | k + 1 => rankR lt n k ++ [(selM lt (hasN (rankR lt n k)) n).getD 0]
theorem rankR_spec {lt : Nat → Nat → Bool} (h : Swo lt) (n : Nat) : ∀ k, k ≤ n → ∃ rest : List Nat, rest.length = n - k ∧ rest.Nodup ∧ (∀ i, i ∈ rest ↔ i < n ∧ i ∉ rankR lt n k) ∧ (rankR lt n k).Pairwise (ahd lt) ∧ (∀ i ∈ rankR lt n k, i < n ∧ ∀ j ∈ rest, ahd lt i j) ∧ (rankR lt n k).length = k
  | 0, _ => ⟨List.range n, by simp, List.nodup_range, fun i => by simp [rankR], List.Pairwise.nil, fun i hi => by simp [rankR] at hi, rfl⟩
  | k + 1, hk => by
    obtain ⟨rest, h1, h2, h3, h4, h5, h6⟩ := rankR_spec h n k (by omega)
    unfold rankR
    rcases selM_spec h (hasN (rankR lt n k)) n with ⟨_, g2⟩ | ⟨b, g1, g2, g3, g4⟩
    · exfalso
      cases rest with
      | nil => simp at h1; omega
      | cons x r =>
        have hx := (h3 x).1 (by simp)
        exact hx.2 (hasN_iff.1 (g2 x hx.1))
    · have gb : ∀ i, hasN (rankR lt n k) i = false ↔ i ∉ rankR lt n k := fun i => by rw [← hasN_iff]; simp
      rw [g1]
      have hb : b ∈ rest := (h3 b).2 ⟨g2, (gb b).1 g3⟩
      refine ⟨rest.erase b, by rw [List.length_erase_of_mem hb]; omega, h2.erase b, fun i => ?_, ?_, fun i hi => ?_, by simp [h6]⟩
      · rw [h2.mem_erase_iff, h3]
        simp only [Option.getD_some, List.mem_append, List.mem_singleton]
        constructor
        · rintro ⟨a1, a2, a3⟩; exact ⟨a2, fun hc => by rcases hc with hc | hc; exact a3 hc; exact a1 hc⟩
        · rintro ⟨a1, a2⟩; exact ⟨fun hc => a2 (.inr hc), a1, fun hc => a2 (.inl hc)⟩
      · rw [List.pairwise_append]
        refine ⟨h4, by simp, fun x hx y hy => ?_⟩
        simp only [Option.getD_some, List.mem_singleton] at hy
        rw [hy]
        exact (h5 x hx).2 b hb
      · rcases List.mem_append.1 hi with hi | hi
        · exact ⟨(h5 i hi).1, fun j hj => (h5 i hi).2 j (List.mem_of_mem_erase hj)⟩
        · simp only [Option.getD_some, List.mem_singleton] at hi
          rw [hi]
          refine ⟨g2, fun j hj => ?_⟩
          have hj2 := (h3 j).1 (List.mem_of_mem_erase hj)
          rw [h2.mem_erase_iff] at hj
          exact g4 j hj2.1 ((gb j).2 hj2.2) hj.1
theorem sorted_unique {α : Type} {R : α → α → Prop} (asy : ∀ a b, R a b → R b a → False) : ∀ {l m : List α}, l.Pairwise R → m.Pairwise R → (∀ x, x ∈ l ↔ x ∈ m) → l = m
  | [], [], _, _, _ => rfl
  | [], y :: q, _, _, h => by have := (h y).2 (by simp); simp at this
  | x :: r, [], _, _, h => by have := (h x).1 (by simp); simp at this
  | x :: r, y :: q, h1, h2, h => by
    obtain ⟨a1, a2⟩ := List.pairwise_cons.1 h1
    obtain ⟨b1, b2⟩ := List.pairwise_cons.1 h2
    have hxy : x = y := by
      rcases List.mem_cons.1 ((h x).1 (by simp)) with e | hx
      · exact e
      · rcases List.mem_cons.1 ((h y).2 (by simp)) with e | hy
        · exact e.symm
        · exact (asy _ _ (a1 y hy) (b1 x hx)).elim
    subst hxy
    congr 1
    refine sorted_unique asy a2 b2 fun z => ?_
    have hz := h z
    constructor
    · intro hm
      rcases List.mem_cons.1 (hz.1 (by simp [hm])) with e | e
      · subst e; exact (asy _ _ (a1 z hm) (a1 z hm)).elim
      · exact e
    · intro hm
      rcases List.mem_cons.1 (hz.2 (by simp [hm])) with e | e
      · subst e; exact (asy _ _ (b1 z hm) (b1 z hm)).elim
      · exact e
theorem rank_eq {lt : Nat → Nat → Bool} (h : Swo lt) (n : Nat) : rankP lt n = rankR lt n n := by
  obtain ⟨rest, h1, _, h3, h4, h5, _⟩ := rankR_spec h n n (Nat.le_refl n)
  have hr : rest = [] := List.length_eq_zero_iff.1 (by omega)
  refine sorted_unique (fun a b => ahd_asy h) (rankP_sorted h n) h4 fun x => ?_
  rw [(rankP_perm lt n).mem_iff, List.mem_range]
  constructor
  · intro hx
    by_cases hm : x ∈ rankR lt n n
    · exact hm
    · have := (h3 x).2 ⟨hx, hm⟩
      rw [hr] at this; simp at this
  · intro hx; exact (h5 x hx).1
/-- Two rows of the same elements, both ascending. -/
theorem perm_unique {α : Type} {R : α → α → Prop} : ∀ {l m : List α}, (∀ a ∈ l, ∀ b ∈ l, R a b → R b a → a = b) → l.Pairwise R → m.Pairwise R → l.Perm m → l = m
  | [], m, _, _, _, h => by have := h.length_eq; cases m with | nil => rfl | cons => simp at this
  | x :: r, [], _, _, _, h => by have := h.length_eq; simp at this
  | x :: r, y :: q, anti, h1, h2, h => by
    obtain ⟨a1, a2⟩ := List.pairwise_cons.1 h1
    obtain ⟨b1, b2⟩ := List.pairwise_cons.1 h2
    have hxy : x = y := by
      rcases List.mem_cons.1 (h.mem_iff.1 (show x ∈ x :: r by simp)) with e | hx
      · exact e
      · rcases List.mem_cons.1 (h.mem_iff.2 (show y ∈ y :: q by simp)) with e | hy
        · exact e.symm
        · exact anti x (by simp) y (by simp [hy]) (a1 y hy) (b1 x hx)
    subst hxy
    congr 1
    exact perm_unique (fun a ha b hb => anti a (by simp [ha]) b (by simp [hb])) a2 b2 ((List.perm_cons x).1 h)
end Go.Vm.S6
