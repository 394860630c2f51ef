/- Plain laws: ratios in order. -/
import Derived.Test.YtbplbhcgcicgfaaGreatDoorS6LA
import Derived.Test.YtbplbhcgcicgfaaGreatDoorS6M1
namespace Go.Vm.S6
/-! ### Ranks -/
section
variable {α : Type}
/-- An element goes left past those that it is less than. -/
def insR (lt : α → α → Bool) (x : α) : List α → List α
  | [] => [x]
  | y :: r => bif lt x y then y :: insR lt x r else x :: y :: r
theorem insR_perm (lt : α → α → Bool) (x : α) : ∀ (l : List α), (insR lt x l).Perm (x :: l)
  | [] => List.Perm.refl _
  | y :: r => by
    unfold insR
    cases lt x y with
    | true => exact ((insR_perm lt x r).cons y).trans (List.Perm.swap x y r)
    | false => exact List.Perm.refl _
/-- The inner loop: the element at j, ahead of it a row. -/
def innM (lt : α → α → Bool) : Nat → List α → List α
  | 0, d => d
  | j + 1, d => match d[j + 1]?, d[j]? with
    | some x, some y => bif lt x y then innM lt j ((d.set (j + 1) y).set j x) else d
    | _, _ => d
theorem innM_app (lt : α → α → Bool) (x : α) : ∀ (r t : List α), innM lt r.length (r.reverse ++ x :: t) = (insR lt x r).reverse ++ t
  | [], t => by simp [innM, insR]
  | y :: r, t => by
    unfold innM insR
    rw [List.length_cons, List.reverse_cons, List.append_assoc]
    have e1 : (r.reverse ++ ([y] ++ x :: t))[r.length + 1]? = some x := by
      rw [List.getElem?_append_right (by simp)]; simp
    have e2 : (r.reverse ++ ([y] ++ x :: t))[r.length]? = some y := by
      rw [List.getElem?_append_right (by simp)]; simp
    dsimp only
    rw [e1, e2]
    dsimp only
    cases lt x y with
    | true =>
      rw [cond_true, cond_true]
      have e3 : ((r.reverse ++ ([y] ++ x :: t)).set (r.length + 1) y).set r.length x = r.reverse ++ x :: (y :: t) := by
        rw [List.set_append_right _ _ (by simp), List.set_append_right _ _ (by simp)]
        simp
      rw [e3, innM_app lt x r (y :: t)]
      simp
    | false =>
      rw [cond_false, cond_false]
      simp
/-- The sort, from a place on. -/
def sortM (lt : α → α → Bool) : List α → List α → List α
  | acc, [] => acc
  | acc, x :: t => sortM lt (insR lt x acc) t
theorem sortM_perm (lt : α → α → Bool) : ∀ (t acc : List α), (sortM lt acc t).Perm (acc ++ t)
  | [], acc => by simp [sortM]
  | x :: t, acc => by
    unfold sortM
    refine (sortM_perm lt t (insR lt x acc)).trans ?_
    exact ((insR_perm lt x acc).append_right t).trans (List.perm_middle.symm)
end
/-- What comes ahead of what: a lesser one, or an equal one with a lesser index. -/
def ahd (lt : Nat → Nat → Bool) (i k : Nat) : Prop := lt i k = true ∨ lt k i = false ∧ i < k
structure Swo (lt : Nat → Nat → Bool) : Prop where
  asy : ∀ i k, lt i k = true → lt k i = false
  neg : ∀ i j k, lt i k = true → lt i j = true ∨ lt j k = true
theorem ahd_asy {lt : Nat → Nat → Bool} (h : Swo lt) {i k : Nat} (h1 : ahd lt i k) (h2 : ahd lt k i) : False := by
  rcases h1 with h1 | ⟨h1, h1'⟩ <;> rcases h2 with h2 | ⟨h2, h2'⟩
  · rw [h.asy _ _ h1] at h2; cases h2
  · rw [h1] at h2; cases h2
  · rw [h1] at h2; cases h2
  · omega
theorem ahd_trans {lt : Nat → Nat → Bool} (h : Swo lt) {i j k : Nat} (h1 : ahd lt i j) (h2 : ahd lt j k) : ahd lt i k := by
  unfold ahd
  rcases h1 with h1 | ⟨h1, h1'⟩ <;> rcases h2 with h2 | ⟨h2, h2'⟩
  · rcases h.neg i k j h1 with h3 | h3
    · exact .inl h3
    · rw [h.asy _ _ h2] at h3; cases h3
  · rcases h.neg i k j h1 with h3 | h3
    · exact .inl h3
    · rw [h2] at h3; cases h3
  · rcases h.neg j i k h2 with h3 | h3
    · rw [h1] at h3; cases h3
    · exact .inl h3
  · cases h3 : lt i k with
    | true => exact .inl rfl
    | false =>
      refine .inr ⟨?_, by omega⟩
      cases h4 : lt k i with
      | false => rfl
      | true =>
        rcases h.neg k j i h4 with h5 | h5
        · rw [h2] at h5; cases h5
        · rw [h1] at h5; cases h5
/-- A row in descending order takes a greater index. -/
theorem insR_sorted {lt : Nat → Nat → Bool} (h : Swo lt) (x : Nat) : ∀ (l : List Nat), (∀ y ∈ l, y < x) → l.Pairwise (fun a b => ahd lt b a) → (insR lt x l).Pairwise (fun a b => ahd lt b a)
  | [], _, _ => by simp [insR]
  | y :: r, hx, hp => by
    unfold insR
    obtain ⟨h1, h2⟩ := List.pairwise_cons.1 hp
    cases hxy : lt x y with
    | true =>
      rw [cond_true, List.pairwise_cons]
      refine ⟨fun z hz => ?_, insR_sorted h x r (fun z hz => hx z (by simp [hz])) h2⟩
      rcases List.mem_cons.1 ((insR_perm lt x r).mem_iff.1 hz) with rfl | hz
      · exact .inl hxy
      · exact h1 z hz
    | false =>
      rw [cond_false, List.pairwise_cons]
      have hyx : ahd lt y x := .inr ⟨hxy, hx y (by simp)⟩
      refine ⟨fun z hz => ?_, hp⟩
      rcases List.mem_cons.1 hz with rfl | hz
      · exact hyx
      · exact ahd_trans h (h1 z hz) hyx
theorem sortM_sorted {lt : Nat → Nat → Bool} (h : Swo lt) : ∀ (n k : Nat) (acc : List Nat), (∀ y ∈ acc, y < k) → acc.Pairwise (fun a b => ahd lt b a) → (sortM lt acc (List.range' k n)).Pairwise (fun a b => ahd lt b a)
  | 0, _, acc, _, h2 => h2
  | n + 1, k, acc, h1, h2 => by
    rw [List.range'_succ]
    unfold sortM
    refine sortM_sorted h n (k + 1) _ (fun y hy => ?_) (insR_sorted h k acc h1 h2)
    rcases List.mem_cons.1 ((insR_perm lt k acc).mem_iff.1 hy) with rfl | hy
    · omega
    · have := h1 y hy; omega
/-- The program's ranks. -/
def rankP (lt : Nat → Nat → Bool) (n : Nat) : List Nat := (sortM lt [] (List.range' 0 n)).reverse
theorem rankP_perm (lt : Nat → Nat → Bool) (n : Nat) : (rankP lt n).Perm (List.range n) := by
  unfold rankP
  refine (List.reverse_perm _).trans ?_
  have := sortM_perm lt (List.range' 0 n) []
  rw [List.nil_append, ← List.range_eq_range'] at this
  rw [← List.range_eq_range']
  exact this
theorem rankP_sorted {lt : Nat → Nat → Bool} (h : Swo lt) (n : Nat) : (rankP lt n).Pairwise (ahd lt) := by
  unfold rankP
  rw [List.pairwise_reverse]
  exact sortM_sorted h n 0 [] (fun y hy => by simp at hy) (List.Pairwise.nil)
/-- The reference's: the first least one of those that are not taken. -/
def selM (lt : Nat → Nat → Bool) (tk : Nat → Bool) (n : Nat) : Option Nat :=
  (List.range n).foldl (fun b i => bif !tk i && (match b with | none => true | some j => lt i j) then some i else b) none
theorem selM_spec {lt : Nat → Nat → Bool} (h : Swo lt) (tk : Nat → Bool) : ∀ n, (selM lt tk n = none ∧ ∀ i, i < n → tk i = true) ∨ ∃ b, selM lt tk n = some b ∧ b < n ∧ tk b = false ∧ ∀ i, i < n → tk i = false → i ≠ b → ahd lt b i
  | 0 => .inl ⟨rfl, fun i hi => by omega⟩
  | n + 1 => by
    have e : selM lt tk (n + 1) = (fun b i => bif !tk i && (match b with | none => true | some j => lt i j) then some i else b) (selM lt tk n) n := by
      unfold selM; rw [List.range_succ, List.foldl_append]; rfl
    rw [e]
    dsimp only
    rcases selM_spec h tk n with ⟨h1, h2⟩ | ⟨b, h1, h2, h3, h4⟩
    · rw [h1]
      dsimp only
      cases ht : tk n with
      | true =>
        refine .inl ⟨rfl, fun i hi => ?_⟩
        by_cases hin : i = n
        · rw [hin]; exact ht
        · exact h2 i (by omega)
      | false =>
        refine .inr ⟨n, rfl, by omega, ht, fun i hi hti hne => ?_⟩
        have := h2 i (by omega)
        rw [hti] at this; cases this
    · rw [h1]
      dsimp only
      right
      cases ht : tk n with
      | true =>
        refine ⟨b, rfl, by omega, h3, fun i hi hti hne => ?_⟩
        by_cases hin : i = n
        · rw [hin, ht] at hti; cases hti
        · exact h4 i (by omega) hti hne
      | false =>
        cases hl : lt n b with
        | true =>
          refine ⟨n, rfl, by omega, ht, fun i hi hti hne => ?_⟩
          by_cases hib : i = b
          · rw [hib]; exact .inl hl
          · exact ahd_trans h (.inl hl) (h4 i (by omega) hti hib)
        | false =>
          refine ⟨b, rfl, by omega, h3, fun i hi hti hne => ?_⟩
          by_cases hin : i = n
          · rw [hin]; exact .inr ⟨hl, h2⟩
          · exact h4 i (by omega) hti hne
def hasN (l : List Nat) (i : Nat) : Bool := l.any (Nat.beq i)
theorem hasN_iff {l : List Nat} {i : Nat} : hasN l i = true ↔ i ∈ l := by
  unfold hasN
  rw [List.any_eq_true]
  exact ⟨fun ⟨x, hx, he⟩ => by rw [Nat.eq_of_beq_eq_true he]; exact hx, fun h => ⟨i, h, Nat.beq_refl i⟩⟩
/-- Rounds of the reference. -/
def rankR (lt : Nat → Nat → Bool) (n : Nat) : Nat → List Nat
  | 0 => []
  | k + 1 => rankR lt n k ++ [(selM lt (hasN (rankR lt n k)) n).getD 0]
theorem rankR_spec {lt : Nat → Nat → Bool} (h : Swo lt) (n : Nat) : ∀ k, k ≤ n → ∃ rest : List Nat, rest.length = n - k ∧ rest.Nodup ∧ (∀ i, i ∈ rest ↔ i < n ∧ i ∉ rankR lt n k) ∧ (rankR lt n k).Pairwise (ahd lt) ∧ (∀ i ∈ rankR lt n k, i < n ∧ ∀ j ∈ rest, ahd lt i j) ∧ (rankR lt n k).length = k
  | 0, _ => ⟨List.range n, by simp, List.nodup_range, fun i => by simp [rankR], List.Pairwise.nil, fun i hi => by simp [rankR] at hi, rfl⟩
  | k + 1, hk => by
    obtain ⟨rest, h1, h2, h3, h4, h5, h6⟩ := rankR_spec h n k (by omega)
    unfold rankR
    rcases selM_spec h (hasN (rankR lt n k)) n with ⟨_, g2⟩ | ⟨b, g1, g2, g3, g4⟩
    · exfalso
      cases rest with
      | nil => simp at h1; omega
      | cons x r =>
        have hx := (h3 x).1 (by simp)
        exact hx.2 (hasN_iff.1 (g2 x hx.1))
    · have gb : ∀ i, hasN (rankR lt n k) i = false ↔ i ∉ rankR lt n k := fun i => by rw [← hasN_iff]; simp
      rw [g1]
      have hb : b ∈ rest := (h3 b).2 ⟨g2, (gb b).1 g3⟩
      refine ⟨rest.erase b, by rw [List.length_erase_of_mem hb]; omega, h2.erase b, fun i => ?_, ?_, fun i hi => ?_, by simp [h6]⟩
      · rw [h2.mem_erase_iff, h3]
        simp only [Option.getD_some, List.mem_append, List.mem_singleton]
        constructor
        · rintro ⟨a1, a2, a3⟩; exact ⟨a2, fun hc => by rcases hc with hc | hc; exact a3 hc; exact a1 hc⟩
        · rintro ⟨a1, a2⟩; exact ⟨fun hc => a2 (.inr hc), a1, fun hc => a2 (.inl hc)⟩
      · rw [List.pairwise_append]
        refine ⟨h4, by simp, fun x hx y hy => ?_⟩
        simp only [Option.getD_some, List.mem_singleton] at hy
        rw [hy]
        exact (h5 x hx).2 b hb
      · rcases List.mem_append.1 hi with hi | hi
        · exact ⟨(h5 i hi).1, fun j hj => (h5 i hi).2 j (List.mem_of_mem_erase hj)⟩
        · simp only [Option.getD_some, List.mem_singleton] at hi
          rw [hi]
          refine ⟨g2, fun j hj => ?_⟩
          have hj2 := (h3 j).1 (List.mem_of_mem_erase hj)
          rw [h2.mem_erase_iff] at hj
          exact g4 j hj2.1 ((gb j).2 hj2.2) hj.1
theorem sorted_unique {α : Type} {R : α → α → Prop} (asy : ∀ a b, R a b → R b a → False) : ∀ {l m : List α}, l.Pairwise R → m.Pairwise R → (∀ x, x ∈ l ↔ x ∈ m) → l = m
  | [], [], _, _, _ => rfl
  | [], y :: q, _, _, h => by have := (h y).2 (by simp); simp at this
  | x :: r, [], _, _, h => by have := (h x).1 (by simp); simp at this
  | x :: r, y :: q, h1, h2, h => by
    obtain ⟨a1, a2⟩ := List.pairwise_cons.1 h1
    obtain ⟨b1, b2⟩ := List.pairwise_cons.1 h2
    have hxy : x = y := by
      rcases List.mem_cons.1 ((h x).1 (by simp)) with e | hx
      · exact e
      · rcases List.mem_cons.1 ((h y).2 (by simp)) with e | hy
        · exact e.symm
        · exact (asy _ _ (a1 y hy) (b1 x hx)).elim
    subst hxy
    congr 1
    refine sorted_unique asy a2 b2 fun z => ?_
    have hz := h z
    constructor
    · intro hm
      rcases List.mem_cons.1 (hz.1 (by simp [hm])) with e | e
      · subst e; exact (asy _ _ (a1 z hm) (a1 z hm)).elim
      · exact e
    · intro hm
      rcases List.mem_cons.1 (hz.2 (by simp [hm])) with e | e
      · subst e; exact (asy _ _ (b1 z hm) (b1 z hm)).elim
      · exact e
theorem rank_eq {lt : Nat → Nat → Bool} (h : Swo lt) (n : Nat) : rankP lt n = rankR lt n n := by
  obtain ⟨rest, h1, _, h3, h4, h5, _⟩ := rankR_spec h n n (Nat.le_refl n)
  have hr : rest = [] := List.length_eq_zero_iff.1 (by omega)
  refine sorted_unique (fun a b => ahd_asy h) (rankP_sorted h n) h4 fun x => ?_
  rw [(rankP_perm lt n).mem_iff, List.mem_range]
  constructor
  · intro hx
    by_cases hm : x ∈ rankR lt n n
    · exact hm
    · have := (h3 x).2 ⟨hx, hm⟩
      rw [hr] at this; simp at this
  · intro hx; exact (h5 x hx).1
/-- Two rows of the same elements, both ascending. -/
theorem perm_unique {α : Type} {R : α → α → Prop} : ∀ {l m : List α}, (∀ a ∈ l, ∀ b ∈ l, R a b → R b a → a = b) → l.Pairwise R → m.Pairwise R → l.Perm m → l = m
  | [], m, _, _, _, h => by have := h.length_eq; cases m with | nil => rfl | cons => simp at this
  | x :: r, [], _, _, _, h => by have := h.length_eq; simp at this
  | x :: r, y :: q, anti, h1, h2, h => by
    obtain ⟨a1, a2⟩ := List.pairwise_cons.1 h1
    obtain ⟨b1, b2⟩ := List.pairwise_cons.1 h2
    have hxy : x = y := by
      rcases List.mem_cons.1 (h.mem_iff.1 (show x ∈ x :: r by simp)) with e | hx
      · exact e
      · rcases List.mem_cons.1 (h.mem_iff.2 (show y ∈ y :: q by simp)) with e | hy
        · exact e.symm
        · exact anti x (by simp) y (by simp [hy]) (a1 y hy) (b1 x hx)
    subst hxy
    congr 1
    exact perm_unique (fun a ha b hb => anti a (by simp [ha]) b (by simp [hb])) a2 b2 ((List.perm_cons x).1 h)
end Go.Vm.S6

namespace Go.Vm.S6
open Go.Proofs Go.RowKit
/-! ### Ratios in order -/
def atR (l : List P2) (i : Nat) : P2 := (l[i]?).getD (0, 1)
theorem atR_get {l : List P2} {i : Nat} (h : i < l.length) : l[i]? = some (atR l i) := by
  unfold atR
  rw [List.getElem?_eq_getElem h]; rfl
def ltI (l : List P2) (i k : Nat) : Bool := decide (cmpW (atR l i) (atR l k) < 0)
def VaR (l : List P2) : Prop := ∀ x ∈ l, ratErr x = 0
theorem ratAll {x : P2} (h : ratErr x = 0) : (RaB x ∧ PosR x) ∧ Int.gcd x.1 x.2 = 1 := by
  unfold ratErr at h
  cases hs : sizeErr x != 0 with
  | true => rw [hs, cond_true] at h; rw [h] at hs; cases hs
  | false =>
    rw [hs, cond_false] at h
    have h0 : sizeErr x = 0 := by simpa using hs
    obtain ⟨⟨h1, h2⟩, h3, h4⟩ := size_zero.1 h0
    have hg := whenZ (by decide) h
    refine ⟨⟨⟨⟨h1, by omega⟩, by omega, h4⟩, h1, by omega⟩, ?_⟩
    have : ((Int.gcd x.1 x.2 : Nat) : Int) = 1 := by simpa using hg
    omega
theorem cmpRK {x y : P2} (hx : ratErr x = 0) (hy : ratErr y = 0) : cmpW x y = cmpM x y := cmpB (ratAll hx).1.1 (ratAll hy).1.1
theorem vaR_at {l : List P2} (h : VaR l) (i : Nat) : ratErr (atR l i) = 0 := by
  unfold atR
  cases hi : l[i]? with
  | none => rfl
  | some x => exact h x (List.mem_of_getElem? hi)
theorem ltI_iff {l : List P2} (h : VaR l) (i k : Nat) : ltI l i k = true ↔ ltR (atR l i) (atR l k) := by
  unfold ltI
  rw [cmpRK (vaR_at h i) (vaR_at h k), decide_eq_true_eq, cmpM_lt]
theorem swoR {l : List P2} (h : VaR l) : Swo (ltI l) where
  asy i k hik := by
    rw [ltI_iff h] at hik
    cases hk : ltI l k i with
    | false => rfl
    | true => rw [ltI_iff h] at hk; exact absurd hk (not_ltR.2 hik.le)
  neg i j k hik := by
    rw [ltI_iff h] at hik
    cases hij : ltI l i j with
    | true => exact .inl rfl
    | false =>
      have h1 : leR (atR l j) (atR l i) := not_ltR.1 (fun x => by rw [(ltI_iff h i j).2 x] at hij; cases hij)
      exact .inr ((ltI_iff h j k).2 (ltR_of_le_lt (ratAll (vaR_at h j)).1.2 (ratAll (vaR_at h i)).1.2 (ratAll (vaR_at h k)).1.2 h1 hik))
theorem ratEq2 {x y : P2} (hx : ratErr x = 0) (hy : ratErr y = 0) (h1 : leR x y) (h2 : leR y x) : x = y := by
  obtain ⟨⟨_, hx1, hx2⟩, hxg⟩ := ratAll hx
  obtain ⟨⟨_, hy1, hy2⟩, hyg⟩ := ratAll hy
  have he : x.1 * y.2 = y.1 * x.2 := Int.le_antisymm h1 h2
  obtain ⟨a, b⟩ := x
  obtain ⟨c, d⟩ := y
  simp only at *
  obtain ⟨a, rfl⟩ := Int.eq_ofNat_of_zero_le hx1
  obtain ⟨c, rfl⟩ := Int.eq_ofNat_of_zero_le hy1
  obtain ⟨b, rfl⟩ := Int.eq_ofNat_of_zero_le (Int.le_of_lt hx2)
  obtain ⟨d, rfl⟩ := Int.eq_ofNat_of_zero_le (Int.le_of_lt hy2)
  have he : a * d = c * b := by exact_mod_cast he
  have g1 : Nat.Coprime a b := hxg
  have g2 : Nat.Coprime c d := hyg
  have d1 : b ∣ d := g1.symm.dvd_of_dvd_mul_left (he ▸ Nat.dvd_mul_left b c)
  have d2 : d ∣ b := g2.symm.dvd_of_dvd_mul_left (he ▸ Nat.dvd_mul_left d a)
  have hbd : b = d := Nat.dvd_antisymm d1 d2
  subst hbd
  have hb : 0 < b := by omega
  have : a = c := Nat.eq_of_mul_eq_mul_right hb he
  rw [this]
def sortR (l : List P2) : List P2 := (rankR (ltI l) l.length l.length).map (atR l)
theorem range_at (l : List P2) : (List.range l.length).map (atR l) = l := by
  refine List.ext_getElem? fun i => ?_
  rw [List.getElem?_map]
  by_cases hi : i < l.length
  · rw [List.getElem?_range hi, atR_get hi]; rfl
  · rw [List.getElem?_eq_none (by simpa using hi), List.getElem?_eq_none (by omega)]; rfl
theorem sortR_perm {l : List P2} (h : VaR l) : (sortR l).Perm l := by
  unfold sortR
  rw [← rank_eq (swoR h)]
  have := (rankP_perm (ltI l) l.length).map (atR l)
  rwa [range_at] at this
theorem sortR_le {l : List P2} (h : VaR l) : (sortR l).Pairwise leR := by
  unfold sortR
  rw [← rank_eq (swoR h), List.pairwise_map]
  refine (rankP_sorted (swoR h) l.length).imp fun {i k} hik => ?_
  rcases hik with hik | ⟨hik, _⟩
  · exact ((ltI_iff h i k).1 hik).le
  · exact not_ltR.1 fun x => by rw [(ltI_iff h k i).2 x] at hik; cases hik
theorem sortR_unique {l m : List P2} (h : VaR l) (hp : m.Perm l) (hs : m.Pairwise leR) : m = sortR l :=
  perm_unique (fun a ha b hb h1 h2 => ratEq2 (h a (hp.mem_iff.1 ha)) (h b (hp.mem_iff.1 hb)) h1 h2) hs (sortR_le h) (hp.trans (sortR_perm h).symm)
end Go.Vm.S6

namespace Go.Vm.S6
open Go.Proofs Go.RowKit
set_option maxRecDepth 100000 in
theorem r164a (es : List AV) (n i : Nat) (x : P2) : roundD (CS T8) 60 0 164 0 22 22 false (loopOf (CS T8) 164 0) [1, 5, 8, 9, 10] [] [1, 5, 8, 9, 10] [19] [5] [] (mapIn (fnV 102) nilS 2 es n i) [] [.chk [p2C.enc x]] =
    (bif decide (Int.ofNat i < Int.ofNat n) then (.need (es[i]? = (some (AV.agg [.v (.int .i64 x.fst), .v (.int .i64 x.snd)]))) (.need (EntClosed [(false, .arr 1 [.v (.int .i64 (ratErr x))] false)]) (.done (some ((.nrm, [.fn (Fn.func 102) [] [], .sl 19 0 1 0 1, .rsl 2 es false, .v (.int .i64 (Int.ofNat n)), .v (.int .i64 (IntKind.i64.wrap (Int.ofNat i + 1)))], [(false, .arr 1 [.v (.int .i64 (ratErr x))] false)])))))) else (.need (EntClosed []) (.done (some (((.exit 0), [.v (.slice none 0 0)], [])))))) := by kernel_rfl
set_option maxRecDepth 100000 in
theorem r164b (es rs : List AV) (n i k : Nat) (x : P2) : roundD (CS T8) 60 0 164 0 22 22 false (loopOf (CS T8) 164 0) [1, 5, 8, 9, 10] [19] [1, 5, 8, 9, 10] [19] [5] [19] (mapIn (fnV 102) (.sl 19 0 1 0 k) 2 es n i) [(false, .arr 1 rs false)] [.chk [p2C.enc x], .chk rs] =
    (bif decide (Int.ofNat i < Int.ofNat n) then (.need (es[i]? = (some (AV.agg [.v (.int .i64 x.fst), .v (.int .i64 x.snd)]))) (.need (k = rs.length ∧ true = true ∧ 1 = 1 ∧ (rs ++ ([.v (.int .i64 (ratErr x))] : List AV)).length * 8 ≤ 35184372088832 ∧ (rs ++ ([.v (.int .i64 (ratErr x))] : List AV)).length ≤ 35184372088832 ∧ 8 ≠ 0) (.need (EntClosed [(false, .arr 1 (rs ++ ([.v (.int .i64 (ratErr x))] : List AV)) false)]) (.done (some ((.nrm, [.fn (Fn.func 102) [] [], .sl 19 0 1 0 ((rs ++ ([.v (.int .i64 (ratErr x))] : List AV)).length), .rsl 2 es false, .v (.int .i64 (Int.ofNat n)), .v (.int .i64 (IntKind.i64.wrap (Int.ofNat i + 1)))], [(false, .arr 1 (rs ++ ([.v (.int .i64 (ratErr x))] : List AV)) false)]))))))) else (.need (EntClosed [(false, .arr 1 rs false)]) (.done (some (((.exit 0), [.sl 19 0 1 0 k], [(false, .arr 1 rs false)])))))) := by kernel_rfl
set_option maxRecDepth 100000 in
theorem t164 (es rs : List AV) : evTreeD (CS T8) 60 164 [.rsl 2 es false, fnV 102] [.loop 0 [1, 5, 8, 9, 10] [] [5] [] (.exit 0) [.rsl 1 rs false] []] =
    (.need (EntClosed [] ∧ EntClosed [] ∧ Says (CS T8) 0 22 false (.loop (loopOf (CS T8) 164 0)) (mkSt [1, 5, 8, 9, 10] [] 22 [.fn (Fn.func 102) [] [], .v (.slice none 0 0), .rsl 2 es false, .v (.int .i64 (Int.ofNat es.length)), .v (.int .i64 0)] []) (.exit 0) (mkSt [5] [] 22 [.rsl 1 rs false] [])) (.done (some (.rsl 1 rs false)))) := by kernel_rfl
set_option maxRecDepth 100000 in
theorem t74 (es : List AV) : evTreeD (CS T8) 60 74 [.rsl 2 es false] [.cl] =
    (.need (CloP 2 2 16 es (([] : List AV) ++ es)) (.done (some (.rsl 2 (([] : List AV) ++ es) false)))) := by kernel_rfl
set_option maxRecDepth 100000 in
theorem t147 (es : List AV) (i j : Nat) (x y : P2) (c : Int) : evTreeD (CS T8) 60 147 [intA (Int.ofNat i), intA (Int.ofNat j), .rptr [.rsl 2 es false]] [.chk [p2A x], .chk [p2A y], .sp [p2A x, p2A y] (intA c)] =
    (.need (es[i]? = (some (AV.agg [.v (.int .i64 x.fst), .v (.int .i64 x.snd)]))) (.need (es[j]? = (some (AV.agg [.v (.int .i64 y.fst), .v (.int .i64 y.snd)]))) (.need (asks (CS T8) 119 [.agg [.v (.int .i64 x.fst), .v (.int .i64 x.snd)], .agg [.v (.int .i64 y.fst), .v (.int .i64 y.snd)]] (AV.v (.int .i64 c))) (.done (some (.v (.int .i64 c))))))) := by kernel_rfl
set_option maxRecDepth 100000 in
theorem r76 (es : List AV) (i : Nat) (x : P2) (e : Int) : roundD (CS T8) 60 0 76 0 26 26 false (loopOf (CS T8) 76 0) [0, 4] [] [0, 4] [] [2] [] [.rsl 2 es false, intA (Int.ofNat i)] [] [.br [.chk [p2A x], .sp [p2A x] (intA e), .br [] []] []] =
    (bif decide (Int.ofNat i < Int.ofNat es.length) then (.need (es[i]? = (some (AV.agg [.v (.int .i64 x.fst), .v (.int .i64 x.snd)]))) (.need (asks (CS T8) 26 [.agg [.v (.int .i64 x.fst), .v (.int .i64 x.snd)]] (AV.v (.int .i64 e))) (bif e != 0 then (.need (EntClosed []) (.done (some ((.ret, [.v (.int .i64 e)], []))))) else (.need (EntClosed []) (.done (some ((.nrm, [.rsl 2 es false, .v (.int .i64 (IntKind.i64.wrap (Int.ofNat i + 1)))], [])))))))) else (.need (EntClosed []) (.done (some (((.exit 0), [.bad], [])))))) := by kernel_rfl
set_option maxRecDepth 100000 in
theorem t76c (es : List AV) (e : Int) : evTreeD (CS T8) 60 76 [.rsl 2 es false] [.sp [intA (Int.ofNat es.length), intA 15] (intA e), .as 10 true] =
    (.need (asks (CS T8) 103 [.v (.int .i64 (Int.ofNat es.length)), .v (.int .i64 15)] (AV.v (.int .i64 e))) (.need ((e != 0) = true) (.done (some (.v (.int .i64 e)))))) := by kernel_rfl
set_option maxRecDepth 100000 in
theorem t76r (es : List AV) (e x : Int) : evTreeD (CS T8) 60 76 [.rsl 2 es false] [.sp [intA (Int.ofNat es.length), intA 15] (intA e), .as 10 false, .loop 0 [0, 4] [] [2] [] .ret [intA x] []] =
    (.need (asks (CS T8) 103 [.v (.int .i64 (Int.ofNat es.length)), .v (.int .i64 15)] (AV.v (.int .i64 e))) (.need ((e != 0) = false) (.need (EntClosed [] ∧ EntClosed [] ∧ Says (CS T8) 0 26 false (.loop (loopOf (CS T8) 76 0)) (mkSt [0, 4] [] 26 [.rsl 2 es false, .v (.int .i64 0)] []) .ret (mkSt [2] [] 26 [.v (.int .i64 x)] [])) (.done (some (.v (.int .i64 x))))))) := by kernel_rfl
set_option maxRecDepth 100000 in
theorem t76e (es : List AV) (e : Int) : evTreeD (CS T8) 60 76 [.rsl 2 es false] [.sp [intA (Int.ofNat es.length), intA 15] (intA e), .as 10 false, .loop 0 [0, 4] [] [2] [] (.exit 0) [.bad] []] =
    (.need (asks (CS T8) 103 [.v (.int .i64 (Int.ofNat es.length)), .v (.int .i64 15)] (AV.v (.int .i64 e))) (.need ((e != 0) = false) (.need (EntClosed [] ∧ EntClosed [] ∧ Says (CS T8) 0 26 false (.loop (loopOf (CS T8) 76 0)) (mkSt [0, 4] [] 26 [.rsl 2 es false, .v (.int .i64 0)] []) (.exit 0) (mkSt [2] [] 26 [.bad] [])) (.done (some (.v (.int .i64 0))))))) := by kernel_rfl
abbrev ratsC : Cod (List P2) := listC p2C 2
abbrev natA (n : Nat) : AV := intA (Int.ofNat n)
/-- A loop whose state is known from its round's number. -/
theorem LoopRun.idx {α : Type} {C : Cx} {p nt : Nat} {rd : Bool} {c : Code} (enc : Nat → St) (ex : Ex) (out : St) (l : List α) (hx : ex ≠ .nrm)
    (hs : ∀ i x, l[i]? = some x → Says C p nt rd c (enc i) .nrm (enc (i + 1))) (hf : Says C p nt rd c (enc l.length) ex out) : LoopRun C p nt rd c (enc 0) ex out := by
  have h := LoopRun.list (C := C) (p := p) (nt := nt) (rd := rd) (c := c) (step := fun _ (_ : α) (_ : Unit) => (.inl () : Unit ⊕ Unit)) (fin := id) (enc := fun i _ => enc i) (ex := fun _ => ex) (out := fun _ => out) (l := l) (fun _ _ => True)
    (fun i x _ hi _ => ⟨hs i x hi, trivial⟩) (fun _ _ => ⟨hf, hx⟩) l [] () rfl trivial
  exact h
/-! ### Checks -/
def rmG : List AV → Option AV := mapG p2C 2 intC 1 102 ratErr
theorem h164 : Holds 164 rmG := mapG_holds fun l hl => mapped_ok (A := p2C) (B := intC) (g := ratErr) (fv := fnV 102) (szb := 1) (bb := 8) T8_ok (0, 0) (fun _ => rfl) ⟨by omega, by omega⟩ r164a r164b t164 l hl
def ownRG : List AV → Option AV := sp1 ratsC fun l => bif Nat.ble l.length lim then some (slA p2C 2 l) else none
theorem h74 : Holds 74 ownRG := holds1 fun l r hr => by
  cases hb : Nat.ble l.length lim with
  | false => simp [hb] at hr
  | true =>
    simp only [hb, cond_true, Option.some.injEq] at hr; subst hr
    have hl : l.length ≤ lim := Nat.le_of_ble_eq_true hb
    refine T8_ok.tr (t74 (l.map p2C.enc)) ⟨⟨allSz_map (f := p2C.enc) (fun _ => rfl) l, rfl, ?_, ?_, by decide, ClosedL.map fun _ => rfl⟩, rfl⟩
    · simp only [List.nil_append, List.length_map]; unfold lim at hl; omega
    · simp only [List.nil_append, List.length_map]; unfold lim at hl; omega
def csErr (l : List P2) : Int := firstM [manyI (Int.ofNat l.length) 15, firstM (l.map ratErr)]
def csG : List AV → Option AV := sp1 ratsC fun l => bif Nat.ble l.length lim then some (intA (csErr l)) else none
theorem h76 : Holds 76 csG := holds1 fun l r hr => by
  cases hb : Nat.ble l.length lim with
  | false => simp [hb] at hr
  | true =>
    simp only [hb, cond_true, Option.some.injEq] at hr; subst hr
    have hl := limTwo (Nat.le_of_ble_eq_true hb)
    have e := e_len' p2C l
    have h := LoopRun.find (C := CS T8) (p := 0) (nt := 26) (rd := false) (c := loopOf (CS T8) 76 0) (fun _ (x : P2) => bif ratErr x != 0 then some (ratErr x) else none) (fun i => mkSt [0, 4] [] 26 [.rsl 2 (l.map p2C.enc) false, intA (Int.ofNat i)] [])
      (fun t => mkSt [2] [] 26 [intA t] []) (mkSt [2] [] 26 [.bad] []) (.exit 0) (fun _ => .ret) l (by simp) (by simp)
      (fun i x hx => by
        have hi := lt_len hx
        have hp := spRat x
        have hr := r76 (l.map p2C.enc) i x (ratErr x)
        rw [e, lt_of hi, wrap_ix hi hl] at hr
        cases h : ratErr x != 0 with
        | true => rw [h] at hr; exact T8_ok.rndR hr ⟨get_map _ hx, ⟨rfl, hp⟩, trivial, rfl⟩
        | false => rw [h] at hr; exact T8_ok.rndN hr ⟨get_map _ hx, ⟨rfl, hp⟩, trivial, rfl⟩)
      (T8_ok.rndX (r76 (l.map p2C.enc) l.length (0, 0) 0) (by rw [e, lt_self]; exact ⟨trivial, rfl⟩))
    rw [srch_err] at h
    unfold csErr
    rw [firstB]
    have hm := specMany (Int.ofNat l.length) 15
    cases hc : manyI (Int.ofNat l.length) 15 != 0 with
    | true => exact T8_ok.tr (t76c (l.map p2C.enc) (manyI (Int.ofNat l.length) 15)) (by rw [e, hc]; exact ⟨⟨rfl, hm⟩, rfl, rfl⟩)
    | false =>
      cases hq : firstM (l.map ratErr) != 0 with
      | true => rw [hq] at h; exact T8_ok.tr (t76r (l.map p2C.enc) (manyI (Int.ofNat l.length) 15) (firstM (l.map ratErr))) (by rw [e, hc]; exact ⟨⟨rfl, hm⟩, rfl, ⟨trivial, trivial, h.says⟩, rfl⟩)
      | false =>
        rw [hq] at h
        have h0 : firstM (l.map ratErr) = 0 := by simpa using hq
        rw [h0]
        exact T8_ok.tr (t76e (l.map p2C.enc) (manyI (Int.ofNat l.length) 15)) (by rw [e, hc]; exact ⟨⟨rfl, hm⟩, rfl, ⟨trivial, trivial, h.says⟩, rfl⟩)
/-! ### The closure -/
def bxC {α : Type} (A : Cod α) : Cod α where
  dec | .rptr [a] => A.dec a
      | _ => none
  enc x := .rptr [A.enc x]
  weak a x h := by
    split at h
    · rename_i b
      intro M y hr
      unfold Rep at hr ⊢
      obtain ⟨q, o, l, e, hl, hrow⟩ := hr
      rw [RepL.cons_iff] at hl
      obtain ⟨z, zs, rfl, h1, h2⟩ := hl
      exact ⟨q, o, z :: zs, e, by rw [RepL.cons_iff]; exact ⟨z, zs, rfl, A.weak _ _ h _ _ h1, h2⟩, hrow⟩
    · cases h
  rt x := A.rt x
def ixOk (l : List P2) (i : Int) : Bool := decide (0 ≤ i) && Nat.blt i.toNat l.length
def cloG : List AV → Option AV := sp3 intC intC (bxC ratsC) fun i j l => bif ixOk l i && ixOk l j then some (intA (cmpW (atR l i.toNat) (atR l j.toNat))) else none
theorem ixOk_at {l : List P2} {i : Int} (h : ixOk l i = true) : i = Int.ofNat i.toNat ∧ i.toNat < l.length := by
  unfold ixOk at h
  simp only [Bool.and_eq_true, decide_eq_true_eq] at h
  exact ⟨by have := h.1; simp only [Int.ofNat_eq_natCast]; omega, Nat.lt_of_succ_le (Nat.le_of_ble_eq_true h.2)⟩
theorem h147 : Holds 147 cloG := holds3 fun i j l r hr => by
  cases hb : ixOk l i && ixOk l j with
  | false => simp [hb] at hr
  | true =>
    simp only [hb, cond_true, Option.some.injEq] at hr; subst hr
    rw [Bool.and_eq_true] at hb
    obtain ⟨ei, hi⟩ := ixOk_at hb.1
    obtain ⟨ej, hj⟩ := ixOk_at hb.2
    have := T8_ok.tr (t147 (l.map p2C.enc) i.toNat j.toNat (atR l i.toNat) (atR l j.toNat) (cmpW (atR l i.toNat) (atR l j.toNat))) ⟨get_map p2C.enc (atR_get hi), get_map p2C.enc (atR_get hj), ⟨rfl, spCmp _ _⟩, rfl⟩
    rw [← ei, ← ej] at this
    exact this
/-! ### The reference's ranks -/
theorem natCl (l : List Nat) : ClosedL (l.map natA) := ClosedL.map fun _ => rfl
theorem csZ {l : List P2} : csErr l = 0 ↔ (1 ≤ l.length ∧ l.length ≤ 15) ∧ VaR l := by
  unfold csErr
  rw [firstZ, firstZ]
  have h1 : manyI (Int.ofNat l.length) 15 = 0 ↔ 1 ≤ l.length ∧ l.length ≤ 15 := by
    unfold manyI
    rw [firstZ, firstZ]
    constructor
    · rintro ⟨h1, h2, _⟩
      have h1 := whenZ (by decide) h1
      have h2 := whenZ (by decide) h2
      simp only [beq_eq_false_iff_ne, ne_eq, decide_eq_false_iff_not, Int.ofNat_eq_natCast] at h1 h2
      omega
    · rintro ⟨h1, h2⟩
      have e1 : (Int.ofNat l.length == 0) = false := by simp only [beq_eq_false_iff_ne, ne_eq, Int.ofNat_eq_natCast]; omega
      have e2 : decide (Int.ofNat l.length > 15) = false := by simp only [decide_eq_false_iff_not, Int.ofNat_eq_natCast]; omega
      rw [e1, e2]; exact ⟨rfl, rfl, rfl⟩
  rw [h1]
  have h2 : firstM (l.map ratErr) = 0 ↔ VaR l := by rw [firstAll]; simp [VaR]
  rw [h2]
  exact ⟨fun ⟨a, b, _⟩ => ⟨a, b⟩, fun ⟨a, b⟩ => ⟨a, b, rfl⟩⟩
theorem nats_map (xs : List Nat) : slA intC 1 (xs.map Int.ofNat) = .rsl 1 (xs.map natA) false := by
  show AV.rsl 1 ((xs.map Int.ofNat).map intC.enc) false = _
  rw [List.map_map]; rfl
def K1 : Specs := ((((T8.set 164 rmG).set 74 ownRG).set 76 csG).set 147 cloG)
theorem K1_ok : Ok K1 := ((((T8_ok.set h164).set h74).set h76).set h147)
end Go.Vm.S6
