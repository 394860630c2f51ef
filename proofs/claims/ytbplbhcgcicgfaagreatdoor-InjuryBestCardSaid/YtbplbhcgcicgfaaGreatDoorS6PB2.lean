/- Plain laws: the best window of greater integers, of more lengths, turned around. -/
import Derived.Test.YtbplbhcgcicgfaaGreatDoorS6PB
namespace Go.Vm.S6
/-! Sums of windows: greater integers, and turned around. -/
def geL : List Int → List Int → Prop
  | [], [] => True
  | x :: r, y :: q => x ≤ y ∧ geL r q
  | _, _ => False
theorem geL_rfl : ∀ l, geL l l
  | [] => trivial
  | x :: r => ⟨Int.le_refl x, geL_rfl r⟩
theorem geL_set : ∀ (l : List Int) (i : Nat) (v : Int), (∀ x, l[i]? = some x → x ≤ v) → geL l (l.set i v)
  | [], _, _, _ => trivial
  | x :: r, 0, v, h => ⟨h x rfl, geL_rfl r⟩
  | x :: r, i + 1, v, h => ⟨Int.le_refl x, geL_set r i v (fun y hy => h y (by simpa using hy))⟩
theorem geL.len : ∀ {l m : List Int}, geL l m → l.length = m.length
  | [], [], _ => rfl
  | _ :: _, _ :: _, h => by rw [List.length_cons, List.length_cons, geL.len h.2]
  | [], _ :: _, h => h.elim
  | _ :: _, [], h => h.elim
theorem geL.drop : ∀ {l m : List Int} (n : Nat), geL l m → geL (l.drop n) (m.drop n)
  | [], [], n, _ => by simp [geL]
  | x :: r, y :: q, 0, h => h
  | x :: r, y :: q, n + 1, h => geL.drop n h.2
  | [], _ :: _, _, h => h.elim
  | _ :: _, [], _, h => h.elim
theorem geL.take : ∀ {l m : List Int} (n : Nat), geL l m → geL (l.take n) (m.take n)
  | [], [], n, _ => by simp [geL]
  | x :: r, y :: q, 0, _ => trivial
  | x :: r, y :: q, n + 1, h => ⟨h.1, geL.take n h.2⟩
  | [], _ :: _, _, h => h.elim
  | _ :: _, [], _, h => h.elim
theorem geL.foldl : ∀ {l m : List Int} {s t : Int}, geL l m → s ≤ t → l.foldl (· + ·) s ≤ m.foldl (· + ·) t
  | [], [], _, _, _, k => k
  | x :: r, y :: q, s, t, h, k => geL.foldl (l := r) (m := q) h.2 (by have := h.1; dsimp only; omega)
  | [], _ :: _, _, _, h, _ => h.elim
  | _ :: _, [], _, _, h, _ => h.elim
theorem geL.wth {l m : List Int} (h : geL l m) {a b : Nat} (hab : a < b) : leR (wthM l a b) (wthM m a b) := by
  unfold wthM
  refine worth_mono (by simp only [Int.ofNat_eq_natCast]; omega) ?_
  unfold sumM winI
  exact ((h.drop a).take (b - a)).foldl (Int.le_refl 0)
theorem best_ge {l m : List Int} {lo hi a b c d : Nat} (hlo : 1 ≤ lo) (h : geL l m) (h1 : BestIs l lo hi a b) (h2 : BestIs m lo hi c d) : leR (wthM l a b) (wthM m c d) := by
  have hm : (a, b) ∈ winsL m.length lo hi := by rw [← h.len]; exact h1.mem
  have hab := h1.mem
  rw [mem_wins] at hab
  exact leR_trans (wth_low hlo h1.mem).pos (wth_low hlo hm).pos (wth_low hlo h2.mem).pos (h.wth (by omega)) (h2.le a b hm)
theorem best_wide {l : List Int} {lo hi a b c d : Nat} (hlo : 1 ≤ lo) (h1 : BestIs l lo hi a b) (h2 : BestIs l 1 hi c d) : leR (wthM l a b) (wthM l c d) :=
  h2.le a b (by have := h1.mem; rw [mem_wins] at this ⊢; omega)
theorem foldl_max : ∀ (l : List Int) (s : Int), s ≤ l.foldl max s ∧ (l.foldl max s = s ∨ l.foldl max s ∈ l)
  | [], s => ⟨Int.le_refl s, .inl rfl⟩
  | x :: r, s => by
    rw [List.foldl_cons]
    obtain ⟨h1, h2⟩ := foldl_max r (max s x)
    refine ⟨by omega, ?_⟩
    rcases h2 with h2 | h2
    · rw [h2]
      by_cases hs : s ≤ x
      · rw [Int.max_eq_right hs]; exact .inr (by simp)
      · rw [Int.max_eq_left (by omega)]; exact .inl rfl
    · exact .inr (by simp [h2])
theorem best_most {l : List Int} {hi c d : Nat} (hh : 1 ≤ hi) (h : BestIs l 1 hi c d) : leR (l.foldl max 0 * l.foldl max 0, 1) (wthM l c d) := by
  obtain ⟨h1, h2⟩ := foldl_max l 0
  generalize l.foldl max 0 = m at *
  have hp := (wth_low (l := l) (Nat.le_refl 1) h.mem).pos
  rcases h2 with rfl | h2
  · unfold leR
    have := hp.1
    show 0 * 0 * _ ≤ _ * 1
    omega
  · obtain ⟨i, hi'⟩ := List.mem_iff_getElem?.1 h2
    have hil := (List.getElem?_eq_some_iff.1 hi').1
    have hw := h.le i (i + 1) (by rw [mem_wins]; omega)
    have e : wthM l i (i + 1) = (m * m, 1) := by
      unfold wthM winI
      rw [show i + 1 - i = 1 by omega]
      have ed : (l.drop i).take 1 = [m] := by
        rw [List.drop_eq_getElem_cons hil]
        have := (List.getElem?_eq_some_iff.1 hi').2
        rw [this]; rfl
      rw [ed]
      show worthM (0 + m) 1 = _
      rw [Int.zero_add, worth_low m (by omega)]
      unfold posS
      rw [Int.max_eq_left h1]
      unfold lowM
      simp
    rw [e] at hw
    exact hw
theorem foldl_addS : ∀ (l : List Int) (s : Int), l.foldl (· + ·) s = s + sumM l
  | [], s => by simp [sumM]
  | x :: r, s => by
    unfold sumM
    rw [List.foldl_cons, List.foldl_cons, foldl_addS r (s + x), foldl_addS r (0 + x)]
    omega
theorem sumM_cons (x : Int) (r : List Int) : sumM (x :: r) = x + sumM r := by
  rw [show sumM (x :: r) = r.foldl (· + ·) (0 + x) from rfl, foldl_addS]; omega
theorem sumM_app : ∀ (l m : List Int), sumM (l ++ m) = sumM l + sumM m
  | [], m => by rw [show sumM [] = 0 from rfl]; simp
  | x :: r, m => by rw [List.cons_append, sumM_cons, sumM_cons, sumM_app r m]; omega
theorem sumM_rev : ∀ (l : List Int), sumM l.reverse = sumM l
  | [] => rfl
  | x :: r => by rw [List.reverse_cons, sumM_app, sumM_cons, sumM_cons, sumM_rev r, show sumM [] = 0 from rfl]; omega
theorem win_rev {l : List Int} {a b : Nat} (hab : a ≤ b) (hb : b ≤ l.length) : winI l.reverse a b = (winI l (l.length - b) (l.length - a)).reverse := by
  unfold winI
  rw [List.drop_reverse, List.take_reverse, List.length_take]
  congr 1
  rw [show min (l.length - a) l.length - (b - a) = l.length - b by omega, List.drop_take]
theorem wth_rev {l : List Int} {a b : Nat} (hab : a ≤ b) (hb : b ≤ l.length) : wthM l.reverse a b = wthM l (l.length - b) (l.length - a) := by
  unfold wthM
  rw [win_rev hab hb, sumM_rev, show l.length - a - (l.length - b) = b - a by omega]
theorem best_rev {l : List Int} {lo hi a b c d : Nat} (hlo : 1 ≤ lo) (h1 : BestIs l lo hi a b) (h2 : BestIs l.reverse lo hi c d) : wthM l.reverse c d = wthM l a b := by
  have m1 := h1.mem
  have m2 := h2.mem
  rw [List.length_reverse] at m2
  have hr : ∀ {f t}, (f, t) ∈ winsL l.length lo hi → (l.length - t, l.length - f) ∈ winsL l.length lo hi := by
    intro f t h
    rw [mem_wins] at h ⊢
    omega
  have k1 := mem_wins.1 m1
  have k2 := mem_wins.1 m2
  have l1 := h1.le _ _ (hr m2)
  have l2 := h2.le _ _ (by rw [List.length_reverse]; exact hr m1)
  rw [wth_rev (by omega) (by omega)] at l2
  rw [wth_rev (a := c) (b := d) (by omega) (by omega)] at l2 ⊢
  rw [show l.length - (l.length - a) = a by omega, show l.length - (l.length - b) = b by omega] at l2
  exact (wth_low hlo (hr m2)).eq (wth_low hlo m1) (by unfold leR at l1 l2; omega)
end Go.Vm.S6
