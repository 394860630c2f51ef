/- Seats: the program's count of signs against the reference's. -/
import Derived.Test.YtliikgffjphhjaaGreatDoorS3GB
namespace Go.Vm.S3
theorem bs_iff (x y : ByteArray) : bseq x y = true ↔ x.toList = y.toList := by unfold bseq; rw [beq_iff_eq]
theorem sq_iff (x y : ByteArray) : seq x y = true ↔ x.toList = y.toList := by unfold seq; rw [beq_iff_eq]
theorem findIx_at {s : ByteArray} : ∀ {ks : List ByteArray} {i j : Nat}, findIx s ks i = some j → ∃ a, ks[j - i]? = some a ∧ s.toList = a.toList
 | [], i, j, h => by simp [findIx] at h
 | a :: r, i, j, h => by
  unfold findIx at h
  cases hb : bseq s a with
  | true => rw [hb] at h; simp only [cond_true, Option.some.injEq] at h; subst h; exact ⟨a, by simp, (bs_iff _ _).1 hb⟩
  | false =>
   rw [hb] at h
   obtain ⟨b, h1, h2⟩ := findIx_at (ks := r) h
   have := (findIx_bound (ks := r) h).1
   refine ⟨b, ?_, h2⟩
   rw [show j - i = (j - (i + 1)) + 1 by omega]; simpa using h1
theorem findIx_no {s : ByteArray} : ∀ {ks : List ByteArray} {i : Nat}, findIx s ks i = none → ∀ a ∈ ks, s.toList ≠ a.toList
 | [], _, _, a, ha => by simp at ha
 | b :: r, i, h, a, ha => by
  unfold findIx at h
  cases hb : bseq s b with
  | true => rw [hb] at h; cases h
  | false =>
   rw [hb] at h
   rcases List.mem_cons.1 ha with rfl | ha
   ·intro e; rw [(bs_iff _ _).2 e] at hb; cases hb
   ·exact findIx_no (ks := r) h a ha
theorem steps_lt {l : List (ByteArray × Bool)} (h : stepsM l = 0) {j k : Nat} {x y : ByteArray × Bool} (hx : l[j]? = some x) (hy : l[k]? = some y) (hjk : j < k) : y.1.toList ≠ x.1.toList := by
 refine findIx_no (steps_fresh h hy) x.1 ?_
 unfold names
 refine List.mem_map.2 ⟨x, ?_, rfl⟩
 exact List.mem_iff_getElem?.2 ⟨j, by rw [List.getElem?_take, if_pos hjk]; exact hx⟩
theorem steps_uniq {l : List (ByteArray × Bool)} (h : stepsM l = 0) {j k : Nat} {x y : ByteArray × Bool} (hx : l[j]? = some x) (hy : l[k]? = some y) (e : x.1.toList = y.1.toList) : j = k := by
 rcases Nat.lt_trichotomy j k with h1 | h1 | h1
 ·exact absurd e.symm (steps_lt h hx hy h1)
 ·exact h1
 ·exact absurd e (steps_lt h hy hx h1)
theorem done_iff (x : ByteArray × Bool) (l : List (ByteArray × ByteArray)) : doneM x l = true ↔ needM x.2 ≤ (personsM l x.1).length := by
 unfold doneM needM
 generalize (personsM l x.1).length = n
 cases x.2 <;> simp only [cond_true, cond_false, Int.ofNat_eq_natCast]
 ·by_cases h : n ≥ 2
  ·have : decide ((n : Int) ≥ 2) = true := by simp; omega
   rw [this]; simp; omega
  ·have : decide ((n : Int) ≥ 2) = false := by simp; omega
   rw [this, cond_false]
   by_cases h1 : n = 1
   ·subst h1; simp
   ·have : ((n : Int) == 1) = false := by simp; omega
    rw [this]; simp; omega
 ·by_cases h : n ≥ 2
  ·have : decide ((n : Int) ≥ 2) = true := by simp; omega
   rw [this]; simp; omega
  ·have : decide ((n : Int) ≥ 2) = false := by simp; omega
   rw [this, cond_false]
   cases ((n : Int) == 1) <;> simp <;> omega
theorem need_pos (b : Bool) : 1 ≤ needM b ∧ needM b ≤ 2 := by cases b <;> simp [needM]
structure OInv (l : List (ByteArray × Bool)) (m : List (ByteArray × ByteArray)) (nx b : Nat) : Prop where
 le : nx ≤ l.length
 lt : ∀ j x, l[j]? = some x → j < nx → doneM x m = true
 eq : ∀ x, l[nx]? = some x → (personsM m x.1).length = b ∧ (b : Int) < needM x.2
 gt : ∀ j x, l[j]? = some x → nx < j → personsM m x.1 = []
theorem persons_snoc (m : List (ByteArray × ByteArray)) (s : ByteArray × ByteArray) (a : ByteArray) : personsM (m ++ [s]) a = personsM m a ++ bif seq s.1 a then [s.2] else [] := by
 unfold personsM
 rw [List.filter_append, List.map_append]
 congr 1
 cases h : seq s.1 a <;> simp [h]
theorem whenZ {b : Bool} {e : Int} (he : e ≠ 0) (hw : whenM b e = 0) : b = false := by
 cases b with
 | false => rfl
 | true => exact absurd hw he
theorem OInv.step {l : List (ByteArray × Bool)} (h0 : stepsM l = 0) {m : List (ByteArray × ByteArray)} {i nx b : Nat} {s : ByteArray × ByteArray} (hs : m[i]? = some s) (h : OInv l (m.take i) nx b) (he : signErr l m i s nx = 0) :
  (needM (twoOf l nx) = Int.ofNat (b + 1) → OInv l (m.take (i + 1)) (nx + 1) 0) ∧ (needM (twoOf l nx) ≠ Int.ofNat (b + 1) → OInv l (m.take (i + 1)) nx (b + 1)) := by
 have hm : m.take (i + 1) = m.take i ++ [s] := by rw [List.take_add_one, hs]; rfl
 unfold signErr at he
 rw [firstZ, firstZ, firstZ, firstZ, firstZ] at he
 obtain ⟨q1, q2, q3, q4, q5, _⟩ := he
 have g1 := whenZ (by decide) q1
 have g3 := whenZ (by decide) q3
 have g4 := whenZ (by decide) q4
 cases hk : findIx s.1 (names l) 0 with
 | none => rw [hk] at g1; cases g1
 | some k =>
  rw [hk] at g3 g4
  simp only [Option.getD_some, Int.ofNat_eq_natCast, decide_eq_false_iff_not] at g3 g4
  have hkn : k = nx := by omega
  subst hkn
  obtain ⟨a, ha, hsa⟩ := findIx_at hk
  rw [Nat.sub_zero] at ha
  unfold names at ha
  rw [List.getElem?_map, Option.map_eq_some_iff] at ha
  obtain ⟨x, hx, rfl⟩ := ha
  have hkl : k < l.length := (List.getElem?_eq_some_iff.1 hx).1
  have ht : twoOf l k = x.2 := by unfold twoOf; rw [hx]; rfl
  have same : ∀ j y, l[j]? = some y → j ≠ k → personsM (m.take (i + 1)) y.1 = personsM (m.take i) y.1 := by
   intro j y hy hj
   rw [hm, persons_snoc]
   have : seq s.1 y.1 = false := by
    rw [Bool.eq_false_iff]; intro e; rw [sq_iff] at e
    exact hj (steps_uniq h0 hy hx (e.symm.trans hsa))
   rw [this]; simp
  have own : (personsM (m.take (i + 1)) x.1).length = b + 1 := by
   rw [hm, persons_snoc, (sq_iff _ _).2 hsa]
   simp [(h.eq x hx).1]
  have hlt := (h.eq x hx).2
  have nb := need_pos x.2
  rw [ht]
  refine ⟨fun e => ⟨hkl, fun j y hy hj => ?_, fun y hy => ?_, fun j y hy hj => ?_⟩, fun e => ⟨h.le, fun j y hy hj => ?_, fun y hy => ?_, fun j y hy hj => ?_⟩⟩
  ·rw [done_iff]
   by_cases hjk : j = k
   ·subst hjk; rw [hx] at hy; cases hy; rw [own, e]; simp
   ·rw [same j y hy hjk, ← done_iff]; exact h.lt j y hy (by omega)
  ·rw [same _ y hy (by omega), h.gt _ y hy (by omega)]
   have := need_pos y.2
   simp; omega
  ·rw [same j y hy (by omega)]; exact h.gt j y hy (by omega)
  ·rw [done_iff, same j y hy (by omega), ← done_iff]; exact h.lt j y hy hj
  ·rw [hx] at hy; cases hy
   refine ⟨own, ?_⟩
   simp only [Int.ofNat_eq_natCast] at e
   omega
  ·rw [same j y hy (by omega)]; exact h.gt j y hy hj
end Go.Vm.S3
