/- DummyMoments: the law returns true whatever the vectors are. -/
import Derived.Test.YtliikgffjphhjaaGreatDoorS3A4
namespace Go.Vm.S3
open Go.Proofs Go.RowKit

theorem firstM_cons (x : Int) (r : List Int) : firstM (x :: r) = 0 ↔ x = 0 ∧ firstM r = 0 := by
  by_cases hx : x = 0
  · subst hx
    show firstM r = 0 ↔ _
    simp
  · have : (x != 0) = true := by simp [hx]
    unfold firstM
    rw [this]
    simp [hx]
theorem firstM3 (a b c : Int) : firstM [a, b, c] = 0 ↔ a = 0 ∧ b = 0 ∧ c = 0 := by
  rw [firstM_cons, firstM_cons, firstM_cons]
  simp [firstM]

theorem withinM_zero (n lo hi : Int) : withinM n lo hi = 0 ↔ lo ≤ n ∧ n ≤ hi := by
  unfold withinM whenM
  by_cases h1 : n < lo
  · simp [h1]; try omega
  · by_cases h2 : n > hi
    · simp [h1, h2]; try omega
    · simp [h1, h2]; try omega

theorem vecM_zero {v : V3} {m : Int} (h0 : 0 ≤ m) (h1 : m < 9223372036854775808) : vecM v m = 0 ↔ (-m ≤ v.1 ∧ v.1 ≤ m) ∧ (-m ≤ v.2.1 ∧ v.2.1 ≤ m) ∧ (-m ≤ v.2.2 ∧ v.2.2 ≤ m) := by
  unfold vecM
  rw [firstM3, withinM_zero, withinM_zero, withinM_zero, wrap_in (by omega) (by omega)]
  constructor <;> rintro ⟨a, b, c⟩ <;> refine ⟨⟨?_, ?_⟩, ⟨?_, ?_⟩, ⟨?_, ?_⟩⟩ <;> omega

def negM (s : V3) : V3 := (IntKind.i64.wrap (0 - s.1), IntKind.i64.wrap (0 - s.2.1), IntKind.i64.wrap (0 - s.2.2))
/-- What is left when the moment has been taken. -/
def tailD (A m f s : V3) (E : Int) (b : Bool) : Dt AV :=
  bif E == 0 then
    bif (bif true then vecM A 1000000 == 0 else false) then
      bif momErr A f (negM s) == 0 then
        .need (abin (CS S4) .eql 32 (.tmp 66) (.tmp 67) (vA (momV A f (negM s))) (vA m) = some (gB b))
          (bif (bif true then b else false) then .done (some (gB (bif true then true else false))) else .done (some (gB false)))
      else .done (some (gB false))
    else .done (some (gB true))
  else .done (some (gB true))

set_option maxRecDepth 100000 in
theorem law4 (m f s : V3) (b : Bool) : evTreeD (CS S4) 60 4 [vA m, vA f, vA s] [.eq (gB b)] =
    bif momErr m f s == 0 then (bif !placeM (momV m f s) (momErr m f s) (momErr m f s) (crossM m f s) then .done (some (gB false)) else tailD (momV m f s) m f s (momErr m f s) b)
    else (bif !placeM (momV m f s) (momErr m f s) (momErr m f s) (0, 0, 0) then .done (some (gB false)) else tailD (momV m f s) m f s (momErr m f s) b) := by kernel_rfl

theorem veqB_refl (v : V3) : veqB v v = true := by simp [veqB]

/-- Taken back with the opposite shift a moment is what it was. -/
theorem back {m f s : V3} (hE : momErr m f s = 0) (hA : vecM (crossM m f s) 1000000 = 0) :
    momErr (crossM m f s) f (negM s) = 0 ∧ crossM (crossM m f s) f (negM s) = m := by
  unfold momErr at hE ⊢
  rw [firstM3] at hE ⊢
  obtain ⟨h1, h2, h3⟩ := hE
  have h2' := h2
  rw [vecM_zero (by omega) (by omega)] at h1 h2 h3
  obtain ⟨⟨a1, a2⟩, ⟨a3, a4⟩, ⟨a5, a6⟩⟩ := h1
  obtain ⟨⟨b1, b2⟩, ⟨b3, b4⟩, ⟨b5, b6⟩⟩ := h2
  obtain ⟨⟨c1, c2⟩, ⟨c3, c4⟩, ⟨c5, c6⟩⟩ := h3
  have n1 : (negM s).1 = -s.1 := by show IntKind.i64.wrap (0 - s.1) = _; rw [wrap_in (by omega) (by omega)]; omega
  have n2 : (negM s).2.1 = -s.2.1 := by show IntKind.i64.wrap (0 - s.2.1) = _; rw [wrap_in (by omega) (by omega)]; omega
  have n3 : (negM s).2.2 = -s.2.2 := by show IntKind.i64.wrap (0 - s.2.2) = _; rw [wrap_in (by omega) (by omega)]; omega
  have pb : ∀ {x y : Int}, -10000 ≤ x → x ≤ 10000 → -1000000 ≤ y → y ≤ 1000000 → -10000000000 ≤ x * y ∧ x * y ≤ 10000000000 := by
    intro x y hx1 hx2 hy1 hy2
    have e1 : 0 ≤ (10000 - x) * (1000000 + y) := Int.mul_nonneg (by omega) (by omega)
    have e2 : 0 ≤ (10000 + x) * (1000000 - y) := Int.mul_nonneg (by omega) (by omega)
    have e3 : 0 ≤ (10000 + x) * (1000000 + y) := Int.mul_nonneg (by omega) (by omega)
    have e4 : 0 ≤ (10000 - x) * (1000000 - y) := Int.mul_nonneg (by omega) (by omega)
    simp only [Int.add_mul, Int.sub_mul, Int.mul_add, Int.mul_sub] at e1 e2 e3 e4
    omega
  have q1 := pb (x := s.2.1) (y := f.2.2) (by omega) (by omega) (by omega) (by omega)
  have q2 := pb (x := s.2.2) (y := f.2.1) (by omega) (by omega) (by omega) (by omega)
  have q3 := pb (x := s.2.2) (y := f.1) (by omega) (by omega) (by omega) (by omega)
  have q4 := pb (x := s.1) (y := f.2.2) (by omega) (by omega) (by omega) (by omega)
  have q5 := pb (x := s.1) (y := f.2.1) (by omega) (by omega) (by omega) (by omega)
  have q6 := pb (x := s.2.1) (y := f.1) (by omega) (by omega) (by omega) (by omega)
  have x1 : (crossM m f s).1 = m.1 + s.2.1 * f.2.2 - s.2.2 * f.2.1 := by
    unfold crossM; simp only
    rw [wrap_in (n := s.2.1 * f.2.2) (by omega) (by omega), wrap_in (n := s.2.2 * f.2.1) (by omega) (by omega), wrap_in (n := m.1 + s.2.1 * f.2.2) (by omega) (by omega), wrap_in (by omega) (by omega)]
  have x2 : (crossM m f s).2.1 = m.2.1 + s.2.2 * f.1 - s.1 * f.2.2 := by
    unfold crossM; simp only
    rw [wrap_in (n := s.2.2 * f.1) (by omega) (by omega), wrap_in (n := s.1 * f.2.2) (by omega) (by omega), wrap_in (n := m.2.1 + s.2.2 * f.1) (by omega) (by omega), wrap_in (by omega) (by omega)]
  have x3 : (crossM m f s).2.2 = m.2.2 + s.1 * f.2.1 - s.2.1 * f.1 := by
    unfold crossM; simp only
    rw [wrap_in (n := s.1 * f.2.1) (by omega) (by omega), wrap_in (n := s.2.1 * f.1) (by omega) (by omega), wrap_in (n := m.2.2 + s.1 * f.2.1) (by omega) (by omega), wrap_in (by omega) (by omega)]
  refine ⟨⟨hA, h2', ?_⟩, ?_⟩
  · rw [vecM_zero (by omega) (by omega), n1, n2, n3]
    refine ⟨⟨?_, ?_⟩, ⟨?_, ?_⟩, ⟨?_, ?_⟩⟩ <;> omega
  · generalize crossM m f s = A at x1 x2 x3
    have y1 : (crossM A f (negM s)).1 = m.1 := by
      unfold crossM; simp only
      rw [n2, n3, x1]
      simp only [Int.neg_mul]
      rw [wrap_in (n := -(s.2.1 * f.2.2)) (by omega) (by omega), wrap_in (n := -(s.2.2 * f.2.1)) (by omega) (by omega), wrap_in (n := m.1 + s.2.1 * f.2.2 - s.2.2 * f.2.1 + -(s.2.1 * f.2.2)) (by omega) (by omega), wrap_in (by omega) (by omega)]
      omega
    have y2 : (crossM A f (negM s)).2.1 = m.2.1 := by
      unfold crossM; simp only
      rw [n1, n3, x2]
      simp only [Int.neg_mul]
      rw [wrap_in (n := -(s.2.2 * f.1)) (by omega) (by omega), wrap_in (n := -(s.1 * f.2.2)) (by omega) (by omega), wrap_in (n := m.2.1 + s.2.2 * f.1 - s.1 * f.2.2 + -(s.2.2 * f.1)) (by omega) (by omega), wrap_in (by omega) (by omega)]
      omega
    have y3 : (crossM A f (negM s)).2.2 = m.2.2 := by
      unfold crossM; simp only
      rw [n1, n2, x3]
      simp only [Int.neg_mul]
      rw [wrap_in (n := -(s.1 * f.2.1)) (by omega) (by omega), wrap_in (n := -(s.2.1 * f.1)) (by omega) (by omega), wrap_in (n := m.2.2 + s.1 * f.2.1 - s.2.1 * f.1 + -(s.1 * f.2.1)) (by omega) (by omega), wrap_in (by omega) (by omega)]
      omega
    exact Prod.ext y1 (Prod.ext y2 y3)

theorem law_true (m f s : V3) : ∃ b : Bool, (evTreeD (CS S4) 60 4 [vA m, vA f, vA s] [.eq (gB b)]).ok (gB true) := by
  refine ⟨true, ?_⟩
  rw [law4]
  by_cases hE : momErr m f s = 0
  · have hA : momV m f s = crossM m f s := by unfold momV; rw [hE]; rfl
    have hp : placeM (momV m f s) (momErr m f s) (momErr m f s) (crossM m f s) = true := by
      unfold placeM; rw [hA, hE]; simp [veqB_refl]
    rw [hp, hA, hE]
    show (tailD (crossM m f s) m f s 0 true).ok (gB true)
    unfold tailD
    simp only [beq_self_eq_true, cond_true]
    by_cases hv : vecM (crossM m f s) 1000000 = 0
    · obtain ⟨h1, h2⟩ := back hE hv
      have hm : momV (crossM m f s) f (negM s) = m := by unfold momV; rw [h1]; exact h2
      rw [hv, h1, hm]
      simp only [beq_self_eq_true, cond_true]
      refine ⟨?_, rfl⟩
      have := vec_eq S4 (.tmp 66) (.tmp 67) m.1 m.2.1 m.2.2 m.1 m.2.1 m.2.2
      simpa using this
    · have : (vecM (crossM m f s) 1000000 == 0) = false := by simp [hv]
      rw [this]; rfl
  · have hb : (momErr m f s == 0) = false := by simp [hE]
    have hA : momV m f s = (0, 0, 0) := by unfold momV; have : (momErr m f s != 0) = true := by simp [hE]
                                           rw [this]; rfl
    have hp : placeM (momV m f s) (momErr m f s) (momErr m f s) (0, 0, 0) = true := by
      unfold placeM; rw [hA]; have : (momErr m f s != 0) = true := by simp [hE]
      rw [this]; simp [veqB_refl]
    rw [hp, hb]
    show (tailD (momV m f s) m f s (momErr m f s) true).ok (gB true)
    unfold tailD
    rw [hb]; rfl

set_option maxRecDepth 100000 in
theorem moments_ok : Holds 4 (sp3 vecC vecC vecC fun _ _ _ => some (gB true)) := holds3 fun m f s r hr => by
  simp only [Option.some.injEq] at hr; subst hr
  obtain ⟨q, hq⟩ := law_true m f s
  exact (S4_ok.evD (d := 60) (hs := [.eq (gB q)]) (l := [vA m, vA f, vA s]) hq : Cmp 4 [vA m, vA f, vA s] (gB true))
end Go.Vm.S3
