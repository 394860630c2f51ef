/- DummySeats: the plain parts of the law. -/
import Derived.Test.YtliikgffjphhjaaGreatDoorS3T12
import Derived.Test.YtliikgffjphhjaaGreatDoorS3SeatLaw
namespace Go.Vm.S3
open Go.Proofs Go.RowKit
/-! ### The law -/
theorem shortS_all : Holds 66 (sp2 (listC stC 2) (listC sgC 2) fun l m => some (boolA (shortStepsM l m))) := holds2 fun l m r hr => by
  simp only [Option.some.injEq] at hr; subst hr
  cases hb : Nat.blt l.length two63 && Nat.blt m.length two63 with
  | true => exact h66 [slA stC 2 l, slA sgC 2 m] _ (by
      have h := sp2_at (A := listC stC 2) (B := listC sgC 2) (F := fun l m => bif Nat.blt l.length two63 && Nat.blt m.length two63 then some (boolA (shortStepsM l m)) else none) l m
      rw [hb] at h; exact h)
  | false =>
    have e := e_len stA l
    have e' := e_len sgA m
    have hs : stepsLenB l.length m.length = true := by
      unfold stepsLenB
      rw [Bool.and_eq_false_iff] at hb
      rcases hb with hb | hb
      · have : ¬ l.length < two63 := fun h => by rw [show Nat.blt l.length two63 = true from Nat.ble_eq_true_of_le h] at hb; cases hb
        unfold two63 at this
        have q1 : decide (Int.ofNat l.length > 8) = true := by simp only [Int.ofNat_eq_natCast, decide_eq_true_eq]; omega
        have q2 : (Int.ofNat l.length != 33) = true := by simp only [Int.ofNat_eq_natCast, bne_iff_ne, ne_eq]; omega
        rw [q1, q2]; rfl
      · have : ¬ m.length < two63 := fun h => by rw [show Nat.blt m.length two63 = true from Nat.ble_eq_true_of_le h] at hb; cases hb
        unfold two63 at this
        have q1 : decide (Int.ofNat m.length > 16) = true := by simp only [Int.ofNat_eq_natCast, decide_eq_true_eq]; omega
        have q2 : (Int.ofNat m.length != 65) = true := by simp only [Int.ofNat_eq_natCast, bne_iff_ne, ne_eq]; omega
        rw [q1, q2]
        cases (bif decide (Int.ofNat l.length > 8) then Int.ofNat l.length != 33 else false) <;> rfl
    have hz : shortStepsM l m = false := by unfold shortStepsM; rw [hs]; rfl
    rw [hz]
    refine T5_ok.tr (t66e (l.map stA) (m.map sgA)) ?_
    rw [e, e']
    unfold stepsLenB at hs
    generalize decide (Int.ofNat l.length > 8) = b1 at hs ⊢; generalize (Int.ofNat l.length != 33) = b2 at hs ⊢; generalize decide (Int.ofNat m.length > 16) = b3 at hs ⊢; generalize (Int.ofNat m.length != 65) = b4 at hs ⊢
    cases b1 <;> cases b2 <;> cases b3 <;> cases b4 <;> first | exact absurd hs (by decide) | rfl
def seatC : Cod (List I6 × List V3) := aggC (RC.cons (listC bxC 6) (RC.one (listC vecC 3)))
def outA (l : List I6) (m : List V3) : List Int := bif outErr l m != 0 then [] else outM l m
theorem outR_eq (l : List I6) (m : List V3) : outR l m = .tup [slA intC 1 (outA l m), intA (outErr l m)] := by
  unfold outR outA
  cases h : outErr l m != 0 with
  | true => rfl
  | false => have : outErr l m = 0 := by simpa using h
             rw [this]; rfl
def openE (l : List (ByteArray × Bool)) (m : List (ByteArray × ByteArray)) : Int := bif openErr l m != 0 then openErr l m else match signRun l m with
  | .inl e => e
  | .inr _ => 0
def openB (l : List (ByteArray × Bool)) (m : List (ByteArray × ByteArray)) : List ByteArray := bif openErr l m != 0 then [] else match signRun l m with
  | .inl _ => []
  | .inr nx => names (l.drop nx)
theorem openR_eq (l : List (ByteArray × Bool)) (m : List (ByteArray × ByteArray)) : openR l m = .tup [slA strC 1 (openB l m), intA (openE l m)] := by
  unfold openR openB openE
  cases openErr l m != 0 with
  | true => rfl
  | false => cases signRun l m <;> rfl
theorem firstB (a b : Int) : firstM [a, b] = bif a != 0 then a else b := by
  show (bif a != 0 then a else bif b != 0 then b else 0) = _
  cases h : b != 0 with
  | true => rfl
  | false => have : b = 0 := by simpa using h
             rw [this]; rfl
/-- The error of Out, and what it returns, are the reference's. -/
theorem out_eq (l : List I6) (m : List V3) : outErr l m = bif seatM l == 0 then pointsM m (Int.ofNat l.length) else seatM l := by
  unfold outErr seatM pointsM
  cases h : manyM l.length 16 != 0 with
  | true =>
    have : (manyM l.length 16 == 0) = false := by simpa using h
    simp only [cond_true, this, cond_false]
  | false =>
    simp only [cond_false]
    show (bif firstM (l.map bxM) != 0 then firstM (l.map bxM) else firstM [whenM (Int.ofNat m.length != Int.ofNat l.length) 2, firstM (m.map fun v => vecM v 10000)]) = _
    rw [firstB]
    cases h2 : firstM (l.map bxM) != 0 with
    | true =>
      have : (firstM (l.map bxM) == 0) = false := by simpa using h2
      simp only [cond_true, this, cond_false]
    | false =>
      have : (firstM (l.map bxM) == 0) = true := by simpa using h2
      rw [this]
      unfold whenM
      cases Int.ofNat m.length != Int.ofNat l.length <;> rfl
theorem open_all (l : List (ByteArray × Bool)) (m : List (ByteArray × ByteArray)) : openE l m = (bif stepsM l == 0 then signsM l m else stepsM l) ∧ (openE l m = 0 → openB l m = openM l m) ∧ (openE l m ≠ 0 → openB l m = []) := by
  unfold openE openB
  cases h : openErr l m != 0 with
  | true =>
    simp only [cond_true]
    have hne : openErr l m ≠ 0 := by simpa using h
    refine ⟨?_, fun h0 => absurd h0 hne, fun _ => by first | trivial | rfl⟩
    unfold openErr at hne ⊢
    rw [firstB] at hne ⊢
    cases h2 : stepsM l != 0 with
    | true =>
      have : (stepsM l == 0) = false := by simpa using h2
      simp only [cond_true, this, cond_false]
    | false =>
      have : (stepsM l == 0) = true := by simpa using h2
      rw [h2] at hne
      rw [this]
      unfold signsM
      cases hd : decide (Int.ofNat m.length > 64) with
      | true => rfl
      | false => rw [hd] at hne; exact absurd rfl hne
  | false =>
    simp only [cond_false]
    have h0 : openErr l m = 0 := by simpa using h
    have hz : stepsM l = 0 := by unfold openErr at h0; rw [firstZ] at h0; exact h0.1
    rw [hz]
    have k := sign_eq h0
    cases hs : signRun l m with
    | inl e => rw [hs] at k; exact ⟨k.1.symm, fun h => absurd h k.2, fun _ => rfl⟩
    | inr nx => rw [hs] at k; exact ⟨k.1.symm, fun _ => k.2.symm, fun h => absurd rfl h⟩
theorem sameM_refl {α : Type} {eq : α → α → Bool} (h : ∀ x, eq x x = true) (l : List α) : sameM eq l l = true := by
  unfold sameM
  rw [beq_self_eq_true, Bool.true_and, List.all_eq_true]
  intro p hp
  have : p.1 = p.2 := by
    obtain ⟨i, hi⟩ := List.mem_iff_getElem?.1 hp
    rw [List.getElem?_zip_eq_some] at hi
    have := hi.1.symm.trans hi.2
    simpa using this
  rw [this]; exact h _
theorem seq_refl (x : ByteArray) : seq x x = true := by unfold seq; simp
def T13 : Specs := T12.set 66 (sp2 (listC stC 2) (listC sgC 2) fun l m => some (boolA (shortStepsM l m)))
theorem T13_ok : Ok T13 := T12_ok.set shortS_all
end Go.Vm.S3
