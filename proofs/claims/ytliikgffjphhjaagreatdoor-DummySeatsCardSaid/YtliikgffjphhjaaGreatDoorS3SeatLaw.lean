/- Seats: the program's count of signs against the reference's. -/
import Derived.Test.YtliikgffjphhjaaGreatDoorS3T11
namespace Go.Vm.S3
theorem bs_iff (x y : ByteArray) : bseq x y = true ↔ x.toList = y.toList := by unfold bseq; rw [beq_iff_eq]
theorem sq_iff (x y : ByteArray) : seq x y = true ↔ x.toList = y.toList := by unfold seq; rw [beq_iff_eq]
theorem findIx_at {s : ByteArray} : ∀ {ks : List ByteArray} {i j : Nat}, findIx s ks i = some j → ∃ a, ks[j - i]? = some a ∧ s.toList = a.toList
  | [], i, j, h => by simp [findIx] at h
  | a :: r, i, j, h => by
    unfold findIx at h
    cases hb : bseq s a with
    | true => rw [hb] at h; simp only [cond_true, Option.some.injEq] at h; subst h; exact ⟨a, by simp, (bs_iff _ _).1 hb⟩
    | false =>
      rw [hb] at h
      obtain ⟨b, h1, h2⟩ := findIx_at (ks := r) h
      have := (findIx_bound (ks := r) h).1
      refine ⟨b, ?_, h2⟩
      rw [show j - i = (j - (i + 1)) + 1 by omega]; simpa using h1
theorem findIx_no {s : ByteArray} : ∀ {ks : List ByteArray} {i : Nat}, findIx s ks i = none → ∀ a ∈ ks, s.toList ≠ a.toList
  | [], _, _, a, ha => by simp at ha
  | b :: r, i, h, a, ha => by
    unfold findIx at h
    cases hb : bseq s b with
    | true => rw [hb] at h; cases h
    | false =>
      rw [hb] at h
      rcases List.mem_cons.1 ha with rfl | ha
      · intro e; rw [(bs_iff _ _).2 e] at hb; cases hb
      · exact findIx_no (ks := r) h a ha
theorem steps_lt {l : List (ByteArray × Bool)} (h : stepsM l = 0) {j k : Nat} {x y : ByteArray × Bool} (hx : l[j]? = some x) (hy : l[k]? = some y) (hjk : j < k) : y.1.toList ≠ x.1.toList := by
  refine findIx_no (steps_fresh h hy) x.1 ?_
  unfold names
  refine List.mem_map.2 ⟨x, ?_, rfl⟩
  exact List.mem_iff_getElem?.2 ⟨j, by rw [List.getElem?_take, if_pos hjk]; exact hx⟩
theorem steps_uniq {l : List (ByteArray × Bool)} (h : stepsM l = 0) {j k : Nat} {x y : ByteArray × Bool} (hx : l[j]? = some x) (hy : l[k]? = some y) (e : x.1.toList = y.1.toList) : j = k := by
  rcases Nat.lt_trichotomy j k with h1 | h1 | h1
  · exact absurd e.symm (steps_lt h hx hy h1)
  · exact h1
  · exact absurd e (steps_lt h hy hx h1)
theorem done_iff (x : ByteArray × Bool) (l : List (ByteArray × ByteArray)) : doneM x l = true ↔ needM x.2 ≤ (personsM l x.1).length := by
  unfold doneM needM
  generalize (personsM l x.1).length = n
  cases x.2 <;> simp only [cond_true, cond_false, Int.ofNat_eq_natCast]
  · by_cases h : n ≥ 2
    · have : decide ((n : Int) ≥ 2) = true := by simp; omega
      rw [this]; simp; omega
    · have : decide ((n : Int) ≥ 2) = false := by simp; omega
      rw [this, cond_false]
      by_cases h1 : n = 1
      · subst h1; simp
      · have : ((n : Int) == 1) = false := by simp; omega
        rw [this]; simp; omega
  · by_cases h : n ≥ 2
    · have : decide ((n : Int) ≥ 2) = true := by simp; omega
      rw [this]; simp; omega
    · have : decide ((n : Int) ≥ 2) = false := by simp; omega
      rw [this, cond_false]
      cases ((n : Int) == 1) <;> simp <;> omega
theorem need_pos (b : Bool) : 1 ≤ needM b ∧ needM b ≤ 2 := by cases b <;> simp [needM]
structure OInv (l : List (ByteArray × Bool)) (m : List (ByteArray × ByteArray)) (nx b : Nat) : Prop where
  le : nx ≤ l.length
  lt : ∀ j x, l[j]? = some x → j < nx → doneM x m = true
  eq : ∀ x, l[nx]? = some x → (personsM m x.1).length = b ∧ (b : Int) < needM x.2
  gt : ∀ j x, l[j]? = some x → nx < j → personsM m x.1 = []
theorem OInv.open_eq {l : List (ByteArray × Bool)} {m : List (ByteArray × ByteArray)} {nx b : Nat} (h : OInv l m nx b) : openM l m = names (l.drop nx) := by
  unfold openM names
  congr 1
  conv => lhs; rw [← List.take_append_drop nx l]
  rw [List.filter_append]
  have h1 : (l.take nx).filter (fun x => !doneM x m) = [] := by
    rw [List.filter_eq_nil_iff]
    intro x hx
    obtain ⟨j, hj⟩ := List.mem_iff_getElem?.1 hx
    rw [List.getElem?_take] at hj
    split at hj
    · rename_i hjn; rw [h.lt j x hj hjn]; simp
    · cases hj
  have h2 : (l.drop nx).filter (fun x => !doneM x m) = l.drop nx := by
    rw [List.filter_eq_self]
    intro x hx
    obtain ⟨j, hj⟩ := List.mem_iff_getElem?.1 hx
    rw [List.getElem?_drop] at hj
    have : ¬ doneM x m = true := by
      rw [done_iff]
      cases j with
      | zero => obtain ⟨e, hlt⟩ := h.eq x hj; rw [e]; omega
      | succ j => rw [h.gt _ x hj (by omega)]; have := need_pos x.2; simp; omega
    simpa using this
  rw [h1, h2]; rfl
theorem first2 (a b : Int) (r : List Int) : firstM (a :: b :: r) = bif firstM [a, b] != 0 then firstM [a, b] else firstM r := by
  show (bif a != 0 then a else bif b != 0 then b else firstM r) = bif (bif a != 0 then a else bif b != 0 then b else 0) != 0 then (bif a != 0 then a else bif b != 0 then b else 0) else firstM r
  cases h : a != 0 with
  | true => simp only [cond_true, h]
  | false =>
    cases h2 : b != 0 with
    | true => simp only [cond_true, cond_false, h2]
    | false => simp
theorem any_word (m : List (ByteArray × ByteArray)) (s : ByteArray × ByteArray) : hasWordM (personsM m s.1) s.2 = m.any (sgEq s) := by
  unfold hasWordM personsM
  induction m with
  | nil => rfl
  | cons x m ih =>
    rw [List.filter_cons, List.any_cons, ← ih]
    unfold sgEq
    have e1 : bseq s.1 x.1 = seq x.1 s.1 := by rw [Bool.eq_iff_iff, bs_iff, sq_iff]; exact ⟨Eq.symm, Eq.symm⟩
    have e2 : bseq s.2 x.2 = seq x.2 s.2 := by rw [Bool.eq_iff_iff, bs_iff, sq_iff]; exact ⟨Eq.symm, Eq.symm⟩
    rw [e1, e2]
    cases seq x.1 s.1 <;> simp
theorem err_eq {l : List (ByteArray × Bool)} (h0 : stepsM l = 0) {m : List (ByteArray × ByteArray)} {i nx b : Nat} (h : OInv l (m.take i) nx b) (s : ByteArray × ByteArray) : sgnErr l m i s = signErr l m i s nx := by
  unfold sgnErr signErr
  have f2 := first2 (whenM (!(findIx s.1 (names l) 0).isSome) 10) (nameErr s.2) [whenM (decide (Int.ofNat ((findIx s.1 (names l) 0).getD 0) < Int.ofNat nx)) 23, whenM (decide (Int.ofNat ((findIx s.1 (names l) 0).getD 0) > Int.ofNat nx)) 11, whenM ((m.take i).any (sgEq s)) 9]
  rw [f2, findM_ix]
  have en : (l.map fun x => x.1) = names l := rfl
  rw [en]
  have e1 : decide (((findIx s.1 (names l) 0).map Int.ofNat).getD (-1) < 0) = !(findIx s.1 (names l) 0).isSome := by
    cases findIx s.1 (names l) 0 with
    | none => rfl
    | some j => simp
  rw [e1]
  cases hf : firstM [whenM (!(findIx s.1 (names l) 0).isSome) 10, nameErr s.2] != 0 with
  | true => rfl
  | false =>
    simp only [cond_false]
    cases hk : findIx s.1 (names l) 0 with
    | none => rw [hk] at hf; exact absurd hf (by simp [whenM, firstM])
    | some k =>
      obtain ⟨a, ha, hsa⟩ := findIx_at hk
      rw [Nat.sub_zero] at ha
      unfold names at ha
      rw [List.getElem?_map, Option.map_eq_some_iff] at ha
      obtain ⟨x, hx, rfl⟩ := ha
      have hst : stepAt l (((some k : Option Nat).map Int.ofNat).getD (-1)) = x := by
        show (l[k]?).getD _ = x
        rw [hx]; rfl
      rw [hst, h.open_eq, any_word]
      simp only [Option.getD_some, Int.ofNat_eq_natCast]
      rcases Nat.lt_trichotomy k nx with hlt | heq | hgt
      · rw [h.lt k x hx hlt]
        have : decide ((k : Int) < nx) = true := by simp; omega
        rw [this]; rfl
      · subst heq
        have hd : doneM x (m.take i) = false := by
          rw [Bool.eq_false_iff]; intro hd; rw [done_iff] at hd
          obtain ⟨e, hl⟩ := h.eq x hx; rw [e] at hd; omega
        have hh : headName (names (l.drop k)) = x.1 := by
          unfold headName names
          rw [List.getElem?_map, List.getElem?_drop, Nat.add_zero, hx]; rfl
        rw [hd, hh, (sq_iff _ _).2 hsa.symm]
        have : decide ((k : Int) < k) = false := by simp
        rw [this]
        cases (m.take i).any (sgEq s) <;> rfl
      · have hd : doneM x (m.take i) = false := by
          rw [Bool.eq_false_iff]; intro hd; rw [done_iff, h.gt k x hx hgt] at hd
          have := need_pos x.2; simp at hd; omega
        have hkl : k < l.length := (List.getElem?_eq_some_iff.1 hx).1
        have hy : l[nx]? = some l[nx] := List.getElem?_eq_getElem (by omega)
        have hh : headName (names (l.drop nx)) = (l[nx]).1 := by
          unfold headName names
          rw [List.getElem?_map, List.getElem?_drop, Nat.add_zero, hy]; rfl
        have hs : seq (l[nx]).1 s.1 = false := by
          rw [Bool.eq_false_iff]; intro e; rw [sq_iff] at e
          have := steps_uniq h0 hy hx (e.trans hsa); omega
        rw [hd, hh, hs]
        have : decide ((k : Int) < nx) = false := by simp; omega
        rw [this]
        have : decide ((k : Int) > nx) = true := by simp; omega
        rw [this]; rfl
theorem persons_snoc (m : List (ByteArray × ByteArray)) (s : ByteArray × ByteArray) (a : ByteArray) : personsM (m ++ [s]) a = personsM m a ++ bif seq s.1 a then [s.2] else [] := by
  unfold personsM
  rw [List.filter_append, List.map_append]
  congr 1
  cases h : seq s.1 a <;> simp [h]
theorem whenZ {b : Bool} {e : Int} (he : e ≠ 0) (hw : whenM b e = 0) : b = false := by
  cases b with
  | false => rfl
  | true => exact absurd hw he
theorem OInv.step {l : List (ByteArray × Bool)} (h0 : stepsM l = 0) {m : List (ByteArray × ByteArray)} {i nx b : Nat} {s : ByteArray × ByteArray} (hs : m[i]? = some s) (h : OInv l (m.take i) nx b) (he : signErr l m i s nx = 0) :
    (needM (twoOf l nx) = Int.ofNat (b + 1) → OInv l (m.take (i + 1)) (nx + 1) 0) ∧ (needM (twoOf l nx) ≠ Int.ofNat (b + 1) → OInv l (m.take (i + 1)) nx (b + 1)) := by
  have hm : m.take (i + 1) = m.take i ++ [s] := by rw [List.take_add_one, hs]; rfl
  unfold signErr at he
  rw [firstZ, firstZ, firstZ, firstZ, firstZ] at he
  obtain ⟨q1, q2, q3, q4, q5, _⟩ := he
  have g1 := whenZ (by decide) q1
  have g3 := whenZ (by decide) q3
  have g4 := whenZ (by decide) q4
  cases hk : findIx s.1 (names l) 0 with
  | none => rw [hk] at g1; cases g1
  | some k =>
    rw [hk] at g3 g4
    simp only [Option.getD_some, Int.ofNat_eq_natCast, decide_eq_false_iff_not] at g3 g4
    have hkn : k = nx := by omega
    subst hkn
    obtain ⟨a, ha, hsa⟩ := findIx_at hk
    rw [Nat.sub_zero] at ha
    unfold names at ha
    rw [List.getElem?_map, Option.map_eq_some_iff] at ha
    obtain ⟨x, hx, rfl⟩ := ha
    have hkl : k < l.length := (List.getElem?_eq_some_iff.1 hx).1
    have ht : twoOf l k = x.2 := by unfold twoOf; rw [hx]; rfl
    have same : ∀ j y, l[j]? = some y → j ≠ k → personsM (m.take (i + 1)) y.1 = personsM (m.take i) y.1 := by
      intro j y hy hj
      rw [hm, persons_snoc]
      have : seq s.1 y.1 = false := by
        rw [Bool.eq_false_iff]; intro e; rw [sq_iff] at e
        exact hj (steps_uniq h0 hy hx (e.symm.trans hsa))
      rw [this]; simp
    have own : (personsM (m.take (i + 1)) x.1).length = b + 1 := by
      rw [hm, persons_snoc, (sq_iff _ _).2 hsa]
      simp [(h.eq x hx).1]
    have hlt := (h.eq x hx).2
    have nb := need_pos x.2
    rw [ht]
    refine ⟨fun e => ⟨hkl, fun j y hy hj => ?_, fun y hy => ?_, fun j y hy hj => ?_⟩, fun e => ⟨h.le, fun j y hy hj => ?_, fun y hy => ?_, fun j y hy hj => ?_⟩⟩
    · rw [done_iff]
      by_cases hjk : j = k
      · subst hjk; rw [hx] at hy; cases hy; rw [own, e]; simp
      · rw [same j y hy hjk, ← done_iff]; exact h.lt j y hy (by omega)
    · rw [same _ y hy (by omega), h.gt _ y hy (by omega)]
      have := need_pos y.2
      simp; omega
    · rw [same j y hy (by omega)]; exact h.gt j y hy (by omega)
    · rw [done_iff, same j y hy (by omega), ← done_iff]; exact h.lt j y hy hj
    · rw [hx] at hy; cases hy
      refine ⟨own, ?_⟩
      simp only [Int.ofNat_eq_natCast] at e
      omega
    · rw [same j y hy (by omega)]; exact h.gt j y hy hj
theorem run_eq {l : List (ByteArray × Bool)} (h0 : stepsM l = 0) {m : List (ByteArray × ByteArray)} : ∀ (r pre : List (ByteArray × ByteArray)) (nx b : Nat), pre ++ r = m → OInv l (m.take pre.length) nx b →
    match goL (signStep l m) (fun st => (.inr st.1 : Int ⊕ Nat)) pre.length r (nx, b) with
    | .inl e => srch (fun i x => bif sgnErr l m i x != 0 then some (sgnErr l m i x) else none) pre.length r = some e ∧ e ≠ 0
    | .inr nx' => srch (fun i x => bif sgnErr l m i x != 0 then some (sgnErr l m i x) else none) pre.length r = none ∧ openM l m = names (l.drop nx')
  | [], pre, nx, b, hp, h => by
    unfold goL srch
    rw [List.append_nil] at hp
    subst hp
    rw [List.take_length] at h
    exact ⟨rfl, h.open_eq⟩
  | s :: r, pre, nx, b, hp, h => by
    have hs : m[pre.length]? = some s := by rw [← hp]; simp
    have ee := err_eq h0 h s
    unfold goL srch
    rw [ee]
    unfold signStep
    simp only
    cases hq : signErr l m pre.length s nx != 0 with
    | true => exact ⟨rfl, by simpa using hq⟩
    | false =>
      have hz : signErr l m pre.length s nx = 0 := by simpa using hq
      obtain ⟨k1, k2⟩ := h.step h0 hs hz
      have hlen : (pre ++ [s]).length = pre.length + 1 := by simp
      cases hn : Int.ofNat (b + 1) == needM (twoOf l nx) with
      | true =>
        have ih := run_eq (m := m) h0 r (pre ++ [s]) (nx + 1) 0 (by rw [← hp]; simp) (by rw [hlen]; exact k1 (by simpa using (beq_iff_eq.1 hn).symm))
        rw [hlen] at ih
        exact ih
      | false =>
        have ih := run_eq (m := m) h0 r (pre ++ [s]) nx (b + 1) (by rw [← hp]; simp) (by rw [hlen]; exact k2 (fun e => by rw [e] at hn; simp at hn))
        rw [hlen] at ih
        exact ih
theorem OInv.start (l : List (ByteArray × Bool)) : OInv l [] 0 0 :=
  ⟨Nat.zero_le _, fun j x _ hj => absurd hj (Nat.not_lt_zero _), fun x _ => ⟨rfl, by have := need_pos x.2; simp; omega⟩, fun j x _ _ => rfl⟩
theorem sign_eq {l : List (ByteArray × Bool)} {m : List (ByteArray × ByteArray)} (h : openErr l m = 0) : match signRun l m with
    | .inl e => signsM l m = e ∧ e ≠ 0
    | .inr nx => signsM l m = 0 ∧ openM l m = names (l.drop nx) := by
  unfold openErr at h
  rw [firstZ, firstZ] at h
  obtain ⟨h0, h1, _⟩ := h
  have g := whenZ (by decide) h1
  have k := run_eq h0 (m := m) m [] 0 0 rfl (OInv.start l)
  have e0 : ([] : List (ByteArray × ByteArray)).length = 0 := rfl
  rw [e0] at k
  change (match signRun l m with | .inl e => _ | .inr nx' => _) at k
  unfold signsM srchE
  rw [g, cond_false]
  split at k
  · rename_i e he
    rw [k.1]
    exact ⟨rfl, k.2⟩
  · rename_i nx he
    rw [k.1]
    exact ⟨rfl, k.2⟩
end Go.Vm.S3
