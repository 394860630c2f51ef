/- A small evaluator over abstract values: a region that draws its order is sound, in whatever order. -/
import Derived.Test.YtliikgffjphhjaaGreatDoorVmDraw2
namespace Go.Vm
open Go.RowKit (Below)

/-- Two operations of which none stands ahead of the other. -/
structure Un (ops : Array Oper) (o : Oper) (d : DI) (o' : Oper) (d' : DI) : Prop where
  a1 : ∀ t, o.dst = some t → t ∉ o'.looksAt ops
  a2 : ∀ t, o'.dst = some t → t ∉ o.looksAt ops
  a3 : ∀ t, o.dst = some t → o'.dst ≠ some t
  h1 : d.cls = 0 ∨ d'.cls ≤ 1 ∨ (d'.cls = 2 ∧ tcIn d'.own d.un = true)
  h2 : d'.cls = 0 ∨ d.cls ≤ 1 ∨ (d.cls = 2 ∧ tcIn d.own d'.un = true)

theorem heapOk_spec {x y : DI} (h : heapOk x y = true) : x.cls = 0 ∨ y.cls ≤ 1 ∨ (y.cls = 2 ∧ tcIn y.own x.un = true) := by
  unfold heapOk at h
  simp only [Bool.or_eq_true, Bool.and_eq_true] at h
  rcases h with (h | h) | ⟨h, h'⟩
  · exact .inl (Nat.eq_of_beq_eq_true h)
  · exact .inr (.inl (Nat.le_of_ble_eq_true h))
  · exact .inr (.inr ⟨Nat.eq_of_beq_eq_true h, h'⟩)

theorem Un.symm {ops : Array Oper} {o o' : Oper} {d d' : DI} (h : Un ops o d o' d') : Un ops o' d' o d :=
  ⟨h.a2, h.a1, fun t h1 h2 => h.a3 t h2 h1, h.h2, h.h1⟩

section
variable {clK : CallK} {C : Cx} {fb nt : Nat} {ops : Array Oper} {T0 : Tr AV} {H0 : Tr Ent} {is : List DI} {nv : Nat} {x : Nat → Eff}

/-- The operation and its entry. -/
abbrev opAt (ops : Array Oper) (i : Nat) : Oper := ops.getD i default
abbrev diAt (is : List DI) (i : Nat) : DI := is.getD i default

theorem opAt_some {i : Nat} (hi : i < ops.size) : ops[i]? = some (opAt ops i) := by simp [opAt, Array.getD, hi]

/-- What has been checked. -/
structure Chk (ops : Array Oper) (is : List DI) : Prop where
  edge : ∀ i, i < ops.size → ∀ e ∈ (opAt ops i).after, Region.binds .any e = true → e.on < i
  anc : ∀ i, i < ops.size → ∀ j, j ∈ (diAt is i).anc → j < i ∧ ∃ e ∈ (opAt ops i).after, Region.binds .any e = true ∧ (e.on = j ∨ j ∈ (diAt is e.on).anc)
  un : ∀ i, i < ops.size → ∀ j, j < i → j ∈ (diAt is i).anc ∨ Un ops (opAt ops i) (diAt is i) (opAt ops j) (diAt is j)

theorem chk_of (h : drawOk ops is = true) : Chk ops is := by
  unfold drawOk at h
  rw [List.all_eq_true] at h
  have key : ∀ i, i < ops.size → opDrawOk ops is i (opAt ops i) (diAt is i) = true := fun i hi => by
    have := h i (List.mem_range.2 hi)
    rw [opAt_some hi] at this; exact this
  refine ⟨fun i hi e he hb => ?_, fun i hi j hj => ?_, fun i hi j hj => ?_⟩
  · have := key i hi
    simp only [opDrawOk, Bool.and_eq_true] at this
    have h1 := (Array.all_eq_true'.1 this.1.1) e he
    rw [hb] at h1
    simp only [Bool.not_true, Bool.false_or] at h1
    exact Nat.le_of_ble_eq_true h1
  · have := key i hi
    simp only [opDrawOk, Bool.and_eq_true] at this
    have h1 := (List.all_eq_true.1 this.1.2) j hj
    simp only [Bool.and_eq_true] at h1
    refine ⟨Nat.le_of_ble_eq_true h1.1, ?_⟩
    obtain ⟨e, he, hx⟩ := Array.any_eq_true'.1 h1.2
    simp only [Bool.and_eq_true, Bool.or_eq_true] at hx
    refine ⟨e, he, hx.1, ?_⟩
    rcases hx.2 with hx | hx
    · exact .inl (Nat.eq_of_beq_eq_true hx)
    · exact .inr (memN_iff.1 hx)
  · have := key i hi
    simp only [opDrawOk, Bool.and_eq_true] at this
    have h1 := (List.all_eq_true.1 this.2) j (List.mem_range.2 hj)
    rw [opAt_some (Nat.lt_trans hj hi)] at h1
    simp only [Bool.or_eq_true, Bool.and_eq_true] at h1
    rcases h1 with h1 | ⟨⟨h1, h2⟩, h3⟩
    · exact .inl (memN_iff.1 h1)
    · obtain ⟨a1, a2, a3⟩ := Oper.apart_spec h1
      exact .inr ⟨a1, a3, a2, heapOk_spec h2, heapOk_spec h3⟩

theorem Eff.t_congr {e : Eff} {A B : Tr AV} {t : Nat} (h : A.get t = B.get t) : (e.t A).get t = (e.t B).get t := by
  unfold Eff.t
  split
  · exact h
  · rename_i d hd
    by_cases ht : t = d
    · subst ht; rw [Tr.get_set_self, Tr.get_set_self]
    · rw [Tr.get_set_ne ht, Tr.get_set_ne ht]; exact h
theorem Eff.t_ne {e : Eff} {A : Tr AV} {t : Nat} (h : e.dst ≠ some t) : (e.t A).get t = A.get t := by
  unfold Eff.t
  split
  · rfl
  · rename_i d hd
    exact Tr.get_set_ne (fun he => h (he ▸ hd))
theorem Eff.t_comm {e f : Eff} (h : ∀ t, e.dst = some t → f.dst ≠ some t) {A : Tr AV} {t : Nat} : (e.t (f.t A)).get t = (f.t (e.t A)).get t := by
  by_cases ht : e.dst = some t
  · rw [Eff.t_ne (h t ht)]
    exact Eff.t_congr (Eff.t_ne (h t ht))
  · rw [Eff.t_ne ht]
    exact Eff.t_congr (Eff.t_ne ht).symm

theorem HE.app_congr {e : HE} {A B : Tr Ent} {k : Nat} (h : A.get k = B.get k) : (e.app A).get k = (e.app B).get k := by
  cases e with
  | keep => exact h
  | set k' x =>
    simp only [HE.app]
    by_cases hk : k = k'
    · subst hk; rw [Tr.get_set_self, Tr.get_set_self]
    · rw [Tr.get_set_ne hk, Tr.get_set_ne hk]; exact h
  | all H => rfl

/-- All the facts of a region. -/
structure Rg (clK : CallK) (C : Cx) (fb nt : Nat) (ops : Array Oper) (T0 : Tr AV) (H0 : Tr Ent) (is : List DI) (nv : Nat) (x : Nat → Eff) : Prop where
  chk : Chk ops is
  stp : ∀ i, i < ops.size → Stp clK C fb nt ops T0 (nv + i) (opAt ops i) (diAt is i) (ET (fun _ => true) x T0 i) (EH (fun _ => true) x H0 i) (x i)

/-- A set that holds with an operation all that stand ahead of it. -/
def Down (ops : Array Oper) (is : List DI) (S : Nat → Bool) : Prop := ∀ i, i < ops.size → S i = true → ∀ j ∈ (diAt is i).anc, S j = true

/-- An operation that is not in S, all that stand ahead of it are. -/
structure Next1 (ops : Array Oper) (is : List DI) (S : Nat → Bool) (i : Nat) : Prop where
  lt : i < ops.size
  out : S i = false
  anc : ∀ j ∈ (diAt is i).anc, S j = true

variable {S : Nat → Bool} {i : Nat}

theorem un_after (h : Chk ops is) (hd : Down ops is S) (hn : Next1 ops is S i) {p : Nat} (hp : p < ops.size) (hip : i < p) (hs : S p = true) : Un ops (opAt ops i) (diAt is i) (opAt ops p) (diAt is p) := by
  rcases h.un p hp i hip with h1 | h1
  · have := hd p hp hs i h1; rw [hn.out] at this; cases this
  · exact h1.symm
theorem un_before (h : Chk ops is) (hn : Next1 ops is S i) {p : Nat} (hpi : p < i) (hs : S p = false) : Un ops (opAt ops i) (diAt is i) (opAt ops p) (diAt is p) := by
  rcases h.un i hn.lt p hpi with h1 | h1
  · have := hn.anc p h1; rw [hs] at this; cases this
  · exact h1

/-- What an operation that is not ordered to i brings leaves what i looks at. -/
theorem T_agree (h : Rg clK C fb nt ops T0 H0 is nv x) (hd : Down ops is S) (hn : Next1 ops is S i) {t : Nat} (ht : t ∈ (opAt ops i).looksAt ops) : (ET S x T0 ops.size).get t = (ET (fun _ => true) x T0 i).get t := by
  have c1 : ∀ p, p ≤ i → (ET S x T0 p).get t = (ET (fun _ => true) x T0 p).get t := by
    intro p
    induction p with
    | zero => intro _; rfl
    | succ p ih =>
      intro hp
      have ih := ih (by omega)
      simp only [ET, if_true]
      by_cases hs : S p = true
      · rw [if_pos hs]; exact Eff.t_congr ih
      · rw [if_neg hs]
        have hs' : S p = false := by simpa using hs
        have hu := un_before h.chk hn (by omega : p < i) hs'
        rw [Eff.t_ne (by rw [(h.stp p (by have := hn.lt; omega)).dst]; exact fun hx => hu.a2 t hx ht)]
        exact ih
  have c2 : ∀ p, i ≤ p → p ≤ ops.size → (ET S x T0 p).get t = (ET (fun _ => true) x T0 i).get t := by
    intro p
    induction p with
    | zero => intro hp _; have : i = 0 := by omega
              subst this; rfl
    | succ p ih =>
      intro hp hps
      by_cases hpi : i = p + 1
      · subst hpi; exact c1 _ (Nat.le_refl _)
      · have ih := ih (by omega) (by omega)
        simp only [ET]
        by_cases hs : S p = true
        · rw [if_pos hs]
          have hip : i < p := by
            rcases Nat.lt_or_ge i p with h1 | h1
            · exact h1
            · have : i = p := by omega
              rw [this] at hn; rw [hn.out] at hs; cases hs
          have hu := un_after h.chk hd hn (by omega : p < ops.size) hip hs
          rw [Eff.t_ne (by rw [(h.stp p (by omega)).dst]; exact fun hx => hu.a2 t hx ht)]
          exact ih
        · rw [if_neg hs]; exact ih
  exact c2 ops.size (Nat.le_of_lt hn.lt) (Nat.le_refl _)

/-- What an operation that is not ordered to i does to the heap. -/
theorem he_of (h : Rg clK C fb nt ops T0 H0 is nv x) {p : Nat} (hp : p < ops.size) (hu : Un ops (opAt ops i) (diAt is i) (opAt ops p) (diAt is p)) {ks : List Nat} (hks : tcKeys fb T0 (diAt is i).un = some ks) (hc : (diAt is i).cls ≠ 0) :
    (x p).h = .keep ∨ ∃ k e, (x p).h = .set k e ∧ memN k ks = true := by
  obtain ⟨ks', hks', hf', hw⟩ := (h.stp p hp).does
  rcases hw with ⟨_, _, hk⟩ | ⟨_, hd⟩
  · exact .inl hk
  · rcases hd with ⟨_, hk, _⟩ | ⟨_, hk, _⟩ | ⟨hc2, k, e, V, hk, _, _, _, he⟩ | ⟨hc3, _⟩
    · exact .inl hk
    · exact .inl hk
    · refine .inr ⟨k, e, he, ?_⟩
      rcases hu.h1 with h1 | h1 | ⟨_, h1⟩
      · exact absurd h1 hc
      · omega
      · exact tcIn_key hk _ _ h1 hks
    · rcases hu.h1 with h1 | h1 | ⟨h1, _⟩
      · exact absurd h1 hc
      · omega
      · omega

theorem H_agree (h : Rg clK C fb nt ops T0 H0 is nv x) (hd : Down ops is S) (hn : Next1 ops is S i) {ks : List Nat} (hks : tcKeys fb T0 (diAt is i).un = some ks) (hc : (diAt is i).cls ≠ 0) {k : Nat} (hk : memN k ks = false) :
    (EH S x H0 ops.size).get k = (EH (fun _ => true) x H0 i).get k := by
  have un1 : ∀ {p}, p < ops.size → Un ops (opAt ops i) (diAt is i) (opAt ops p) (diAt is p) → ∀ A : Tr Ent, ((x p).h.app A).get k = A.get k := by
    intro p hp hu A
    rcases he_of h hp hu hks hc with he | ⟨k', e, he, hm⟩
    · rw [he]; rfl
    · rw [he]
      exact Tr.get_set_ne (fun hx => by subst hx; rw [hk] at hm; cases hm)
  have c1 : ∀ p, p ≤ i → (EH S x H0 p).get k = (EH (fun _ => true) x H0 p).get k := by
    intro p
    induction p with
    | zero => intro _; rfl
    | succ p ih =>
      intro hp
      have ih := ih (by omega)
      simp only [EH, if_true]
      by_cases hs : S p = true
      · rw [if_pos hs]; exact HE.app_congr ih
      · rw [if_neg hs]
        rw [un1 (by have := hn.lt; omega) (un_before h.chk hn (by omega : p < i) (by simpa using hs))]
        exact ih
  have c2 : ∀ p, i ≤ p → p ≤ ops.size → (EH S x H0 p).get k = (EH (fun _ => true) x H0 i).get k := by
    intro p
    induction p with
    | zero => intro hp _; have : i = 0 := by omega
              subst this; rfl
    | succ p ih =>
      intro hp hps
      by_cases hpi : i = p + 1
      · subst hpi; exact c1 _ (Nat.le_refl _)
      · have ih := ih (by omega) (by omega)
        simp only [EH]
        by_cases hs : S p = true
        · rw [if_pos hs]
          have hip : i < p := by
            rcases Nat.lt_or_ge i p with h1 | h1
            · exact h1
            · have : i = p := by omega
              rw [this] at hn; rw [hn.out] at hs; cases hs
          rw [un1 (by omega) (un_after h.chk hd hn (by omega : p < ops.size) hip hs)]
          exact ih
        · rw [if_neg hs]; exact ih
  exact c2 ops.size (Nat.le_of_lt hn.lt) (Nat.le_refl _)

/-- Where no other may turn anything the heaps are the same. -/
theorem H_same (h : Rg clK C fb nt ops T0 H0 is nv x) (hd : Down ops is S) (hn : Next1 ops is S i) (hks : tcKeys fb T0 (diAt is i).un = some []) (hc : (diAt is i).cls ≠ 0) :
    EH S x H0 ops.size = EH (fun _ => true) x H0 i := by
  have un1 : ∀ {p}, p < ops.size → Un ops (opAt ops i) (diAt is i) (opAt ops p) (diAt is p) → ∀ A : Tr Ent, (x p).h.app A = A := by
    intro p hp hu A
    rcases he_of h hp hu hks hc with he | ⟨k', e, he, hm⟩
    · rw [he]; rfl
    · simp [memN] at hm
  have c1 : ∀ p, p ≤ i → EH S x H0 p = EH (fun _ => true) x H0 p := by
    intro p
    induction p with
    | zero => intro _; rfl
    | succ p ih =>
      intro hp
      have ih := ih (by omega)
      simp only [EH, if_true]
      by_cases hs : S p = true
      · rw [if_pos hs, ih]
      · rw [if_neg hs]
        rw [un1 (by have := hn.lt; omega) (un_before h.chk hn (by omega : p < i) (by simpa using hs))]
        exact ih
  have c2 : ∀ p, i ≤ p → p ≤ ops.size → EH S x H0 p = EH (fun _ => true) x H0 i := by
    intro p
    induction p with
    | zero => intro hp _; have : i = 0 := by omega
              subst this; rfl
    | succ p ih =>
      intro hp hps
      by_cases hpi : i = p + 1
      · subst hpi; exact c1 _ (Nat.le_refl _)
      · have ih := ih (by omega) (by omega)
        simp only [EH]
        by_cases hs : S p = true
        · rw [if_pos hs]
          have hip : i < p := by
            rcases Nat.lt_or_ge i p with h1 | h1
            · exact h1
            · have : i = p := by omega
              rw [this] at hn; rw [hn.out] at hs; cases hs
          rw [un1 (by omega) (un_after h.chk hd hn (by omega : p < ops.size) hip hs)]
          exact ih
        · rw [if_neg hs]; exact ih
  exact c2 ops.size (Nat.le_of_lt hn.lt) (Nat.le_refl _)

/-- The set with one more. -/
def add (S : Nat → Bool) (i : Nat) : Nat → Bool := fun p => if p = i then true else S p

theorem T_add (h : Rg clK C fb nt ops T0 H0 is nv x) (hd : Down ops is S) (hn : Next1 ops is S i) (t : Nat) : (ET (add S i) x T0 ops.size).get t = ((x i).t (ET S x T0 ops.size)).get t := by
  have c1 : ∀ p, p ≤ i → ET (add S i) x T0 p = ET S x T0 p := by
    intro p
    induction p with
    | zero => intro _; rfl
    | succ p ih =>
      intro hp
      simp only [ET, ih (by omega)]
      rw [show add S i p = S p from if_neg (by omega)]
  have c2 : ∀ p, i < p → p ≤ ops.size → ∀ t, (ET (add S i) x T0 p).get t = ((x i).t (ET S x T0 p)).get t := by
    intro p
    induction p with
    | zero => intro hp; omega
    | succ p ih =>
      intro hp hps t
      by_cases hpi : p = i
      · subst hpi
        simp only [ET, show add S p p = true from if_pos rfl, if_true, hn.out, c1 p (Nat.le_refl _)]
        rfl
      · have ih := ih (by omega) (by omega)
        simp only [ET]
        rw [show add S i p = S p from if_neg hpi]
        by_cases hs : S p = true
        · rw [if_pos hs, if_pos hs]
          have hu := un_after h.chk hd hn (by omega : p < ops.size) (by omega) hs
          rw [Eff.t_congr (ih t)]
          exact (Eff.t_comm (fun t ht => by rw [(h.stp i hn.lt).dst] at ht; rw [(h.stp p (by omega)).dst]; exact hu.a3 t ht)).symm
        · rw [if_neg hs, if_neg hs]; exact ih t
  exact c2 ops.size hn.lt (Nat.le_refl _) t

theorem H_add (h : Rg clK C fb nt ops T0 H0 is nv x) (hd : Down ops is S) (hn : Next1 ops is S i) (k : Nat) : (EH (add S i) x H0 ops.size).get k = ((x i).h.app (EH S x H0 ops.size)).get k := by
  have c1 : ∀ p, p ≤ i → EH (add S i) x H0 p = EH S x H0 p := by
    intro p
    induction p with
    | zero => intro _; rfl
    | succ p ih =>
      intro hp
      simp only [EH, ih (by omega)]
      rw [show add S i p = S p from if_neg (by omega)]
  have comm : ∀ p, p < ops.size → Un ops (opAt ops i) (diAt is i) (opAt ops p) (diAt is p) → ∀ (A : Tr Ent) (k : Nat), ((x p).h.app ((x i).h.app A)).get k = ((x i).h.app ((x p).h.app A)).get k := by
    intro p hp hu A k
    obtain ⟨ks, hks, hf, hw⟩ := (h.stp i hn.lt).does
    by_cases hc : (diAt is i).cls = 0
    · have : (x i).h = .keep := by
        rcases hw with ⟨_, _, hk⟩ | ⟨_, ⟨_, hk, _⟩ | ⟨h1, _⟩ | ⟨h1, _⟩ | ⟨h1, _⟩⟩
        · exact hk
        · exact hk
        all_goals omega
      rw [this]; rfl
    · rcases he_of h hp hu hks hc with he | ⟨k', e, he, hm⟩
      · rw [he]; rfl
      · rcases hw with ⟨_, _, hk⟩ | ⟨_, ⟨_, hk, _⟩ | ⟨_, hk, _⟩ | ⟨h2, k2, e2, V, hk2, _, _, _, he2⟩ | ⟨h3, _⟩⟩
        · rw [hk]; rfl
        · rw [hk]; rfl
        · rw [hk]; rfl
        · rw [he, he2]
          have hne : k2 ≠ k' := by
            intro hx; subst hx
            unfold ownFree at hf
            rw [h2] at hf
            simp only [hk2, hm] at hf
            cases hf
          simp only [HE.app]
          by_cases h1 : k = k'
          · subst h1; rw [Tr.get_set_self, Tr.get_set_ne (Ne.symm hne), Tr.get_set_self]
          · rw [Tr.get_set_ne h1]
            by_cases h2 : k = k2
            · subst h2; rw [Tr.get_set_self, Tr.get_set_self]
            · rw [Tr.get_set_ne h2, Tr.get_set_ne h2, Tr.get_set_ne h1]
        · unfold ownFree at hf
          rw [h3] at hf
          cases ks with
          | nil => simp [memN] at hm
          | cons => cases hf
  have c2 : ∀ p, i < p → p ≤ ops.size → ∀ k, (EH (add S i) x H0 p).get k = ((x i).h.app (EH S x H0 p)).get k := by
    intro p
    induction p with
    | zero => intro hp; omega
    | succ p ih =>
      intro hp hps k
      by_cases hpi : p = i
      · subst hpi
        simp only [EH, show add S p p = true from if_pos rfl, if_true, hn.out, c1 p (Nat.le_refl _)]
        rfl
      · have ih := ih (by omega) (by omega)
        simp only [EH]
        rw [show add S i p = S p from if_neg hpi]
        by_cases hs : S p = true
        · rw [if_pos hs, if_pos hs]
          have hu := un_after h.chk hd hn (by omega : p < ops.size) (by omega) hs
          rw [HE.app_congr (ih k)]
          exact comm p (by omega) hu _ k
        · rw [if_neg hs, if_neg hs]; exact ih k
  exact c2 ops.size hn.lt (Nat.le_refl _) k
end
end Go.Vm
