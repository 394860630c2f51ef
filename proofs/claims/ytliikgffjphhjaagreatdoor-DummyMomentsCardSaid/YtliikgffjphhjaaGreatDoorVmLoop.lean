/- A small evaluator over abstract values: what it says of code whose values are not known, loops by what is shown of them apart. -/
import Derived.Test.YtliikgffjphhjaaGreatDoorVmDt
namespace Go.Vm
open Go.RowKit (Below)

/-- A state that says what another says, with other names for the blocks. -/
def renA (vm : Nat → Option Nat) : AV → AV
  | .ptr k r off => match vm r with | some j => .ptr k j off | none => .bad
  | .eptr k r sz i off => match vm r with | some j => .eptr k j sz i off | none => .bad
  | .sl k r sz lo len => match vm r with | some j => .sl k j sz lo len | none => .bad
  | .mp k r => match vm r with | some j => .mp k j | none => .bad
  | .itr k r => match vm r with | some j => .itr k j | none => .bad
  | .yld k r => match vm r with | some j => .yld k j | none => .bad
  | .v x => .v x
  | .rptr cs => .rptr cs
  | .rsl sz es ex => .rsl sz es ex
  | .rmp ks vs => .rmp ks vs
  | .agg cs => .agg (renL vm cs)
  | .tup cs => .tup (renL vm cs)
  | .ifc t x => .ifc t (renA vm x)
  | .fn f as bs => .fn f (renL vm as) (renL vm bs)
  | .bad => .bad
 where renL (vm : Nat → Option Nat) : List AV → List AV
  | [] => []
  | a :: as => renA vm a :: renL vm as

mutual
theorem renA_rep' {M M' : Mem} {vm : Nat → Option Nat} (hv : ∀ r j, vm r = some j → ∀ z, M.mu r = some z → M'.mu j = some z) (hi : M'.imm = M.imm) (hw : M'.w = M.w) : ∀ (a : AV) (y : Value), Rep M a y → Rep M' (renA vm a) y
  | .bad, y, h => by unfold renA Rep; trivial
  | .v x, y, h => by unfold renA; unfold Rep at h ⊢; exact h
  | .agg cs, y, h => by unfold renA; unfold Rep at h ⊢; obtain ⟨l, e, h⟩ := h; exact ⟨l, e, renL_rep' hv hi hw cs l h⟩
  | .tup cs, y, h => by unfold renA; unfold Rep at h ⊢; obtain ⟨l, e, h⟩ := h; exact ⟨l, e, renL_rep' hv hi hw cs l h⟩
  | .ptr k r off, y, h => by
    unfold renA
    split
    · rename_i j hj; unfold Rep at h ⊢; obtain ⟨b, ct, h1, h2⟩ := h; exact ⟨b, ct, hv r j hj _ h1, h2⟩
    · unfold Rep; trivial
  | .eptr k r sz i off, y, h => by
    unfold renA
    split
    · rename_i j hj; unfold Rep at h ⊢; obtain ⟨b, ct, h1, h2⟩ := h; exact ⟨b, ct, hv r j hj _ h1, h2⟩
    · unfold Rep; trivial
  | .sl k r sz lo len, y, h => by
    unfold renA
    split
    · rename_i j hj; unfold Rep at h ⊢; obtain ⟨b, ct, o, h1, h2⟩ := h; exact ⟨b, ct, o, hv r j hj _ h1, h2⟩
    · unfold Rep; trivial
  | .mp k r, y, h => by
    unfold renA
    split
    · rename_i j hj; unfold Rep at h ⊢; obtain ⟨b, ct, h1, h2⟩ := h; exact ⟨b, ct, hv r j hj _ h1, h2⟩
    · unfold Rep; trivial
  | .itr k r, y, h => by
    unfold renA
    split
    · rename_i j hj; unfold Rep at h ⊢; obtain ⟨b, ct, h1, h2⟩ := h; exact ⟨b, ct, hv r j hj _ h1, h2⟩
    · unfold Rep; trivial
  | .yld k r, y, h => by
    unfold renA
    split
    · rename_i j hj; unfold Rep at h ⊢; obtain ⟨b, ct, h1, h2⟩ := h; exact ⟨b, ct, hv r j hj _ h1, h2⟩
    · unfold Rep; trivial
  | .rptr cs, y, h => by
    unfold renA; unfold Rep at h ⊢
    obtain ⟨b, o, l, e, h1, h2⟩ := h
    refine ⟨b, o, l, e, bareL hi hw h1, fun i x hx => ?_⟩
    obtain ⟨h3, h4⟩ := h2 i x hx
    exact ⟨hi ▸ h3, hw ▸ h4⟩
  | .rsl sz es ex, y, h => by
    unfold renA; unfold Rep at h ⊢
    obtain ⟨ao, cap, ys, e, hc, h1, hs, h2, hx⟩ := h
    refine ⟨ao, cap, ys, e, hc, bareL hi hw h1, hs, ?_, hx⟩
    rcases h2 with ⟨b, o, e2, h2⟩ | h2
    · refine .inl ⟨b, o, e2, fun i x hx => ?_⟩
      obtain ⟨h3, h4⟩ := h2 i x hx
      exact ⟨hi ▸ h3, hw ▸ h4⟩
    · exact .inr h2
  | .rmp ks vs, y, h => by
    unfold renA; unfold Rep at h ⊢
    obtain ⟨b, es, c, e, h1, h2, h3, h4⟩ := h
    exact ⟨b, es, c, e, hi ▸ h1, hw ▸ h2, bareL hi hw h3, bareL hi hw h4⟩
  | .fn f as bs, y, h => by
    unfold renA; unfold Rep at h ⊢
    obtain ⟨l, c, e, h1, h2⟩ := h
    exact ⟨l, c, e, renL_rep' hv hi hw as l h1, renL_rep' hv hi hw bs c h2⟩
  | .ifc t x, y, h => by unfold renA; unfold Rep at h ⊢; obtain ⟨z, e, h⟩ := h; exact ⟨z, e, renA_rep' hv hi hw x z h⟩
theorem renL_rep' {M M' : Mem} {vm : Nat → Option Nat} (hv : ∀ r j, vm r = some j → ∀ z, M.mu r = some z → M'.mu j = some z) (hi : M'.imm = M.imm) (hw : M'.w = M.w) : ∀ (as : List AV) (ys : List Value), RepL M as ys → RepL M' (renA.renL vm as) ys
  | [], ys, h => by unfold renA.renL; rw [RepL.nil_iff] at h ⊢; exact h
  | a :: as, ys, h => by
    unfold renA.renL
    rw [RepL.cons_iff] at h ⊢
    obtain ⟨x, xs, e, h1, h2⟩ := h
    exact ⟨x, xs, e, renA_rep' hv hi hw a x h1, renL_rep' hv hi hw as xs h2⟩
theorem bareL {M M' : Mem} (hi : M'.imm = M.imm) (hw : M'.w = M.w) {as : List AV} {ys : List Value} (h : RepL M.bare as ys) : RepL M'.bare as ys := by
  have hl : M.bare.lw M'.bare := ⟨fun _ _ x => (by cases x), fun b o hb ho _ => ⟨show M'.imm b from hi ▸ hb, by show M'.w.heap[b]? = some o; rw [hw]; exact ho⟩⟩
  exact h.monoW hl
end

theorem renA_rep {M M' : Mem} {vm : Nat → Option Nat} (hv : ∀ r j, vm r = some j → M'.mu j = M.mu r) (hi : M'.imm = M.imm) (hw : M'.w = M.w) (a : AV) (y : Value) (h : Rep M a y) : Rep M' (renA vm a) y := renA_rep' (fun r j hj z hz => (hv r j hj).trans hz) hi hw a y h
theorem renL_rep {M M' : Mem} {vm : Nat → Option Nat} (hv : ∀ r j, vm r = some j → M'.mu j = M.mu r) (hi : M'.imm = M.imm) (hw : M'.w = M.w) (as : List AV) (ys : List Value) (h : RepL M as ys) : RepL M' (renA.renL vm as) ys := renL_rep' (fun r j hj z hz => (hv r j hj).trans hz) hi hw as ys h

/-- What the list holds needs no block that may be written. -/
def ClosedL (es : List AV) : Prop := ∀ (M : Mem) (ys : List Value), RepL M es ys → RepL M.bare es ys

theorem ClosedL.of {es : List AV} (h : es.all closed = true) : ClosedL es := fun _ _ hr => closedL_rep h hr
theorem ClosedL.nil : ClosedL [] := fun _ _ h => by rw [RepL.nil_iff] at h ⊢; exact h
theorem ClosedL.append {as bs : List AV} (h : ClosedL as) (k : ClosedL bs) : ClosedL (as ++ bs) := fun M ys hr => by
  obtain ⟨l1, l2, rfl, h1, h2⟩ := hr.split
  exact (h M _ h1).append (k M _ h2)
theorem ClosedL.map {α : Type} {f : α → AV} {l : List α} (h : ∀ x, closed (f x) = true) : ClosedL (l.map f) := .of (by simp [h])

def canonT (vm : Nat → Option Nat) (T : Tr AV) : List Tmp → List AV
  | [] => []
  | t :: ts => (match T.get t with | some a => renA vm a | none => .bad) :: canonT vm T ts

def mkT : List Tmp → List AV → Tr AV → Tr AV
  | t :: ts, v :: vs, T => mkT ts vs (T.set t v)
  | _, _, T => T

def allLt (n : Nat) : List Nat → Bool
  | [] => true
  | x :: xs => Nat.blt x n && allLt n xs

/-- 'keep': of a frame that waits at a range over a function, the slots that its rounds read. -/
def canonE (keep : FuncId → List Tmp) (vm : Nat → Option Nat) (e : Ent) : Option (Bool × Blk) :=
  match e.blk with
  | .box cs => some (e.fz, .box (renA.renL vm cs))
  | .arr sz es ex => some (e.fz, .arr sz es ex)
  | .map ks vs => some (e.fz, .map ks vs)
  | .siter s p => some (e.fz, .siter s p)
  | .loop fid fb nt T ps asg bd pend => bif allLt nt (keep fid) then some (e.fz, .loop fid fb nt (mkT (keep fid) (canonT vm T (keep fid)) .leaf) ps asg bd pend) else none

def canonH (keep : FuncId → List Tmp) (vm : Nat → Option Nat) (H : Tr Ent) : List Nat → Option (List (Bool × Blk))
  | [] => some []
  | k :: ks => match H.get k with
    | none => none
    | some e => match canonE keep vm e, canonH keep vm H ks with
      | some p, some ps => some (p :: ps)
      | _, _ => none

def versOf (H : Tr Ent) : List Nat → List Nat
  | [] => []
  | k :: ks => (match H.get k with | some e => e.ver | none => 0) :: versOf H ks

def idxN (r : Nat) : List Nat → Nat → Option Nat
  | [], _ => none
  | x :: xs, i => bif Nat.beq x r then some i else idxN r xs (i + 1)

def nodupN : List Nat → Bool
  | [] => true
  | x :: xs => !memN x xs && nodupN xs

/-- The first versions are 0, 1, ..: blocks that others know of, too. -/
def perOk : Nat → Nat → List Nat → Bool
  | 0, _, _ => true
  | p + 1, i, v :: vs => Nat.beq v i && perOk p (i + 1) vs
  | _ + 1, _, [] => false

/-- The state in few words: what the slots ts hold, and the blocks at ks. -/
def canon (keep : FuncId → List Tmp) (p nt : Nat) (ts : List Tmp) (ks : List Nat) (st : St) : Option (List AV × List (Bool × Blk)) :=
  bif nodupN ks && allLt nt ts && perOk p 0 (versOf st.H ks) then
    match canonH keep (fun r => idxN r (versOf st.H ks) 0) st.H ks with
    | none => none
    | some es => some (canonT (fun r => idxN r (versOf st.H ks) 0) st.T ts, es)
  else none

def mkH : List Nat → List (Bool × Blk) → Nat → Tr Ent → Tr Ent
  | k :: ks, e :: es, j, H => mkH ks es (j + 1) (H.set k { ver := j, fz := e.1, blk := e.2 })
  | _, _, _, H => H
def mkSt (ts : List Tmp) (ks : List Nat) (nf : Nat) (vs : List AV) (es : List (Bool × Blk)) : St := { T := mkT ts vs .leaf, H := mkH ks es 0 .leaf, nv := ks.length, nf := nf }

def EntClosed : List (Bool × Blk) → Prop
  | [] => True
  | (false, .arr _ es _) :: r => ClosedL es ∧ EntClosed r
  | (false, .map ks vs) :: r => (ClosedL ks ∧ ClosedL vs) ∧ EntClosed r
  | _ :: r => EntClosed r

theorem mkT_get : ∀ (ts : List Tmp) (vs : List AV) (T : Tr AV) {i : Nat} {x : AV}, (mkT ts vs T).get i = some x → (∃ j : Nat, ts[j]? = some i ∧ vs[j]? = some x) ∨ T.get i = some x
  | t :: ts, v :: vs, T, i, x, h => by
    simp only [mkT] at h
    rcases mkT_get ts vs _ h with ⟨j, h1, h2⟩ | h
    · exact .inl ⟨j + 1, by simpa using h1, by simpa using h2⟩
    · rcases Tr.get_set h with ⟨rfl, rfl⟩ | ⟨_, h⟩
      · exact .inl ⟨0, rfl, rfl⟩
      · exact .inr h
  | [], [], T, i, x, h => .inr h
  | [], _ :: _, T, i, x, h => .inr h
  | _ :: _, [], T, i, x, h => .inr h

theorem mkH_get : ∀ (ks : List Nat) (es : List (Bool × Blk)) (j0 : Nat) (H : Tr Ent) {k : Nat} {e : Ent}, (mkH ks es j0 H).get k = some e → (∃ j : Nat, ks[j]? = some k ∧ ∃ p, es[j]? = some p ∧ e = { ver := j0 + j, fz := p.1, blk := p.2 }) ∨ H.get k = some e
  | k' :: ks, p :: es, j0, H, k, e, h => by
    simp only [mkH] at h
    rcases mkH_get ks es (j0 + 1) _ h with ⟨j, h1, p', h2, h3⟩ | h
    · exact .inl ⟨j + 1, by simpa using h1, p', by simpa using h2, by rw [h3]; congr 1; omega⟩
    · rcases Tr.get_set h with ⟨rfl, rfl⟩ | ⟨_, h⟩
      · exact .inl ⟨0, rfl, p, rfl, rfl⟩
      · exact .inr h
  | [], [], _, H, k, e, h => .inr h
  | [], _ :: _, _, H, k, e, h => .inr h
  | _ :: _, [], _, H, k, e, h => .inr h

theorem canonT_get {vm : Nat → Option Nat} {T : Tr AV} : ∀ {ts : List Tmp} {j : Nat} {i : Tmp} {x : AV}, ts[j]? = some i → (canonT vm T ts)[j]? = some x → x = .bad ∨ ∃ a, T.get i = some a ∧ x = renA vm a
  | t :: ts, 0, i, x, h1, h2 => by
    simp only [List.getElem?_cons_zero, Option.some.injEq] at h1; subst h1
    simp only [canonT, List.getElem?_cons_zero, Option.some.injEq] at h2
    cases hT : T.get t with
    | none => rw [hT] at h2; exact .inl h2.symm
    | some a => rw [hT] at h2; exact .inr ⟨a, rfl, h2.symm⟩
  | t :: ts, j + 1, i, x, h1, h2 => canonT_get (ts := ts) (j := j) (by simpa using h1) (by simpa [canonT] using h2)
  | [], j, i, x, h1, h2 => by simp at h1

theorem canonH_get {keep : FuncId → List Tmp} {vm : Nat → Option Nat} {H : Tr Ent} : ∀ {ks : List Nat} {es : List (Bool × Blk)}, canonH keep vm H ks = some es → ∀ {j : Nat} {k : Nat} {p : Bool × Blk}, ks[j]? = some k → es[j]? = some p → ∃ e, H.get k = some e ∧ canonE keep vm e = some p
  | [], es, h, j, k, p, h1, _ => by simp at h1
  | k' :: ks, es, h, j, k, p, h1, h2 => by
    simp only [canonH] at h
    split at h
    · cases h
    · rename_i e he
      split at h
      · rename_i p' ps hp hps
        simp only [Option.some.injEq] at h; subst h
        cases j with
        | zero => simp only [List.getElem?_cons_zero, Option.some.injEq] at h1 h2; subst h1; subst h2; exact ⟨e, he, hp⟩
        | succ j => exact canonH_get hps (by simpa using h1) (by simpa using h2)
      · cases h

theorem idxN_get {r : Nat} : ∀ {l : List Nat} {i j : Nat}, idxN r l i = some j → i ≤ j ∧ l[j - i]? = some r
  | [], i, j, h => by simp [idxN] at h
  | x :: xs, i, j, h => by
    simp only [idxN] at h
    cases hb : Nat.beq x r with
    | true =>
      simp only [hb, cond_true, Option.some.injEq] at h; subst h
      exact ⟨Nat.le_refl _, by simp [Nat.eq_of_beq_eq_true hb]⟩
    | false =>
      simp only [hb, cond_false] at h
      obtain ⟨h1, h2⟩ := idxN_get h
      refine ⟨by omega, ?_⟩
      have : j - i = (j - (i + 1)) + 1 := by omega
      rw [this]; simpa using h2

theorem versOf_get {H : Tr Ent} : ∀ {ks : List Nat} {j r : Nat}, (versOf H ks)[j]? = some r → ∃ k, ks[j]? = some k ∧ r = (match H.get k with | some e => e.ver | none => 0)
  | [], j, r, h => by simp [versOf] at h
  | k :: ks, 0, r, h => by simp only [versOf, List.getElem?_cons_zero, Option.some.injEq] at h; exact ⟨k, rfl, h.symm⟩
  | k :: ks, j + 1, r, h => by simp only [versOf, List.getElem?_cons_succ] at h; obtain ⟨k', h1, h2⟩ := versOf_get h; exact ⟨k', by simpa using h1, h2⟩

theorem nodupN_get : ∀ {l : List Nat}, nodupN l = true → ∀ {i j k : Nat}, l[i]? = some k → l[j]? = some k → i = j
  | [], _, i, j, k, h, _ => by simp at h
  | x :: xs, hn, i, j, k, h1, h2 => by
    simp only [nodupN, Bool.and_eq_true, Bool.not_eq_true'] at hn
    have hx : ∀ {i : Nat}, xs[i]? = some x → False := fun {i} h => by
      have := memN_iff.2 (List.mem_of_getElem? h); rw [hn.1] at this; cases this
    cases i with
    | zero =>
      simp only [List.getElem?_cons_zero, Option.some.injEq] at h1; subst h1
      cases j with
      | zero => rfl
      | succ j => exact (hx (by simpa using h2)).elim
    | succ i =>
      cases j with
      | zero => simp only [List.getElem?_cons_zero, Option.some.injEq] at h2; subst h2; exact (hx (by simpa using h1)).elim
      | succ j => exact congrArg (· + 1) (nodupN_get hn.2 (i := i) (j := j) (k := k) (by simpa using h1) (by simpa using h2))

theorem perOk_get : ∀ {p i : Nat} {vs : List Nat}, perOk p i vs = true → ∀ {j : Nat}, j < p → vs[j]? = some (i + j)
  | 0, _, _, _, j, hj => by omega
  | p + 1, i, [], h, _, _ => by simp [perOk] at h
  | p + 1, i, v :: vs, h, j, hj => by
    simp only [perOk, Bool.and_eq_true] at h
    cases j with
    | zero => simp [Nat.eq_of_beq_eq_true h.1]
    | succ j => rw [List.getElem?_cons_succ, perOk_get h.2 (by omega)]; congr 1; omega

theorem allLt_get : ∀ {l : List Nat} {n : Nat}, allLt n l = true → ∀ {i k : Nat}, l[i]? = some k → k < n
  | [], n, _, i, k, h => by simp at h
  | x :: xs, n, hn, i, k, h => by
    simp only [allLt, Bool.and_eq_true] at hn
    cases i with
    | zero => simp only [List.getElem?_cons_zero, Option.some.injEq] at h; subst h; exact Nat.le_of_ble_eq_true hn.1
    | succ i => exact allLt_get hn.2 (by simpa using h)

theorem entClosed_get : ∀ {es : List (Bool × Blk)}, EntClosed es → ∀ {j : Nat} {p : Bool × Blk}, es[j]? = some p → p.1 = false → (∀ sz l ex, p.2 = .arr sz l ex → ClosedL l) ∧ (∀ ks vs, p.2 = .map ks vs → ClosedL ks ∧ ClosedL vs)
  | [], _, j, p, h, _ => by simp at h
  | (fz, bl) :: es, hc, j, p, h, hf => by
    have hrest : EntClosed es := by
      cases fz <;> cases bl <;> first | exact hc | exact hc.2
    cases j with
    | succ j => exact entClosed_get hrest (by simpa using h) hf
    | zero =>
      simp only [List.getElem?_cons_zero, Option.some.injEq] at h; subst h
      simp only at hf; subst hf
      refine ⟨fun sz l ex he => ?_, fun ks vs he => ?_⟩
      · simp only at he; subst he; exact hc.1
      · simp only at he; subst he; exact hc.1

section
variable {base : Nat} {im0 : Nat → Prop} {nt lo : Nat} {M0 : Mem} {keep : FuncId → List Tmp}

theorem versOf_ks {H : Tr Ent} : ∀ {ks : List Nat} {j r : Nat}, (versOf H ks)[j]? = some r → ∃ k, ks[j]? = some k ∧ r = (match H.get k with | some e => e.ver | none => 0) := versOf_get

/-- What is known of the blocks by their places in a list. -/
def muAt (M : Mem) (H : Tr Ent) (ks : List Nat) (j : Nat) : Option (Nat × Nat) :=
  match ks[j]? with
  | some k => (match H.get k with | some e => M.mu e.ver | none => none)
  | none => none

theorem canonH_all {vm : Nat → Option Nat} {H : Tr Ent} : ∀ {ks : List Nat} {es : List (Bool × Blk)}, canonH keep vm H ks = some es → ∀ {j k : Nat}, ks[j]? = some k → ∃ e, H.get k = some e
  | [], es, _, j, k, hk => by simp at hk
  | k' :: ks, es, h, j, k, hk => by
    simp only [canonH] at h
    split at h
    · cases h
    · rename_i e he
      split at h
      · rename_i p ps hp hps
        cases j with
        | zero => simp only [List.getElem?_cons_zero, Option.some.injEq] at hk; subst hk; exact ⟨e, he⟩
        | succ j => exact canonH_all hps (by simpa using hk)
      · cases h

/-- The state in few words stands where the state stands: the base's memory may be another one that knows less. -/
theorem canon_at {M1 : Mem} {p : Nat} {ts : List Tmp} {ks : List Nat} {st : St} {vs : List AV} {es : List (Bool × Blk)} {nf : Nat} (h : canon keep p nt ts ks st = some (vs, es)) (hc : EntClosed es) {a : Act} {M : Mem}
    (hT : RepT M nt st.T a.tmps) (hs : SimH M base im0 st.nv st.H) (hmk : Marks M lo a.defers) (hb1 : Below base M1.w M.w) (hmu1 : ∀ r x, M1.mu r = some x → muAt M st.H ks r = some x) (himm1 : ∀ b, M1.imm b → M.imm b)
    (hsame1 : ∀ b, M1.imm b → M.w.heap[b]? = M1.w.heap[b]?) (hcok1 : M.cok = M1.cok) : Now base im0 nt lo M1 (mkSt ts ks nf vs es) a M.w := by
  unfold canon at h
  cases hchk : (nodupN ks && allLt nt ts && perOk p 0 (versOf st.H ks)) with
  | false => simp [hchk] at h
  | true =>
    simp only [hchk, cond_true] at h
    simp only [Bool.and_eq_true] at hchk
    obtain ⟨⟨hnd, hlt⟩, _⟩ := hchk
    split at h
    · cases h
    · rename_i es' hes
      simp only [Option.some.injEq, Prod.mk.injEq] at h
      obtain ⟨rfl, rfl⟩ := h
      let M' : Mem := { M with mu := muAt M st.H ks }
      have hmu : ∀ {j k : Nat} {e : Ent}, ks[j]? = some k → st.H.get k = some e → M'.mu j = M.mu e.ver := fun {j _ _} h1 h2 => by
        show muAt M st.H ks j = _
        unfold muAt
        rw [h1]; simp only [h2]
      have hallget : ∀ {j k : Nat}, ks[j]? = some k → ∃ e, st.H.get k = some e := fun hk => canonH_all hes hk
      have hvm : ∀ r j, (fun r => idxN r (versOf st.H ks) 0) r = some j → M'.mu j = M.mu r := fun r j hj => by
        obtain ⟨_, h2⟩ := idxN_get hj
        rw [Nat.sub_zero] at h2
        obtain ⟨k, hk, hr⟩ := versOf_get h2
        obtain ⟨e, he⟩ := hallget hk
        rw [he] at hr
        simp only at hr
        rw [hmu hk he, hr]
      have hvmb : ∀ r j, (fun r => idxN r (versOf st.H ks) 0) r = some j → M'.bare.mu j = M.bare.mu r := fun _ _ _ => rfl
      have hle : M1.le M' := ⟨hmu1, himm1, hsame1, hcok1⟩
      refine ⟨M', rfl, hle, hb1, ⟨hT.1, fun i x hi => ?_⟩, ?_, ?_⟩
      · rcases mkT_get ts _ .leaf hi with ⟨j, h1, h2⟩ | h
        · refine ⟨allLt_get hlt h1, ?_⟩
          rcases canonT_get h1 h2 with rfl | ⟨a', ha, rfl⟩
          · unfold Rep; trivial
          · exact renA_rep hvm rfl rfl _ _ (hT.2 i a' ha).2
        · rw [Tr.get_leaf] at h; cases h
      · exact {
          ent := fun k e' he' => by
            rcases mkH_get ks es' 0 .leaf he' with ⟨j, h1, p, h2, rfl⟩ | h
            · obtain ⟨e, he, hce⟩ := canonH_get hes h1 h2
              obtain ⟨b, ct, hE⟩ := hs.ent k e he
              have hcl := entClosed_get hc h2
              rw [Nat.zero_add]
              have hfz : p.1 = e.fz := by
                unfold canonE at hce
                split at hce
                · cases hce; rfl
                · cases hce; rfl
                · cases hce; rfl
                · cases hce; rfl
                · rename_i fid fb nt' T ps asg bd pend hbl
                  cases hkl : allLt nt' (keep fid) with
                  | false => simp [hkl] at hce
                  | true => simp only [hkl, cond_true, Option.some.injEq] at hce; cases hce; rfl
              have bare : ∀ {es : List AV} {ys : List Value}, RepL M.bare es ys → RepL M'.bare es ys := fun h => h
              have hblk : BlkIs M' b ct p.2 ∧ (e.fz = true → BlkIs M'.bare b ct p.2) := by
                have hb := hE.blk
                have hbf := fun x => (hE.fz x).2
                unfold canonE at hce
                split at hce
                · rename_i cs hbl
                  rw [hbl] at hb hbf
                  simp only [Option.some.injEq] at hce; subst hce
                  obtain ⟨arr, ty, h3, h4⟩ := hb
                  refine ⟨⟨arr, ty, h3, renL_rep hvm rfl rfl _ _ h4⟩, fun x => ?_⟩
                  obtain ⟨arr, ty, h3, h4⟩ := hbf x
                  exact ⟨arr, ty, h3, renL_rep hvmb rfl rfl _ _ h4⟩
                · rename_i sz l ex hbl
                  rw [hbl] at hb hbf
                  simp only [Option.some.injEq] at hce; subst hce
                  have hbb : BlkIs M.bare b ct (.arr sz l ex) := by
                    cases hf : e.fz with
                    | true => exact hbf hf
                    | false =>
                      obtain ⟨arr, ty, ys, h3, h4, h5⟩ := hb
                      exact ⟨arr, ty, ys, h3, (hcl hf).1 sz l ex rfl M ys h4, h5⟩
                  exact ⟨BlkIs.mono (M := M.bare) (M' := M') (Mem.bare_le M') rfl hbb, fun _ => hbb⟩
                · rename_i kk vv hbl
                  rw [hbl] at hb hbf
                  simp only [Option.some.injEq] at hce; subst hce
                  have hbb : BlkIs M.bare b ct (.map kk vv) := by
                    cases hf : e.fz with
                    | true => exact hbf hf
                    | false =>
                      obtain ⟨es, cl, h3, h4, h5⟩ := hb
                      exact ⟨es, cl, h3, ((hcl hf).2 kk vv rfl).1 M _ h4, ((hcl hf).2 kk vv rfl).2 M _ h5⟩
                  exact ⟨BlkIs.mono (M := M.bare) (M' := M') (Mem.bare_le M') rfl hbb, fun _ => hbb⟩
                · rename_i s' p' hbl
                  rw [hbl] at hb hbf
                  simp only [Option.some.injEq] at hce; subst hce
                  exact ⟨hb, fun _ => hb⟩
                · rename_i fid fb nt' T ps asg bd pend hbl
                  rw [hbl] at hb hbf
                  cases hkl : allLt nt' (keep fid) with
                  | false => simp [hkl] at hce
                  | true =>
                  simp only [hkl, cond_true, Option.some.injEq] at hce; subst hce
                  have conv : ∀ {N N' : Mem}, (∀ r j, (fun r => idxN r (versOf st.H ks) 0) r = some j → N'.mu j = N.mu r) → N'.imm = N.imm → N'.w = N.w → N'.cok = N.cok → BlkIs N b ct (.loop fid fb nt' T ps asg bd pend) →
                      BlkIs N' b ct (.loop fid fb nt' (mkT (keep fid) (canonT (fun r => idxN r (versOf st.H ks) 0) T (keep fid)) .leaf) ps asg bd pend) := by
                    intro N N' hv hi hw hck hb
                    obtain ⟨l, h3, c1, c2, p1, p2, p3, p4, p5⟩ := hb
                    refine ⟨l, by rw [hw]; exact h3, hck.symm ▸ c1, hck.symm ▸ c2, p1, p2, p3, ⟨p4.1, fun i x hi' => ?_⟩, p5⟩
                    rcases mkT_get _ _ .leaf hi' with ⟨j, k1, k2⟩ | k
                    · refine ⟨allLt_get hkl k1, ?_⟩
                      rcases canonT_get k1 k2 with rfl | ⟨a', ha, rfl⟩
                      · unfold Rep; trivial
                      · exact renA_rep hv hi hw _ _ (p4.2 i a' ha).2
                    · rw [Tr.get_leaf] at k; cases k
                  exact ⟨conv hvm rfl rfl rfl hb, fun x => conv hvmb rfl rfl rfl (hbf x)⟩
              exact ⟨b, ct, (hmu h1 he).trans hE.mu, hblk.1, hE.base, fun x => ⟨(hE.fz (hfz ▸ x)).1, hblk.2 (hfz ▸ x)⟩, fun x => hE.own (hfz ▸ x)⟩
            · rw [Tr.get_leaf] at h; cases h
          inj := fun k e k' e' b ct ct' h1 h2 hk m1 m2 => by
            rcases mkH_get ks es' 0 .leaf h1 with ⟨j, g1, p, g2, rfl⟩ | h
            · rcases mkH_get ks es' 0 .leaf h2 with ⟨j', g1', p', g2', rfl⟩ | h
              · obtain ⟨e1, he1⟩ := hallget g1
                obtain ⟨e2, he2⟩ := hallget g1'
                simp only [Nat.zero_add] at m1 m2
                rw [hmu g1 he1] at m1; rw [hmu g1' he2] at m2
                exact hs.inj k e1 k' e2 b ct ct' he1 he2 hk m1 m2
              · rw [Tr.get_leaf] at h; cases h
            · rw [Tr.get_leaf] at h; cases h
          fresh := fun r x hr => by
            have hr' : muAt M st.H ks r = some x := hr
            unfold muAt at hr'
            show r < ks.length
            cases hk : ks[r]? with
            | none => rw [hk] at hr'; cases hr'
            | some k => exact (List.getElem?_eq_some_iff.1 hk).1
          lt := hs.lt
          old := hs.old
          lo := hs.lo
          new := hs.new
          size := hs.size }
      · obtain ⟨rs, e, h1, h2⟩ := hmk
        exact ⟨rs, e, h1, h2⟩

theorem muAt_per {M : Mem} {H : Tr Ent} {ks : List Nat} {p r : Nat} {x : Nat × Nat} (hp : perOk p 0 (versOf H ks) = true) (hr : r < p) (hall : ∀ {j k : Nat}, ks[j]? = some k → ∃ e, H.get k = some e) (hx : M.mu r = some x) : muAt M H ks r = some x := by
  have h1 := perOk_get hp hr
  obtain ⟨k, hk, he⟩ := versOf_get h1
  obtain ⟨e, hge⟩ := hall hk
  unfold muAt
  rw [hk]
  rw [hge] at he
  simp only [hge]
  simp only [Nat.zero_add] at he
  rw [← he]; exact hx

theorem canon_now {p : Nat} {ts : List Tmp} {ks : List Nat} {st : St} {vs : List AV} {es : List (Bool × Blk)} {nf : Nat} (h : canon keep p nt ts ks st = some (vs, es)) (hc : EntClosed es) (hm : ∀ r, p ≤ r → M0.mu r = none) {a : Act} {w : World}
    (hn : Now base im0 nt lo M0 st a w) : Now base im0 nt lo M0 (mkSt ts ks nf vs es) a w := by
  obtain ⟨M, rfl, hle0, hb0, hT, hs, hmk⟩ := hn
  refine canon_at h hc hT hs hmk hb0 (fun r x hx => ?_) hle0.imm hle0.same hle0.cok
  have hx' := hle0.mu r x hx
  by_cases hr : r < p
  · unfold canon at h
    cases hchk : (nodupN ks && allLt nt ts && perOk p 0 (versOf st.H ks)) with
    | false => simp [hchk] at h
    | true =>
      simp only [hchk, cond_true] at h
      simp only [Bool.and_eq_true] at hchk
      split at h
      · cases h
      · rename_i es' hes
        exact muAt_per hchk.2 hr (fun hk => canonH_all hes hk) hx'
  · rw [hm r (by omega)] at hx; cases hx

/-! ### From the few words back -/
def Tr.map {α β : Type} (f : α → β) : Tr α → Tr β
  | .leaf => .leaf
  | .node o l r => .node (o.map f) (l.map f) (r.map f)
theorem Tr.get_map {α β : Type} {f : α → β} : ∀ {t : Tr α} {i : Nat} {y : β}, (t.map f).get i = some y → ∃ x, t.get i = some x ∧ y = f x
  | .leaf, i, y, h => by unfold Tr.map at h; rw [Tr.get_leaf] at h; cases h
  | .node o l r, 0, y, h => by
    unfold Tr.map Tr.get at h
    unfold Tr.get
    simp only [Option.map_eq_some_iff] at h
    obtain ⟨x, hx, rfl⟩ := h
    exact ⟨x, hx, rfl⟩
  | .node o l r, n + 1, y, h => by
    unfold Tr.map Tr.get at h
    unfold Tr.get
    cases hb : Nat.beq (n % 2) 0 with
    | true => rw [hb, cond_true] at h; rw [cond_true]; exact Tr.get_map h
    | false => rw [hb, cond_false] at h; rw [cond_false]; exact Tr.get_map h

def unV (p : Nat) (vers : List Nat) (nv j : Nat) : Nat := bif Nat.blt j p then (match vers[j]? with | some v => v | none => 0) else nv + j
def renB (vm : Nat → Option Nat) : Blk → Blk
  | .box cs => .box (renA.renL vm cs)
  | .loop fid fb nt T ps asg bd pend => .loop fid fb nt (T.map (renA vm)) ps asg bd pend
  | b => b
def mkHv (vf : Nat → Nat) : List Nat → List (Bool × Blk) → Nat → Tr Ent → Tr Ent
  | k :: ks, e :: es, j, H => mkHv vf ks es (j + 1) (H.set k { ver := vf j, fz := e.1, blk := renB (fun j => some (vf j)) e.2 })
  | _, _, _, H => H
/-- The state that few words speak of, the blocks by the names that they had. -/
def backSt (p : Nat) (vers : List Nat) (nv : Nat) (ts : List Tmp) (ks : List Nat) (nf : Nat) (vs : List AV) (es : List (Bool × Blk)) : St :=
  { T := mkT ts (renA.renL (fun j => some (unV p vers nv j)) vs) .leaf, H := mkHv (unV p vers nv) ks es 0 .leaf, nv := nv + ks.length, nf := nf }

theorem renL_get {vm : Nat → Option Nat} : ∀ {vs : List AV} {j : Nat} {x : AV}, (renA.renL vm vs)[j]? = some x → ∃ y, vs[j]? = some y ∧ x = renA vm y
  | [], j, x, h => by simp [renA.renL] at h
  | v :: vs, 0, x, h => by simp only [renA.renL, List.getElem?_cons_zero, Option.some.injEq] at h; exact ⟨v, rfl, h.symm⟩
  | v :: vs, j + 1, x, h => by simp only [renA.renL, List.getElem?_cons_succ] at h ⊢; exact renL_get h
theorem mkHv_get {vf : Nat → Nat} : ∀ (ks : List Nat) (es : List (Bool × Blk)) (j0 : Nat) (H : Tr Ent) {k : Nat} {e : Ent}, (mkHv vf ks es j0 H).get k = some e →
    (∃ j : Nat, ks[j]? = some k ∧ ∃ p, es[j]? = some p ∧ e = { ver := vf (j0 + j), fz := p.1, blk := renB (fun j => some (vf j)) p.2 }) ∨ H.get k = some e
  | k' :: ks, p :: es, j0, H, k, e, h => by
    simp only [mkHv] at h
    rcases mkHv_get ks es (j0 + 1) _ h with ⟨j, h1, p', h2, h3⟩ | h
    · refine .inl ⟨j + 1, by simpa using h1, p', by simpa using h2, ?_⟩
      rw [h3]
      have : j0 + 1 + j = j0 + (j + 1) := by omega
      rw [this]
    · rcases Tr.get_set h with ⟨rfl, rfl⟩ | ⟨_, h⟩
      · exact .inl ⟨0, rfl, p, rfl, rfl⟩
      · exact .inr h
  | [], [], _, H, k, e, h => .inr h
  | [], _ :: _, _, H, k, e, h => .inr h
  | _ :: _, [], _, H, k, e, h => .inr h
theorem mkH_at : ∀ (ks : List Nat) (es : List (Bool × Blk)) (j0 : Nat) (H : Tr Ent), nodupN ks = true → ∀ {j k : Nat} {p : Bool × Blk}, ks[j]? = some k → es[j]? = some p → (mkH ks es j0 H).get k = some { ver := j0 + j, fz := p.1, blk := p.2 }
  | [], _, _, _, _, j, k, p, h, _ => by simp at h
  | _ :: _, [], _, _, _, j, k, p, _, h => by simp at h
  | k' :: ks, e :: es, j0, H, hn, j, k, p, h1, h2 => by
    simp only [nodupN, Bool.and_eq_true, Bool.not_eq_true'] at hn
    simp only [mkH]
    cases j with
    | zero =>
      simp only [List.getElem?_cons_zero, Option.some.injEq] at h1 h2; subst h1; subst h2
      have key : ∀ (ks : List Nat) (es : List (Bool × Blk)) (j0 : Nat) (H : Tr Ent), memN k' ks = false → (mkH ks es j0 H).get k' = H.get k' := by
        intro ks
        induction ks with
        | nil => intro es j0 H _; cases es <;> rfl
        | cons a ks ih =>
          intro es j0 H hm
          cases es with
          | nil => rfl
          | cons b es =>
            simp only [memN] at hm
            cases hb : Nat.beq k' a with
            | true => simp [hb] at hm
            | false =>
              simp only [hb, cond_false] at hm
              simp only [mkH]
              rw [ih es (j0 + 1) _ hm, Tr.get_set_ne (fun e => by rw [e, Nat.beq_refl] at hb; cases hb)]
      rw [key ks es (j0 + 1) _ hn.1, Tr.get_set_self]; rfl
    | succ j =>
      rw [mkH_at ks es (j0 + 1) _ hn.2 (j := j) (by simpa using h1) (by simpa using h2)]
      have : j0 + 1 + j = j0 + (j + 1) := by omega
      rw [this]

/-- Behind a piece of code that is spoken of in few words: where it began stood M and st; what it knew of blocks that others know of was theirs. -/
theorem back_now {p : Nat} {ts2 : List Tmp} {ks ks2 : List Nat} {st : St} {vs : List AV} {es : List (Bool × Blk)} {nf : Nat} {M N : Mem} {a : Act} {w : World}
    (hs : SimH M base im0 st.nv st.H) (hN : N.mu = fun r => if r < p then muAt M st.H ks r else none) (hNi : N.imm = M.imm) (hNw : N.w = M.w) (hNc : N.cok = M.cok) (hn2 : nodupN ks2 = true) (hp2 : p ≤ ks2.length) (hpk : p ≤ ks.length) (hall : ∀ {j k : Nat}, ks[j]? = some k → ∃ e, st.H.get k = some e)
    (hlen : es.length = ks2.length) (hc : EntClosed es) (hle0 : M0.le M) (hb0 : Below base M0.w M.w) (hn : Now base im0 nt lo N (mkSt ts2 ks2 nf vs es) a w) :
    Now base im0 nt lo M0 (backSt p (versOf st.H ks) st.nv ts2 ks2 nf vs es) a w := by
  obtain ⟨N', rfl, hleN, hbN, hT, hsN, hmk⟩ := hn
  let vf := unV p (versOf st.H ks) st.nv
  let M' : Mem := { N' with mu := fun r => if r < st.nv then M.mu r else N'.mu (r - st.nv) }
  have hvers : ∀ j, j < p → ∃ k e, ks[j]? = some k ∧ st.H.get k = some e ∧ vf j = e.ver := by
    intro j hj
    have hk : j < ks.length := by omega
    obtain ⟨e, he⟩ := hall (List.getElem?_eq_getElem hk)
    refine ⟨_, e, List.getElem?_eq_getElem hk, he, ?_⟩
    have : (versOf st.H ks)[j]? = some e.ver := by
      have aux : ∀ (l : List Nat) (j k : Nat), l[j]? = some k → (versOf st.H l)[j]? = some (match st.H.get k with | some e => e.ver | none => 0) := by
        intro l
        induction l with
        | nil => intro j k h; simp at h
        | cons x l ih =>
          intro j k h
          cases j with
          | zero => simp only [List.getElem?_cons_zero, Option.some.injEq] at h; subst h; rfl
          | succ j => simp only [versOf, List.getElem?_cons_succ] at h ⊢; exact ih j k h
      rw [aux ks j _ (List.getElem?_eq_getElem hk), he]
    show unV p _ _ j = _
    unfold unV
    have hb : Nat.blt j p = true := Nat.ble_eq_true_of_le hj
    rw [hb, cond_true, this]
  have hvm : ∀ j, (∃ x, N'.mu j = some x) → M'.mu (vf j) = N'.mu j := by
    intro j ⟨x, hx⟩
    by_cases hj : j < p
    · obtain ⟨k, e, hk, he, hv⟩ := hvers j hj
      obtain ⟨b, ct, hE⟩ := hs.ent k e he
      rw [hv]
      have hlt := hs.fresh _ _ hE.mu
      show (if e.ver < st.nv then _ else _) = _
      rw [if_pos hlt, hE.mu]
      have : N.mu j = some (b, ct) := by
        rw [hN]; simp only [hj, if_true]
        unfold muAt; rw [hk]; simp only [he]; exact hE.mu
      exact (hleN.mu j _ this).symm
    · have : vf j = st.nv + j := by
        show unV p _ _ j = _
        unfold unV
        have hb : Nat.blt j p = false := by
          cases h : Nat.blt j p with
          | false => rfl
          | true => exact absurd (Nat.lt_of_lt_of_le (Nat.lt_succ_self _) (Nat.le_of_ble_eq_true h)) hj
        rw [hb, cond_false]
      rw [this]
      show (if st.nv + j < st.nv then _ else _) = _
      rw [if_neg (by omega)]; congr 1; omega
  have hren : ∀ (x : AV) (y : Value), Rep N' x y → Rep M' (renA (fun j => some (vf j)) x) y := fun x y h => renA_rep' (M := N') (M' := M') (fun r j hj z hz => by simp only [Option.some.injEq] at hj; subst hj; rw [hvm r ⟨z, hz⟩]; exact hz) rfl rfl x y h
  have hrenb : ∀ (x : AV) (y : Value), Rep N'.bare x y → Rep M'.bare (renA (fun j => some (vf j)) x) y := fun x y h => renA_rep' (M := N'.bare) (M' := M'.bare) (fun r j hj z hz => by cases hz) rfl rfl x y h
  have hrenL : ∀ (xs : List AV) (ys : List Value), RepL N' xs ys → RepL M' (renA.renL (fun j => some (vf j)) xs) ys := fun x y h => renL_rep' (M := N') (M' := M') (fun r j hj z hz => by simp only [Option.some.injEq] at hj; subst hj; rw [hvm r ⟨z, hz⟩]; exact hz) rfl rfl x y h
  have hrenLb : ∀ (xs : List AV) (ys : List Value), RepL N'.bare xs ys → RepL M'.bare (renA.renL (fun j => some (vf j)) xs) ys := fun x y h => renL_rep' (M := N'.bare) (M' := M'.bare) (fun r j hj z hz => by cases hz) rfl rfl x y h
  have hle : M0.le M' := by
    refine ⟨fun r x hx => ?_, fun b hb => ?_, fun b hb => ?_, ?_⟩
    · have h1 := hle0.mu r x hx
      show (if r < st.nv then _ else _) = _
      rw [if_pos (hs.fresh r x h1)]; exact h1
    · exact hleN.imm b (by rw [hNi]; exact hle0.imm b hb)
    · have h1 := hleN.same b (by rw [hNi]; exact hle0.imm b hb)
      rw [hNw] at h1
      exact h1.trans (hle0.same b hb)
    · exact (hleN.cok.trans hNc).trans hle0.cok
  have hentN : ∀ {j k : Nat} {q : Bool × Blk}, ks2[j]? = some k → es[j]? = some q → ∃ b ct, EntIs N' base { ver := j, fz := q.1, blk := q.2 } b ct := by
    intro j k q h1 h2
    have := mkH_at ks2 es 0 .leaf hn2 h1 h2
    rw [Nat.zero_add] at this
    exact hsN.ent k _ this
  refine ⟨M', rfl, hle, hb0.trans (by rw [hNw] at hbN; exact hbN), ⟨hT.1, fun i x hi => ?_⟩, ?_, ?_⟩
  · rcases mkT_get ts2 _ .leaf hi with ⟨j, h1, h2⟩ | h
    · obtain ⟨y, hy, rfl⟩ := renL_get h2
      have hlast : ∃ z, (mkT ts2 vs .leaf).get i = some z := by
        have aux : ∀ (ts : List Tmp) (vs : List AV) (T : Tr AV), ((∃ j : Nat, ts[j]? = some i ∧ ∃ y, vs[j]? = some y) ∨ ∃ z, T.get i = some z) → ∃ z, (mkT ts vs T).get i = some z := by
          intro ts
          induction ts with
          | nil => intro vs T h; rcases h with ⟨j, h, _⟩ | h; · simp at h
                   · cases vs <;> exact h
          | cons t ts ih =>
            intro vs T h
            cases vs with
            | nil => rcases h with ⟨j, _, y, h⟩ | h; · simp at h
                     · exact h
            | cons v vs =>
              simp only [mkT]
              refine ih vs _ ?_
              rcases h with ⟨j, h1, y, h2⟩ | ⟨z, hz⟩
              · cases j with
                | zero => simp only [List.getElem?_cons_zero, Option.some.injEq] at h1; subst h1; exact .inr ⟨v, Tr.get_set_self⟩
                | succ j => exact .inl ⟨j, by simpa using h1, y, by simpa using h2⟩
              · by_cases hit : i = t
                · subst hit; exact .inr ⟨v, Tr.get_set_self⟩
                · exact .inr ⟨z, by rw [Tr.get_set_ne hit]; exact hz⟩
        exact aux ts2 vs .leaf (.inl ⟨j, h1, y, hy⟩)
      obtain ⟨z, hz⟩ := hlast
      refine ⟨(hT.2 i z hz).1, ?_⟩
      -- the slot holds the last of its values
      have same : ∀ (ts : List Tmp) (vs : List AV) (T T' : Tr AV), (∀ z, T.get i = some z → T'.get i = some (renA (fun j => some (vf j)) z)) → (∀ z', T'.get i = some z' → ∃ z, T.get i = some z ∧ z' = renA (fun j => some (vf j)) z) →
          ∀ z', (mkT ts (renA.renL (fun j => some (vf j)) vs) T').get i = some z' → ∃ z, (mkT ts vs T).get i = some z ∧ z' = renA (fun j => some (vf j)) z := by
        intro ts
        induction ts with
        | nil => intro vs T T' h1 h2 z' hz'; cases vs <;> exact h2 z' hz'
        | cons t ts ih =>
          intro vs T T' h1 h2 z' hz'
          cases vs with
          | nil => exact h2 z' hz'
          | cons v vs =>
            simp only [renA.renL, mkT] at hz' ⊢
            refine ih vs _ _ (fun z hz => ?_) (fun z hz => ?_) z' hz'
            · by_cases hit : i = t
              · subst hit; rw [Tr.get_set_self] at hz ⊢; simp only [Option.some.injEq] at hz; subst hz; rfl
              · rw [Tr.get_set_ne hit] at hz ⊢; exact h1 z hz
            · by_cases hit : i = t
              · subst hit; rw [Tr.get_set_self] at hz; simp only [Option.some.injEq] at hz; subst hz; exact ⟨v, Tr.get_set_self, rfl⟩
              · rw [Tr.get_set_ne hit] at hz; obtain ⟨q, hq, e⟩ := h2 z hz; exact ⟨q, by rw [Tr.get_set_ne hit]; exact hq, e⟩
      obtain ⟨z2, hz2, e2⟩ := same ts2 vs .leaf .leaf (fun z hz => by rw [Tr.get_leaf] at hz; cases hz) (fun z hz => by rw [Tr.get_leaf] at hz; cases hz) _ hi
      rw [e2]
      exact hren _ _ (hT.2 i z2 hz2).2
    · rw [Tr.get_leaf] at h; cases h
  · exact {
      ent := fun k e he => by
        rcases mkHv_get ks2 es 0 .leaf he with ⟨j, h1, q, h2, rfl⟩ | h
        · obtain ⟨b, ct, hE⟩ := hentN h1 h2
          rw [Nat.zero_add]
          have hcl := entClosed_get hc h2
          have hblk : BlkIs M' b ct (renB (fun j => some (vf j)) q.2) ∧ (q.1 = true → BlkIs M'.bare b ct (renB (fun j => some (vf j)) q.2)) := by
            have hb := hE.blk
            have hbf := fun x => (hE.fz x).2
            simp only at hb hbf
            cases hq : q.2 with
            | box cs =>
              rw [hq] at hb hbf
              obtain ⟨arr, ty, h3, h4⟩ := hb
              refine ⟨⟨arr, ty, h3, hrenL _ _ h4⟩, fun x => ?_⟩
              obtain ⟨arr, ty, h3, h4⟩ := hbf x
              exact ⟨arr, ty, h3, hrenLb _ _ h4⟩
            | arr sz l ex =>
              rw [hq] at hb hbf
              have hbb : BlkIs N'.bare b ct (.arr sz l ex) := by
                cases hf : q.1 with
                | true => exact hbf hf
                | false => obtain ⟨arr, ty, ys, h3, h4, h5⟩ := hb; exact ⟨arr, ty, ys, h3, (hcl hf).1 sz l ex hq N' ys h4, h5⟩
              have hbb' : BlkIs M'.bare b ct (.arr sz l ex) := hbb
              exact ⟨BlkIs.mono (M := M'.bare) (M' := M') (Mem.bare_le M') rfl hbb', fun _ => hbb'⟩
            | map kk vv =>
              rw [hq] at hb hbf
              have hbb : BlkIs N'.bare b ct (.map kk vv) := by
                cases hf : q.1 with
                | true => exact hbf hf
                | false => obtain ⟨es, cl, h3, h4, h5⟩ := hb; exact ⟨es, cl, h3, ((hcl hf).2 kk vv hq).1 N' _ h4, ((hcl hf).2 kk vv hq).2 N' _ h5⟩
              have hbb' : BlkIs M'.bare b ct (.map kk vv) := hbb
              exact ⟨BlkIs.mono (M := M'.bare) (M' := M') (Mem.bare_le M') rfl hbb', fun _ => hbb'⟩
            | siter s' p' => rw [hq] at hb hbf; exact ⟨hb, fun _ => hb⟩
            | loop fid fb nt' T ps asg bd pend =>
              rw [hq] at hb hbf
              have conv : ∀ {A B : Mem}, (∀ (x : AV) (y : Value), Rep A x y → Rep B (renA (fun j => some (vf j)) x) y) → B.w = A.w → B.cok = A.cok → BlkIs A b ct (.loop fid fb nt' T ps asg bd pend) → BlkIs B b ct (renB (fun j => some (vf j)) (.loop fid fb nt' T ps asg bd pend)) := by
                intro A B hr hw hck hb
                obtain ⟨l, h3, c1, c2, p1, p2, p3, p4, p5⟩ := hb
                refine ⟨l, by rw [hw]; exact h3, hck.symm ▸ c1, hck.symm ▸ c2, p1, p2, p3, ⟨p4.1, fun i x hi' => ?_⟩, p5⟩
                obtain ⟨z, hz, rfl⟩ := Tr.get_map hi'
                exact ⟨(p4.2 i z hz).1, hr _ _ (p4.2 i z hz).2⟩
              exact ⟨conv hren rfl rfl hb, fun x => conv hrenb rfl rfl (hbf x)⟩
          exact ⟨b, ct, (hvm j ⟨_, hE.mu⟩).trans hE.mu, hblk.1, hE.base, fun x => ⟨(hE.fz x).1, hblk.2 x⟩, hE.own⟩
        · rw [Tr.get_leaf] at h; cases h
      inj := fun k e k' e' b ct ct' h1 h2 hk m1 m2 => by
        rcases mkHv_get ks2 es 0 .leaf h1 with ⟨j, g1, q, g2, rfl⟩ | h
        · rcases mkHv_get ks2 es 0 .leaf h2 with ⟨j', g1', q', g2', rfl⟩ | h
          · obtain ⟨b1, c1, hE1⟩ := hentN g1 g2
            obtain ⟨b2, c2, hE2⟩ := hentN g1' g2'
            simp only [Nat.zero_add] at m1 m2
            rw [hvm j ⟨_, hE1.mu⟩] at m1
            rw [hvm j' ⟨_, hE2.mu⟩] at m2
            have e1 := mkH_at ks2 es 0 .leaf hn2 g1 g2
            have e2 := mkH_at ks2 es 0 .leaf hn2 g1' g2'
            rw [Nat.zero_add] at e1 e2
            exact hsN.inj k _ k' _ b ct ct' e1 e2 hk m1 m2
          · rw [Tr.get_leaf] at h; cases h
        · rw [Tr.get_leaf] at h; cases h
      fresh := fun r x hr => by
        have hr' : (if r < st.nv then M.mu r else N'.mu (r - st.nv)) = some x := hr
        show r < st.nv + ks2.length
        by_cases hrn : r < st.nv
        · omega
        · rw [if_neg hrn] at hr'
          have : r - st.nv < ks2.length := hsN.fresh _ _ hr'
          omega
      lt := hsN.lt
      old := hsN.old
      lo := hsN.lo
      new := hsN.new
      size := hsN.size }
  · obtain ⟨rs, e, h1, h2⟩ := hmk
    exact ⟨rs, e, h1, h2⟩
end
end Go.Vm
