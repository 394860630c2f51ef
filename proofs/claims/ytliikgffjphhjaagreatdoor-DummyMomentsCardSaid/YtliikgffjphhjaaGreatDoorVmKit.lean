/- Typed specifications of functions, and loops that go through a list. -/
import Derived.Test.YtliikgffjphhjaaGreatDoorVmEq
namespace Go.Vm
open Go.RowKit (Below)

/-! ### How data of a type stand as abstract values -/
structure Cod (α : Type) where
  dec : AV → Option α
  enc : α → AV
  weak : ∀ a x, dec a = some x → Weak a (enc x)
  rt : ∀ x, dec (enc x) = some x

abbrev intA (n : Int) : AV := .v (.int .i64 n)
abbrev strA (s : ByteArray) : AV := .v (.string s)
abbrev boolA (b : Bool) : AV := .v (.bool b)
abbrev u8A (n : Int) : AV := .v (.int .u8 n)

def intC : Cod Int where
  dec | .v (.int .i64 n) => some n
      | _ => none
  enc := intA
  weak a x h := by
    split at h
    · simp only [Option.some.injEq] at h; subst h; exact Weak.rfl
    · cases h
  rt _ := rfl
def u8C : Cod Int where
  dec | .v (.int .u8 n) => some n
      | _ => none
  enc := u8A
  weak a x h := by
    split at h
    · simp only [Option.some.injEq] at h; subst h; exact Weak.rfl
    · cases h
  rt _ := rfl
def boolC : Cod Bool where
  dec | .v (.bool b) => some b
      | _ => none
  enc := boolA
  weak a x h := by
    split at h
    · simp only [Option.some.injEq] at h; subst h; exact Weak.rfl
    · cases h
  rt _ := rfl
def strC : Cod ByteArray where
  dec | .v (.string s) => some s
      | _ => none
  enc := strA
  weak a x h := by
    split at h
    · simp only [Option.some.injEq] at h; subst h; exact Weak.rfl
    · cases h
  rt _ := rfl
/-- One value and no other. -/
def oneC (a : AV) (is : AV → Bool) (h : ∀ b, is b = true → Weak b a) (hr : is a = true) : Cod Unit where
  dec b := bif is b then some () else none
  enc _ := a
  weak b x e := by
    cases hb : is b with
    | false => simp [hb] at e
    | true => exact h b hb
  rt _ := by simp [hr]

section
variable {α β γ δ ε ζ : Type}
def decL (A : Cod α) : List AV → Option (List α)
  | [] => some []
  | a :: as => match A.dec a, decL A as with
    | some x, some xs => some (x :: xs)
    | _, _ => none
theorem decL_weak {A : Cod α} : ∀ {as : List AV} {l : List α}, decL A as = some l → WeakL as (l.map A.enc)
  | [], l, h => by simp only [decL, Option.some.injEq] at h; subst h; exact WeakL.nil
  | a :: as, l, h => by
    simp only [decL] at h
    split at h
    · rename_i x xs h1 h2
      simp only [Option.some.injEq] at h; subst h
      exact WeakL.cons (A.weak _ _ h1) (decL_weak h2)
    · cases h
theorem decL_rt {A : Cod α} : ∀ (l : List α), decL A (l.map A.enc) = some l
  | [] => rfl
  | x :: l => by simp only [List.map_cons, decL, A.rt, decL_rt l]
theorem decL_nil {A : Cod α} {as : List AV} (h : decL A as = some []) : as = [] := by
  cases as with
  | nil => rfl
  | cons a as =>
    simp only [decL] at h
    split at h
    · simp at h
    · cases h

def slA (A : Cod α) (sz : Nat) (l : List α) : AV := .rsl sz (l.map A.enc) false
/-- Slices, nil or not. -/
def listC (A : Cod α) (sz : Nat) : Cod (List α) where
  dec | .v (.slice none 0 0) => some []
      | .rsl s es _ => bif Nat.beq s sz || es.isEmpty then decL A es else none
      | _ => none
  enc := slA A sz
  weak a x h := by
    split at h
    · simp only [Option.some.injEq] at h; subst h; exact Weak.nilSl
    · rename_i s es ex
      generalize hb : (Nat.beq s sz || es.isEmpty) = b at h
      cases b with
      | false => simp at h
      | true =>
        simp only [cond_true] at h
        refine Weak.rsl (fun q => by cases q) ?_ (decL_weak h)
        simp only [Bool.or_eq_true] at hb
        rcases hb with hb | hb
        · exact .inr (Nat.eq_of_beq_eq_true hb)
        · exact .inl (by simpa using hb)
    · cases h
  rt l := by
    show (bif Nat.beq sz sz || _ then _ else _) = _
    rw [Nat.beq_refl, Bool.true_or, cond_true, decL_rt]

/-! ### Structs: rows of cells -/
structure RC (α : Type) where
  decs : List AV → Option α
  encs : α → List AV
  weak : ∀ a x, decs a = some x → WeakL a (encs x)
  rt : ∀ x, decs (encs x) = some x
def RC.one (A : Cod α) : RC α where
  decs | [a] => A.dec a
       | _ => none
  encs x := [A.enc x]
  weak a x h := by
    split at h
    · exact WeakL.cons (A.weak _ _ h) WeakL.nil
    · cases h
  rt x := A.rt x
def RC.cons (A : Cod α) (B : RC β) : RC (α × β) where
  decs | a :: as => match A.dec a, B.decs as with
         | some x, some y => some (x, y)
         | _, _ => none
       | _ => none
  encs x := A.enc x.1 :: B.encs x.2
  weak a x h := by
    split at h
    · split at h
      · rename_i h1 h2
        simp only [Option.some.injEq] at h; subst h
        exact WeakL.cons (A.weak _ _ h1) (B.weak _ _ h2)
      · cases h
    · cases h
  rt x := by simp only [A.rt, B.rt]
def aggC (R : RC α) : Cod α where
  dec | .agg cs => R.decs cs
      | _ => none
  enc x := .agg (R.encs x)
  weak a x h := by
    split at h
    · exact Weak.agg (R.weak _ _ h)
    · cases h
  rt x := R.rt x

/-! ### Typed specifications -/
def sp0 (F : Option AV) : List AV → Option AV
  | [] => F
  | _ => none
def sp1 (A : Cod α) (F : α → Option AV) : List AV → Option AV
  | [a] => match A.dec a with
    | some x => F x
    | none => none
  | _ => none
def sp2 (A : Cod α) (B : Cod β) (F : α → β → Option AV) : List AV → Option AV
  | [a, b] => match A.dec a, B.dec b with
    | some x, some y => F x y
    | _, _ => none
  | _ => none
def sp3 (A : Cod α) (B : Cod β) (D : Cod γ) (F : α → β → γ → Option AV) : List AV → Option AV
  | [a, b, c] => match A.dec a, B.dec b, D.dec c with
    | some x, some y, some z => F x y z
    | _, _, _ => none
  | _ => none
def sp4 (A : Cod α) (B : Cod β) (D : Cod γ) (E : Cod δ) (F : α → β → γ → δ → Option AV) : List AV → Option AV
  | [a, b, c, d] => match A.dec a, B.dec b, D.dec c, E.dec d with
    | some x, some y, some z, some u => F x y z u
    | _, _, _, _ => none
  | _ => none
theorem sp1_at {A : Cod α} {F : α → Option AV} (x : α) : sp1 A F [A.enc x] = F x := by simp only [sp1, A.rt]
theorem sp2_at {A : Cod α} {B : Cod β} {F : α → β → Option AV} (x : α) (y : β) : sp2 A B F [A.enc x, B.enc y] = F x y := by simp only [sp2, A.rt, B.rt]
theorem sp3_at {A : Cod α} {B : Cod β} {D : Cod γ} {F : α → β → γ → Option AV} (x : α) (y : β) (z : γ) : sp3 A B D F [A.enc x, B.enc y, D.enc z] = F x y z := by simp only [sp3, A.rt, B.rt, D.rt]
theorem sp4_at {A : Cod α} {B : Cod β} {D : Cod γ} {E : Cod δ} {F : α → β → γ → δ → Option AV} (x : α) (y : β) (z : γ) (u : δ) : sp4 A B D E F [A.enc x, B.enc y, D.enc z, E.enc u] = F x y z u := by simp only [sp4, A.rt, B.rt, D.rt, E.rt]

/-- What holds of the values that data stand as, holds of all that may be read as these data. -/
def Comp (P : Program) (glob : Nat → Option (List AV)) (f : FuncId) (l : List AV) (r : AV) : Prop := Enters P f ∧ Computes (mkCx P (Tabs.bare glob) 0 (fun _ => .tree) (fun _ _ => none)) f l r
theorem Comp.weak {P : Program} {glob : Nat → Option (List AV)} {f : FuncId} {l l' : List AV} {r r' : AV} (h : Comp P glob f l' r') (hl : WeakL l l') (hr : Weak r' r) : Comp P glob f l r := ⟨h.1, h.2.weak hl hr⟩
variable {P : Program} {glob : Nat → Option (List AV)} {f : FuncId}
theorem holds0 {F : Option AV} (h : ∀ r, F = some r → Comp P glob f [] r) : Holds1 P glob f (sp0 F) := fun l r hr => by
  unfold sp0 at hr
  split at hr
  · exact h r hr
  · cases hr
theorem holds1 {A : Cod α} {F : α → Option AV} (h : ∀ x r, F x = some r → Comp P glob f [A.enc x] r) : Holds1 P glob f (sp1 A F) := fun l r hr => by
  unfold sp1 at hr
  split at hr
  · split at hr
    · rename_i hx
      exact (h _ r hr).weak (WeakL.cons (A.weak _ _ hx) WeakL.nil) Weak.rfl
    · cases hr
  · cases hr
theorem holds2 {A : Cod α} {B : Cod β} {F : α → β → Option AV} (h : ∀ x y r, F x y = some r → Comp P glob f [A.enc x, B.enc y] r) : Holds1 P glob f (sp2 A B F) := fun l r hr => by
  unfold sp2 at hr
  split at hr
  · split at hr
    · rename_i hx hy
      exact (h _ _ r hr).weak (WeakL.cons (A.weak _ _ hx) (WeakL.cons (B.weak _ _ hy) WeakL.nil)) Weak.rfl
    · cases hr
  · cases hr
theorem holds3 {A : Cod α} {B : Cod β} {D : Cod γ} {F : α → β → γ → Option AV} (h : ∀ x y z r, F x y z = some r → Comp P glob f [A.enc x, B.enc y, D.enc z] r) : Holds1 P glob f (sp3 A B D F) := fun l r hr => by
  unfold sp3 at hr
  split at hr
  · split at hr
    · rename_i hx hy hz
      exact (h _ _ _ r hr).weak (WeakL.cons (A.weak _ _ hx) (WeakL.cons (B.weak _ _ hy) (WeakL.cons (D.weak _ _ hz) WeakL.nil))) Weak.rfl
    · cases hr
  · cases hr
theorem holds4 {A : Cod α} {B : Cod β} {D : Cod γ} {E : Cod δ} {F : α → β → γ → δ → Option AV} (h : ∀ x y z u r, F x y z u = some r → Comp P glob f [A.enc x, B.enc y, D.enc z, E.enc u] r) : Holds1 P glob f (sp4 A B D E F) := fun l r hr => by
  unfold sp4 at hr
  split at hr
  · split at hr
    · rename_i hx hy hz hu
      exact (h _ _ _ _ r hr).weak (WeakL.cons (A.weak _ _ hx) (WeakL.cons (B.weak _ _ hy) (WeakL.cons (D.weak _ _ hz) (WeakL.cons (E.weak _ _ hu) WeakL.nil)))) Weak.rfl
    · cases hr
  · cases hr
end

/-! ### Loops -/
section
variable {α σ τ : Type}
/-- What is left of a loop that goes through a list: its state when it has seen all, or where it ends before. -/
def goL (step : Nat → α → σ → σ ⊕ τ) (fin : σ → τ) : Nat → List α → σ → τ
  | _, [], s => fin s
  | i, x :: r, s => match step i x s with
    | .inl s' => goL step fin (i + 1) r s'
    | .inr t => t
/-- Rounds, as often as it takes. -/
def goW (rnd : σ → σ ⊕ τ) : Nat → σ → Option τ
  | 0, _ => none
  | n + 1, s => match rnd s with
    | .inl s' => goW rnd n s'
    | .inr t => some t

variable {C : Cx} {p nt : Nat} {rd : Bool} {c : Code}
theorem LoopRun.list {step : Nat → α → σ → σ ⊕ τ} {fin : σ → τ} {enc : Nat → σ → St} {ex : τ → Ex} {out : τ → St} {l : List α} (Inv : Nat → σ → Prop)
    (hs : ∀ i x s, l[i]? = some x → Inv i s → match step i x s with
      | .inl s' => Says C p nt rd c (enc i s) .nrm (enc (i + 1) s') ∧ Inv (i + 1) s'
      | .inr t => Says C p nt rd c (enc i s) (ex t) (out t) ∧ ex t ≠ .nrm)
    (hf : ∀ s, Inv l.length s → Says C p nt rd c (enc l.length s) (ex (fin s)) (out (fin s)) ∧ ex (fin s) ≠ .nrm) :
    ∀ (rest pre : List α) (s : σ), pre ++ rest = l → Inv pre.length s → LoopRun C p nt rd c (enc pre.length s) (ex (goL step fin pre.length rest s)) (out (goL step fin pre.length rest s))
  | [], pre, s, h, hi => by
    rw [List.append_nil] at h
    subst h
    obtain ⟨h1, h2⟩ := hf s hi
    exact .done h1 h2
  | x :: r, pre, s, h, hi => by
    have hx : l[pre.length]? = some x := by rw [← h]; simp
    have hst := hs pre.length x s hx hi
    unfold goL
    cases hq : step pre.length x s with
    | inl s' =>
      rw [hq] at hst
      have := LoopRun.list Inv hs hf r (pre ++ [x]) s' (by rw [← h]; simp) (by simpa using hst.2)
      simp only [List.length_append, List.length_cons, List.length_nil, Nat.zero_add] at this
      exact .step hst.1 this
    | inr t =>
      rw [hq] at hst
      exact .done hst.1 hst.2
theorem LoopRun.rounds {rnd : σ → σ ⊕ τ} {enc : σ → St} {ex : τ → Ex} {out : τ → St} (Inv : σ → Prop)
    (hs : ∀ s, Inv s → match rnd s with
      | .inl s' => Says C p nt rd c (enc s) .nrm (enc s') ∧ Inv s'
      | .inr t => Says C p nt rd c (enc s) (ex t) (out t) ∧ ex t ≠ .nrm) :
    ∀ (n : Nat) (s : σ) (t : τ), Inv s → goW rnd n s = some t → LoopRun C p nt rd c (enc s) (ex t) (out t)
  | 0, s, t, _, h => by simp [goW] at h
  | n + 1, s, t, hi, h => by
    have hst := hs s hi
    unfold goW at h
    cases hq : rnd s with
    | inl s' =>
      rw [hq] at hst h
      exact .step hst.1 (LoopRun.rounds Inv hs n s' t hst.2 h)
    | inr t' =>
      rw [hq] at hst h
      simp only [Option.some.injEq] at h; subst h
      exact .done hst.1 hst.2
end

/-! ### Searches -/
section
variable {α τ : Type}
def srch (f : Nat → α → Option τ) : Nat → List α → Option τ
  | _, [] => none
  | i, x :: r => match f i x with
    | some t => some t
    | none => srch f (i + 1) r
variable {C : Cx} {p nt : Nat} {rd : Bool} {c : Code}
theorem LoopRun.search {f : Nat → α → Option τ} {enc : Nat → St} {out : τ → St} {miss : St} {ex2 : Ex} {ex : τ → Ex} {l : List α} (hx2 : ex2 ≠ .nrm) (hx : ∀ t, ex t ≠ .nrm)
    (hr : ∀ i x, l[i]? = some x → match f i x with
      | some t => Says C p nt rd c (enc i) (ex t) (out t)
      | none => Says C p nt rd c (enc i) .nrm (enc (i + 1)))
    (he : Says C p nt rd c (enc l.length) ex2 miss) :
    match srch f 0 l with
    | some t => LoopRun C p nt rd c (enc 0) (ex t) (out t)
    | none => LoopRun C p nt rd c (enc 0) ex2 miss := by
  have key : ∀ (rest pre : List α), pre ++ rest = l → match srch f pre.length rest with
    | some t => LoopRun C p nt rd c (enc pre.length) (ex t) (out t)
    | none => LoopRun C p nt rd c (enc pre.length) ex2 miss := by
    intro rest
    induction rest with
    | nil =>
      intro pre h
      rw [List.append_nil] at h
      subst h
      exact .done he hx2
    | cons x r ih =>
      intro pre h
      have hxl : l[pre.length]? = some x := by rw [← h]; simp
      have hst := hr _ _ hxl
      unfold srch
      cases hq : f pre.length x with
      | some t =>
        rw [hq] at hst
        exact .done hst (hx t)
      | none =>
        rw [hq] at hst
        have := ih (pre ++ [x]) (by rw [← h]; simp)
        simp only [List.length_append, List.length_cons, List.length_nil, Nat.zero_add] at this
        dsimp only
        split
        · rename_i t ht; rw [ht] at this; exact .step hst this
        · rename_i ht; rw [ht] at this; exact .step hst this
  exact key l [] rfl
end

theorem ofNat_add_one (i : Nat) : Int.ofNat i + 1 = Int.ofNat (i + 1) := rfl
end Go.Vm
