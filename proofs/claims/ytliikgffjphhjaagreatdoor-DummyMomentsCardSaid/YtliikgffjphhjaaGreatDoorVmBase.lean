/- A small evaluator over abstract values: the values, the relation to the model's values, and the abstract heap. -/
import Derived.Below
import Derived.CallsIn
namespace Go.Vm

/-! ### A finite map from numbers, as a tree over their bits -/
inductive Tr (α : Type) where
  | leaf
  | node (o : Option α) (l r : Tr α)

def Tr.get {α : Type} : Tr α → Nat → Option α
  | .leaf, _ => none
  | .node o _ _, 0 => o
  | .node _ l r, n + 1 => bif Nat.beq (n % 2) 0 then l.get (n / 2) else r.get (n / 2)

def Tr.put {α : Type} (v : Option α) : Nat → Tr α → Nat → Tr α
  | 0, _, _ => .leaf
  | _ + 1, .leaf, 0 => .node v .leaf .leaf
  | f + 1, .leaf, n + 1 =>
    bif Nat.beq (n % 2) 0 then .node none (Tr.put v f .leaf (n / 2)) .leaf else .node none .leaf (Tr.put v f .leaf (n / 2))
  | _ + 1, .node _ l r, 0 => .node v l r
  | f + 1, .node o l r, n + 1 =>
    bif Nat.beq (n % 2) 0 then .node o (Tr.put v f l (n / 2)) r else .node o l (Tr.put v f r (n / 2))

def Tr.set {α : Type} (t : Tr α) (i : Nat) (v : α) : Tr α := Tr.put (some v) (i + 1) t i
def Tr.del {α : Type} (t : Tr α) (i : Nat) : Tr α := Tr.put none (i + 1) t i

theorem Tr.get_leaf {α : Type} (i : Nat) : (Tr.leaf : Tr α).get i = none := by unfold Tr.get; rfl

theorem half_ne {i j : Nat} (h : i ≠ j) (hm : i % 2 = j % 2) : i / 2 ≠ j / 2 := by omega

theorem beqz (n : Nat) : Nat.beq (n % 2) 0 = decide (n % 2 = 0) := by
  rcases Nat.mod_two_eq_zero_or_one n with h | h <;> rw [h] <;> rfl

theorem Tr.get_put {α : Type} {v : Option α} : ∀ (f : Nat) (t : Tr α) (i j : Nat) {x : α}, (Tr.put v f t i).get j = some x →
    (j = i ∧ v = some x) ∨ (j ≠ i ∧ t.get j = some x)
  | 0, t, i, j, x, h => by simp [Tr.put, Tr.get_leaf] at h
  | f + 1, .leaf, 0, j, x, h => by
    cases j with
    | zero => simp [Tr.put, Tr.get] at h; exact .inl ⟨rfl, h⟩
    | succ j => simp [Tr.put, Tr.get] at h
  | f + 1, .leaf, i + 1, j, x, h => by
    unfold Tr.put at h
    cases j with
    | zero => cases hb : Nat.beq (i % 2) 0 <;> simp [hb, Tr.get] at h
    | succ j =>
      cases hb : Nat.beq (i % 2) 0 <;> cases hc : Nat.beq (j % 2) 0 <;> simp only [hb, cond_true, cond_false, Tr.get, hc, Tr.get_leaf] at h
      · rcases Tr.get_put f _ _ _ h with ⟨e, hv⟩ | ⟨_, hn⟩
        · rw [beqz] at hb hc; simp at hb hc; exact .inl ⟨by omega, hv⟩
        · simp [Tr.get_leaf] at hn
      · cases h
      · cases h
      · rcases Tr.get_put f _ _ _ h with ⟨e, hv⟩ | ⟨_, hn⟩
        · rw [beqz] at hb hc; simp at hb hc; exact .inl ⟨by omega, hv⟩
        · simp [Tr.get_leaf] at hn
  | f + 1, .node o l r, 0, j, x, h => by
    cases j with
    | zero => simp [Tr.put, Tr.get] at h; exact .inl ⟨rfl, h⟩
    | succ j => simp only [Tr.put, Tr.get] at h; exact .inr ⟨by omega, by simpa [Tr.get] using h⟩
  | f + 1, .node o l r, i + 1, j, x, h => by
    unfold Tr.put at h
    cases j with
    | zero => cases hb : Nat.beq (i % 2) 0 <;> simp [hb, Tr.get] at h <;> exact .inr ⟨by omega, by simpa [Tr.get] using h⟩
    | succ j =>
      cases hb : Nat.beq (i % 2) 0 <;> cases hc : Nat.beq (j % 2) 0 <;> simp only [hb, cond_true, cond_false, Tr.get, hc] at h ⊢
      · rcases Tr.get_put f _ _ _ h with ⟨e, hv⟩ | ⟨hne, hn⟩
        · rw [beqz] at hb hc; simp at hb hc; exact .inl ⟨by omega, hv⟩
        · exact .inr ⟨by omega, hn⟩
      · refine .inr ⟨?_, h⟩
        intro e; simp only [Nat.add_right_cancel_iff] at e; subst e; rw [hb] at hc; cases hc
      · refine .inr ⟨?_, h⟩
        intro e; simp only [Nat.add_right_cancel_iff] at e; subst e; rw [hb] at hc; cases hc
      · rcases Tr.get_put f _ _ _ h with ⟨e, hv⟩ | ⟨hne, hn⟩
        · rw [beqz] at hb hc; simp at hb hc; exact .inl ⟨by omega, hv⟩
        · exact .inr ⟨by omega, hn⟩

theorem Tr.get_put_self {α : Type} {v : Option α} : ∀ (f : Nat) (t : Tr α) (i : Nat), i + 1 < 2 ^ f → (Tr.put v f t i).get i = v
  | 0, _, i, h => by simp at h
  | f + 1, .leaf, 0, _ => by simp [Tr.put, Tr.get]
  | f + 1, .node .., 0, _ => by simp [Tr.put, Tr.get]
  | f + 1, .leaf, i + 1, h => by
    unfold Tr.put
    have := Tr.get_put_self (v := v) f (Tr.leaf : Tr α) (i / 2) (by rw [Nat.pow_succ] at h; omega)
    cases hb : Nat.beq (i % 2) 0 <;> simp only [hb, cond_true, cond_false, Tr.get] <;> exact this
  | f + 1, .node o l r, i + 1, h => by
    unfold Tr.put
    have h1 := Tr.get_put_self (v := v) f l (i / 2) (by rw [Nat.pow_succ] at h; omega)
    have h2 := Tr.get_put_self (v := v) f r (i / 2) (by rw [Nat.pow_succ] at h; omega)
    cases hb : Nat.beq (i % 2) 0 <;> simp only [hb, cond_true, cond_false, Tr.get] <;> assumption

theorem Tr.get_put_ne {α : Type} {v : Option α} : ∀ (f : Nat) (t : Tr α) (i j : Nat), i + 1 < 2 ^ f → j ≠ i → (Tr.put v f t i).get j = t.get j
  | 0, _, i, _, h, _ => by simp at h
  | f + 1, .leaf, 0, j, _, hj => by cases j with | zero => exact absurd rfl hj | succ j => simp [Tr.put, Tr.get, Tr.get_leaf]
  | f + 1, .node .., 0, j, _, hj => by cases j with | zero => exact absurd rfl hj | succ j => simp [Tr.put, Tr.get]
  | f + 1, .leaf, i + 1, j, h, hj => by
    unfold Tr.put
    cases j with
    | zero => cases hb : Nat.beq (i % 2) 0 <;> simp [Tr.get]
    | succ j =>
      cases hb : Nat.beq (i % 2) 0 <;> cases hc : Nat.beq (j % 2) 0 <;> simp only [cond_true, cond_false, Tr.get, hc, Tr.get_leaf]
      all_goals
        rw [beqz] at hb hc; simp at hb hc
        rw [Tr.get_put_ne f _ _ _ (by rw [Nat.pow_succ] at h; omega) (by omega), Tr.get_leaf]
  | f + 1, .node o l r, i + 1, j, h, hj => by
    unfold Tr.put
    cases j with
    | zero => cases hb : Nat.beq (i % 2) 0 <;> simp [Tr.get]
    | succ j =>
      cases hb : Nat.beq (i % 2) 0 <;> cases hc : Nat.beq (j % 2) 0 <;> simp only [cond_true, cond_false, Tr.get, hc]
      all_goals
        rw [beqz] at hb hc; simp at hb hc
        rw [Tr.get_put_ne f _ _ _ (by rw [Nat.pow_succ] at h; omega) (by omega)]

theorem enough (i : Nat) : i + 1 < 2 ^ (i + 1) := Nat.lt_two_pow_self
theorem Tr.get_set_self {α : Type} {t : Tr α} {i : Nat} {v : α} : (t.set i v).get i = some v := Tr.get_put_self (i + 1) t i (enough i)
theorem Tr.get_set_ne {α : Type} {t : Tr α} {i j : Nat} {v : α} (hj : j ≠ i) : (t.set i v).get j = t.get j := Tr.get_put_ne (i + 1) t i j (enough i) hj
theorem Tr.get_del_self {α : Type} {t : Tr α} {i : Nat} : (t.del i).get i = none := Tr.get_put_self (i + 1) t i (enough i)
theorem Tr.get_del_ne {α : Type} {t : Tr α} {i j : Nat} (hj : j ≠ i) : (t.del i).get j = t.get j := Tr.get_put_ne (i + 1) t i j (enough i) hj
theorem Tr.get_set {α : Type} {t : Tr α} {i j : Nat} {v x : α} (h : (t.set i v).get j = some x) : (j = i ∧ v = x) ∨ (j ≠ i ∧ t.get j = some x) := by
  rcases Tr.get_put (i + 1) t i j h with ⟨a, b⟩ | h
  · exact .inl ⟨a, by simpa using b⟩
  · exact .inr h
theorem Tr.get_del {α : Type} {t : Tr α} {i j : Nat} {x : α} (h : (t.del i).get j = some x) : j ≠ i ∧ t.get j = some x := by
  rcases Tr.get_put (i + 1) t i j h with ⟨a, b⟩ | h
  · cases b
  · exact h

/-! ### Abstract values -/
inductive AV where
  | bad
  | v (x : Value)
  | agg (cs : List AV)
  | tup (cs : List AV)
  | ptr (k r off : Nat)
  | eptr (k r sz i off : Nat)
  | sl (k r sz lo len : Nat)
  | mp (k r : Nat)
  | itr (k r : Nat)
  | yld (k r : Nat)
  | rptr (cs : List AV)
  | rsl (sz : Nat) (es : List AV) (exact : Bool)
  | rmp (ks vs : List AV)
  | fn (f : Fn) (first cap : List AV)
  | ifc (t : TypeId) (x : AV)

instance : Inhabited AV := ⟨.bad⟩

def AV.cells : AV → List AV
  | .agg cs => cs
  | x => [x]

/-- What is known of memory: where the abstract blocks lie (by version), which blocks are never written again, and the world. -/
structure Mem where
  mu : Nat → Option (Nat × Nat)
  imm : Nat → Prop
  w : World
  cok : FuncId → Code → Prop

def Mem.at (M : Mem) (b o : Nat) (x : Value) : Prop := M.imm b ∧ M.w.cell? ⟨b, o, none⟩ = some x
/-- A list of cells lies in a block that is never written again, from an offset on. -/
def Mem.row (M : Mem) (b o : Nat) (l : List Value) : Prop := ∀ i x, l[i]? = some x → M.at b (o + i) x
def flat (ys : List Value) : List Value := ys.flatMap (·.cells.toList)
def Sized (sz : Nat) (ys : List Value) : Prop := ∀ y ∈ ys, y.cells.size = sz

/-- Where a row of cells lies; a slice without room has none. -/
def Mem.rowAt (M : Mem) (ao : Option Addr) (cap : Nat) (l : List Value) : Prop := (∃ b o, ao = some ⟨b, o, none⟩ ∧ M.row b o l) ∨ cap = 0

/-- Memory without the abstract blocks: what is never written again. -/
def Mem.bare (M : Mem) : Mem := { M with mu := fun _ => none }

mutual
def Rep : Mem → AV → Value → Prop
  | _, .bad, _ => True
  | _, .v x, y => y = x
  | M, .agg cs, y => ∃ l : List Value, y = .agg l.toArray ∧ RepL M cs l
  | M, .tup cs, y => ∃ l : List Value, y = .tuple l.toArray ∧ RepL M cs l
  | M, .ptr _ r off, y => ∃ b ct, M.mu r = some (b, ct) ∧ y = .pointer (some ⟨b, off, none⟩)
  | M, .eptr _ r sz i off, y => ∃ b ct, M.mu r = some (b, ct) ∧ y = .pointer (some ⟨b, i * sz + off, none⟩)
  | M, .sl _ r sz lo len, y => ∃ b ct o, M.mu r = some (b, ct) ∧ lo + len ≤ ct ∧ y = .slice (some ⟨b, o, none⟩) len (ct - lo) ∧ (lo < ct → o = lo * sz)
  | M, .mp _ r, y => ∃ b ct, M.mu r = some (b, ct) ∧ y = .map (some b)
  | M, .itr _ r, y => ∃ b ct, M.mu r = some (b, ct) ∧ y = .pointer (some ⟨b, 0, none⟩)
  | M, .yld _ r, y => ∃ b ct, M.mu r = some (b, ct) ∧ y = .func (.yield b) #[] #[]
  | M, .rptr cs, y => ∃ b o l, y = .pointer (some ⟨b, o, none⟩) ∧ RepL M.bare cs l ∧ M.row b o l
  | M, .rsl sz es exact, y => ∃ ao cap ys, y = .slice ao es.length cap ∧ es.length ≤ cap ∧ RepL M.bare es ys ∧ Sized sz ys ∧ M.rowAt ao cap (flat ys) ∧ (exact = true → cap = es.length)
  | M, .rmp ks vs, y => ∃ b es clock, y = .map (some b) ∧ M.imm b ∧ M.w.heap[b]? = some (.map es clock) ∧ RepL M.bare ks (es.toList.map (·.key)) ∧ RepL M.bare vs (es.toList.map (·.val))
  | M, .fn f first cap, y => ∃ l c : List Value, y = .func f l.toArray c.toArray ∧ RepL M first l ∧ RepL M cap c
  | M, .ifc t x, y => ∃ z, y = .iface t z ∧ Rep M x z
def RepL : Mem → List AV → List Value → Prop
  | _, [], l => l = []
  | M, c :: cs, l => ∃ x xs, l = x :: xs ∧ Rep M c x ∧ RepL M cs xs
end

/-- Data: what values are read from. -/
def isData : Obj → Bool
  | .cells .. => true
  | .map .. => true
  | _ => false

/-- More data is known in M' than in M. -/
structure Mem.lw (M M' : Mem) : Prop where
  mu : ∀ r x, M.mu r = some x → M'.mu r = some x
  keep : ∀ b o, M.imm b → M.w.heap[b]? = some o → isData o = true → M'.imm b ∧ M'.w.heap[b]? = some o

/-- More is known in M' than in M. -/
structure Mem.le (M M' : Mem) : Prop where
  mu : ∀ r x, M.mu r = some x → M'.mu r = some x
  imm : ∀ b, M.imm b → M'.imm b
  same : ∀ b, M.imm b → M'.w.heap[b]? = M.w.heap[b]?
  cok : M'.cok = M.cok

theorem Mem.le.w {M M' : Mem} (h : M.le M') : M.lw M' := ⟨h.mu, fun b _ hb ho _ => ⟨h.imm b hb, (h.same b hb).trans ho⟩⟩
theorem Mem.mk3 {M M' : Mem} (mu : ∀ r x, M.mu r = some x → M'.mu r = some x) (imm : ∀ b, M.imm b → M'.imm b) (same : ∀ b, M.imm b → M'.w.heap[b]? = M.w.heap[b]?) (cok : M'.cok = M.cok := by rfl) : M.le M' := ⟨mu, imm, same, cok⟩
theorem Mem.le_refl (M : Mem) : M.le M := ⟨fun _ _ h => h, fun _ h => h, fun _ _ => rfl, rfl⟩
theorem Mem.le_trans {A B C : Mem} (h : A.le B) (k : B.le C) : A.le C :=
  ⟨fun r x hx => k.mu r x (h.mu r x hx), fun b hb => k.imm b (h.imm b hb), fun b hb => (k.same b (h.imm b hb)).trans (h.same b hb), k.cok.trans h.cok⟩

theorem Mem.le_bare {M M' : Mem} (h : M.le M') : M.bare.le M'.bare := ⟨fun _ _ x => (by cases x), h.imm, h.same, h.cok⟩
theorem Mem.lw_bare {M M' : Mem} (h : M.lw M') : M.bare.lw M'.bare := ⟨fun _ _ x => (by cases x), h.keep⟩
theorem Mem.bare_le (M : Mem) : M.bare.le M := Mem.mk3 (fun _ _ x => (by cases x)) (fun _ x => x) (fun _ _ => rfl)

theorem cell?_of_heap {w w' : World} {b o : Nat} (h : w'.heap[b]? = w.heap[b]?) : w'.cell? ⟨b, o, none⟩ = w.cell? ⟨b, o, none⟩ := by
  simp only [World.cell?, h]
theorem frozen?_of_heap {w w' : World} {b o : Nat} (h : w'.heap[b]? = w.heap[b]?) : w'.frozen? ⟨b, o, none⟩ = w.frozen? ⟨b, o, none⟩ := by
  simp only [World.frozen?, h]

theorem Mem.row_le {M M' : Mem} (h : M.lw M') {b o : Nat} {l : List Value} (hr : M.row b o l) : M'.row b o l :=
  fun i x hi => by
    obtain ⟨hb, hc⟩ := hr i x hi
    have : ∃ o', M.w.heap[b]? = some o' ∧ isData o' = true := by
      unfold World.cell? at hc
      cases ho : M.w.heap[b]? with
      | none => simp [ho] at hc
      | some o' => refine ⟨o', rfl, ?_⟩; cases o' <;> first | rfl | (simp [ho] at hc)
    obtain ⟨o', ho, hd⟩ := this
    obtain ⟨h1, h2⟩ := h.keep b o' hb ho hd
    exact ⟨h1, by rw [cell?_of_heap (w := M.w) (h2.trans ho.symm)]; exact hc⟩

theorem Mem.rowAt_le {M M' : Mem} (h : M.lw M') {ao : Option Addr} {cap : Nat} {l : List Value} (hr : M.rowAt ao cap l) : M'.rowAt ao cap l := by
  rcases hr with ⟨b, o, e, hr⟩ | h1
  · exact .inl ⟨b, o, e, Mem.row_le h hr⟩
  · exact .inr h1

mutual
theorem Rep.monoW : ∀ {a : AV} {M M' : Mem} (_ : M.lw M') {y : Value}, Rep M a y → Rep M' a y
  | .bad, _, _, _, _, _ => by unfold Rep; trivial
  | .v _, _, _, _, _, k => by unfold Rep at k ⊢; exact k
  | .agg _, _, _, h, _, k => by unfold Rep at k ⊢; obtain ⟨l, e, k⟩ := k; exact ⟨l, e, k.monoW h⟩
  | .tup _, _, _, h, _, k => by unfold Rep at k ⊢; obtain ⟨l, e, k⟩ := k; exact ⟨l, e, k.monoW h⟩
  | .ptr .., _, _, h, _, k => by unfold Rep at k ⊢; obtain ⟨b, ct, e, k⟩ := k; exact ⟨b, ct, h.mu _ _ e, k⟩
  | .eptr .., _, _, h, _, k => by unfold Rep at k ⊢; obtain ⟨b, ct, e, k⟩ := k; exact ⟨b, ct, h.mu _ _ e, k⟩
  | .sl .., _, _, h, _, k => by unfold Rep at k ⊢; obtain ⟨b, ct, o, e, k⟩ := k; exact ⟨b, ct, o, h.mu _ _ e, k⟩
  | .mp .., _, _, h, _, k => by unfold Rep at k ⊢; obtain ⟨b, ct, e, k⟩ := k; exact ⟨b, ct, h.mu _ _ e, k⟩
  | .itr .., _, _, h, _, k => by unfold Rep at k ⊢; obtain ⟨b, ct, e, k⟩ := k; exact ⟨b, ct, h.mu _ _ e, k⟩
  | .yld .., _, _, h, _, k => by unfold Rep at k ⊢; obtain ⟨b, ct, e, k⟩ := k; exact ⟨b, ct, h.mu _ _ e, k⟩
  | .rptr _, _, _, h, _, k => by unfold Rep at k ⊢; obtain ⟨b, o, l, e, k, r⟩ := k; exact ⟨b, o, l, e, k.monoW (Mem.lw_bare h), Mem.row_le h r⟩
  | .rsl .., _, _, h, _, k => by unfold Rep at k ⊢; obtain ⟨ao, cap, ys, e, hc, k, hs, r, x⟩ := k; exact ⟨ao, cap, ys, e, hc, k.monoW (Mem.lw_bare h), hs, Mem.rowAt_le h r, x⟩
  | .rmp .., _, _, h, _, k => by unfold Rep at k ⊢; obtain ⟨b, es, c, e, hi, hm, k1, k2⟩ := k; obtain ⟨h1, h2⟩ := h.keep b _ hi hm rfl; exact ⟨b, es, c, e, h1, h2, k1.monoW (Mem.lw_bare h), k2.monoW (Mem.lw_bare h)⟩
  | .fn .., _, _, h, _, k => by unfold Rep at k ⊢; obtain ⟨l, c, e, k1, k2⟩ := k; exact ⟨l, c, e, k1.monoW h, k2.monoW h⟩
  | .ifc .., _, _, h, _, k => by unfold Rep at k ⊢; obtain ⟨z, e, k⟩ := k; exact ⟨z, e, k.monoW h⟩
theorem RepL.monoW : ∀ {as : List AV} {M M' : Mem} (_ : M.lw M') {ys : List Value}, RepL M as ys → RepL M' as ys
  | [], _, _, _, _, k => by unfold RepL at k ⊢; exact k
  | _ :: _, _, _, h, _, k => by unfold RepL at k ⊢; obtain ⟨x, xs, e, k1, k2⟩ := k; exact ⟨x, xs, e, k1.monoW h, k2.monoW h⟩
end

theorem Rep.mono {a : AV} {M M' : Mem} (h : M.le M') {y : Value} (k : Rep M a y) : Rep M' a y := k.monoW h.w
theorem RepL.mono {as : List AV} {M M' : Mem} (h : M.le M') {ys : List Value} (k : RepL M as ys) : RepL M' as ys := k.monoW h.w

section lists
variable {M : Mem}
@[simp] theorem RepL.nil_iff {l : List Value} : RepL M [] l ↔ l = [] := by unfold RepL; exact Iff.rfl
@[simp] theorem RepL.cons_iff {c : AV} {cs : List AV} {l : List Value} : RepL M (c :: cs) l ↔ ∃ x xs, l = x :: xs ∧ Rep M c x ∧ RepL M cs xs := by
  constructor <;> intro h
  · unfold RepL at h; exact h
  · unfold RepL; exact h
theorem RepL.length : ∀ {as : List AV} {l : List Value}, RepL M as l → l.length = as.length
  | [], _, h => by rw [RepL.nil_iff] at h; subst h; rfl
  | _ :: _, _, h => by rw [RepL.cons_iff] at h; obtain ⟨x, xs, rfl, _, k⟩ := h; simp [k.length]
theorem RepL.get : ∀ {as : List AV} {l : List Value}, RepL M as l → ∀ {i : Nat} {a : AV}, as[i]? = some a → ∃ y, l[i]? = some y ∧ Rep M a y
  | [], _, _, i, a, ha => by simp at ha
  | _ :: _, _, h, i, a, ha => by
    rw [RepL.cons_iff] at h; obtain ⟨x, xs, rfl, h1, h2⟩ := h
    cases i with
    | zero => simp at ha; subst ha; exact ⟨x, rfl, h1⟩
    | succ i => simpa using h2.get (by simpa using ha)
theorem RepL.append : ∀ {as bs : List AV} {l m : List Value}, RepL M as l → RepL M bs m → RepL M (as ++ bs) (l ++ m)
  | [], _, _, _, h, k => by rw [RepL.nil_iff] at h; subst h; exact k
  | _ :: _, _, _, _, h, k => by
    rw [RepL.cons_iff] at h; obtain ⟨x, xs, rfl, h1, h2⟩ := h
    rw [List.cons_append, RepL.cons_iff]; exact ⟨x, xs ++ _, rfl, h1, h2.append k⟩
theorem RepL.take : ∀ {as : List AV} {l : List Value} (n : Nat), RepL M as l → RepL M (as.take n) (l.take n)
  | [], _, n, h => by rw [RepL.nil_iff] at h; subst h; simp
  | _ :: _, _, 0, _ => by simp
  | _ :: _, _, n + 1, h => by
    rw [RepL.cons_iff] at h; obtain ⟨x, xs, rfl, h1, h2⟩ := h
    simp only [List.take_succ_cons, RepL.cons_iff]; exact ⟨x, _, rfl, h1, h2.take n⟩
theorem RepL.drop : ∀ {as : List AV} {l : List Value} (n : Nat), RepL M as l → RepL M (as.drop n) (l.drop n)
  | [], _, n, h => by rw [RepL.nil_iff] at h; subst h; simp
  | _ :: _, _, 0, h => by simpa using h
  | _ :: _, _, n + 1, h => by
    rw [RepL.cons_iff] at h; obtain ⟨x, xs, rfl, h1, h2⟩ := h
    simpa using h2.drop n
theorem RepL.set : ∀ {as : List AV} {l : List Value} (n : Nat) {a : AV} {y : Value}, RepL M as l → Rep M a y → RepL M (as.set n a) (l.set n y)
  | [], _, n, _, _, h, _ => by rw [RepL.nil_iff] at h; subst h; simp
  | _ :: _, _, 0, _, y, h, hy => by
    rw [RepL.cons_iff] at h; obtain ⟨x, xs, rfl, _, h2⟩ := h
    simp only [List.set_cons_zero, RepL.cons_iff]; exact ⟨y, xs, rfl, hy, h2⟩
  | _ :: _, _, n + 1, _, y, h, hy => by
    rw [RepL.cons_iff] at h; obtain ⟨x, xs, rfl, h1, h2⟩ := h
    simp only [List.set_cons_succ, RepL.cons_iff]; exact ⟨x, _, rfl, h1, h2.set n hy⟩
theorem RepL.split : ∀ {as bs : List AV} {l : List Value}, RepL M (as ++ bs) l → ∃ l1 l2, l = l1 ++ l2 ∧ RepL M as l1 ∧ RepL M bs l2
  | [], _, l, h => ⟨[], l, rfl, by simp, by simpa using h⟩
  | _ :: _, _, _, h => by
    rw [List.cons_append, RepL.cons_iff] at h; obtain ⟨x, xs, rfl, h1, h2⟩ := h
    obtain ⟨l1, l2, rfl, k1, k2⟩ := h2.split
    exact ⟨x :: l1, l2, rfl, by rw [RepL.cons_iff]; exact ⟨x, l1, rfl, h1, k1⟩, k2⟩
/-- A value's cells are represented by the abstract value's cells. -/
theorem Rep.cells {a : AV} {y : Value} (h : Rep M a y) (hb : ∀ c, a ≠ .v (.agg c)) (hbad : a ≠ .bad) : RepL M a.cells y.cells.toList := by
  have one : ∀ {a : AV} {y : Value}, Rep M a y → (∀ c, y ≠ .agg c) → RepL M [a] y.cells.toList := by
    intro a y h hy
    have : y.cells = #[y] := by cases y <;> first | rfl | exact absurd rfl (hy _)
    rw [this]; simp only [RepL.cons_iff]; exact ⟨y, [], rfl, h, by simp⟩
  cases a with
  | agg cs => unfold Rep at h; obtain ⟨l, rfl, h⟩ := h; simpa [AV.cells, Value.cells] using h
  | bad => exact absurd rfl hbad
  | v x => refine one h ?_; unfold Rep at h; subst h; intro c hc; exact hb c (by rw [hc])
  | tup cs => refine one h ?_; unfold Rep at h; obtain ⟨_, rfl, _⟩ := h; simp
  | ptr => refine one h ?_; unfold Rep at h; obtain ⟨_, _, _, rfl⟩ := h; simp
  | eptr => refine one h ?_; unfold Rep at h; obtain ⟨_, _, _, rfl⟩ := h; simp
  | sl => refine one h ?_; unfold Rep at h; obtain ⟨_, _, _, _, _, rfl, _⟩ := h; simp
  | mp => refine one h ?_; unfold Rep at h; obtain ⟨_, _, _, rfl⟩ := h; simp
  | itr => refine one h ?_; unfold Rep at h; obtain ⟨_, _, _, rfl⟩ := h; simp
  | yld => refine one h ?_; unfold Rep at h; obtain ⟨_, _, _, rfl⟩ := h; simp
  | rptr cs => refine one h ?_; unfold Rep at h; obtain ⟨_, _, _, rfl, _⟩ := h; simp
  | rsl => refine one h ?_; unfold Rep at h; obtain ⟨_, _, _, rfl, _⟩ := h; simp
  | rmp => refine one h ?_; unfold Rep at h; obtain ⟨_, _, _, rfl, _⟩ := h; simp
  | fn => refine one h ?_; unfold Rep at h; obtain ⟨_, _, rfl, _⟩ := h; simp
  | ifc => refine one h ?_; unfold Rep at h; obtain ⟨_, rfl, _⟩ := h; simp
end lists

end Go.Vm
