/- A small evaluator over abstract values: the values, the relation to the model's values, and the abstract heap. -/
import Derived.Below
import Derived.CallsIn
import Derived.Laws.BytesArg
namespace Go.Vm
inductive Tr (α : Type) where
 | leaf
 | node (o : Option α) (l r : Tr α)
def Tr.get {α : Type} : Tr α → Nat → Option α
 | .leaf, _ => none
 | .node o _ _, 0 => o
 | .node _ l r, n + 1 => bif Nat.beq (n % 2) 0 then l.get (n / 2) else r.get (n / 2)
def Tr.put {α : Type} (v : Option α) : Nat → Tr α → Nat → Tr α
 | 0, _, _ => .leaf
 | _ + 1, .leaf, 0 => .node v .leaf .leaf
 | f + 1, .leaf, n + 1 =>
  bif Nat.beq (n % 2) 0 then .node none (Tr.put v f .leaf (n / 2)) .leaf else .node none .leaf (Tr.put v f .leaf (n / 2))
 | _ + 1, .node _ l r, 0 => .node v l r
 | f + 1, .node o l r, n + 1 =>
  bif Nat.beq (n % 2) 0 then .node o (Tr.put v f l (n / 2)) r else .node o l (Tr.put v f r (n / 2))
def Tr.set {α : Type} (t : Tr α) (i : Nat) (v : α) : Tr α := Tr.put (some v) (i + 1) t i
def Tr.del {α : Type} (t : Tr α) (i : Nat) : Tr α := Tr.put none (i + 1) t i
theorem Tr.get_leaf {α : Type} (i : Nat) : (Tr.leaf : Tr α).get i = none := by unfold Tr.get; rfl
theorem beqz (n : Nat) : Nat.beq (n % 2) 0 = decide (n % 2 = 0) := by
 rcases Nat.mod_two_eq_zero_or_one n with h | h <;> rw [h] <;> rfl
theorem Tr.get_put {α : Type} {v : Option α} : ∀ (f : Nat) (t : Tr α) (i j : Nat) {x : α}, (Tr.put v f t i).get j = some x →
  (j = i ∧ v = some x) ∨ (j ≠ i ∧ t.get j = some x)
 | 0, t, i, j, x, h => by simp [Tr.put, Tr.get_leaf] at h
 | f + 1, .leaf, 0, j, x, h => by
  cases j with
  | zero => simp [Tr.put, Tr.get] at h; exact .inl ⟨rfl, h⟩
  | succ j => simp [Tr.put, Tr.get] at h
 | f + 1, .leaf, i + 1, j, x, h => by
  unfold Tr.put at h
  cases j with
  | zero => cases hb : Nat.beq (i % 2) 0 <;> simp [hb, Tr.get] at h
  | succ j =>
   cases hb : Nat.beq (i % 2) 0 <;> cases hc : Nat.beq (j % 2) 0 <;> simp only [hb, cond_true, cond_false, Tr.get, hc] at h
   ·rcases Tr.get_put f _ _ _ h with ⟨e, hv⟩ | ⟨_, hn⟩
    ·rw [beqz] at hb hc; simp at hb hc; exact .inl ⟨by omega, hv⟩
    ·simp [Tr.get_leaf] at hn
   ·cases h
   ·cases h
   ·rcases Tr.get_put f _ _ _ h with ⟨e, hv⟩ | ⟨_, hn⟩
    ·rw [beqz] at hb hc; simp at hb hc; exact .inl ⟨by omega, hv⟩
    ·simp [Tr.get_leaf] at hn
 | f + 1, .node o l r, 0, j, x, h => by
  cases j with
  | zero => simp [Tr.put, Tr.get] at h; exact .inl ⟨rfl, h⟩
  | succ j => simp only [Tr.put, Tr.get] at h; exact .inr ⟨by omega, by simpa [Tr.get] using h⟩
 | f + 1, .node o l r, i + 1, j, x, h => by
  unfold Tr.put at h
  cases j with
  | zero => cases hb : Nat.beq (i % 2) 0 <;> simp [hb, Tr.get] at h <;> exact .inr ⟨by omega, by simpa [Tr.get] using h⟩
  | succ j =>
   cases hb : Nat.beq (i % 2) 0 <;> cases hc : Nat.beq (j % 2) 0 <;> simp only [hb, cond_true, cond_false, Tr.get, hc] at h ⊢
   ·rcases Tr.get_put f _ _ _ h with ⟨e, hv⟩ | ⟨hne, hn⟩
    ·rw [beqz] at hb hc; simp at hb hc; exact .inl ⟨by omega, hv⟩
    ·exact .inr ⟨by omega, hn⟩
   ·refine .inr ⟨?_, h⟩
    intro e; simp only [Nat.add_right_cancel_iff] at e; subst e; rw [hb] at hc; cases hc
   ·refine .inr ⟨?_, h⟩
    intro e; simp only [Nat.add_right_cancel_iff] at e; subst e; rw [hb] at hc; cases hc
   ·rcases Tr.get_put f _ _ _ h with ⟨e, hv⟩ | ⟨hne, hn⟩
    ·rw [beqz] at hb hc; simp at hb hc; exact .inl ⟨by omega, hv⟩
    ·exact .inr ⟨by omega, hn⟩
theorem Tr.get_put_self {α : Type} {v : Option α} : ∀ (f : Nat) (t : Tr α) (i : Nat), i + 1 < 2 ^ f → (Tr.put v f t i).get i = v
 | 0, _, i, h => by simp at h
 | f + 1, .leaf, 0, _ => by simp [Tr.put, Tr.get]
 | f + 1, .node .., 0, _ => by simp [Tr.put, Tr.get]
 | f + 1, .leaf, i + 1, h => by
  unfold Tr.put
  have := Tr.get_put_self (v := v) f (Tr.leaf : Tr α) (i / 2) (by rw [Nat.pow_succ] at h; omega)
  cases hb : Nat.beq (i % 2) 0 <;> simp only [hb, cond_true, cond_false, Tr.get] <;> exact this
 | f + 1, .node o l r, i + 1, h => by
  unfold Tr.put
  have h1 := Tr.get_put_self (v := v) f l (i / 2) (by rw [Nat.pow_succ] at h; omega)
  have h2 := Tr.get_put_self (v := v) f r (i / 2) (by rw [Nat.pow_succ] at h; omega)
  cases hb : Nat.beq (i % 2) 0 <;> simp only [hb, cond_true, cond_false, Tr.get] <;> assumption
theorem Tr.get_put_ne {α : Type} {v : Option α} : ∀ (f : Nat) (t : Tr α) (i j : Nat), i + 1 < 2 ^ f → j ≠ i → (Tr.put v f t i).get j = t.get j
 | 0, _, i, _, h, _ => by simp at h
 | f + 1, .leaf, 0, j, _, hj => by cases j with | zero => exact absurd rfl hj | succ j => simp [Tr.put, Tr.get]
 | f + 1, .node .., 0, j, _, hj => by cases j with | zero => exact absurd rfl hj | succ j => simp [Tr.put, Tr.get]
 | f + 1, .leaf, i + 1, j, h, hj => by
  unfold Tr.put
  cases j with
  | zero => cases hb : Nat.beq (i % 2) 0 <;> simp [Tr.get]
  | succ j =>
   cases hb : Nat.beq (i % 2) 0 <;> cases hc : Nat.beq (j % 2) 0 <;> simp only [cond_true, cond_false, Tr.get, hc]
   all_goals
    rw [beqz] at hb hc; simp at hb hc
    rw [Tr.get_put_ne f _ _ _ (by rw [Nat.pow_succ] at h; omega) (by omega), Tr.get_leaf]
 | f + 1, .node o l r, i + 1, j, h, hj => by
  unfold Tr.put
  cases j with
  | zero => cases hb : Nat.beq (i % 2) 0 <;> simp [Tr.get]
  | succ j =>
   cases hb : Nat.beq (i % 2) 0 <;> cases hc : Nat.beq (j % 2) 0 <;> simp only [cond_true, cond_false, Tr.get, hc]
   all_goals
    rw [beqz] at hb hc; simp at hb hc
    rw [Tr.get_put_ne f _ _ _ (by rw [Nat.pow_succ] at h; omega) (by omega)]
theorem enough (i : Nat) : i + 1 < 2 ^ (i + 1) := Nat.lt_two_pow_self
theorem Tr.get_set_self {α : Type} {t : Tr α} {i : Nat} {v : α} : (t.set i v).get i = some v := Tr.get_put_self (i + 1) t i (enough i)
theorem Tr.get_set_ne {α : Type} {t : Tr α} {i j : Nat} {v : α} (hj : j ≠ i) : (t.set i v).get j = t.get j := Tr.get_put_ne (i + 1) t i j (enough i) hj
theorem Tr.get_del_ne {α : Type} {t : Tr α} {i j : Nat} (hj : j ≠ i) : (t.del i).get j = t.get j := Tr.get_put_ne (i + 1) t i j (enough i) hj
theorem Tr.get_set {α : Type} {t : Tr α} {i j : Nat} {v x : α} (h : (t.set i v).get j = some x) : (j = i ∧ v = x) ∨ (j ≠ i ∧ t.get j = some x) := by
 rcases Tr.get_put (i + 1) t i j h with ⟨a, b⟩ | h
 ·exact .inl ⟨a, by simpa using b⟩
 ·exact .inr h
theorem Tr.get_del {α : Type} {t : Tr α} {i j : Nat} {x : α} (h : (t.del i).get j = some x) : j ≠ i ∧ t.get j = some x := by
 rcases Tr.get_put (i + 1) t i j h with ⟨a, b⟩ | h
 ·cases b
 ·exact h
inductive AV where
 | bad
 | v (x : Value)
 | agg (cs : List AV)
 | tup (cs : List AV)
 | ptr (k r off : Nat)
 | eptr (k r sz i off : Nat)
 | sl (k r sz lo len : Nat)
 | mp (k r : Nat)
 | itr (k r : Nat)
 | yld (k r : Nat)
 | rptr (cs : List AV)
 | rsl (sz : Nat) (es : List AV) (exact : Bool)
 | rmp (ks vs : List AV)
 | fn (f : Fn) (first cap : List AV)
 | ifc (t : TypeId) (x : AV)
instance : Inhabited AV := ⟨.bad⟩
def AV.cells : AV → List AV
 | .agg cs => cs
 | x => [x]
structure Mem where
 mu : Nat → Option (Nat × Nat)
 imm : Nat → Prop
 w : World
 cok : FuncId → Code → Prop
def Mem.at (M : Mem) (b o : Nat) (x : Value) : Prop := M.imm b ∧ M.w.cell? ⟨b, o, none⟩ = some x
def Mem.row (M : Mem) (b o : Nat) (l : List Value) : Prop := ∀ i x, l[i]? = some x → M.at b (o + i) x
def flat (ys : List Value) : List Value := ys.flatMap (·.cells.toList)
def Sized (sz : Nat) (ys : List Value) : Prop := ∀ y ∈ ys, y.cells.size = sz
def Mem.rowAt (M : Mem) (ao : Option Addr) (cap : Nat) (l : List Value) : Prop := (∃ b o, ao = some ⟨b, o, none⟩ ∧ M.row b o l) ∨ cap = 0
def Mem.bare (M : Mem) : Mem := { M with mu := fun _ => none }
mutual
def Rep : Mem → AV → Value → Prop
 | _, .bad, _ => True
 | _, .v x, y => y = x
 | M, .agg cs, y => ∃ l : List Value, y = .agg l.toArray ∧ RepL M cs l
 | M, .tup cs, y => ∃ l : List Value, y = .tuple l.toArray ∧ RepL M cs l
 | M, .ptr _ r off, y => ∃ b ct, M.mu r = some (b, ct) ∧ y = .pointer (some ⟨b, off, none⟩)
 | M, .eptr _ r sz i off, y => ∃ b ct, M.mu r = some (b, ct) ∧ y = .pointer (some ⟨b, i * sz + off, none⟩)
 | M, .sl _ r sz lo len, y => ∃ b ct o, M.mu r = some (b, ct) ∧ lo + len ≤ ct ∧ y = .slice (some ⟨b, o, none⟩) len (ct - lo) ∧ (lo < ct → o = lo * sz)
 | M, .mp _ r, y => ∃ b ct, M.mu r = some (b, ct) ∧ y = .map (some b)
 | M, .itr _ r, y => ∃ b ct, M.mu r = some (b, ct) ∧ y = .pointer (some ⟨b, 0, none⟩)
 | M, .yld _ r, y => ∃ b ct, M.mu r = some (b, ct) ∧ y = .func (.yield b) #[] #[]
 | M, .rptr cs, y => ∃ b o l, y = .pointer (some ⟨b, o, none⟩) ∧ RepL M.bare cs l ∧ M.row b o l
 | M, .rsl sz es exact, y => ∃ ao cap ys, y = .slice ao es.length cap ∧ es.length ≤ cap ∧ RepL M.bare es ys ∧ Sized sz ys ∧ M.rowAt ao cap (flat ys) ∧ (exact = true → cap = es.length)
 | M, .rmp ks vs, y => ∃ b es clock, y = .map (some b) ∧ M.imm b ∧ M.w.heap[b]? = some (.map es clock) ∧ RepL M.bare ks (es.toList.map (·.key)) ∧ RepL M.bare vs (es.toList.map (·.val))
 | M, .fn f first cap, y => ∃ l c : List Value, y = .func f l.toArray c.toArray ∧ RepL M first l ∧ RepL M cap c
 | M, .ifc t x, y => ∃ z, y = .iface t z ∧ Rep M x z
def RepL : Mem → List AV → List Value → Prop
 | _, [], l => l = []
 | M, c :: cs, l => ∃ x xs, l = x :: xs ∧ Rep M c x ∧ RepL M cs xs
end
def isData : Obj → Bool
 | .cells .. => true
 | .map .. => true
 | _ => false
structure Mem.lw (M M' : Mem) : Prop where
 mu : ∀ r x, M.mu r = some x → M'.mu r = some x
 keep : ∀ b o, M.imm b → M.w.heap[b]? = some o → isData o = true → M'.imm b ∧ M'.w.heap[b]? = some o
structure Mem.le (M M' : Mem) : Prop where
 mu : ∀ r x, M.mu r = some x → M'.mu r = some x
 imm : ∀ b, M.imm b → M'.imm b
 same : ∀ b, M.imm b → M'.w.heap[b]? = M.w.heap[b]?
 cok : M'.cok = M.cok
theorem Mem.le.w {M M' : Mem} (h : M.le M') : M.lw M' := ⟨h.mu, fun b _ hb ho _ => ⟨h.imm b hb, (h.same b hb).trans ho⟩⟩
theorem Mem.mk3 {M M' : Mem} (mu : ∀ r x, M.mu r = some x → M'.mu r = some x) (imm : ∀ b, M.imm b → M'.imm b) (same : ∀ b, M.imm b → M'.w.heap[b]? = M.w.heap[b]?) (cok : M'.cok = M.cok := by rfl) : M.le M' := ⟨mu, imm, same, cok⟩
theorem Mem.le_refl (M : Mem) : M.le M := ⟨fun _ _ h => h, fun _ h => h, fun _ _ => rfl, rfl⟩
theorem Mem.le_trans {A B C : Mem} (h : A.le B) (k : B.le C) : A.le C :=
 ⟨fun r x hx => k.mu r x (h.mu r x hx), fun b hb => k.imm b (h.imm b hb), fun b hb => (k.same b (h.imm b hb)).trans (h.same b hb), k.cok.trans h.cok⟩
theorem Mem.le_bare {M M' : Mem} (h : M.le M') : M.bare.le M'.bare := ⟨fun _ _ x => (by cases x), h.imm, h.same, h.cok⟩
theorem Mem.lw_bare {M M' : Mem} (h : M.lw M') : M.bare.lw M'.bare := ⟨fun _ _ x => (by cases x), h.keep⟩
theorem Mem.bare_le (M : Mem) : M.bare.le M := Mem.mk3 (fun _ _ x => (by cases x)) (fun _ x => x) (fun _ _ => rfl)
theorem cell?_of_heap {w w' : World} {b o : Nat} (h : w'.heap[b]? = w.heap[b]?) : w'.cell? ⟨b, o, none⟩ = w.cell? ⟨b, o, none⟩ := by
 simp only [World.cell?, h]
theorem Mem.row_le {M M' : Mem} (h : M.lw M') {b o : Nat} {l : List Value} (hr : M.row b o l) : M'.row b o l :=
 fun i x hi => by
  obtain ⟨hb, hc⟩ := hr i x hi
  have : ∃ o', M.w.heap[b]? = some o' ∧ isData o' = true := by
   unfold World.cell? at hc
   cases ho : M.w.heap[b]? with
   | none => simp [ho] at hc
   | some o' => refine ⟨o', rfl, ?_⟩; cases o' <;> first | rfl | (simp [ho] at hc)
  obtain ⟨o', ho, hd⟩ := this
  obtain ⟨h1, h2⟩ := h.keep b o' hb ho hd
  exact ⟨h1, by rw [cell?_of_heap (w := M.w) (h2.trans ho.symm)]; exact hc⟩
theorem Mem.rowAt_le {M M' : Mem} (h : M.lw M') {ao : Option Addr} {cap : Nat} {l : List Value} (hr : M.rowAt ao cap l) : M'.rowAt ao cap l := by
 rcases hr with ⟨b, o, e, hr⟩ | h1
 ·exact .inl ⟨b, o, e, Mem.row_le h hr⟩
 ·exact .inr h1
mutual
theorem Rep.monoW : ∀ {a : AV} {M M' : Mem} (_ : M.lw M') {y : Value}, Rep M a y → Rep M' a y
 | .bad, _, _, _, _, _ => by unfold Rep; trivial
 | .v _, _, _, _, _, k => by unfold Rep at k ⊢; exact k
 | .agg _, _, _, h, _, k => by unfold Rep at k ⊢; obtain ⟨l, e, k⟩ := k; exact ⟨l, e, k.monoW h⟩
 | .tup _, _, _, h, _, k => by unfold Rep at k ⊢; obtain ⟨l, e, k⟩ := k; exact ⟨l, e, k.monoW h⟩
 | .ptr .., _, _, h, _, k => by unfold Rep at k ⊢; obtain ⟨b, ct, e, k⟩ := k; exact ⟨b, ct, h.mu _ _ e, k⟩
 | .eptr .., _, _, h, _, k => by unfold Rep at k ⊢; obtain ⟨b, ct, e, k⟩ := k; exact ⟨b, ct, h.mu _ _ e, k⟩
 | .sl .., _, _, h, _, k => by unfold Rep at k ⊢; obtain ⟨b, ct, o, e, k⟩ := k; exact ⟨b, ct, o, h.mu _ _ e, k⟩
 | .mp .., _, _, h, _, k => by unfold Rep at k ⊢; obtain ⟨b, ct, e, k⟩ := k; exact ⟨b, ct, h.mu _ _ e, k⟩
 | .itr .., _, _, h, _, k => by unfold Rep at k ⊢; obtain ⟨b, ct, e, k⟩ := k; exact ⟨b, ct, h.mu _ _ e, k⟩
 | .yld .., _, _, h, _, k => by unfold Rep at k ⊢; obtain ⟨b, ct, e, k⟩ := k; exact ⟨b, ct, h.mu _ _ e, k⟩
 | .rptr _, _, _, h, _, k => by unfold Rep at k ⊢; obtain ⟨b, o, l, e, k, r⟩ := k; exact ⟨b, o, l, e, k.monoW (Mem.lw_bare h), Mem.row_le h r⟩
 | .rsl .., _, _, h, _, k => by unfold Rep at k ⊢; obtain ⟨ao, cap, ys, e, hc, k, hs, r, x⟩ := k; exact ⟨ao, cap, ys, e, hc, k.monoW (Mem.lw_bare h), hs, Mem.rowAt_le h r, x⟩
 | .rmp .., _, _, h, _, k => by unfold Rep at k ⊢; obtain ⟨b, es, c, e, hi, hm, k1, k2⟩ := k; obtain ⟨h1, h2⟩ := h.keep b _ hi hm rfl; exact ⟨b, es, c, e, h1, h2, k1.monoW (Mem.lw_bare h), k2.monoW (Mem.lw_bare h)⟩
 | .fn .., _, _, h, _, k => by unfold Rep at k ⊢; obtain ⟨l, c, e, k1, k2⟩ := k; exact ⟨l, c, e, k1.monoW h, k2.monoW h⟩
 | .ifc .., _, _, h, _, k => by unfold Rep at k ⊢; obtain ⟨z, e, k⟩ := k; exact ⟨z, e, k.monoW h⟩
theorem RepL.monoW : ∀ {as : List AV} {M M' : Mem} (_ : M.lw M') {ys : List Value}, RepL M as ys → RepL M' as ys
 | [], _, _, _, _, k => by unfold RepL at k ⊢; exact k
 | _ :: _, _, _, h, _, k => by unfold RepL at k ⊢; obtain ⟨x, xs, e, k1, k2⟩ := k; exact ⟨x, xs, e, k1.monoW h, k2.monoW h⟩
end
theorem Rep.mono {a : AV} {M M' : Mem} (h : M.le M') {y : Value} (k : Rep M a y) : Rep M' a y := k.monoW h.w
theorem RepL.mono {as : List AV} {M M' : Mem} (h : M.le M') {ys : List Value} (k : RepL M as ys) : RepL M' as ys := k.monoW h.w
section lists
variable {M : Mem}
@[simp] theorem RepL.nil_iff {l : List Value} : RepL M [] l ↔ l = [] := by unfold RepL; exact Iff.rfl
@[simp] theorem RepL.cons_iff {c : AV} {cs : List AV} {l : List Value} : RepL M (c :: cs) l ↔ ∃ x xs, l = x :: xs ∧ Rep M c x ∧ RepL M cs xs := by
 constructor <;> intro h
 ·unfold RepL at h; exact h
 ·unfold RepL; exact h
theorem RepL.length : ∀ {as : List AV} {l : List Value}, RepL M as l → l.length = as.length
 | [], _, h => by rw [RepL.nil_iff] at h; subst h; rfl
 | _ :: _, _, h => by rw [RepL.cons_iff] at h; obtain ⟨x, xs, rfl, _, k⟩ := h; simp [k.length]
theorem RepL.get : ∀ {as : List AV} {l : List Value}, RepL M as l → ∀ {i : Nat} {a : AV}, as[i]? = some a → ∃ y, l[i]? = some y ∧ Rep M a y
 | [], _, _, i, a, ha => by simp at ha
 | _ :: _, _, h, i, a, ha => by
  rw [RepL.cons_iff] at h; obtain ⟨x, xs, rfl, h1, h2⟩ := h
  cases i with
  | zero => simp at ha; subst ha; exact ⟨x, rfl, h1⟩
  | succ i => simpa using h2.get (by simpa using ha)
theorem RepL.append : ∀ {as bs : List AV} {l m : List Value}, RepL M as l → RepL M bs m → RepL M (as ++ bs) (l ++ m)
 | [], _, _, _, h, k => by rw [RepL.nil_iff] at h; subst h; exact k
 | _ :: _, _, _, _, h, k => by
  rw [RepL.cons_iff] at h; obtain ⟨x, xs, rfl, h1, h2⟩ := h
  rw [List.cons_append, RepL.cons_iff]; exact ⟨x, xs ++ _, rfl, h1, h2.append k⟩
theorem RepL.take : ∀ {as : List AV} {l : List Value} (n : Nat), RepL M as l → RepL M (as.take n) (l.take n)
 | [], _, n, h => by rw [RepL.nil_iff] at h; subst h; simp
 | _ :: _, _, 0, _ => by simp
 | _ :: _, _, n + 1, h => by
  rw [RepL.cons_iff] at h; obtain ⟨x, xs, rfl, h1, h2⟩ := h
  simp only [List.take_succ_cons, RepL.cons_iff]; exact ⟨x, _, rfl, h1, h2.take n⟩
theorem RepL.drop : ∀ {as : List AV} {l : List Value} (n : Nat), RepL M as l → RepL M (as.drop n) (l.drop n)
 | [], _, n, h => by rw [RepL.nil_iff] at h; subst h; simp
 | _ :: _, _, 0, h => by simpa using h
 | _ :: _, _, n + 1, h => by
  rw [RepL.cons_iff] at h; obtain ⟨x, xs, rfl, h1, h2⟩ := h
  simpa using h2.drop n
theorem RepL.set : ∀ {as : List AV} {l : List Value} (n : Nat) {a : AV} {y : Value}, RepL M as l → Rep M a y → RepL M (as.set n a) (l.set n y)
 | [], _, n, _, _, h, _ => by rw [RepL.nil_iff] at h; subst h; simp
 | _ :: _, _, 0, _, y, h, hy => by
  rw [RepL.cons_iff] at h; obtain ⟨x, xs, rfl, _, h2⟩ := h
  simp only [List.set_cons_zero, RepL.cons_iff]; exact ⟨y, xs, rfl, hy, h2⟩
 | _ :: _, _, n + 1, _, y, h, hy => by
  rw [RepL.cons_iff] at h; obtain ⟨x, xs, rfl, h1, h2⟩ := h
  simp only [List.set_cons_succ, RepL.cons_iff]; exact ⟨x, _, rfl, h1, h2.set n hy⟩
theorem RepL.split : ∀ {as bs : List AV} {l : List Value}, RepL M (as ++ bs) l → ∃ l1 l2, l = l1 ++ l2 ∧ RepL M as l1 ∧ RepL M bs l2
 | [], _, l, h => ⟨[], l, rfl, by simp, by simpa using h⟩
 | _ :: _, _, _, h => by
  rw [List.cons_append, RepL.cons_iff] at h; obtain ⟨x, xs, rfl, h1, h2⟩ := h
  obtain ⟨l1, l2, rfl, k1, k2⟩ := h2.split
  exact ⟨x :: l1, l2, rfl, by rw [RepL.cons_iff]; exact ⟨x, l1, rfl, h1, k1⟩, k2⟩
theorem Rep.cells {a : AV} {y : Value} (h : Rep M a y) (hb : ∀ c, a ≠ .v (.agg c)) (hbad : a ≠ .bad) : RepL M a.cells y.cells.toList := by
 have one : ∀ {a : AV} {y : Value}, Rep M a y → (∀ c, y ≠ .agg c) → RepL M [a] y.cells.toList := by
  intro a y h hy
  have : y.cells = #[y] := by cases y <;> first | rfl | exact absurd rfl (hy _)
  rw [this]; simp only [RepL.cons_iff]; exact ⟨y, [], rfl, h, by simp⟩
 cases a with
 | agg cs => unfold Rep at h; obtain ⟨l, rfl, h⟩ := h; simpa [AV.cells, Value.cells] using h
 | bad => exact absurd rfl hbad
 | v x => refine one h ?_; unfold Rep at h; subst h; intro c hc; exact hb c (by rw [hc])
 | tup cs => refine one h ?_; unfold Rep at h; obtain ⟨_, rfl, _⟩ := h; simp
 | ptr => refine one h ?_; unfold Rep at h; obtain ⟨_, _, _, rfl⟩ := h; simp
 | eptr => refine one h ?_; unfold Rep at h; obtain ⟨_, _, _, rfl⟩ := h; simp
 | sl => refine one h ?_; unfold Rep at h; obtain ⟨_, _, _, _, _, rfl, _⟩ := h; simp
 | mp => refine one h ?_; unfold Rep at h; obtain ⟨_, _, _, rfl⟩ := h; simp
 | itr => refine one h ?_; unfold Rep at h; obtain ⟨_, _, _, rfl⟩ := h; simp
 | yld => refine one h ?_; unfold Rep at h; obtain ⟨_, _, _, rfl⟩ := h; simp
 | rptr cs => refine one h ?_; unfold Rep at h; obtain ⟨_, _, _, rfl, _⟩ := h; simp
 | rsl => refine one h ?_; unfold Rep at h; obtain ⟨_, _, _, rfl, _⟩ := h; simp
 | rmp => refine one h ?_; unfold Rep at h; obtain ⟨_, _, _, rfl, _⟩ := h; simp
 | fn => refine one h ?_; unfold Rep at h; obtain ⟨_, _, rfl, _⟩ := h; simp
 | ifc => refine one h ?_; unfold Rep at h; obtain ⟨_, rfl, _⟩ := h; simp
end lists
end Go.Vm

namespace Go.Vm
def pureRun {α : Type} (P : Program) : Sem α → Option α
 | .pure a => some a
 | .program k => pureRun P (k P)
 | .mark _ k => pureRun P k
 | _ => none
structure TI where
 desc : TypeDesc
 size : Nat
 agg : Bool
 bytes : Nat
 zero : Option Value
structure FI where
 ntmps : Nat
 results : List ResultVar
 body : Code
inductive Md where
 | tree | inl | spec
inductive Tc where
 | slot (t : Tmp)
 | at_ (t : Tmp)
 | all
structure DI where
 cls : Nat
 own : Tc
 un : List Tc
 anc : List Nat
structure Cx where
 P : Program
 ty : TypeId → Option TI
 fn : FuncId → Option FI
 mode : FuncId → Md
 spec : FuncId → List AV → Option AV
 glob : Nat → Option (List AV)
 fuel : Nat
 draw : FuncId → Nat → Option (List DI)
 pre : FuncId → Nat → List Tmp
 keep : FuncId → List Tmp
inductive Blk where
 | box (cs : List AV)
 | arr (sz : Nat) (es : List AV) (exact : Bool)
 | map (ks vs : List AV)
 | siter (s : ByteArray) (pos : Nat)
 | loop (f : FuncId) (fb : Nat) (nt : Nat) (T : Tr AV) (params : List Tmp) (assign body : Code) (pending : Option (Option Code))
structure Ent where
 ver : Nat
 fz : Bool
 blk : Blk
structure St where
 T : Tr AV
 H : Tr Ent
 nv : Nat
 nf : Nat
def ofV : Value → AV
 | .agg cs => .agg (cs.toList.map .v)
 | x => .v x
def cellsV : List AV → Option (List Value)
 | [] => some []
 | .v x :: cs => (cellsV cs).map (x :: ·)
 | _ :: _ => none
def toV : AV → Option Value
 | .v x => some x
 | .agg cs => (cellsV cs).map fun l => .agg l.toArray
 | .fn f [] [] => some (.func f #[] #[])
 | _ => none
def toVL : List AV → Option (List Value)
 | [] => some []
 | a :: as => match toV a, toVL as with
  | some x, some xs => some (x :: xs)
  | _, _ => none
def Value.single : Value → Bool
 | .agg _ => false
 | .tuple _ => false
 | _ => true
def AV.single : AV → Bool
 | .bad | .agg _ | .tup _ => false
 | .v x => Value.single x
 | _ => true
def cells? (a : AV) : Option (List AV) :=
 match a with
 | .agg cs => bif cs.all AV.single then some cs else none
 | x => bif x.single then some [x] else none
def live (H : Tr Ent) (k r : Nat) : Option Ent :=
 match H.get k with
 | some e => bif Nat.beq e.ver r then some e else none
 | none => none
def cellsAt (H : Tr Ent) : AV → Option (List AV)
 | .ptr k r off => match live H k r with
  | some { blk := .box cs, .. } => some (cs.drop off)
  | _ => none
 | .eptr k r sz i off => match live H k r with
  | some { blk := .arr sz' es _, .. } => bif Nat.beq sz sz' then (es[i]?).bind fun e => (cells? e).map (·.drop off) else none
  | _ => none
 | .rptr cs => some cs
 | _ => none
def splice (cs : List AV) (off : Nat) (vs : List AV) : List AV := cs.take off ++ vs ++ cs.drop (off + vs.length)
def freezeL (fz : Tr Ent → AV → Option (AV × Tr Ent)) : Tr Ent → List AV → Option (List AV × Tr Ent)
 | H, [] => some ([], H)
 | H, a :: as => match fz H a with
  | none => none
  | some (a', H1) => match freezeL fz H1 as with
   | none => none
   | some (as', H2) => some (a' :: as', H2)
def freeze : Nat → Tr Ent → AV → Option (AV × Tr Ent)
 | 0, _, _ => none
 | n + 1, H, a =>
  match a with
  | .bad => none
  | .v x => some (.v x, H)
  | .rptr cs => some (.rptr cs, H)
  | .rsl sz es x => some (.rsl sz es x, H)
  | .rmp ks vs => some (.rmp ks vs, H)
  | .agg cs => (freezeL (freeze n) H cs).map fun (cs', H') => (.agg cs', H')
  | .tup cs => (freezeL (freeze n) H cs).map fun (cs', H') => (.tup cs', H')
  | .fn f as bs => match freezeL (freeze n) H as with
   | none => none
   | some (as', H1) => (freezeL (freeze n) H1 bs).map fun (bs', H2) => (.fn f as' bs', H2)
  | .ifc t x => (freeze n H x).map fun (x', H') => (.ifc t x', H')
  | .ptr k r off => match live H k r with
   | some { fz := true, blk := .box cs, .. } => some (.rptr (cs.drop off), H)
   | some { fz := false, blk := .box cs, .. } =>
    match freezeL (freeze n) H cs with
    | none => none
    | some (cs', H') => bif (live H' k r).isSome then some (.rptr (cs'.drop off), H'.set k { ver := r, fz := true, blk := .box cs' }) else none
   | _ => none
  | .eptr k r sz i off => match live H k r with
   | some { fz := true, blk := .arr sz' es _, .. } =>
    bif Nat.beq sz sz' then (es[i]?).bind fun e => (cells? e).map fun cs => (.rptr (cs.drop off), H) else none
   | some { fz := false, blk := .arr sz' es x, .. } =>
    match freezeL (freeze n) H es with
    | none => none
    | some (es', H') =>
     bif Nat.beq sz sz' && (live H' k r).isSome then (es'[i]?).bind fun e => (cells? e).map fun cs => (.rptr (cs.drop off), H'.set k { ver := r, fz := true, blk := .arr sz' es' x }) else none
   | _ => none
  | .sl k r sz lo len => match live H k r with
   | some { fz := true, blk := .arr sz' es x, .. } =>
    bif Nat.beq sz sz' && Nat.ble (lo + len) es.length then some (.rsl sz ((es.drop lo).take len) (x && Nat.beq (lo + len) es.length), H) else none
   | some { fz := false, blk := .arr sz' es x, .. } =>
    match freezeL (freeze n) H es with
    | none => none
    | some (es', H') =>
     bif Nat.beq sz sz' && Nat.ble (lo + len) es'.length && (live H' k r).isSome then some (.rsl sz ((es'.drop lo).take len) (x && Nat.beq (lo + len) es'.length), H'.set k { ver := r, fz := true, blk := .arr sz' es' x }) else none
   | _ => none
  | .mp k r => match live H k r with
   | some { fz := true, blk := .map ks vs, .. } => some (.rmp ks vs, H)
   | some { fz := false, blk := .map ks vs, .. } =>
    match freezeL (freeze n) H ks with
    | none => none
    | some (ks', H1) => match freezeL (freeze n) H1 vs with
     | none => none
     | some (vs', H') => bif (live H' k r).isSome then some (.rmp ks' vs', H'.set k { ver := r, fz := true, blk := .map ks' vs' }) else none
   | _ => none
  | .itr .. | .yld .. => none
def frz (H : Tr Ent) (a : AV) : Option (AV × Tr Ent) := freeze 20 H a
def frzL (H : Tr Ent) (as : List AV) : Option (List AV × Tr Ent) := freezeL (freeze 20) H as
def asN (a : AV) : Option Nat :=
 match a with
 | .v (.int _ (.ofNat n)) => some n
 | _ => none
def asB : AV → Option Bool
 | .v (.bool b) => some b
 | _ => none
def TI.dsc (t : Option TI) : Option TypeDesc := t.map (·.desc)
def gI (n : Nat) : AV := .v (.int .i64 n)
def gB (b : Bool) : AV := .v (.bool b)
def isS : AV → Bool
 | .rsl _ (_ :: _) _ | .sl .. => true
 | _ => false
def isM : AV → Bool
 | .mp .. | .rmp .. => true
 | _ => false
def isF : AV → Bool
 | .fn .. => true
 | _ => false
def nilCmp (d : TypeDesc) (x y : AV) : Bool :=
 match d with
 | .slice _ => (match x, y with | .v (.slice none _ _), b => isS b | a, .v (.slice none _ _) => isS a | _, _ => false)
 | .map .. => (match x, y with | .v (.map none), b => isM b | a, .v (.map none) => isM a | _, _ => false)
 | .func .. => (match x, y with | .v .nilFunc, b => isF b | a, .v .nilFunc => isF a | _, _ => false)
 | _ => false
def abin (C : Cx) (o : BinOp) (t : TypeId) (xo yo : Operand) (x y : AV) : Option AV :=
  match toV x, toV y with
  | some a, some b => (pureRun C.P (do eqGuard o t xo yo a b; binOp o t a b)).bind fun r => bif Value.single r then some (.v r) else none
  | _, _ =>
    match o, C.ty t with
    | .eql, some ti => bif nilCmp ti.desc x y then some (gB false) else none
    | .neq, some ti => bif nilCmp ti.desc x y then some (gB true) else none
    | _, _ => none
def pureOp (C : Cx) (s : Sem Value) : Option AV := (pureRun C.P s).bind fun r => bif Value.single r then some (.v r) else none
def partA (C : Cx) (t : TypeId) (cs : List AV) (off : Nat) : Option AV :=
 match C.ty t with
 | none => none
 | some ti => bif ti.agg then (bif Nat.ble (off + ti.size) cs.length then some (.agg ((cs.drop off).take ti.size)) else none) else cs[off]?
def aload (C : Cx) (H : Tr Ent) (t : TypeId) (a : AV) : Option AV :=
 match cellsAt H a with
 | none => none
 | some cs => partA C t cs 0
def one? : List AV → Option AV
 | [c] => some c
 | _ => none
def mkEl (old : AV) (cs : List AV) : Option AV :=
 match old with
 | .agg _ => some (.agg cs)
 | _ => one? cs
def astore (C : Cx) (H : Tr Ent) (t : TypeId) (a x : AV) : Option (Tr Ent) :=
 match C.ty t, cells? x with
 | some ti, some vs =>
  bif !Nat.beq vs.length ti.size then none else
  match a with
  | .ptr k r off => match live H k r with
   | some { fz := false, blk := .box cs, .. } =>
    bif Nat.ble (off + vs.length) cs.length then some (H.set k { ver := r, fz := false, blk := .box (splice cs off vs) }) else none
   | _ => none
  | .eptr k r sz i off => match live H k r with
   | some { fz := false, blk := .arr sz' es ex, .. } =>
    bif !Nat.beq sz sz' then none else
    match es[i]? with
    | none => none
    | some e => match cells? e with
     | none => none
     | some cs => bif Nat.ble (off + vs.length) cs.length then
       (mkEl e (splice cs off vs)).map fun e' => H.set k { ver := r, fz := false, blk := .arr sz' (es.set i e') ex }
      else none
   | _ => none
  | _ => none
 | _, _ => none
def fieldPl (C : Cx) : List Field → Option (List (Nat × Nat))
 | [] => some []
 | f :: fs => match C.ty f.type, fieldPl C fs with
  | some ti, some l => some ((f.offset, ti.size) :: l)
  | _, _ => none
def afill (pl : Nat → Option (Nat × Nat)) : List AV → List (Nat × AV) → Option (List AV)
 | cs, [] => some cs
 | cs, (i, x) :: rest => match pl i, cells? x with
  | some (off, size), some vs =>
   bif Nat.beq vs.length size && Nat.ble (off + vs.length) cs.length then afill pl (splice cs off vs) rest else none
  | _, _ => none
def abuild (C : Cx) (t : TypeId) (parts : List (Nat × AV)) : Option AV :=
 match C.ty t with
 | none => none
 | some ti => match ti.zero, ti.desc with
  | some (.agg z), .struct fields => match fieldPl C fields.toList with
   | some pl => (afill (fun i => pl[i]?) (z.toList.map .v) parts).map .agg
   | none => none
  | some (.agg z), .array _ elem => match C.ty elem with
   | some te => (afill (fun i => some (i * te.size, te.size)) (z.toList.map .v) parts).map .agg
   | none => none
  | _, _ => none
def aels (sz : Nat) : List AV → List (Nat × AV) → Option (List AV)
 | es, [] => some es
 | es, (i, x) :: rest => match cells? x with
  | some vs => bif Nat.beq vs.length sz && Nat.blt i es.length then aels sz (es.set i x) rest else none
  | none => none
def elemTI (C : Cx) (t : TypeId) : Option TI :=
 match C.ty t with
 | some { desc := .slice e, .. } => C.ty e
 | _ => none
def abuildSlice (C : Cx) (H : Tr Ent) (t : TypeId) (len : Nat) (parts : List (Nat × AV)) : Option (AV × Tr Ent) :=
 match elemTI C t with
 | some { size := sz, zero := some z, .. } =>
  bif Nat.ble (len * sz) 16777216 && Nat.beq z.cells.size sz then
   match frzL H (parts.map (·.2)) with
   | none => none
   | some (xs, H') => (aels sz (List.replicate len (ofV z)) ((parts.map (·.1)).zip xs)).map fun es => (.rsl sz es true, H')
  else none
 | _ => none
def abounds (len : Nat) (lo hi mx : Option AV) : Option (Nat × Nat × Option Nat) :=
 match (match lo with | none => some 0 | some a => asN a), (match hi with | none => some len | some a => asN a) with
 | some l, some h =>
  bif !Nat.ble l h then none else
  match mx with
  | none => some (l, h, none)
  | some a => match asN a with
   | some m => bif Nat.ble h m && hi.isSome then some (l, h, some m) else none
   | none => none
 | _, _ => none
def numsA : List AV → Option (List Int)
 | [] => some []
 | .v (.int .u8 n) :: r => (numsA r).map (n :: ·)
 | _ => none
def aconv (C : Cx) (s d : TypeId) (x : AV) : Option AV :=
 match toV x with
 | some a => pureOp C (convert s d a)
 | none => match x with
  | .rsl 1 (e :: es) _ => (match C.ty s, C.ty d, numsA (e :: es) with
   | some { desc := .slice el, .. }, some { desc := .string, .. }, some ns => (match C.ty el with
    | some { desc := .int .u8, .. } => some (.v (.string (strOfNums ns)))
    | _ => none)
   | _, _, _ => none)
  | _ => none
def aslice (C : Cx) (H : Tr Ent) (t : TypeId) (x : AV) (lo hi mx : Option AV) : Option AV :=
 match x with
 | .v (.string s) =>
  match (match lo with | none => some none | some a => (toV a).map some), (match hi with | none => some none | some a => (toV a).map some), mx with
  | some l, some h, none => match C.ty t with
   | some { desc := .string, .. } => pureOp C (Instr.slice t (.string s) l h none)
   | _ => none
  | _, _, _ => none
 | .v (.slice none 0 0) => match elemTI C t, abounds 0 lo hi mx with
  | some _, some (0, 0, none) => some (.v (.slice none 0 0))
  | _, _ => none
 | .rsl sz es ex => match elemTI C t, abounds es.length lo hi mx with
  | some te, some (l, h, none) =>
   bif Nat.beq te.size sz && Nat.ble h es.length then some (.rsl sz ((es.drop l).take (h - l)) (ex && Nat.beq h es.length)) else none
  | some te, some (l, h, some m) =>
   bif Nat.beq te.size sz && Nat.ble m es.length then (bif Nat.beq m h then some (.rsl sz ((es.drop l).take (h - l)) true) else some .bad) else none
  | _, _ => none
 | .sl k r sz lo0 len => match elemTI C t, abounds len lo hi mx, live H k r with
  | some te, some (l, h, none), some { blk := .arr sz' es _, .. } =>
   bif Nat.beq te.size sz && Nat.beq sz sz' && Nat.ble (lo0 + h) es.length then some (.sl k r sz (lo0 + l) (h - l)) else none
  | some te, some (l, _h, some m), some { blk := .arr sz' es _, .. } =>
   bif Nat.beq te.size sz && Nat.beq sz sz' && Nat.ble (lo0 + m) es.length then (bif Nat.beq l m then some (.rsl sz [] true) else some .bad) else none
  | _, _, _ => none
 | _ => none
def afieldAddr (C : Cx) (t : TypeId) (x : AV) (i : Nat) : Option AV :=
 match C.ty t with
 | some { desc := .struct fields, .. } => match fields[i]? with
  | some f => match C.ty f.type with
   | some ti => bif Nat.beq ti.size 0 then none else
    match x with
    | .ptr k r off => some (.ptr k r (off + f.offset))
    | .eptr k r sz j off => some (.eptr k r sz j (off + f.offset))
    | .rptr cs => some (.rptr (cs.drop f.offset))
    | _ => none
   | none => none
  | none => none
 | _ => none
def aindexAddr (C : Cx) (H : Tr Ent) (t : TypeId) (x i : AV) : Option AV :=
 match asN i with
 | none => none
 | some n =>
  match x with
  | .rsl sz es _ => match elemTI C t with
   | some te => bif Nat.beq te.size sz then (es[n]?).bind fun e => (cells? e).map .rptr else none
   | none => none
  | .sl k r sz lo len => match elemTI C t, live H k r with
   | some te, some { blk := .arr .., .. } => bif Nat.beq te.size sz && Nat.blt n len then some (.eptr k r sz (lo + n) 0) else none
   | _, _ => none
  | _ => match C.ty t with
   | some { desc := .array len elem, .. } => match C.ty elem with
    | some ti =>
     bif Nat.blt n len then
      match x with
      | .ptr k r off => some (.ptr k r (off + n * ti.size))
      | .eptr k r sz j off => some (.eptr k r sz j (off + n * ti.size))
      | .rptr cs => some (.rptr (cs.drop (n * ti.size)))
      | _ => none
     else none
    | none => none
   | _ => none
def aindex (C : Cx) (t : TypeId) (x i : AV) : Option AV :=
 match x with
 | .agg cs => match C.ty t, asN i with
  | some { desc := .array len elem, .. }, some n => match C.ty elem with
   | some ti => bif Nat.blt n len then partA C elem cs (n * ti.size) else none
   | none => none
  | _, _ => none
 | _ => match toV x, toV i with
  | some a, some b => pureOp C (Instr.index t a b)
  | _, _ => none
def afield (C : Cx) (t : TypeId) (x : AV) (i : Nat) : Option AV :=
 match x, C.ty t with
 | .agg cs, some { desc := .struct fields, .. } => match fields[i]? with
  | some f => partA C f.type cs f.offset
  | none => none
 | _, _ => none
def keyKind : TypeDesc → Value → Bool
 | .int _, .int .. | .string, .string _ | .bool, .bool _ => true
 | _, _ => false
def keyEq : Value → Value → Option Bool
 | .int k a, .int k' b => bif decide (k = k') then some (a == b) else none
 | .string a, .string b => some (a == b)
 | .bool a, .bool b => some (a == b)
 | _, _ => none
def eqK (C : Cx) (kt : TypeId) (kd : TypeDesc) (k e : Value) : Option Bool :=
 bif keyKind kd k then keyEq k e else pureRun C.P (Op.equal kt k e)
def findK (q : Value → Option Bool) : List AV → Nat → Option (Option Nat)
 | [], _ => some none
 | a :: es, i => match toV a with
  | none => none
  | some e => match q e with
   | some true => some (some i)
   | some false => findK q es (i + 1)
   | none => none
def mapOf (H : Tr Ent) : AV → Option (List AV × List AV)
 | .v (.map none) => some ([], [])
 | .rmp ks vs => some (ks, vs)
 | .mp k r => match live H k r with
  | some { blk := .map ks vs, .. } => some (ks, vs)
  | _ => none
 | _ => none
def keyAt (C : Cx) (kt : TypeId) (ks : List AV) (empty : Bool) (key : Value) : Option (Option Nat) :=
 match C.ty kt with
 | none => none
 | some kti =>
  bif keyKind kti.desc key then findK (eqK C kt kti.desc key) ks 0
  else match kti.desc, key, pureRun C.P (Instr.checkKey empty 10000 kt key) with
   | .struct _, .agg _, some () => findK (eqK C kt kti.desc key) ks 0
   | _, _, _ => none
def alookup (C : Cx) (H : Tr Ent) (t : TypeId) (x i : AV) (ok : Bool) : Option AV :=
 match C.ty t, mapOf H x, toV i with
 | some { desc := .map kt et, .. }, some (ks, vs), some key =>
  match C.ty et, keyAt C kt ks ks.isEmpty key with
  | some _, some (some j) => (vs[j]?).map fun v => bif ok then .tup [v, gB true] else v
  | some { zero := some z, .. }, some none => some (bif ok then .tup [ofV z, gB false] else ofV z)
  | _, _ => none
 | _, _, _ => none
def amapUpdate (C : Cx) (H : Tr Ent) (t : TypeId) (x i v : AV) : Option (Tr Ent) :=
 match C.ty t, x, toV i with
 | some { desc := .map kt _, .. }, .mp k r, some key =>
  match live H k r with
  | some { fz := false, blk := .map ks vs, .. } =>
   match keyAt C kt ks false key with
   | some (some j) => (match (ks[j]?).bind toV with
    | some old => match pureRun C.P (Instr.keyThatStays old key) with
     | some _ => some (H.set k { ver := r, fz := false, blk := .map (ks.set j i) (vs.set j v) })
     | none => none
    | none => none)
   | some none => some (H.set k { ver := r, fz := false, blk := .map (ks ++ [i]) (vs ++ [v]) })
   | none => none
  | _ => none
 | _, _, _ => none
def elemsOf (H : Tr Ent) : AV → Option (List AV)
 | .v (.slice none 0 _) => some []
 | .v (.slice (some _) 0 _) => some []
 | .rsl _ es _ => some es
 | .sl k r sz lo len => match live H k r with
  | some { blk := .arr sz' es _, .. } => bif Nat.beq sz sz' && Nat.ble (lo + len) es.length then some ((es.drop lo).take len) else none
  | _ => none
 | _ => none
def allSz (sz : Nat) (es : List AV) : Bool := es.all fun e => match cells? e with | some cs => Nat.beq cs.length sz | none => false
def notSeq : TypeDesc → Bool
 | .slice _ => false
 | .string => false
 | _ => true
def aappend (C : Cx) (H : Tr Ent) (key ver : Nat) (argTypes : List TypeId) (s x : AV) : Option (AV × Tr Ent) :=
  match argTypes with
  | [st, xt] => match elemTI C st, TI.dsc (C.ty xt), elemsOf H x with
    | some { size := sz, bytes := by_, zero := some z, .. }, some xd, some xs =>
      bif notSeq xd then none else
      bif !(allSz sz xs && Nat.beq z.cells.size sz) then none else
      match xs with
      | [] => (match s with
        | .v (.slice none 0 0) => some (s, H)
        | .rsl .. => some (s, H)
        | .sl .. => some (s, H)
        | _ => none)
      | _ :: _ =>
        let fresh (es : List AV) (H : Tr Ent) : Option (AV × Tr Ent) :=
          bif Nat.ble (es.length * by_) 35184372088832 && Nat.ble es.length 35184372088832 && !Nat.beq by_ 0 then
            some (.sl key ver sz 0 es.length, H.set key { ver := ver, fz := false, blk := .arr sz es false })
          else none
        match s with
        | .v (.slice none 0 0) => fresh xs H
        | .rsl sz' es true => bif Nat.beq sz sz' then fresh (es ++ xs) H else none
        | .sl k r sz' lo len => match live H k r with
          | some { fz := fz, blk := .arr sz'' es ex, .. } =>
            bif !(Nat.beq sz sz' && Nat.beq sz sz'') then none else
            bif Nat.beq (lo + len) es.length then
              (bif ex then fresh (es.drop lo ++ xs) H
               else bif fz then none
               else bif Nat.beq lo 0 then fresh (es ++ xs) (H.del k) else none)
            else bif fz then none
            else bif Nat.ble (lo + len + xs.length) es.length then
              some (.sl k r sz lo (len + xs.length), H.set k { ver := r, fz := false, blk := .arr sz (splice es (lo + len) xs) ex })
            else none
          | _ => none
        | _ => none
    | _, _, _ => none
  | _ => none
def acopy (C : Cx) (H : Tr Ent) (argTypes : List TypeId) (d x : AV) : Option (AV × Tr Ent) :=
 match argTypes with
 | st :: _ => match elemTI C st, elemsOf H x with
  | some { size := sz, .. }, some xs =>
   bif !allSz sz xs then none else
   match d with
   | .v (.slice none 0 0) => some (gI 0, H)
   | .rsl _ [] _ => some (gI 0, H)
   | .sl k r sz' lo len => match live H k r with
    | some { fz := false, blk := .arr sz'' es ex, .. } =>
     bif Nat.beq sz sz' && Nat.beq sz sz'' && Nat.ble (lo + len) es.length then
      some (gI (Nat.min xs.length len), H.set k { ver := r, fz := false, blk := .arr sz (splice es lo (xs.take (Nat.min xs.length len))) ex })
     else none
    | _ => none
   | _ => none
  | _, _ => none
 | _ => none
def aclear (C : Cx) (H : Tr Ent) (argTypes : List TypeId) (x : AV) : Option (Tr Ent) :=
 match argTypes with
 | [t] => match C.ty t with
  | none => none
  | some _ => match x with
   | .v (.slice none _ _) => some H
   | .v (.map none) => some H
   | .rsl _ [] _ => some H
   | .mp k r => match live H k r with
    | some { fz := false, blk := .map .., .. } => some (H.set k { ver := r, fz := false, blk := .map [] [] })
    | _ => none
   | .sl k r sz lo len => match elemTI C t, live H k r with
    | some { size := sz1, zero := some z, .. }, some { fz := false, blk := .arr sz' es ex, .. } =>
     bif Nat.beq sz sz' && Nat.beq sz sz1 && Nat.beq z.cells.size sz && Nat.ble (lo + len) es.length && allSz sz (List.replicate len (ofV z)) then
      some (H.set k { ver := r, fz := false, blk := .arr sz (splice es lo (List.replicate len (ofV z))) ex })
     else none
    | _, _ => none
   | _ => none
 | _ => none
def alen (C : Cx) (H : Tr Ent) (argTypes : List TypeId) (x : AV) : Option AV :=
 match argTypes with
 | [t] => match x, TI.dsc (C.ty t) with
  | .v (.string s), some .string => some (gI s.size)
  | .v (.slice none n _), some (.slice _) => some (gI n)
  | .rsl _ es _, some (.slice _) => some (gI es.length)
  | .sl _ _ _ _ len, some (.slice _) => some (gI len)
  | .v (.map none), some (.map ..) => some (gI 0)
  | .rmp ks _, some (.map ..) => some (gI ks.length)
  | .mp k r, some (.map ..) => match live H k r with
   | some { blk := .map ks _, .. } => some (gI ks.length)
   | _ => none
  | _, some (.array n _) => some (gI n)
  | _, _ => none
 | _ => none
def acap (C : Cx) (H : Tr Ent) (argTypes : List TypeId) (x : AV) : Option AV :=
 match argTypes with
 | [t] => match x, TI.dsc (C.ty t) with
  | .v (.slice none _ n), some (.slice _) => some (gI n)
  | .rsl _ es true, some (.slice _) => some (gI es.length)
  | .sl k r _ lo _, some (.slice _) => match live H k r with
   | some { blk := .arr _ es true, .. } => some (gI (es.length - lo))
   | _ => none
  | _, _ => none
 | _ => none
def amakeSlice (C : Cx) (H : Tr Ent) (key ver : Nat) (t : TypeId) (l c : AV) : Option (AV × Tr Ent) :=
 match elemTI C t, asN l, asN c with
 | some { size := sz, bytes := by_, zero := some z, .. }, some l, some c =>
  bif Nat.ble l c && Nat.ble (c * by_) 35184372088832 && Nat.ble c 35184372088832 && Nat.beq z.cells.size sz && !Nat.beq sz 0 then
   some (.sl key ver sz 0 l, H.set key { ver := ver, fz := false, blk := .arr sz (List.replicate c (ofV z)) true })
  else none
 | _, _, _ => none
def abuiltin (C : Cx) (H : Tr Ent) (key ver : Nat) (b : Builtin) (argTypes : List TypeId) (type : TypeId) (args : List AV) : Option (AV × Tr Ent) :=
 match b, args with
 | .len, [x] => (alen C H argTypes x).map (·, H)
 | .cap, [x] => (acap C H argTypes x).map (·, H)
 | .append, [s, x] => aappend C H key ver argTypes s x
 | .copy, [d, x] => acopy C H argTypes d x
 | .clear, [x] => (aclear C H argTypes x).map (.v (.tuple #[]), ·)
 | .min, _ => match toVL args with
  | some vs => (pureOp C (Builtin.min_ argTypes.toArray type vs.toArray)).map (·, H)
  | none => none
 | .max, _ => match toVL args with
  | some vs => (pureOp C (Builtin.max_ argTypes.toArray type vs.toArray)).map (·, H)
  | none => none
 | _, _ => none
def nonNil : AV → Bool
 | .ptr .. | .eptr .. | .rptr .. | .sl .. => true
 | .fn (.func _) _ _ => true
 | _ => false
def aop (C : Cx) (ev : Operand → AV) (H : Tr Ent) (key ver : Nat) (type : TypeId) : Op → Option (AV × Tr Ent)
 | .move x | .assign x => some (ev x, H)
 | .pick c a b => (asB (ev c)).map fun t => (bif t then ev a else ev b, H)
 | .alloc t => match C.ty t with
  | some { zero := some z, .. } => some (.ptr key ver 0, H.set key { ver := ver, fz := false, blk := .box (z.cells.toList.map .v) })
  | _ => none
 | .box _ x => (cells? (ev x)).map fun cs => (.ptr key ver 0, H.set key { ver := ver, fz := false, blk := .box cs })
 | .build t parts => (abuild C t (parts.toList.map fun (i, x) => (i, ev x))).map (·, H)
 | .buildSlice t len parts => abuildSlice C H t len (parts.toList.map fun (i, x) => (i, ev x))
 | .load t a => (aload C H t (ev a)).map (·, H)
 | .store t a x => (astore C H t (ev a) (ev x)).map (.v (.tuple #[]), ·)
 | .nilCheck x => bif nonNil (ev x) then some (ev x, H) else none
 | .binOp o t x y _ => (abin C o t x y (ev x) (ev y)).map (·, H)
 | .unOp o _ x => (toV (ev x)).bind fun a => (pureOp C (Op.unary o a)).map (·, H)
 | .convert s d x => (aconv C s d (ev x)).map (·, H)
 | .makeInterface t x => match C.ty t with
  | some { desc := .interface _, .. } => none
  | some _ => some (.ifc t (ev x), H)
  | none => none
 | .makeFunc f first cap => some (.fn f (first.toList.map ev) (cap.toList.map ev), H)
 | .makeMap _ none => some (.mp key ver, H.set key { ver := ver, fz := false, blk := .map [] [] })
 | .makeSlice t l c => amakeSlice C H key ver t (ev l) (ev c)
 | .slice t x lo hi mx => (aslice C H t (ev x) (lo.map ev) (hi.map ev) (mx.map ev)).map (·, H)
 | .fieldAddr t x f => (afieldAddr C t (ev x) f).map (·, H)
 | .field t x f => (afield C t (ev x) f).map (·, H)
 | .indexAddr t x i => (aindexAddr C H t (ev x) (ev i)).map (·, H)
 | .index t x i => (aindex C t (ev x) (ev i)).map (·, H)
 | .lookup t x i ok => (alookup C H t (ev x) (ev i) ok).map (·, H)
 | .mapUpdate t m k v => (amapUpdate C H t (ev m) (ev k) (ev v)).map (.v (.tuple #[]), ·)
 | .range t x => match ev x, TI.dsc (C.ty t) with
  | .v (.string s), some .string => some (.itr key ver, H.set key { ver := ver, fz := false, blk := .siter s 0 })
  | _, _ => none
 | .next it true => match ev it with
  | .itr k r => match live H k r with
   | some { fz := false, blk := .siter s pos, .. } =>
    bif Nat.blt pos s.size then
     some (.tup [gB true, gI pos, .v (.int .i32 (Utf8.decode s pos).1)], H.set k { ver := r, fz := false, blk := .siter s (pos + (Utf8.decode s pos).2) })
    else some (.tup [gB false], H)
   | _ => none
  | _ => none
 | .extract t i => match ev t with
  | .tup vs => (vs[i]?).map (·, H)
  | _ => none
 | .call { callee := .builtin b, args, argTypes } => abuiltin C H key ver b argTypes.toList type (args.toList.map ev)
 | _ => none
def staysB : Builtin → Bool
 | .len | .cap | .min | .max => true
 | _ => false
def stays : Op → Bool
 | .move _ | .assign _ | .pick .. | .build .. | .unOp .. | .convert .. | .makeFunc .. | .field .. | .extract .. | .fieldAddr .. | .nilCheck _ | .makeInterface .. | .binOp .. | .index .. => true
 | .load .. | .indexAddr .. | .slice .. | .lookup .. => true
 | .call { callee := .builtin b, .. } => staysB b
 | _ => false
end Go.Vm

namespace Go.Vm
inductive Ex where
 | nrm
 | exit (id : Nat)
 | ret
def evA (C : Cx) (T : Tr AV) : Operand → AV
 | .tmp t => match T.get t with | some a => a | none => .bad
 | .const v => ofV v
 | .global g => match C.glob g with | some cs => .rptr cs | none => .bad
 | .func f => .fn (.func f) [] []
def wantA (ops : Array Oper) (T : Tr AV) (o : Oper) : Option Bool :=
 match o.guard with
 | none => some true
 | some (j, want) => match (ops[j]?).bind (·.dst) with
  | none => some false
  | some d => match T.get d with
   | some (.v (.bool b)) => some (b == want)
   | some (.v _) => some false
   | _ => none
def putA (nt : Nat) (T : Tr AV) (dst : Option Tmp) (a : AV) : Option (Tr AV) :=
 match dst with
 | none => some T
 | some d => bif Nat.blt d nt then some (T.set d a) else none
abbrev CallF := AV → List AV → St → Option (AV × St)
def evO (cl : CallF) (C : Cx) (fb nt : Nat) (ops : Array Oper) (o : Oper) (st : St) : Option St :=
 match wantA ops st.T o with
 | none => none
 | some false => (putA nt st.T o.dst (.v (.tuple #[]))).map fun T => { st with T := T }
 | some true =>
  match o.op with
  | .call { callee := .value f, args, .. } =>
   match cl (evA C st.T f) (args.toList.map (evA C st.T)) st with
   | none => none
   | some (r, s1) => (putA nt st.T o.dst r).map fun T => { s1 with T := T }
  | op =>
   match aop C (evA C st.T) st.H (fb + o.dst.getD 0) st.nv o.type op with
   | none => none
   | some (r, H) => (putA nt st.T o.dst r).map fun T => { st with T := T, H := H, nv := st.nv + 1 }
def evOps (cl : CallF) (C : Cx) (fb nt : Nat) (ops : Array Oper) : List Oper → St → Option St
 | [], st => some st
 | o :: os, st => match evO cl C fb nt ops o st with
  | none => none
  | some s1 => evOps cl C fb nt ops os s1
abbrev CallK := AV → List AV → Tr Ent → Option AV
def closedA : Nat → AV → Bool
 | 0, _ => false
 | n + 1, a => match a with
  | .v _ | .rptr _ | .rsl .. | .rmp .. => true
  | .agg cs | .tup cs => cs.all (closedA n)
  | .fn _ as bs => as.all (closedA n) && bs.all (closedA n)
  | .ifc _ x => closedA n x
  | _ => false
def closed (a : AV) : Bool := closedA 20 a
def tcKey (fb : Nat) (T0 : Tr AV) : Tc → Option Nat
 | .slot t => some (fb + t)
 | .at_ t => match T0.get t with
  | some (.ptr k _ _) => some k
  | _ => none
 | .all => none
def tcKeys (fb : Nat) (T0 : Tr AV) : List Tc → Option (List Nat)
 | [] => some []
 | c :: cs => match tcKey fb T0 c, tcKeys fb T0 cs with
  | some k, some ks => some (k :: ks)
  | _, _ => none
def hide (H : Tr Ent) : List Nat → Tr Ent
 | [] => H
 | k :: ks => (hide H ks).del k
def memN (k : Nat) : List Nat → Bool
 | [] => false
 | j :: js => bif Nat.beq k j then true else memN k js
def ownFree (fb : Nat) (T0 : Tr AV) (i : DI) (ks : List Nat) : Bool :=
 match i.cls with
 | 2 => (match tcKey fb T0 i.own with | some k => !memN k ks | none => false)
 | 3 => (match ks with | [] => true | _ => false)
 | _ => true
def ownOk (ev : Operand → AV) (key k : Nat) : Op → Bool
 | .alloc _ | .box .. | .makeMap _ none | .makeSlice .. | .range .. => Nat.beq k key
 | .store _ a _ => (match ev a with | .ptr k' _ _ => Nat.beq k k' | _ => false)
 | .call { callee := .builtin .append, args, .. } => Nat.beq k key && (match args.toList with | s :: _ => (match ev s with | .v _ | .rsl .. => true | _ => false) | [] => false)
 | _ => false
def evDW (clK : CallK) (C : Cx) (fb nt : Nat) (T0 : Tr AV) (ver : Nat) (o : Oper) (i : DI) (ks : List Nat) (T : Tr AV) (H : Tr Ent) : Option (Tr AV × Tr Ent) :=
 match i.cls with
 | 0 => bif stays o.op then
   match aop C (evA C T) .leaf (fb + o.dst.getD 0) ver o.type o.op with
   | none => none
   | some (r, _) => (putA nt T o.dst r).map (·, H)
  else none
 | 1 => match o.op with
  | .call { callee := .value f, args, .. } => match clK (evA C T f) (args.toList.map (evA C T)) (hide H ks) with
   | none => none
   | some r => (putA nt T o.dst r).map (·, H)
  | .buildSlice .. => match aop C (evA C T) .leaf (fb + o.dst.getD 0) ver o.type o.op with
   | none => none
   | some (r, _) => (putA nt T o.dst r).map (·, H)
  | _ => bif stays o.op then
    match aop C (evA C T) (hide H ks) (fb + o.dst.getD 0) ver o.type o.op with
    | none => none
    | some (r, _) => (putA nt T o.dst r).map (·, H)
   else none
 | 2 => match tcKey fb T0 i.own with
  | none => none
  | some k => bif ownOk (evA C T) (fb + o.dst.getD 0) k o.op then
    match aop C (evA C T) (hide H ks) (fb + o.dst.getD 0) ver o.type o.op with
    | none => none
    | some (r, V) => match V.get k with
     | none => (match aop C (evA C T) .leaf (fb + o.dst.getD 0) ver o.type o.op with
      | some (.rsl sz es ex, _) => (putA nt T o.dst (.rsl sz es ex)).map (·, H)
      | _ => none)
     | some e => (putA nt T o.dst r).map (·, H.set k e)
   else none
 | 3 => match aop C (evA C T) H (fb + o.dst.getD 0) ver o.type o.op with
  | none => none
  | some (r, H') => (putA nt T o.dst r).map (·, H')
 | _ => none
def evDO (clK : CallK) (C : Cx) (fb nt : Nat) (ops : Array Oper) (T0 : Tr AV) (ver : Nat) (o : Oper) (i : DI) (T : Tr AV) (H : Tr Ent) : Option (Tr AV × Tr Ent) :=
 match tcKeys fb T0 i.un with
 | none => none
 | some ks =>
  bif ownFree fb T0 i ks then
   match wantA ops T o with
   | none => none
   | some false => (putA nt T o.dst (.v (.tuple #[]))).map (·, H)
   | some true => evDW clK C fb nt T0 ver o i ks T H
  else none
def evDs (clK : CallK) (C : Cx) (fb nt : Nat) (ops : Array Oper) (T0 : Tr AV) : Nat → List Oper → List DI → Tr AV → Tr Ent → Option (Tr AV × Tr Ent)
 | _, [], [], T, H => some (T, H)
 | v, o :: os, i :: is, T, H => match evDO clK C fb nt ops T0 v o i T H with
  | none => none
  | some (T1, H1) => evDs clK C fb nt ops T0 (v + 1) os is T1 H1
 | _, _, _, _, _ => none
def stFz : List Tmp → Tr AV → Tr Ent → Option (Tr AV × Tr Ent)
 | [], T, H => some (T, H)
 | t :: ts, T, H => match T.get t with
  | none => stFz ts T H
  | some x => match frz H x with
   | none => none
   | some (x', H') => stFz ts (T.set t x') H'
def iter (f : St → Option (Ex × St)) : Nat → St → Option (Ex × St)
 | 0, _ => none
 | n + 1, st => match f st with
  | some (.nrm, s1) => iter f n s1
  | r => r
def evCode (cl : CallF) (clK : CallK) (C : Cx) (fid fb nt : Nat) (rd : Bool) : Code → St → Option (Ex × St)
 | .skip, st => some (.nrm, st)
 | .label _, st => some (.nrm, st)
 | .region id ops dr, st =>
  bif dr then
   match C.draw fid id with
   | none => none
   | some is => match stFz (C.pre fid id) st.T st.H with
    | none => none
    | some (T0, H0) => match evDs clK C fb nt ops T0 st.nv ops.toList is T0 H0 with
     | none => none
     | some (T, H) => some (.nrm, { st with T := T, H := H, nv := st.nv + ops.size })
  else (evOps cl C fb nt ops ops.toList st).map fun s => (.nrm, s)
 | .seq a b, st => match evCode cl clK C fid fb nt rd a st with
  | some (.nrm, s1) => evCode cl clK C fid fb nt rd b s1
  | r => r
 | .cond c a b, st => match evA C st.T c with
  | .v (.bool t) => bif t then evCode cl clK C fid fb nt rd a st else evCode cl clK C fid fb nt rd b st
  | _ => none
 | .block id c, st => match evCode cl clK C fid fb nt rd c st with
  | some (.exit i, s1) => bif Nat.beq i id then some (.nrm, s1) else some (.exit i, s1)
  | r => r
 | .loop c, st => iter (evCode cl clK C fid fb nt rd c) C.fuel st
 | .exit id, st => some (.exit id, st)
 | .ret, st => some (.ret, st)
 | .scope c, st => bif rd then none else evCode cl clK C fid fb nt rd c st
 | .rangeFunc f ps asg body, st =>
  bif rd then none else
  match ps.toList, evA C st.T f with
  | p :: _, .fn g as bs =>
   match cl (.fn g as bs) [.yld (fb + p) st.nv] { st with H := st.H.set (fb + p) { ver := st.nv, fz := false, blk := .loop fid fb nt st.T ps.toList asg body none }, nv := st.nv + 1 } with
   | none => none
   | some (_, s1) => match live s1.H (fb + p) st.nv with
    | some { fz := false, blk := .loop _ _ _ _ _ _ _ pend, .. } =>
     match pend with
     | none => some (.nrm, { s1 with T := st.T, H := s1.H.del (fb + p) })
     | some (some .ret) => some (.ret, { s1 with T := st.T, H := s1.H.del (fb + p) })
     | some (some (.exit i)) => some (.exit i, { s1 with T := st.T, H := s1.H.del (fb + p) })
     | _ => none
    | _ => none
  | _, _ => none
 | .goto _, _ => none
 | .refuse _, _ => none
def resL (C : Cx) (s : St) : List ResultVar → Option (List AV)
 | [] => some []
 | .tmp t :: rs => match resL C s rs with
  | some l => some (evA C s.T (.tmp t) :: l)
  | none => none
 | .cell a t :: rs => match aload C s.H t (evA C s.T (.tmp a)), resL C s rs with
  | some x, some l => some (x :: l)
  | _, _ => none
def resA (C : Cx) (s : St) (rs : List ResultVar) : Option AV :=
 match resL C s rs with
 | some [x] => some x
 | some l => some (.tup l)
 | none => none
def initT : Nat → List AV → Tr AV → Tr AV
 | _, [], T => T
 | i, a :: as, T => initT (i + 1) as (T.set i a)
def setPs : List Tmp → List AV → Tr AV → Nat → Option (Tr AV)
 | [], [], T, _ => some T
 | t :: ts, a :: as, T, nt => bif Nat.blt t nt then setPs ts as (T.set t a) nt else none
 | _, _, _, _ => none
def pureA : AV → Bool
 | .v _ => true
 | .agg cs => (cellsV cs).isSome
 | .tup cs => (toVL cs).isSome
 | _ => false
def body (C : Cx) (cl : CallF) (clK : CallK) (f fb : Nat) (as : List AV) (H : Tr Ent) (nv nf : Nat) : Option (AV × St) :=
 match C.fn f with
 | none => none
 | some fi =>
  bif !Nat.ble as.length fi.ntmps then none else
  match evCode cl clK C f fb fi.ntmps false fi.body { T := initT 0 as .leaf, H := H, nv := nv, nf := nf + fi.ntmps } with
  | some (.nrm, s1) => (resA C s1 fi.results).map fun r => (r, s1)
  | some (.ret, s1) => (resA C s1 fi.results).map fun r => (r, s1)
  | _ => none
def tree (C : Cx) (cl : CallF) (clK : CallK) (f : FuncId) (as : List AV) : Option AV :=
 match body C cl clK f 0 as .leaf 0 0 with
 | none => none
 | some (r, s1) => (frz s1.H r).map (·.1)
def flatCall (C : Cx) (cl : CallF) (clK : CallK) (f : FuncId) (as : List AV) : Option AV :=
 match C.mode f with
 | .spec => C.spec f as
 | .tree => tree C cl clK f as
 | .inl => none
def callK (C : Cx) (cl : CallF) (clK : CallK) (callee : AV) (args : List AV) (H : Tr Ent) : Option AV :=
 match callee with
 | .fn (.func f) first cap =>
  bif (first ++ args ++ cap).all closed then flatCall C cl clK f (first ++ args ++ cap)
  else match frzL H (first ++ args ++ cap) with
  | none => none
  | some (as, _) => match flatCall C cl clK f as with
   | none => none
   | some r => bif pureA r then some r else none
 | _ => none
def callF (C : Cx) (cl : CallF) (clK : CallK) (callee : AV) (args : List AV) (st : St) : Option (AV × St) :=
 match callee with
 | .fn (.func f) first cap =>
  match C.mode f with
  | .inl => match body C cl clK f st.nf (first ++ args ++ cap) st.H st.nv st.nf with
   | none => none
   | some (r, s1) => some (r, { s1 with T := st.T })
  | _ => match frzL st.H (first ++ args ++ cap) with
   | none => none
   | some (as, H) => match flatCall C cl clK f as with
    | none => none
    | some r => some (r, bif pureA r then st else { st with H := H })
 | .yld k r => match live st.H k r with
  | some { fz := false, blk := .loop fid fb nt T ps asg bd none, .. } =>
   match setPs ps args T nt with
   | none => none
   | some T1 => match evCode cl clK C fid fb nt true asg { st with T := T1 } with
    | some (.nrm, s1) => match live s1.H k r with
     | some { fz := false, blk := .loop fid' fb' nt' T' ps' asg' bd' none, .. } =>
      match evCode cl clK C fid fb nt true bd { s1 with H := s1.H.set k { ver := r, fz := false, blk := .loop fid' fb' nt' T' ps' asg' bd' (some none) } } with
      | none => none
      | some (e, s2) =>
       match live s2.H k r with
       | some { fz := false, blk := .loop fid2 fb2 nt2 T2 ps2 asg2 bd2 (some none), .. } =>
        match e with
        | .nrm => some (gB true, { s2 with T := st.T, H := s2.H.set k { ver := r, fz := false, blk := .loop fid2 fb2 nt2 T2 ps2 asg2 bd2 none } })
        | .exit i => some (gB false, { s2 with T := st.T, H := s2.H.set k { ver := r, fz := false, blk := .loop fid2 fb2 nt2 T2 ps2 asg2 bd2 (some (some (.exit i))) } })
        | .ret => some (gB false, { s2 with T := st.T, H := s2.H.set k { ver := r, fz := false, blk := .loop fid2 fb2 nt2 T2 ps2 asg2 bd2 (some (some .ret)) } })
       | _ => none
     | _ => none
    | _ => none
  | _ => none
 | _ => none
mutual
def run (C : Cx) : Nat → CallF
 | 0, _, _, _ => none
 | d + 1, callee, args, st => callF C (run C d) (runK C d) callee args st
def runK (C : Cx) : Nat → CallK
 | 0, _, _, _ => none
 | d + 1, callee, args, H => callK C (run C d) (runK C d) callee args H
end
def evTree (C : Cx) (d : Nat) (f : FuncId) (as : List AV) : Option AV := tree C (run C d) (runK C d) f as
end Go.Vm

namespace Go.Vm
open Go.RowKit (Below)
def RepT (M : Mem) (nt : Nat) (T : Tr AV) (tmps : Array Value) : Prop :=
 tmps.size = nt ∧ ∀ i x, T.get i = some x → i < nt ∧ Rep M x (tmps.getD i undef)
def BlkIs (M : Mem) (b ct : Nat) : Blk → Prop
  | .box cs => ∃ arr ty, M.w.heap[b]? = some (.cells arr ty (0, 0)) ∧ RepL M cs arr.toList
  | .arr sz es ex => ∃ arr ty ys, M.w.heap[b]? = some (.cells arr ty (0, 0)) ∧ RepL M es ys ∧ Sized sz ys ∧ arr.size = ct * sz ∧ es.length ≤ ct ∧
      (ex = true → es.length = ct) ∧ arr.toList.take (es.length * sz) = flat ys
  | .map ks vs => ∃ es clock, M.w.heap[b]? = some (.map es clock) ∧ RepL M ks (es.toList.map (·.key)) ∧ RepL M vs (es.toList.map (·.val))
  | .siter s pos => M.w.heap[b]? = some (.stringIter s pos)
  | .loop fid _ nt T ps asg bd pend => ∃ l : Loop, M.w.heap[b]? = some (.loop l) ∧ M.cok fid asg ∧ M.cok fid bd ∧ l.params.toList = ps ∧ l.assign = asg ∧ l.body = bd ∧ RepT M nt T l.tmps ∧
      (match pend with
       | none => l.state = .ready ∧ l.pending = none
       | some none => l.state = .busy
       | some (some c) => l.state = .done ∧ l.pending = some c)
structure EntIs (M : Mem) (base : Nat) (e : Ent) (b ct : Nat) : Prop where
 mu : M.mu e.ver = some (b, ct)
 blk : BlkIs M b ct e.blk
 base : base ≤ b
 fz : e.fz = true → M.imm b ∧ BlkIs M.bare b ct e.blk
 own : e.fz = false → ¬ M.imm b
structure SimH (M : Mem) (base : Nat) (im0 : Nat → Prop) (nv : Nat) (H : Tr Ent) : Prop where
 ent : ∀ k e, H.get k = some e → ∃ b ct, EntIs M base e b ct
 inj : ∀ k e k' e' b ct ct', H.get k = some e → H.get k' = some e' → k ≠ k' → M.mu e.ver = some (b, ct) → M.mu e'.ver = some (b, ct') → False
 fresh : ∀ r x, M.mu r = some x → r < nv
 lt : ∀ b, M.imm b → b < M.w.heap.size
 old : ∀ b, im0 b → M.imm b
 lo : ∀ b, im0 b → b < base
 new : ∀ b, M.imm b → im0 b ∨ base ≤ b
 size : base ≤ M.w.heap.size
theorem RepT.mono {M M' : Mem} (h : M.le M') {nt : Nat} {T : Tr AV} {tmps : Array Value} (k : RepT M nt T tmps) : RepT M' nt T tmps :=
 ⟨k.1, fun i x hi => ⟨(k.2 i x hi).1, (k.2 i x hi).2.mono h⟩⟩
theorem BlkIs.mono {M M' : Mem} (h : M.le M') {b ct : Nat} {bl : Blk} (hb : M'.w.heap[b]? = M.w.heap[b]?) (k : BlkIs M b ct bl) : BlkIs M' b ct bl := by
 cases bl with
 | box cs => obtain ⟨a, t, e, r⟩ := k; exact ⟨a, t, hb.trans e, r.mono h⟩
 | arr sz es ex => obtain ⟨a, t, ys, e, r, rest⟩ := k; exact ⟨a, t, ys, hb.trans e, r.mono h, rest⟩
 | map ks vs => obtain ⟨a, t, e, r, s⟩ := k; exact ⟨a, t, hb.trans e, r.mono h, s.mono h⟩
 | siter s pos => exact hb.trans k
 | loop fid fb nt T ps asg bd pend => obtain ⟨l, e, c1, c2, a2, a3, a4, a5, a6⟩ := k; exact ⟨l, hb.trans e, h.cok.symm ▸ c1, h.cok.symm ▸ c2, a2, a3, a4, a5.mono h, a6⟩
theorem SimH.nv_le {M : Mem} {base : Nat} {im0 : Nat → Prop} {nv nv' : Nat} {H : Tr Ent} (h : SimH M base im0 nv H) (hn : nv ≤ nv') : SimH M base im0 nv' H :=
 { h with fresh := fun r x hr => Nat.lt_of_lt_of_le (h.fresh r x hr) hn }
theorem SimH.other {M : Mem} {base : Nat} {im0 : Nat → Prop} {nv : Nat} {H : Tr Ent} (h : SimH M base im0 nv H) {w' : World} (hb : Below M.w.heap.size M.w w') :
  M.le { M with w := w' } ∧ SimH { M with w := w' } base im0 nv H := by
 have hle : M.le { M with w := w' } := Mem.mk3 (fun _ _ x => x) (fun _ x => x) (fun b x => hb.block b (h.lt b x))
 refine ⟨hle, ?_⟩
 have hlt : ∀ k e, H.get k = some e → ∀ b ct, EntIs M base e b ct → b < M.w.heap.size := by
  intro k e _ b ct he
  have : ∃ o, M.w.heap[b]? = some o := by
   have := he.blk
   cases hbl : e.blk with
   | box cs => rw [hbl] at this; obtain ⟨a, t, e, _⟩ := this; exact ⟨_, e⟩
   | arr sz es ex => rw [hbl] at this; obtain ⟨a, t, ys, e, _⟩ := this; exact ⟨_, e⟩
   | map ks vs => rw [hbl] at this; obtain ⟨a, t, e, _⟩ := this; exact ⟨_, e⟩
   | siter s pos => rw [hbl] at this; exact ⟨_, this⟩
   | loop => rw [hbl] at this; obtain ⟨l, e, _⟩ := this; exact ⟨_, e⟩
  obtain ⟨o, ho⟩ := this
  exact (Array.getElem?_eq_some_iff.1 ho).1
 exact {
  ent := fun k e he => by
   obtain ⟨b, ct, hE⟩ := h.ent k e he
   exact ⟨b, ct, hE.mu, hE.blk.mono hle (hb.block b (hlt k e he b ct hE)), hE.base, fun x => ⟨(hE.fz x).1, (hE.fz x).2.mono (Mem.le_bare hle) (hb.block b (hlt k e he b ct hE))⟩, hE.own⟩
  inj := h.inj
  fresh := h.fresh
  lt := fun b x => Nat.lt_of_lt_of_le (h.lt b x) hb.size
  old := h.old
  lo := h.lo
  new := h.new
  size := Nat.le_trans h.size hb.size }
theorem EntIs.lt {M : Mem} {base : Nat} {e : Ent} {b ct : Nat} (he : EntIs M base e b ct) : b < M.w.heap.size := by
 have : ∃ o, M.w.heap[b]? = some o := by
  have := he.blk
  cases hbl : e.blk with
  | box cs => rw [hbl] at this; obtain ⟨a, t, e, _⟩ := this; exact ⟨_, e⟩
  | arr sz es ex => rw [hbl] at this; obtain ⟨a, t, ys, e, _⟩ := this; exact ⟨_, e⟩
  | map ks vs => rw [hbl] at this; obtain ⟨a, t, e, _⟩ := this; exact ⟨_, e⟩
  | siter s pos => rw [hbl] at this; exact ⟨_, this⟩
  | loop => rw [hbl] at this; obtain ⟨l, e, _⟩ := this; exact ⟨_, e⟩
 obtain ⟨o, ho⟩ := this
 exact (Array.getElem?_eq_some_iff.1 ho).1
structure Post (M : Mem) (base : Nat) (im0 : Nat → Prop) (ver nv' : Nat) (r : AV) (H' : Tr Ent) (y : Value) (w' : World) : Prop where
 ex : ∃ M', M'.w = w' ∧ M.le M' ∧ (∀ q, q ≠ ver → M'.mu q = M.mu q) ∧ Rep M' r y ∧ SimH M' base im0 nv' H'
 below : Below base M.w w'
theorem Post.same {M : Mem} {base : Nat} {im0 : Nat → Prop} {nv ver nv' : Nat} {r : AV} {H : Tr Ent} {y : Value} (h : SimH M base im0 nv H) (hn : nv ≤ nv') (hr : Rep M r y) :
  Post M base im0 ver nv' r H y M.w :=
 ⟨⟨M, rfl, Mem.le_refl M, fun _ _ => rfl, hr, h.nv_le hn⟩, Below.refl _ _⟩
structure VerOk (M : Mem) (nv ver nv' : Nat) : Prop where
 free : M.mu ver = none
 le : nv ≤ nv'
 lt : ver < nv'
theorem SimH.verOk {M : Mem} {base : Nat} {im0 : Nat → Prop} {nv : Nat} {H : Tr Ent} (h : SimH M base im0 nv H) : VerOk M nv nv (nv + 1) :=
 ⟨by cases hm : M.mu nv with
  | none => rfl
  | some x => exact absurd (h.fresh nv x hm) (Nat.lt_irrefl _), by omega, by omega⟩
theorem SimH.alloc {M : Mem} {base : Nat} {im0 : Nat → Prop} {nv ver nv' : Nat} {H : Tr Ent} (h : SimH M base im0 nv H) (hv : VerOk M nv ver nv') (o : Obj) (key ct : Nat) (bl : Blk)
  (hbl : ∀ M' : Mem, M.le M' → M'.w.heap[M.w.heap.size]? = some o → BlkIs M' M.w.heap.size ct bl) :
  ∃ M', M'.w = M.w.alloc o ∧ M.le M' ∧ (∀ q, q ≠ ver → M'.mu q = M.mu q) ∧ M'.mu ver = some (M.w.heap.size, ct) ∧ SimH M' base im0 nv' (H.set key { ver := ver, fz := false, blk := bl }) := by
 let M' : Mem := { M with mu := fun r => if r = ver then some (M.w.heap.size, ct) else M.mu r, w := M.w.alloc o }
 have hold : ∀ b, b < M.w.heap.size → M'.w.heap[b]? = M.w.heap[b]? := fun b hb => Below.heap_alloc M.w o b hb
 have hle : M.le M' := Mem.mk3 (fun r x hr => by
   show (if r = ver then _ else _) = _
   rw [if_neg (fun e => by rw [e, hv.free] at hr; cases hr)]; exact hr) (fun _ x => x) (fun b hb => hold b (h.lt b hb))
 have hnew : M'.w.heap[M.w.heap.size]? = some o := by show (M.w.heap.push o)[M.w.heap.size]? = _; simp
 have hver : M'.mu ver = some (M.w.heap.size, ct) := by show (if ver = ver then _ else _) = _; rw [if_pos rfl]
 refine ⟨M', rfl, hle, fun q hq => if_neg hq, hver, ?_⟩
 exact {
  ent := fun k e he => by
   rcases Tr.get_set he with ⟨rfl, rfl⟩ | ⟨hk, he⟩
   ·exact ⟨M.w.heap.size, ct, hver, hbl M' hle hnew, h.size, fun x => (by cases x), fun _ hi => Nat.lt_irrefl _ (h.lt _ hi)⟩
   ·obtain ⟨b, ct', hE⟩ := h.ent k e he
    exact ⟨b, ct', hle.mu _ _ hE.mu, hE.blk.mono hle (hold b hE.lt), hE.base, fun x => ⟨(hE.fz x).1, (hE.fz x).2.mono (Mem.le_bare hle) (hold b hE.lt)⟩, hE.own⟩
  inj := fun k e k' e' b ct1 ct2 he he' hk h1 h2 => by
   rcases Tr.get_set he with ⟨rfl, rfl⟩ | ⟨hk1, ge⟩ <;> rcases Tr.get_set he' with ⟨rfl, rfl⟩ | ⟨hk2, ge'⟩
   ·exact hk rfl
   ·obtain ⟨b', ct', hE⟩ := h.ent k' e' ge'
    rw [hver] at h1; rw [hle.mu _ _ hE.mu] at h2
    have := hE.lt; simp only [Option.some.injEq, Prod.mk.injEq] at h1 h2; omega
   ·obtain ⟨b', ct', hE⟩ := h.ent k e ge
    rw [hver] at h2; rw [hle.mu _ _ hE.mu] at h1
    have := hE.lt; simp only [Option.some.injEq, Prod.mk.injEq] at h1 h2; omega
   ·obtain ⟨b1, c1, hE1⟩ := h.ent k e ge
    obtain ⟨b2, c2, hE2⟩ := h.ent k' e' ge'
    rw [hle.mu _ _ hE1.mu] at h1; rw [hle.mu _ _ hE2.mu] at h2
    simp only [Option.some.injEq, Prod.mk.injEq] at h1 h2
    obtain ⟨rfl, rfl⟩ := h1; obtain ⟨rfl, rfl⟩ := h2
    exact h.inj k e k' e' _ _ _ ge ge' hk hE1.mu hE2.mu
  fresh := fun r x hr => by
   have hr' : (if r = ver then some (M.w.heap.size, ct) else M.mu r) = some x := hr
   have := hv.le
   have := hv.lt
   by_cases hrv : r = ver
   ·omega
   ·rw [if_neg hrv] at hr'; have := h.fresh r x hr'; omega
  lt := fun b hb => by have := h.lt b hb; show b < (M.w.alloc o).heap.size; simp; omega
  old := h.old
  lo := h.lo
  new := h.new
  size := by have := h.size; show base ≤ (M.w.alloc o).heap.size; simp; omega }
theorem SimH.write {M : Mem} {base : Nat} {im0 : Nat → Prop} {nv : Nat} {H : Tr Ent} (h : SimH M base im0 nv H) {k : Nat} {e : Ent} {b ct : Nat} (he : H.get k = some e) (hE : EntIs M base e b ct) (hf : e.fz = false)
  {w' : World} (hw : ∀ b', b' ≠ b → w'.heap[b']? = M.w.heap[b']?) (hos : w'.os = M.w.os) (htape : w'.tape = M.w.tape) (hout : w'.output = M.w.output) (hsz : w'.heap.size = M.w.heap.size) (bl : Blk)
  (hbl : M.le { M with w := w' } → BlkIs { M with w := w' } b ct bl) :
  M.le { M with w := w' } ∧ SimH { M with w := w' } base im0 nv (H.set k { ver := e.ver, fz := false, blk := bl }) ∧ Below base M.w w' := by
 have hle : M.le { M with w := w' } := Mem.mk3 (fun _ _ x => x) (fun _ x => x) (fun b' x => hw b' (fun hb => hE.own hf (hb ▸ x)))
 refine ⟨hle, ?_, ⟨hos, htape, hout, Nat.le_of_eq hsz.symm, fun b' hb => hw b' (by have := hE.base; omega)⟩⟩
 have inj' : ∀ k' e', H.get k' = some e' → k' ≠ k → ∀ b' ct', EntIs M base e' b' ct' → b' ≠ b := by
  intro k' e' he' hk b' ct' hE' hb
  subst hb
  exact h.inj k e k' e' _ _ _ he he' (Ne.symm hk) hE.mu hE'.mu
 exact {
  ent := fun k' e' he' => by
   rcases Tr.get_set he' with ⟨rfl, rfl⟩ | ⟨hk, he'⟩
   ·exact ⟨b, ct, hE.mu, hbl hle, hE.base, fun x => (by cases x), fun _ => hE.own hf⟩
   ·obtain ⟨b', ct', hE'⟩ := h.ent k' e' he'
    exact ⟨b', ct', hE'.mu, hE'.blk.mono hle (hw b' (inj' k' e' he' hk b' ct' hE')), hE'.base, fun x => ⟨(hE'.fz x).1, (hE'.fz x).2.mono (Mem.le_bare hle) (hw b' (inj' k' e' he' hk b' ct' hE'))⟩, hE'.own⟩
  inj := fun k1 e1 k2 e2 b' c1 c2 h1 h2 hk m1 m2 => by
   rcases Tr.get_set h1 with ⟨rfl, rfl⟩ | ⟨hk1, g1⟩ <;> rcases Tr.get_set h2 with ⟨rfl, rfl⟩ | ⟨hk2, g2⟩
   ·exact hk rfl
   ·exact h.inj _ _ _ _ _ _ _ he g2 (Ne.symm hk2) m1 m2
   ·exact h.inj _ _ _ _ _ _ _ he g1 (Ne.symm hk1) m2 m1
   ·exact h.inj _ _ _ _ _ _ _ g1 g2 hk m1 m2
  fresh := h.fresh
  lt := fun b' x => by have := h.lt b' x; show b' < w'.heap.size; omega
  old := h.old
  lo := h.lo
  new := h.new
  size := by have := h.size; show base ≤ w'.heap.size; omega }
theorem SimH.freeze {M : Mem} {base : Nat} {im0 : Nat → Prop} {nv : Nat} {H : Tr Ent} (h : SimH M base im0 nv H) {k : Nat} {e : Ent} {b ct : Nat} (he : H.get k = some e) (hE : EntIs M base e b ct) (bl : Blk)
  (hbl : BlkIs M.bare b ct bl) :
  M.le { M with imm := fun x => M.imm x ∨ x = b } ∧ SimH { M with imm := fun x => M.imm x ∨ x = b } base im0 nv (H.set k { ver := e.ver, fz := true, blk := bl }) := by
 have hle : M.le { M with imm := fun x => M.imm x ∨ x = b } := Mem.mk3 (fun _ _ x => x) (fun _ x => .inl x) (fun _ _ => rfl)
 refine ⟨hle, ?_⟩
 exact {
  ent := fun k' e' he' => by
   rcases Tr.get_set he' with ⟨rfl, rfl⟩ | ⟨hk, he'⟩
   ·exact ⟨b, ct, hE.mu, (hbl.mono (Mem.bare_le M) rfl).mono hle rfl, hE.base, fun _ => ⟨.inr rfl, hbl.mono (Mem.le_bare hle) rfl⟩, fun x => (by cases x)⟩
   ·obtain ⟨b', ct', hE'⟩ := h.ent k' e' he'
    refine ⟨b', ct', hE'.mu, hE'.blk.mono hle rfl, hE'.base, fun x => ⟨.inl (hE'.fz x).1, (hE'.fz x).2.mono (Mem.le_bare hle) rfl⟩, fun x hi => ?_⟩
    rcases hi with hi | rfl
    ·exact hE'.own x hi
    ·exact h.inj k e k' e' _ _ _ he he' (Ne.symm hk) hE.mu hE'.mu
  inj := fun k1 e1 k2 e2 b' c1 c2 h1 h2 hk m1 m2 => by
   rcases Tr.get_set h1 with ⟨rfl, rfl⟩ | ⟨hk1, g1⟩ <;> rcases Tr.get_set h2 with ⟨rfl, rfl⟩ | ⟨hk2, g2⟩
   ·exact hk rfl
   ·exact h.inj _ _ _ _ _ _ _ he g2 (Ne.symm hk2) m1 m2
   ·exact h.inj _ _ _ _ _ _ _ he g1 (Ne.symm hk1) m2 m1
   ·exact h.inj _ _ _ _ _ _ _ g1 g2 hk m1 m2
  fresh := h.fresh
  lt := fun b' x => by rcases x with x | rfl; exact h.lt b' x; exact hE.lt
  old := fun b' x => .inl (h.old b' x)
  lo := h.lo
  new := fun b' x => by rcases x with x | rfl; exact h.new b' x; exact .inr hE.base
  size := h.size }
theorem SimH.del {M : Mem} {base : Nat} {im0 : Nat → Prop} {nv : Nat} {H : Tr Ent} (h : SimH M base im0 nv H) (k : Nat) : SimH M base im0 nv (H.del k) :=
 { h with
  ent := fun k' e he => h.ent k' e (Tr.get_del he).2
  inj := fun k1 e1 k2 e2 b c1 c2 h1 h2 => h.inj k1 e1 k2 e2 b c1 c2 (Tr.get_del h1).2 (Tr.get_del h2).2 }
theorem SimH.rename {M : Mem} {base : Nat} {im0 : Nat → Prop} {nv ver nv' : Nat} {H : Tr Ent} (h : SimH M base im0 nv H) (hv : VerOk M nv ver nv') {key : Nat} {b ct : Nat} {bl : Blk}
  (hno : ∀ k e ct', H.get k = some e → k ≠ key → M.mu e.ver = some (b, ct') → False) (hbl : BlkIs M b ct bl) (hb : base ≤ b) (hown : ¬ M.imm b) :
  ∃ M', M'.w = M.w ∧ M.le M' ∧ (∀ q, q ≠ ver → M'.mu q = M.mu q) ∧ M'.mu ver = some (b, ct) ∧ SimH M' base im0 nv' (H.set key { ver := ver, fz := false, blk := bl }) := by
 let M' : Mem := { M with mu := fun r => if r = ver then some (b, ct) else M.mu r }
 have hle : M.le M' := Mem.mk3 (fun r x hr => by
   show (if r = ver then _ else _) = _
   rw [if_neg (fun e => by rw [e, hv.free] at hr; cases hr)]; exact hr) (fun _ x => x) (fun _ _ => rfl)
 have hver : M'.mu ver = some (b, ct) := by show (if ver = ver then _ else _) = _; rw [if_pos rfl]
 refine ⟨M', rfl, hle, fun q hq => if_neg hq, hver, ?_⟩
 exact {
  ent := fun k e he => by
   rcases Tr.get_set he with ⟨rfl, rfl⟩ | ⟨hk, he⟩
   ·exact ⟨b, ct, hver, hbl.mono hle rfl, hb, fun x => (by cases x), fun _ => hown⟩
   ·obtain ⟨b', ct', hE⟩ := h.ent k e he
    exact ⟨b', ct', hle.mu _ _ hE.mu, hE.blk.mono hle rfl, hE.base, fun x => ⟨(hE.fz x).1, (hE.fz x).2.mono (Mem.le_bare hle) rfl⟩, hE.own⟩
  inj := fun k e k' e' b' c1 c2 he he' hk h1 h2 => by
   rcases Tr.get_set he with ⟨rfl, rfl⟩ | ⟨hk1, ge⟩ <;> rcases Tr.get_set he' with ⟨rfl, rfl⟩ | ⟨hk2, ge'⟩
   ·exact hk rfl
   ·obtain ⟨b2, c2', hE⟩ := h.ent k' e' ge'
    rw [hver] at h1; rw [hle.mu _ _ hE.mu] at h2
    simp only [Option.some.injEq, Prod.mk.injEq] at h1 h2
    obtain ⟨rfl, rfl⟩ := h1; obtain ⟨rfl, rfl⟩ := h2
    exact hno k' e' _ ge' hk2 hE.mu
   ·obtain ⟨b2, c2', hE⟩ := h.ent k e ge
    rw [hver] at h2; rw [hle.mu _ _ hE.mu] at h1
    simp only [Option.some.injEq, Prod.mk.injEq] at h1 h2
    obtain ⟨rfl, rfl⟩ := h1; obtain ⟨rfl, rfl⟩ := h2
    exact hno k e _ ge hk1 hE.mu
   ·obtain ⟨b1, c1', hE1⟩ := h.ent k e ge
    obtain ⟨b2, c2', hE2⟩ := h.ent k' e' ge'
    rw [hle.mu _ _ hE1.mu] at h1; rw [hle.mu _ _ hE2.mu] at h2
    simp only [Option.some.injEq, Prod.mk.injEq] at h1 h2
    obtain ⟨rfl, rfl⟩ := h1; obtain ⟨rfl, rfl⟩ := h2
    exact h.inj k e k' e' _ _ _ ge ge' hk hE1.mu hE2.mu
  fresh := fun r x hr => by
   have hr' : (if r = ver then some (b, ct) else M.mu r) = some x := hr
   have := hv.le
   have := hv.lt
   by_cases hrv : r = ver
   ·omega
   ·rw [if_neg hrv] at hr'; have := h.fresh r x hr'; omega
  lt := h.lt
  old := h.old
  lo := h.lo
  new := h.new
  size := h.size }
theorem live_some {H : Tr Ent} {k r : Nat} {e : Ent} (h : live H k r = some e) : H.get k = some e ∧ e.ver = r := by
 unfold live at h
 cases hk : H.get k with
 | none => simp [hk] at h
 | some e' =>
  simp only [hk] at h
  cases hv : Nat.beq e'.ver r with
  | false => simp [hv] at h
  | true => simp only [hv, cond_true, Option.some.injEq] at h; subst h; exact ⟨rfl, Nat.eq_of_beq_eq_true hv⟩
end Go.Vm

namespace Go.Vm
open Go.RowKit (Below)
theorem Mem.row_of_cells {M : Mem} {b o : Nat} {arr : Array Value} {ty : TypeId} {f : Nat × Nat} (hb : M.w.heap[b]? = some (.cells arr ty f)) (hi : M.imm b) : M.row b o (arr.toList.drop o) :=
 fun i x hx => ⟨hi, by
  simp only [World.cell?, hb]
  have : arr.toList[o + i]? = some x := by rw [List.getElem?_drop] at hx; exact hx
  simpa using this⟩
theorem Mem.row_sub {M : Mem} {b o : Nat} {l1 l2 l3 : List Value} (h : M.row b o (l1 ++ l2 ++ l3)) : M.row b (o + l1.length) l2 := fun i x hx => by
 have := h (l1.length + i) x (by
  rw [List.append_assoc, List.getElem?_append_right (by omega), List.getElem?_append_left (by
   have := (List.getElem?_eq_some_iff.1 hx).1; omega)]
  simpa using hx)
 rw [Nat.add_assoc]; exact this
theorem Mem.row_take {M : Mem} {b o : Nat} {l : List Value} (n : Nat) (h : M.row b o l) : M.row b o (l.take n) := fun i x hx => by
 rw [List.getElem?_take] at hx
 split at hx
 ·exact h i x hx
 ·cases hx
theorem Mem.row_drop {M : Mem} {b o : Nat} {l : List Value} (n : Nat) (h : M.row b o l) : M.row b (o + n) (l.drop n) := fun i x hx => by
 rw [List.getElem?_drop] at hx; rw [Nat.add_assoc]; exact h _ x hx
theorem Mem.row_nil {M : Mem} {b o : Nat} : M.row b o [] := fun i x hx => by simp at hx
theorem flat_cons (y : Value) (ys : List Value) : flat (y :: ys) = y.cells.toList ++ flat ys := rfl
theorem flat_append (xs ys : List Value) : flat (xs ++ ys) = flat xs ++ flat ys := by simp [flat]
theorem Sized.cons {sz : Nat} {y : Value} {ys : List Value} : Sized sz (y :: ys) ↔ y.cells.size = sz ∧ Sized sz ys := by simp [Sized]
theorem Sized.append {sz : Nat} {xs ys : List Value} : Sized sz (xs ++ ys) ↔ Sized sz xs ∧ Sized sz ys := by
 simp only [Sized, List.mem_append]
 exact ⟨fun h => ⟨fun y hy => h y (.inl hy), fun y hy => h y (.inr hy)⟩, fun h y hy => hy.elim (h.1 y) (h.2 y)⟩
theorem Sized.sub {sz : Nat} {xs ys : List Value} (h : Sized sz ys) (hs : ∀ x ∈ xs, x ∈ ys) : Sized sz xs := fun x hx => h x (hs x hx)
theorem flat_length {sz : Nat} : ∀ {ys : List Value}, Sized sz ys → (flat ys).length = ys.length * sz
 | [], _ => by simp [flat]
 | y :: ys, h => by
  obtain ⟨h1, h2⟩ := Sized.cons.1 h
  rw [flat_cons, List.length_append, flat_length h2, List.length_cons, Nat.succ_mul]; simp [h1]; omega
theorem flat_drop {sz : Nat} {ys : List Value} (h : Sized sz ys) (n : Nat) : (flat ys).drop (n * sz) = flat (ys.drop n) := by
 by_cases hn : n ≤ ys.length
 ·have e : ys = ys.take n ++ ys.drop n := (List.take_append_drop n ys).symm
  have hs : Sized sz (ys.take n) := h.sub fun x hx => List.mem_of_mem_take hx
  conv => lhs; rw [e, flat_append]
  rw [List.drop_append_of_le_length (by rw [flat_length hs]; simp [Nat.min_eq_left hn])]
  rw [List.drop_of_length_le (by rw [flat_length hs]; simp [Nat.min_eq_left hn])]; simp
 ·rw [List.drop_of_length_le (l := ys) (by omega), List.drop_of_length_le (by rw [flat_length h]; exact Nat.mul_le_mul_right _ (by omega))]; rfl
theorem flat_take {sz : Nat} {ys : List Value} (h : Sized sz ys) (n : Nat) : (flat ys).take (n * sz) = flat (ys.take n) := by
 by_cases hn : n ≤ ys.length
 ·have e : ys = ys.take n ++ ys.drop n := (List.take_append_drop n ys).symm
  have hs : Sized sz (ys.take n) := h.sub fun x hx => List.mem_of_mem_take hx
  conv => lhs; rw [e, flat_append]
  rw [List.take_append_of_le_length (by rw [flat_length hs]; simp [Nat.min_eq_left hn])]
  rw [List.take_of_length_le (by rw [flat_length hs]; simp [Nat.min_eq_left hn])]
 ·rw [List.take_of_length_le (l := ys) (by omega), List.take_of_length_le (by rw [flat_length h]; exact Nat.mul_le_mul_right _ (by omega))]
theorem cells?_len {a : AV} {cs : List AV} (h : cells? a = some cs) {M : Mem} {y : Value} (hr : Rep M a y) : RepL M cs y.cells.toList := by
 have one : ∀ {a : AV}, Rep M a y → (∀ c, y ≠ .agg c) → RepL M [a] y.cells.toList := by
  intro a h hy
  have : y.cells = #[y] := by cases y <;> first | rfl | exact absurd rfl (hy _)
  rw [this]; simp only [RepL.cons_iff]; exact ⟨y, [], rfl, h, by simp⟩
 cases a with
 | agg l =>
  simp only [cells?] at h
  cases hb : l.all AV.single with
  | false => simp [hb] at h
  | true => simp only [hb, cond_true, Option.some.injEq] at h; subst h; unfold Rep at hr; obtain ⟨m, rfl, hr⟩ := hr; simpa [Value.cells] using hr
 | bad => simp [cells?, AV.single] at h
 | tup => simp [cells?, AV.single] at h
 | v x =>
  simp only [cells?, AV.single] at h
  cases hb : Value.single x with
  | false => simp [hb] at h
  | true =>
   simp only [hb, cond_true, Option.some.injEq] at h; subst h
   refine one hr ?_; unfold Rep at hr; subst hr; intro c hc; subst hc; simp [Value.single] at hb
 | ptr => simp only [cells?, AV.single, cond_true, Option.some.injEq] at h; subst h; refine one hr ?_; unfold Rep at hr; obtain ⟨_, _, _, rfl⟩ := hr; simp
 | eptr => simp only [cells?, AV.single, cond_true, Option.some.injEq] at h; subst h; refine one hr ?_; unfold Rep at hr; obtain ⟨_, _, _, rfl⟩ := hr; simp
 | sl => simp only [cells?, AV.single, cond_true, Option.some.injEq] at h; subst h; refine one hr ?_; unfold Rep at hr; obtain ⟨_, _, _, _, _, rfl, _⟩ := hr; simp
 | mp => simp only [cells?, AV.single, cond_true, Option.some.injEq] at h; subst h; refine one hr ?_; unfold Rep at hr; obtain ⟨_, _, _, rfl⟩ := hr; simp
 | itr => simp only [cells?, AV.single, cond_true, Option.some.injEq] at h; subst h; refine one hr ?_; unfold Rep at hr; obtain ⟨_, _, _, rfl⟩ := hr; simp
 | yld => simp only [cells?, AV.single, cond_true, Option.some.injEq] at h; subst h; refine one hr ?_; unfold Rep at hr; obtain ⟨_, _, _, rfl⟩ := hr; simp
 | rptr => simp only [cells?, AV.single, cond_true, Option.some.injEq] at h; subst h; refine one hr ?_; unfold Rep at hr; obtain ⟨_, _, _, rfl, _⟩ := hr; simp
 | rsl => simp only [cells?, AV.single, cond_true, Option.some.injEq] at h; subst h; refine one hr ?_; unfold Rep at hr; obtain ⟨_, _, _, rfl, _⟩ := hr; simp
 | rmp => simp only [cells?, AV.single, cond_true, Option.some.injEq] at h; subst h; refine one hr ?_; unfold Rep at hr; obtain ⟨_, _, _, rfl, _⟩ := hr; simp
 | fn => simp only [cells?, AV.single, cond_true, Option.some.injEq] at h; subst h; refine one hr ?_; unfold Rep at hr; obtain ⟨_, _, rfl, _⟩ := hr; simp
 | ifc => simp only [cells?, AV.single, cond_true, Option.some.injEq] at h; subst h; refine one hr ?_; unfold Rep at hr; obtain ⟨_, rfl, _⟩ := hr; simp
theorem flat_el {sz : Nat} {ys : List Value} (h : Sized sz ys) {i : Nat} {y : Value} (hi : ys[i]? = some y) : flat ys = flat (ys.take i) ++ y.cells.toList ++ flat (ys.drop (i + 1)) ∧ (flat (ys.take i)).length = i * sz := by
 obtain ⟨hlt, he⟩ := List.getElem?_eq_some_iff.1 hi
 have e : ys = ys.take i ++ y :: ys.drop (i + 1) := by
  rw [← he, List.getElem_cons_drop, List.take_append_drop]
 constructor
 ·conv => lhs; rw [e, flat_append, flat_cons]
  rw [List.append_assoc]
 ·rw [flat_length (h.sub fun x hx => List.mem_of_mem_take hx)]; simp [Nat.min_eq_left (Nat.le_of_lt hlt)]
section
variable {base : Nat} {im0 : Nat → Prop} {nv : Nat}
def FzOk (base : Nat) (im0 : Nat → Prop) (nv : Nat) (M : Mem) (H' : Tr Ent) (P : Mem → Prop) : Prop :=
 ∃ M', M'.w = M.w ∧ M.le M' ∧ M'.mu = M.mu ∧ SimH M' base im0 nv H' ∧ P M'
theorem freezeL_sound {fz : Tr Ent → AV → Option (AV × Tr Ent)}
  (hz : ∀ a M H a' H', fz H a = some (a', H') → SimH M base im0 nv H → FzOk base im0 nv M H' fun M' => ∀ y, Rep M a y → Rep M'.bare a' y) :
  ∀ (as : List AV) (M : Mem) (H : Tr Ent) (as' : List AV) (H' : Tr Ent), freezeL fz H as = some (as', H') → SimH M base im0 nv H →
   FzOk base im0 nv M H' fun M' => ∀ l, RepL M as l → RepL M'.bare as' l
 | [], M, H, as', H', h, hs => by
  simp only [freezeL, Option.some.injEq, Prod.mk.injEq] at h
  obtain ⟨rfl, rfl⟩ := h
  exact ⟨M, rfl, Mem.le_refl M, rfl, hs, fun l hl => by rw [RepL.nil_iff] at hl ⊢; exact hl⟩
 | a :: as, M, H, as', H', h, hs => by
  simp only [freezeL] at h
  cases h1 : fz H a with
  | none => simp [h1] at h
  | some p =>
   obtain ⟨a', H1⟩ := p
   simp only [h1] at h
   cases h2 : freezeL fz H1 as with
   | none => simp [h2] at h
   | some p2 =>
    obtain ⟨as2, H2⟩ := p2
    simp only [h2, Option.some.injEq, Prod.mk.injEq] at h
    obtain ⟨rfl, rfl⟩ := h
    obtain ⟨M1, hw1, hl1, hm1, hs1, hr1⟩ := hz a M H a' H1 h1 hs
    obtain ⟨M2, hw2, hl2, hm2, hs2, hr2⟩ := freezeL_sound hz as M1 H1 as2 H2 h2 hs1
    refine ⟨M2, hw2.trans hw1, Mem.le_trans hl1 hl2, hm2.trans hm1, hs2, fun l hl => ?_⟩
    rw [RepL.cons_iff] at hl ⊢
    obtain ⟨x, xs, rfl, hx, hxs⟩ := hl
    exact ⟨x, xs, rfl, (hr1 x hx).mono (Mem.le_bare hl2), hr2 xs (hxs.mono hl1)⟩
theorem mu_eq {M : Mem} {r b ct b' ct' : Nat} (h : M.mu r = some (b, ct)) (h' : M.mu r = some (b', ct')) : b = b' ∧ ct = ct' := by
 rw [h] at h'; simpa using h'
theorem freeze_sound : ∀ (n : Nat) (a : AV) (M : Mem) (H : Tr Ent) (a' : AV) (H' : Tr Ent), freeze n H a = some (a', H') → SimH M base im0 nv H →
  FzOk base im0 nv M H' fun M' => ∀ y, Rep M a y → Rep M'.bare a' y
 | 0, a, M, H, a', H', h, _ => by simp [freeze] at h
 | n + 1, a, M, H, a', H', h, hs => by
  have ih := freezeL_sound (freeze_sound n)
  have self : ∀ {x : AV}, (∀ y, Rep M x y → Rep M.bare x y) → some (x, H) = some (a', H') → a = x → FzOk base im0 nv M H' fun M' => ∀ y, Rep M a y → Rep M'.bare a' y := by
   intro x hx he hax
   simp only [Option.some.injEq, Prod.mk.injEq] at he
   obtain ⟨rfl, rfl⟩ := he
   subst hax
   exact ⟨M, rfl, Mem.le_refl M, rfl, hs, hx⟩
  cases a with
  | bad => simp [freeze] at h
  | itr => simp [freeze] at h
  | yld => simp [freeze] at h
  | v x => exact self (fun y hy => by unfold Rep at hy ⊢; exact hy) (by simpa [freeze] using h) rfl
  | rptr cs => exact self (fun y hy => by unfold Rep at hy ⊢; exact hy) (by simpa [freeze] using h) rfl
  | rsl sz es x => exact self (fun y hy => by unfold Rep at hy ⊢; exact hy) (by simpa [freeze] using h) rfl
  | rmp ks vs => exact self (fun y hy => by unfold Rep at hy ⊢; exact hy) (by simpa [freeze] using h) rfl
  | agg cs =>
   simp only [freeze, Option.map_eq_some_iff] at h
   obtain ⟨⟨cs', H1⟩, h1, he⟩ := h
   simp only [Prod.mk.injEq] at he; obtain ⟨rfl, rfl⟩ := he
   obtain ⟨M1, hw, hl, hmm, hs1, hr⟩ := ih cs M H cs' H1 h1 hs
   exact ⟨M1, hw, hl, hmm, hs1, fun y hy => by unfold Rep at hy ⊢; obtain ⟨l, rfl, hy⟩ := hy; exact ⟨l, rfl, hr l hy⟩⟩
  | tup cs =>
   simp only [freeze, Option.map_eq_some_iff] at h
   obtain ⟨⟨cs', H1⟩, h1, he⟩ := h
   simp only [Prod.mk.injEq] at he; obtain ⟨rfl, rfl⟩ := he
   obtain ⟨M1, hw, hl, hmm, hs1, hr⟩ := ih cs M H cs' H1 h1 hs
   exact ⟨M1, hw, hl, hmm, hs1, fun y hy => by unfold Rep at hy ⊢; obtain ⟨l, rfl, hy⟩ := hy; exact ⟨l, rfl, hr l hy⟩⟩
  | ifc t x =>
   simp only [freeze, Option.map_eq_some_iff] at h
   obtain ⟨⟨x', H1⟩, h1, he⟩ := h
   simp only [Prod.mk.injEq] at he; obtain ⟨rfl, rfl⟩ := he
   obtain ⟨M1, hw, hl, hmm, hs1, hr⟩ := freeze_sound n x M H x' H1 h1 hs
   exact ⟨M1, hw, hl, hmm, hs1, fun y hy => by unfold Rep at hy ⊢; obtain ⟨z, rfl, hy⟩ := hy; exact ⟨z, rfl, hr z hy⟩⟩
  | fn f as bs =>
   simp only [freeze] at h
   cases h1 : freezeL (freeze n) H as with
   | none => simp [h1] at h
   | some p =>
    obtain ⟨as', H1⟩ := p
    simp only [h1, Option.map_eq_some_iff] at h
    obtain ⟨⟨bs', H2⟩, h2, he⟩ := h
    simp only [Prod.mk.injEq] at he; obtain ⟨rfl, rfl⟩ := he
    obtain ⟨M1, hw1, hl1, hm1, hs1, hr1⟩ := ih as M H as' H1 h1 hs
    obtain ⟨M2, hw2, hl2, hm2, hs2, hr2⟩ := ih bs M1 H1 bs' H2 h2 hs1
    refine ⟨M2, hw2.trans hw1, Mem.le_trans hl1 hl2, hm2.trans hm1, hs2, fun y hy => ?_⟩
    unfold Rep at hy ⊢
    obtain ⟨l, c, rfl, k1, k2⟩ := hy
    exact ⟨l, c, rfl, (hr1 l k1).mono (Mem.le_bare hl2), hr2 c (k2.mono hl1)⟩
  | ptr k r off =>
   simp only [freeze] at h
   cases hl : live H k r with
   | none => simp [hl] at h
   | some e =>
    obtain ⟨hk, hv⟩ := live_some hl
    obtain ⟨ver, fz, blk⟩ := e
    simp only at hv; subst hv
    obtain ⟨b, ct, hE⟩ := hs.ent k _ hk
    cases blk <;> cases fz <;> simp only [hl] at h <;> try (cases h; done)
    ·rename_i cs
     cases h1 : freezeL (freeze n) H cs with
     | none => simp [h1] at h
     | some p =>
      obtain ⟨cs', H1⟩ := p
      simp only [h1] at h
      cases hl1 : live H1 k ver with
      | none => simp [hl1] at h
      | some e1 =>
       simp only [hl1, Option.isSome_some, cond_true, Option.some.injEq, Prod.mk.injEq] at h
       obtain ⟨rfl, rfl⟩ := h
       obtain ⟨hk1, hv1⟩ := live_some hl1
       obtain ⟨M1, hw1, hle1, hm1, hs1, hr1⟩ := ih cs M H cs' H1 h1 hs
       obtain ⟨arr, ty, hb, hrep⟩ := hE.blk
       obtain ⟨b1, ct1, hE1⟩ := hs1.ent k e1 hk1
       have hmu := mu_eq (hle1.mu _ _ hE.mu) (hv1 ▸ hE1.mu)
       obtain ⟨rfl, rfl⟩ := hmu
       have hblk : BlkIs M1.bare b ct (.box cs') := ⟨arr, ty, by show M1.w.heap[b]? = _; rw [hw1]; exact hb, hr1 _ hrep⟩
       obtain ⟨hle2, hs2⟩ := hs1.freeze hk1 hE1 (.box cs') hblk
       rw [hv1] at hs2
       refine ⟨{ M1 with imm := fun x => M1.imm x ∨ x = b }, hw1, Mem.le_trans hle1 hle2, hm1, hs2, fun y hy => ?_⟩
       unfold Rep at hy ⊢
       obtain ⟨b2, ct2, hm, rfl⟩ := hy
       obtain ⟨rfl, rfl⟩ := mu_eq hE.mu hm
       refine ⟨b, off, arr.toList.drop off, rfl, ((hr1 _ hrep).mono (Mem.le_bare hle2)).drop off, ?_⟩
       exact Mem.row_of_cells (M := Mem.bare { M1 with imm := fun x => M1.imm x ∨ x = b }) (by show M1.w.heap[b]? = _; rw [hw1]; exact hb) (.inr rfl)
    ·rename_i cs
     simp only [Option.some.injEq, Prod.mk.injEq] at h
     obtain ⟨rfl, rfl⟩ := h
     refine ⟨M, rfl, Mem.le_refl M, rfl, hs, fun y hy => ?_⟩
     unfold Rep at hy ⊢
     obtain ⟨b2, ct2, hm, rfl⟩ := hy
     obtain ⟨rfl, rfl⟩ := mu_eq hE.mu hm
     obtain ⟨hi, arr, ty, hb, hrep⟩ := hE.fz rfl
     exact ⟨b, off, arr.toList.drop off, rfl, hrep.drop off, Mem.row_of_cells (M := M.bare) hb hi⟩
  | eptr k r sz i off =>
   simp only [freeze] at h
   cases hl : live H k r with
   | none => simp [hl] at h
   | some e =>
    obtain ⟨hk, hv⟩ := live_some hl
    obtain ⟨ver, fz, blk⟩ := e
    simp only at hv; subst hv
    obtain ⟨b, ct, hE⟩ := hs.ent k _ hk
    have close : ∀ {N : Mem} {es : List AV} {el : AV} {cs : List AV} {arr : Array Value} {ty : TypeId} {ys : List Value} (hbn : N.w.heap[b]? = some (.cells arr ty (0, 0))) (hi : N.imm b) (hrep : RepL N.bare es ys)
      (hsz : Sized sz ys) (htk : arr.toList.take (es.length * sz) = flat ys) (hel : es[i]? = some el) (hcs : cells? el = some cs) (y : Value), Rep M (.eptr k ver sz i off) y → Rep N.bare (.rptr (cs.drop off)) y := by
     intro N es el cs arr ty ys hbn hi hrep hsz htk hel hcs y hy
     unfold Rep at hy ⊢
     obtain ⟨b2, ct2, hm, rfl⟩ := hy
     obtain ⟨rfl, rfl⟩ := mu_eq hE.mu hm
     obtain ⟨ye, hye, hre⟩ := hrep.get hel
     obtain ⟨e1, e2⟩ := flat_el hsz hye
     have hrow : N.bare.row b 0 (flat ys) := by rw [← htk]; exact Mem.row_take _ (Mem.row_of_cells (M := N.bare) (o := 0) hbn hi)
     rw [e1] at hrow
     have := Mem.row_drop off (Mem.row_sub hrow)
     rw [e2, Nat.zero_add] at this
     exact ⟨b, _, _, rfl, (cells?_len hcs hre).drop off, this⟩
    cases blk <;> cases fz <;> simp only [hl] at h <;> try (cases h; done)
    ·rename_i sz' es x
     cases h1 : freezeL (freeze n) H es with
     | none => simp [h1] at h
     | some p =>
      obtain ⟨es', H1⟩ := p
      simp only [h1] at h
      cases hsz : Nat.beq sz sz' with
      | false => simp [hsz] at h
      | true =>
      have hsz' := Nat.eq_of_beq_eq_true hsz; subst hsz'
      cases hl1 : live H1 k ver with
      | none => simp [hl1] at h
      | some e1 =>
       simp only [hl1, hsz, Option.isSome_some, Bool.and_self, cond_true, Option.bind_eq_some_iff, Option.map_eq_some_iff] at h
       obtain ⟨el, hel, cs, hcs, he⟩ := h
       simp only [Prod.mk.injEq] at he
       obtain ⟨rfl, rfl⟩ := he
       obtain ⟨hk1, hv1⟩ := live_some hl1
       obtain ⟨M1, hw1, hle1, hm1, hs1, hr1⟩ := ih es M H es' H1 h1 hs
       obtain ⟨arr, ty, ys, hb, hrep, hsd, has, hlen, hex, htk⟩ := hE.blk
       obtain ⟨b1, ct1, hE1⟩ := hs1.ent k e1 hk1
       have hmu := mu_eq (hle1.mu _ _ hE.mu) (hv1 ▸ hE1.mu)
       obtain ⟨rfl, rfl⟩ := hmu
       have hlen' : es'.length = es.length := by rw [← (hr1 _ hrep).length, hrep.length]
       have hb1 : M1.w.heap[b]? = some (.cells arr ty (0, 0)) := by rw [hw1]; exact hb
       have hblk : BlkIs M1.bare b ct (.arr sz es' x) := ⟨arr, ty, ys, hb1, hr1 _ hrep, hsd, has, by omega, fun hx => by rw [hlen']; exact hex hx, by rw [hlen']; exact htk⟩
       obtain ⟨hle2, hs2⟩ := hs1.freeze hk1 hE1 (.arr sz es' x) hblk
       rw [hv1] at hs2
       refine ⟨{ M1 with imm := fun x => M1.imm x ∨ x = b }, hw1, Mem.le_trans hle1 hle2, hm1, hs2, fun y hy => ?_⟩
       exact close (N := { M1 with imm := fun x => M1.imm x ∨ x = b }) hb1 (.inr rfl) ((hr1 _ hrep).mono (Mem.le_bare hle2)) hsd (by rw [hlen']; exact htk) hel hcs y hy
    ·rename_i sz' es x
     cases hsz : Nat.beq sz sz' with
     | false => simp [hsz] at h
     | true =>
     have hsz' := Nat.eq_of_beq_eq_true hsz; subst hsz'
     simp only [hsz, cond_true, Option.bind_eq_some_iff, Option.map_eq_some_iff] at h
     obtain ⟨el, hel, cs, hcs, he⟩ := h
     simp only [Prod.mk.injEq] at he
     obtain ⟨rfl, rfl⟩ := he
     refine ⟨M, rfl, Mem.le_refl M, rfl, hs, fun y hy => ?_⟩
     obtain ⟨hi, arr, ty, ys, hb, hrep, hsd, has, hlen, hex, htk⟩ := hE.fz rfl
     exact close hb hi hrep hsd htk hel hcs y hy
  | sl k r sz lo len =>
   simp only [freeze] at h
   cases hl : live H k r with
   | none => simp [hl] at h
   | some e =>
    obtain ⟨hk, hv⟩ := live_some hl
    obtain ⟨ver, fz, blk⟩ := e
    simp only at hv; subst hv
    obtain ⟨b, ct, hE⟩ := hs.ent k _ hk
    have close : ∀ {N : Mem} {es : List AV} {x : Bool} {arr : Array Value} {ty : TypeId} {ys : List Value} (hbn : N.w.heap[b]? = some (.cells arr ty (0, 0))) (hi : N.imm b) (hrep : RepL N.bare es ys)
      (hsz : Sized sz ys) (hlen : lo + len ≤ es.length) (hex : x = true → es.length = ct) (htk : arr.toList.take (es.length * sz) = flat ys) (y : Value), Rep M (.sl k ver sz lo len) y →
      Rep N.bare (.rsl sz ((es.drop lo).take len) (x && Nat.beq (lo + len) es.length)) y := by
     intro N es x arr ty ys hbn hi hrep hsz hlen hex htk y hy
     unfold Rep at hy ⊢
     obtain ⟨b2, ct2, o, hm, hct, rfl, ho⟩ := hy
     obtain ⟨rfl, rfl⟩ := mu_eq hE.mu hm
     have hlen2 : ((es.drop lo).take len).length = len := by simp; omega
     refine ⟨some ⟨b, o, none⟩, ct - lo, (ys.drop lo).take len, by rw [hlen2], by rw [hlen2]; omega, (hrep.drop lo).take len, hsz.sub fun x hx => List.mem_of_mem_drop (List.mem_of_mem_take hx), .inl ⟨b, o, rfl, ?_⟩, fun hx => ?_⟩
     ·by_cases hlo : lo < ct
      ·rw [ho hlo]
       have hrow : N.bare.row b 0 (flat ys) := by rw [← htk]; exact Mem.row_take _ (Mem.row_of_cells (M := N.bare) (o := 0) hbn hi)
       have h2 := Mem.row_drop (lo * sz) hrow
       rw [flat_drop hsz, Nat.zero_add] at h2
       have h3 := Mem.row_take (len * sz) h2
       rwa [flat_take (hsz.sub fun x hx => List.mem_of_mem_drop hx)] at h3
      ·have : len = 0 := by omega
       subst this; simp [flat, Mem.row_nil]
     ·rw [hlen2]
      simp only [Bool.and_eq_true] at hx
      have := Nat.eq_of_beq_eq_true hx.2
      have := hex hx.1
      omega
    cases blk <;> cases fz <;> simp only [hl] at h <;> try (cases h; done)
    ·rename_i sz' es x
     cases h1 : freezeL (freeze n) H es with
     | none => simp [h1] at h
     | some p =>
      obtain ⟨es', H1⟩ := p
      simp only [h1] at h
      cases hsz : Nat.beq sz sz' with
      | false => simp [hsz] at h
      | true =>
      have hsz' := Nat.eq_of_beq_eq_true hsz; subst hsz'
      cases hle : Nat.ble (lo + len) es'.length with
      | false => simp [hle] at h
      | true =>
      cases hl1 : live H1 k ver with
      | none => simp [hl1] at h
      | some e1 =>
       simp only [hl1, hsz, hle, Option.isSome_some, Bool.and_self, cond_true, Option.some.injEq, Prod.mk.injEq] at h
       obtain ⟨rfl, rfl⟩ := h
       obtain ⟨hk1, hv1⟩ := live_some hl1
       obtain ⟨M1, hw1, hle1, hm1, hs1, hr1⟩ := ih es M H es' H1 h1 hs
       obtain ⟨arr, ty, ys, hb, hrep, hsd, has, hlen, hex, htk⟩ := hE.blk
       obtain ⟨b1, ct1, hE1⟩ := hs1.ent k e1 hk1
       have hmu := mu_eq (hle1.mu _ _ hE.mu) (hv1 ▸ hE1.mu)
       obtain ⟨rfl, rfl⟩ := hmu
       have hlen' : es'.length = es.length := by rw [← (hr1 _ hrep).length, hrep.length]
       have hb1 : M1.w.heap[b]? = some (.cells arr ty (0, 0)) := by rw [hw1]; exact hb
       have hblk : BlkIs M1.bare b ct (.arr sz es' x) := ⟨arr, ty, ys, hb1, hr1 _ hrep, hsd, has, by omega, fun hx => by rw [hlen']; exact hex hx, by rw [hlen']; exact htk⟩
       obtain ⟨hle2, hs2⟩ := hs1.freeze hk1 hE1 (.arr sz es' x) hblk
       rw [hv1] at hs2
       refine ⟨{ M1 with imm := fun x => M1.imm x ∨ x = b }, hw1, Mem.le_trans hle1 hle2, hm1, hs2, fun y hy => ?_⟩
       exact close (N := { M1 with imm := fun x => M1.imm x ∨ x = b }) hb1 (.inr rfl) ((hr1 _ hrep).mono (Mem.le_bare hle2)) hsd (Nat.le_of_ble_eq_true hle) (fun hx => by rw [hlen']; exact hex hx) (by rw [hlen']; exact htk) y hy
    ·rename_i sz' es x
     cases hsz : Nat.beq sz sz' with
     | false => simp [hsz] at h
     | true =>
     have hsz' := Nat.eq_of_beq_eq_true hsz; subst hsz'
     cases hle : Nat.ble (lo + len) es.length with
     | false => simp [hle] at h
     | true =>
     simp only [hsz, hle, Bool.and_self, cond_true, Option.some.injEq, Prod.mk.injEq] at h
     obtain ⟨rfl, rfl⟩ := h
     refine ⟨M, rfl, Mem.le_refl M, rfl, hs, fun y hy => ?_⟩
     obtain ⟨hi, arr, ty, ys, hb, hrep, hsd, has, hlen, hex, htk⟩ := hE.fz rfl
     exact close hb hi hrep hsd (Nat.le_of_ble_eq_true hle) hex htk y hy
  | mp k r =>
   simp only [freeze] at h
   cases hl : live H k r with
   | none => simp [hl] at h
   | some e =>
    obtain ⟨hk, hv⟩ := live_some hl
    obtain ⟨ver, fz, blk⟩ := e
    simp only at hv; subst hv
    obtain ⟨b, ct, hE⟩ := hs.ent k _ hk
    cases blk <;> cases fz <;> simp only [hl] at h <;> try (cases h; done)
    ·rename_i ks vs
     cases h0 : freezeL (freeze n) H ks with
     | none => simp [h0] at h
     | some p0 =>
     obtain ⟨ks', H0⟩ := p0
     simp only [h0] at h
     cases h1 : freezeL (freeze n) H0 vs with
     | none => simp [h1] at h
     | some p =>
      obtain ⟨vs', H1⟩ := p
      simp only [h1] at h
      cases hl1 : live H1 k ver with
      | none => simp [hl1] at h
      | some e1 =>
       simp only [hl1, Option.isSome_some, cond_true, Option.some.injEq, Prod.mk.injEq] at h
       obtain ⟨rfl, rfl⟩ := h
       obtain ⟨hk1, hv1⟩ := live_some hl1
       obtain ⟨M0, hw0, hle0, hm0, hs0, hr0⟩ := ih ks M H ks' H0 h0 hs
       obtain ⟨M1, hw1, hle1, hm1, hs1, hr1⟩ := ih vs M0 H0 vs' H1 h1 hs0
       obtain ⟨es, clock, hb, hrk, hrv⟩ := hE.blk
       obtain ⟨b1, ct1, hE1⟩ := hs1.ent k e1 hk1
       have hmu := mu_eq (hle1.mu _ _ (hle0.mu _ _ hE.mu)) (hv1 ▸ hE1.mu)
       obtain ⟨rfl, rfl⟩ := hmu
       have hb1 : M1.w.heap[b]? = some (.map es clock) := by rw [hw1, hw0]; exact hb
       have hblk : BlkIs M1.bare b ct (.map ks' vs') := ⟨es, clock, hb1, (hr0 _ hrk).mono (Mem.le_bare hle1), hr1 _ (hrv.mono hle0)⟩
       obtain ⟨hle2, hs2⟩ := hs1.freeze hk1 hE1 (.map ks' vs') hblk
       rw [hv1] at hs2
       refine ⟨{ M1 with imm := fun x => M1.imm x ∨ x = b }, hw1.trans hw0, Mem.le_trans hle0 (Mem.le_trans hle1 hle2), hm1.trans hm0, hs2, fun y hy => ?_⟩
       unfold Rep at hy ⊢
       obtain ⟨b2, ct2, hm, rfl⟩ := hy
       obtain ⟨rfl, rfl⟩ := mu_eq hE.mu hm
       exact ⟨b, es, clock, rfl, .inr rfl, hb1, ((hr0 _ hrk).mono (Mem.le_bare hle1)).mono (Mem.le_bare hle2), (hr1 _ (hrv.mono hle0)).mono (Mem.le_bare hle2)⟩
    ·rename_i ks vs
     simp only [Option.some.injEq, Prod.mk.injEq] at h
     obtain ⟨rfl, rfl⟩ := h
     refine ⟨M, rfl, Mem.le_refl M, rfl, hs, fun y hy => ?_⟩
     unfold Rep at hy ⊢
     obtain ⟨b2, ct2, hm, rfl⟩ := hy
     obtain ⟨rfl, rfl⟩ := mu_eq hE.mu hm
     obtain ⟨hi, es, clock, hb, hrk, hrv⟩ := hE.fz rfl
     exact ⟨b, es, clock, rfl, hi, hb, hrk, hrv⟩
theorem frz_sound {a a' : AV} {M : Mem} {H H' : Tr Ent} (h : frz H a = some (a', H')) (hs : SimH M base im0 nv H) : FzOk base im0 nv M H' fun M' => ∀ y, Rep M a y → Rep M'.bare a' y :=
 freeze_sound 20 a M H a' H' h hs
theorem frzL_sound {as as' : List AV} {M : Mem} {H H' : Tr Ent} (h : frzL H as = some (as', H')) (hs : SimH M base im0 nv H) : FzOk base im0 nv M H' fun M' => ∀ l, RepL M as l → RepL M'.bare as' l :=
 freezeL_sound (freeze_sound 20) as M H as' H' h hs
end
end Go.Vm
