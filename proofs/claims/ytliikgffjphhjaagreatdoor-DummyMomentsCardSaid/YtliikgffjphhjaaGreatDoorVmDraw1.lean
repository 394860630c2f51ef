/- A small evaluator over abstract values: what an operation looks at. -/
import Derived.Test.YtliikgffjphhjaaGreatDoorVmCode4
namespace Go.Vm
open Go.RowKit (Below)

theorem map_congr_mem {α β : Type} {f g : α → β} {l : List α} (h : ∀ x ∈ l, f x = g x) : l.map f = l.map g := List.map_congr_left h

theorem aop_congr {C : Cx} {ev ev' : Operand → AV} {H : Tr Ent} {key ver : Nat} {t : TypeId} {op : Op} (h : ∀ x ∈ op.operands, ev x = ev' x) : aop C ev H key ver t op = aop C ev' H key ver t op := by
  cases op <;> simp only [Op.operands] at h
  case build t ps =>
    have : (ps.toList.map fun (x : Nat × Operand) => (x.1, ev x.2)) = (ps.toList.map fun (x : Nat × Operand) => (x.1, ev' x.2)) := map_congr_mem fun x hx => by
      rw [h x.2 (by simpa using ⟨x.1, by simpa using hx⟩)]
    simp only [aop]; rw [this]
  case buildSlice t n ps =>
    have : (ps.toList.map fun (x : Nat × Operand) => (x.1, ev x.2)) = (ps.toList.map fun (x : Nat × Operand) => (x.1, ev' x.2)) := map_congr_mem fun x hx => by
      rw [h x.2 (by simpa using ⟨x.1, by simpa using hx⟩)]
    simp only [aop]; rw [this]
  case makeFunc f as bs =>
    have h1 : as.toList.map ev = as.toList.map ev' := map_congr_mem fun x hx => h x (by simp only [Array.mem_append]; exact .inl (by simpa using hx))
    have h2 : bs.toList.map ev = bs.toList.map ev' := map_congr_mem fun x hx => h x (by simp only [Array.mem_append]; exact .inr (by simpa using hx))
    simp only [aop, h1, h2]
  case slice t x l hi m =>
    have h1 : ev x = ev' x := h x (by simp)
    have h2 : l.map ev = l.map ev' := by cases l with | none => rfl | some y => simp [h y (by simp)]
    have h3 : hi.map ev = hi.map ev' := by cases hi with | none => rfl | some y => simp [h y (by simp)]
    have h4 : m.map ev = m.map ev' := by cases m with | none => rfl | some y => simp [h y (by simp)]
    simp only [aop, h1, h2, h3, h4]
  case call c =>
    obtain ⟨callee, args, ats⟩ := c
    cases callee with
    | builtin b =>
      have h1 : args.toList.map ev = args.toList.map ev' := map_congr_mem fun x hx => h x (by simp only [Call.operands, Array.mem_append]; exact .inr (by simpa using hx))
      simp only [aop, h1]
    | _ => simp [aop]
  case makeMap t r => cases r <;> simp [aop]
  case next x b =>
    have h1 : ev x = ev' x := h x (by simp)
    cases b <;> simp [aop, h1]
  all_goals first | rfl | (rename_i x; have hx := h x (by simp); simp only [aop, hx]; done) | (rename_i x _; have hx := h x (by simp); simp only [aop, hx]; done) | skip
  case pick c a b => simp only [aop, h c (by simp), h a (by simp), h b (by simp)]
  case store t a x => simp only [aop, h a (by simp), h x (by simp)]
  case binOp o t a b t' => simp only [aop, h a (by simp), h b (by simp)]
  case makeSlice t a b => simp only [aop, h a (by simp), h b (by simp)]
  case indexAddr t a b => simp only [aop, h a (by simp), h b (by simp)]
  case index t a b => simp only [aop, h a (by simp), h b (by simp)]
  case lookup t a b c => simp only [aop, h a (by simp), h b (by simp)]
  case mapUpdate t a b c => simp only [aop, h a (by simp), h b (by simp), h c (by simp)]

/-- All that V knows H knows. -/
def Sub (V H : Tr Ent) : Prop := ∀ k e, V.get k = some e → H.get k = some e

theorem Sub.live {V H : Tr Ent} (h : Sub V H) {k r : Nat} {e : Ent} (hl : live V k r = some e) : Go.Vm.live H k r = some e := by
  obtain ⟨h1, h2⟩ := live_some hl
  unfold Go.Vm.live
  rw [h k e h1]
  have : Nat.beq e.ver r = true := by rw [h2]; exact Nat.beq_refl r
  simp [this]

theorem Sub.elems {V H : Tr Ent} (h : Sub V H) {a : AV} {xs : List AV} (he : elemsOf V a = some xs) : elemsOf H a = some xs := by
  unfold elemsOf at he ⊢
  split at he
  · exact he
  · exact he
  · split at he
    · rename_i hl
      rw [h.live hl]; exact he
    · cases he
  · cases he

theorem Sub.leaf (H : Tr Ent) : Sub .leaf H := fun k e he => by rw [Tr.get_leaf] at he; cases he

theorem SimH.sub {M : Mem} {base : Nat} {im0 : Nat → Prop} {nv : Nat} {V H : Tr Ent} (h : SimH M base im0 nv H) (hs : Sub V H) : SimH M base im0 nv V :=
  { h with
    ent := fun k e he => h.ent k e (hs k e he)
    inj := fun k1 e1 k2 e2 b c1 c2 h1 h2 => h.inj k1 e1 k2 e2 b c1 c2 (hs _ _ h1) (hs _ _ h2) }

/-- An operation that turns one block only, on a heap of which more is known. -/
theorem aop_own {C : Cx} {ev : Operand → AV} {V H V' : Tr Ent} {key ver k : Nat} {t : TypeId} {op : Op} {r : AV} {e : Ent} (ho : ownOk ev key k op = true) (hs : Sub V H) (h : aop C ev V key ver t op = some (r, V'))
    (he : V'.get k = some e) : ∃ H'', aop C ev H key ver t op = some (r, H'') ∧ H''.get k = some e ∧ ∀ j, j ≠ k → H''.get j = H.get j := by
  have fin : ∀ {x : Ent}, V' = V.set k x → (H.set k x).get k = some e ∧ ∀ j, j ≠ k → (H.set k x).get j = H.get j := by
    intro x hx
    subst hx
    rw [Tr.get_set_self] at he
    exact ⟨by rw [Tr.get_set_self]; exact he, fun j hj => Tr.get_set_ne hj⟩
  unfold ownOk at ho
  split at ho
  · have := Nat.eq_of_beq_eq_true ho; subst this
    simp only [aop] at h ⊢
    split at h
    · simp only [Option.some.injEq, Prod.mk.injEq] at h
      obtain ⟨rfl, h⟩ := h
      exact ⟨_, rfl, fin h.symm⟩
    · cases h
  · have := Nat.eq_of_beq_eq_true ho; subst this
    simp only [aop, Option.map_eq_some_iff, Prod.mk.injEq] at h ⊢
    obtain ⟨cs, hc, rfl, h⟩ := h
    exact ⟨_, ⟨cs, hc, rfl, rfl⟩, fin h.symm⟩
  · have := Nat.eq_of_beq_eq_true ho; subst this
    simp only [aop, Option.some.injEq, Prod.mk.injEq] at h ⊢
    obtain ⟨rfl, h⟩ := h
    exact ⟨_, ⟨rfl, rfl⟩, fin h.symm⟩
  · have := Nat.eq_of_beq_eq_true ho; subst this
    simp only [aop, amakeSlice] at h ⊢
    split at h
    · generalize hc : (_ && _) = c at h ⊢
      cases c with
      | false => simp at h
      | true =>
        simp only [cond_true, Option.some.injEq, Prod.mk.injEq] at h ⊢
        obtain ⟨rfl, h⟩ := h
        exact ⟨_, ⟨rfl, rfl⟩, fin h.symm⟩
    · cases h
  · have := Nat.eq_of_beq_eq_true ho; subst this
    simp only [aop] at h ⊢
    split at h
    · simp only [Option.some.injEq, Prod.mk.injEq] at h
      obtain ⟨rfl, h⟩ := h
      exact ⟨_, rfl, fin h.symm⟩
    · cases h
  · rename_i t' a x
    split at ho
    · rename_i k' r' off ha
      have := Nat.eq_of_beq_eq_true ho; subst this
      simp only [aop, ha, astore, Option.map_eq_some_iff, Prod.mk.injEq] at h ⊢
      obtain ⟨H1, h, rfl, rfl⟩ := h
      split at h
      · rename_i ti vs hti hvs
        cases hb : Nat.beq vs.length ti.size with
        | false => simp [hb] at h
        | true =>
          simp only [hb, Bool.not_true, cond_false] at h ⊢
          split at h
          · rename_i ver' cs hl
            rw [hs.live hl]
            simp only
            cases hb2 : Nat.ble (off + vs.length) cs.length with
            | false => simp [hb2] at h
            | true =>
              simp only [hb2, cond_true, Option.some.injEq] at h ⊢
              exact ⟨_, ⟨_, rfl, trivial, rfl⟩, fin h.symm⟩
          · cases h
      · cases h
    · cases ho
  · rename_i args ats
    simp only [Bool.and_eq_true] at ho
    obtain ⟨ho1, ho⟩ := ho
    have := Nat.eq_of_beq_eq_true ho1; subst this
    split at ho
    · rename_i s rest hargs
      simp only [aop, hargs, List.map_cons, abuiltin] at h ⊢
      cases rest with
      | nil => simp at h
      | cons x rest =>
        cases rest with
        | cons => simp at h
        | nil =>
          simp only [List.map_cons, List.map_nil, aappend] at h ⊢
          split at h
          · rename_i st xt hats
            split at h
            · rename_i sz ag by_ z xd xs hti hxd hxs
              simp only [hti, hxd, hs.elems hxs]
              cases hq : notSeq xd with
              | true => simp [hq] at h
              | false =>
                simp only [hq, cond_false] at h ⊢
                cases hz : (allSz sz xs && Nat.beq z.cells.size sz) with
                | false => simp [hz] at h
                | true =>
                  simp only [hz, Bool.not_true, cond_false] at h ⊢
                  cases xs with
                  | nil =>
                    try simp only at h ⊢
                    have same : ∀ {a : AV}, some (a, V) = some (r, V') → ∃ H'', some (a, H) = some (r, H'') ∧ H''.get k = some e ∧ ∀ j, j ≠ k → H''.get j = H.get j := by
                      intro a ha
                      simp only [Option.some.injEq, Prod.mk.injEq] at ha
                      obtain ⟨rfl, rfl⟩ := ha
                      exact ⟨H, rfl, hs _ _ he, fun _ _ => rfl⟩
                    split at h
                    · exact same h
                    · exact same h
                    · exact same h
                    · cases h
                  | cons x1 xs =>
                    try simp only at h ⊢
                    have fresh : ∀ {es : List AV}, (bif Nat.ble (es.length * by_) 35184372088832 && Nat.ble es.length 35184372088832 && !Nat.beq by_ 0 then
                        some (AV.sl k ver sz 0 es.length, V.set k { ver := ver, fz := false, blk := .arr sz es false }) else none) = some (r, V') →
                        ∃ H'', (bif Nat.ble (es.length * by_) 35184372088832 && Nat.ble es.length 35184372088832 && !Nat.beq by_ 0 then
                        some (AV.sl k ver sz 0 es.length, H.set k { ver := ver, fz := false, blk := .arr sz es false }) else none) = some (r, H'') ∧ H''.get k = some e ∧ ∀ j, j ≠ k → H''.get j = H.get j := by
                      intro es hx
                      cases hc : (Nat.ble (es.length * by_) 35184372088832 && Nat.ble es.length 35184372088832 && !Nat.beq by_ 0) with
                      | false => simp [hc] at hx
                      | true =>
                        simp only [hc, cond_true, Option.some.injEq, Prod.mk.injEq] at hx ⊢
                        obtain ⟨rfl, hx⟩ := hx
                        exact ⟨_, ⟨rfl, rfl⟩, fin hx.symm⟩
                    split at h
                    · exact fresh h
                    · rename_i sz' es hse
                      cases hb : Nat.beq sz sz' with
                      | false => simp [hb] at h
                      | true => simp only [hb, cond_true] at h ⊢; exact fresh h
                    · rename_i hse
                      rw [hse] at ho; simp at ho
                    · cases h
            · cases h
          · cases h
    · cases ho
  · cases ho
end Go.Vm
