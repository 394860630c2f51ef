/- A small evaluator over abstract values: every operation that calls no function is sound, in one theorem. -/
import Derived.Test.YtliikgffjphhjaaGreatDoorVmSnd8
namespace Go.Vm
open Go.RowKit (Below)

section
variable {M : Mem} {base : Nat} {im0 : Nat → Prop} {nv : Nat} {H : Tr Ent}

/-- The model's operation brings a value for its slot. -/
def Brings (P : Program) (s : Sem Next) (w : World) (y : Value) (w' : World) : Prop :=
  s.run P w = .ok (.value y) w' ∨ (y = undef ∧ s.run P w = .ok .skip w')

theorem brings_v {P : Program} {s : Sem Value} {w w' : World} {y : Value} (h : s.run P w = .ok y w') : Brings P (do pure (.value (← s))) w y w' :=
  .inl (by simp only [Sem.run_bind, h, Result.andThen_ok, Sem.run_pure])
theorem brings_u {P : Program} {s : Sem Unit} {w w' : World} (h : s.run P w = .ok () w') : Brings P (do s; pure .skip) w undef w' :=
  .inr ⟨rfl, by simp only [Sem.run_bind, h, Result.andThen_ok, Sem.run_pure]⟩

theorem alen_sound {C : Cx} (ok : TyOk C) {argTypes : List TypeId} {type : TypeId} {x r : AV} {y : Value} (h : alen C H argTypes x = some r) (hx : Rep M x y) (hs : SimH M base im0 nv H) :
    ∃ z, (Builtin.len_ argTypes.toArray type #[y]).run C.P M.w = .ok z M.w ∧ Rep M r z := by
  unfold alen at h
  split at h
  · rename_i t
    have hu : ∀ d, TI.dsc (C.ty t) = some d → (underlying t).run C.P M.w = .ok d M.w := by
      intro d hd
      unfold TI.dsc at hd; simp only [Option.map_eq_some_iff] at hd
      obtain ⟨ti, h1, rfl⟩ := hd
      exact ty_und ok h1 M.w
    have fin : ∀ {n : Nat} {d : TypeDesc}, TI.dsc (C.ty t) = some d → (match d, y with
        | .string, .string s => s.size = n | .array m _, _ => m = n | .slice _, .slice _ m _ => m = n | .map _ _, .map none => n = 0 | _, _ => False) → some (gI n) = some r →
        ∃ z, (Builtin.len_ [t].toArray type #[y]).run C.P M.w = .ok z M.w ∧ Rep M r z := by
      intro n d hd hm hr
      simp only [Option.some.injEq] at hr; subst hr
      have hu := hu d hd
      refine ⟨goInt n, ?_, gI_rep n⟩
      simp only [Builtin.len_, List.getElem?_toArray, List.getElem?_cons_zero, Sem.run_bind, hu, Result.andThen_ok]
      split at hm
      · subst hm; rfl
      · subst hm; rfl
      · subst hm; rfl
      · subst hm; rfl
      · exact hm.elim
    split at h
    · rename_i hd; unfold Rep at hx; subst hx; exact fin hd rfl h
    · rename_i hd; unfold Rep at hx; subst hx; exact fin hd rfl h
    · rename_i hd; unfold Rep at hx; obtain ⟨_, _, _, rfl, _⟩ := hx; exact fin hd rfl h
    · rename_i hd; unfold Rep at hx; obtain ⟨_, _, _, _, _, rfl, _⟩ := hx; exact fin hd rfl h
    · rename_i hd; unfold Rep at hx; subst hx; exact fin hd rfl h
    · rename_i ks vs k e hd
      simp only [Option.some.injEq] at h; subst h
      unfold Rep at hx; obtain ⟨b, es, clock, rfl, hi, hb, h1, h2⟩ := hx
      have hg : (getObj b).run C.P M.w = .ok (.map es clock) M.w := by simp [getObj, Sem.run, hb]
      refine ⟨goInt es.size, ?_, ?_⟩
      · simp only [Builtin.len_, List.getElem?_toArray, List.getElem?_cons_zero, Sem.run_bind, hu _ hd, Result.andThen_ok, hg, Sem.run_pure]
      · have := h1.length; simp at this; rw [this]; exact gI_rep _
    · rename_i k rr kt et hd
      split at h
      · rename_i ver fz ks vs hl
        simp only [Option.some.injEq] at h; subst h
        obtain ⟨hk, hvv⟩ := live_some hl
        simp only at hvv; subst hvv
        obtain ⟨b, ct, hE⟩ := hs.ent _ _ hk
        obtain ⟨es, clock, hb, h1, h2⟩ := hE.blk
        unfold Rep at hx
        obtain ⟨b', ct', hm, rfl⟩ := hx
        obtain ⟨rfl, rfl⟩ := mu_eq hE.mu hm
        have hg : (getObj b).run C.P M.w = .ok (.map es clock) M.w := by simp [getObj, Sem.run, hb]
        refine ⟨goInt es.size, ?_, ?_⟩
        · simp only [Builtin.len_, List.getElem?_toArray, List.getElem?_cons_zero, Sem.run_bind, hu _ hd, Result.andThen_ok, hg, Sem.run_pure]
        · have := h1.length; simp at this; rw [this]; exact gI_rep _
      · cases h
    · rename_i n e hd
      exact fin hd rfl h
    · cases h
  · cases h

theorem acap_sound {C : Cx} (ok : TyOk C) {argTypes : List TypeId} {type : TypeId} {x r : AV} {y : Value} (h : acap C H argTypes x = some r) (hx : Rep M x y) (hs : SimH M base im0 nv H) :
    ∃ z, (Builtin.cap_ argTypes.toArray type #[y]).run C.P M.w = .ok z M.w ∧ Rep M r z := by
  unfold acap at h
  split at h
  · rename_i t
    have hu : ∀ d, TI.dsc (C.ty t) = some d → (underlying t).run C.P M.w = .ok d M.w := by
      intro d hd
      unfold TI.dsc at hd; simp only [Option.map_eq_some_iff] at hd
      obtain ⟨ti, h1, rfl⟩ := hd
      exact ty_und ok h1 M.w
    have fin : ∀ {n : Nat} {e : TypeId} {a : Option Addr} {l : Nat}, TI.dsc (C.ty t) = some (.slice e) → y = .slice a l n → some (gI n) = some r →
        ∃ z, (Builtin.cap_ [t].toArray type #[y]).run C.P M.w = .ok z M.w ∧ Rep M r z := by
      intro n e a l hd hm hr
      simp only [Option.some.injEq] at hr; subst hr; subst hm
      refine ⟨goInt n, ?_, gI_rep n⟩
      simp only [Builtin.cap_, List.getElem?_toArray, List.getElem?_cons_zero, Sem.run_bind, hu _ hd, Result.andThen_ok, Sem.run_pure]
    split at h
    · rename_i hd; unfold Rep at hx; exact fin hd hx h
    · rename_i hd; unfold Rep at hx; obtain ⟨_, cap, _, hy, _, _, _, _, hex⟩ := hx; rw [hex rfl] at hy; exact fin hd hy h
    · rename_i k rr sz lo len e hd
      split at h
      · rename_i ver fz sz' es hl
        obtain ⟨hk, hvv⟩ := live_some hl
        simp only at hvv; subst hvv
        obtain ⟨b, ct, hE⟩ := hs.ent _ _ hk
        obtain ⟨arr, ty, ys, hb, hrep, hsd, has, hlen, hex, htk⟩ := hE.blk
        unfold Rep at hx
        obtain ⟨b', ct', o, hm, hct, hy, ho⟩ := hx
        obtain ⟨rfl, rfl⟩ := mu_eq hE.mu hm
        rw [hex rfl] at h
        exact fin hd hy h
      · cases h
    · cases h
  · cases h

/-- The operands' values are represented. -/
def EvOk (M : Mem) (ev : Operand → AV) (ρ : Operand → Value) : Prop := ∀ x, Rep M (ev x) (ρ x)

theorem EvOk.list {ev : Operand → AV} {ρ : Operand → Value} (h : EvOk M ev ρ) : ∀ (l : List Operand), RepL M (l.map ev) (l.map ρ)
  | [] => by simp
  | x :: xs => by rw [List.map_cons, List.map_cons, RepL.cons_iff]; exact ⟨_, _, rfl, h x, h.list xs⟩
theorem EvOk.opt {ev : Operand → AV} {ρ : Operand → Value} (h : EvOk M ev ρ) : ∀ (o : Option Operand), RepO M (o.map ev) (o.map ρ)
  | none => trivial
  | some x => h x
theorem EvOk.parts {ev : Operand → AV} {ρ : Operand → Value} (h : EvOk M ev ρ) : ∀ (l : List (Nat × Operand)), RepP M (l.map fun (i, x) => (i, ev x)) (l.map fun (i, x) => (i, ρ x))
  | [] => .nil
  | (i, x) :: xs => .cons (h x) (h.parts xs)

theorem abuiltin_sound {C : Cx} (ok : TyOk C) {b : Builtin} {argTypes : Array TypeId} {type : TypeId} {consts : Array Bool} {key ver nv' : Nat} {as : List AV} {ys : List Value} {r : AV} {H' : Tr Ent}
    (h : abuiltin C H key ver b argTypes.toList type as = some (r, H')) (ha : RepL M as ys) (hs : SimH M base im0 nv H) (hv : VerOk M nv ver nv') :
    ∃ y w', Brings C.P (builtin b argTypes type consts ys.toArray) M.w y w' ∧ Post M base im0 ver nv' r H' y w' ∧ (staysB b = true → H' = H ∧ w' = M.w ∧ Rep M r y) := by
  have one : ∀ {x : AV}, RepL M [x] ys → ∃ y, ys = [y] ∧ Rep M x y := by
    intro x hx
    rw [RepL.cons_iff] at hx
    obtain ⟨y, l, rfl, h1, h2⟩ := hx
    rw [RepL.nil_iff] at h2; subst h2
    exact ⟨y, rfl, h1⟩
  have two : ∀ {x u : AV}, RepL M [x, u] ys → ∃ y z, ys = [y, z] ∧ Rep M x y ∧ Rep M u z := by
    intro x u hx
    rw [RepL.cons_iff] at hx
    obtain ⟨y, l, rfl, h1, h2⟩ := hx
    rw [RepL.cons_iff] at h2
    obtain ⟨z, l, rfl, h2, h3⟩ := h2
    rw [RepL.nil_iff] at h3; subst h3
    exact ⟨y, z, rfl, h1, h2⟩
  have hat : argTypes.toList.toArray = argTypes := by simp
  unfold abuiltin at h
  split at h
  · rename_i x
    obtain ⟨y, rfl, hx⟩ := one ha
    simp only [Option.map_eq_some_iff, Prod.mk.injEq] at h
    obtain ⟨r', hr, rfl, rfl⟩ := h
    obtain ⟨z, hz, hrz⟩ := alen_sound (type := type) ok hr hx hs
    rw [hat] at hz
    exact ⟨z, M.w, brings_v hz, Post.same hs hv.le hrz, fun _ => ⟨rfl, rfl, hrz⟩⟩
  · rename_i x
    obtain ⟨y, rfl, hx⟩ := one ha
    simp only [Option.map_eq_some_iff, Prod.mk.injEq] at h
    obtain ⟨r', hr, rfl, rfl⟩ := h
    obtain ⟨z, hz, hrz⟩ := acap_sound (type := type) ok hr hx hs
    rw [hat] at hz
    exact ⟨z, M.w, brings_v hz, Post.same hs hv.le hrz, fun _ => ⟨rfl, rfl, hrz⟩⟩
  · rename_i s x
    obtain ⟨y, z, rfl, h1, h2⟩ := two ha
    obtain ⟨q, w', h3, h4⟩ := aappend_sound (type := type) ok h h1 h2 hs hv
    rw [hat] at h3
    exact ⟨q, w', brings_v h3, h4, fun x => by cases x⟩
  · rename_i s x
    obtain ⟨y, z, rfl, h1, h2⟩ := two ha
    obtain ⟨q, w', h3, h4⟩ := acopy_sound (type := type) ok h h1 h2 hs hv
    rw [hat] at h3
    exact ⟨q, w', brings_v h3, h4, fun x => by cases x⟩
  · rename_i x
    obtain ⟨y, rfl, hx⟩ := one ha
    simp only [Option.map_eq_some_iff, Prod.mk.injEq] at h
    obtain ⟨H1, hr, rfl, rfl⟩ := h
    obtain ⟨w', h3, h4⟩ := aclear_sound (type := type) ok hr hx hs hv
    rw [hat] at h3
    exact ⟨_, w', brings_v h3, h4, fun x => by cases x⟩
  · split at h
    · rename_i vs hvs
      simp only [Option.map_eq_some_iff, Prod.mk.injEq] at h
      obtain ⟨r', hr, rfl, rfl⟩ := h
      have := toVL_rep hvs ha
      subst this
      obtain ⟨z, hz, hrz⟩ := pureOp_sound (M := M) hr M.w
      rw [hat] at hz
      exact ⟨z, M.w, brings_v hz, Post.same hs hv.le hrz, fun _ => ⟨rfl, rfl, hrz⟩⟩
    · cases h
  · split at h
    · rename_i vs hvs
      simp only [Option.map_eq_some_iff, Prod.mk.injEq] at h
      obtain ⟨r', hr, rfl, rfl⟩ := h
      have := toVL_rep hvs ha
      subst this
      obtain ⟨z, hz, hrz⟩ := pureOp_sound (M := M) hr M.w
      rw [hat] at hz
      exact ⟨z, M.w, brings_v hz, Post.same hs hv.le hrz, fun _ => ⟨rfl, rfl, hrz⟩⟩
    · cases h
  · cases h

theorem nonNil_run {P : Program} {a : AV} {y : Value} (h : nonNil a = true) (hr : Rep M a y) (w : World) (o : Oper) (ρ : Operand → Value) (x : Operand) (ho : o.op = .nilCheck x) (hx : ρ x = y) : (execOp ρ o).run P w = .ok (.value y) w := by
  cases a <;> simp only [nonNil] at h <;> try (cases h; done)
  case ptr => unfold Rep at hr; obtain ⟨_, _, _, rfl⟩ := hr; simp [execOp, ho, hx]
  case eptr => unfold Rep at hr; obtain ⟨_, _, _, rfl⟩ := hr; simp [execOp, ho, hx]
  case sl => unfold Rep at hr; obtain ⟨_, _, _, _, _, rfl, _⟩ := hr; simp [execOp, ho, hx]
  case rptr => unfold Rep at hr; obtain ⟨_, _, _, rfl, _⟩ := hr; simp [execOp, ho, hx]
  case fn f a c =>
    cases f <;> simp only at h <;> try (cases h; done)
    unfold Rep at hr; obtain ⟨_, _, rfl, _⟩ := hr; simp [execOp, ho, hx]

/-- EVERY OPERATION THAT CALLS NO FUNCTION. -/
theorem aop_sound {C : Cx} (ok : TyOk C) {o : Oper} {ev : Operand → AV} {ρ : Operand → Value} {key ver nv' : Nat} {r : AV} {H' : Tr Ent} (h : aop C ev H key ver o.type o.op = some (r, H')) (he : EvOk M ev ρ)
    (hs : SimH M base im0 nv H) (hv : VerOk M nv ver nv') : ∃ y w', Brings C.P (execOp ρ o) M.w y w' ∧ Post M base im0 ver nv' r H' y w' ∧ (stays o.op = true → H' = H ∧ w' = M.w ∧ Rep M r y) := by
  have same : ∀ {s : Sem Value} {r' : AV}, (∃ z, s.run C.P M.w = .ok z M.w ∧ Rep M r' z) → (execOp ρ o = do pure (.value (← s))) → (r', H) = (r, H') → ∃ y w', Brings C.P (execOp ρ o) M.w y w' ∧ Post M base im0 ver nv' r H' y w' ∧ (stays o.op = true → H' = H ∧ w' = M.w ∧ Rep M r y) := by
    intro s r' hz hex hrr
    simp only [Prod.mk.injEq] at hrr
    obtain ⟨rfl, rfl⟩ := hrr
    obtain ⟨z, hz, hr⟩ := hz
    exact ⟨z, M.w, by rw [hex]; exact brings_v hz, Post.same hs hv.le hr, fun _ => ⟨rfl, rfl, hr⟩⟩
  have pass : ∀ {s : Sem Value}, (∃ z w', s.run C.P M.w = .ok z w' ∧ Post M base im0 ver nv' r H' z w') → (execOp ρ o = do pure (.value (← s))) → stays o.op = false → ∃ y w', Brings C.P (execOp ρ o) M.w y w' ∧ Post M base im0 ver nv' r H' y w' ∧ (stays o.op = true → H' = H ∧ w' = M.w ∧ Rep M r y) := by
    intro s hz hex hns
    obtain ⟨z, w', hz, hp⟩ := hz
    exact ⟨z, w', by rw [hex]; exact brings_v hz, hp, fun x => by rw [hns] at x; cases x⟩
  unfold aop at h
  split at h
  · -- move, assign
    rename_i x ho
    simp only [Option.some.injEq, Prod.mk.injEq] at h
    obtain ⟨rfl, rfl⟩ := h
    exact ⟨ρ x, M.w, .inl (by unfold execOp; rw [ho]; rfl), Post.same hs hv.le (he x), fun _ => ⟨rfl, rfl, he x⟩⟩
  · rename_i x ho
    simp only [Option.some.injEq, Prod.mk.injEq] at h
    obtain ⟨rfl, rfl⟩ := h
    exact ⟨ρ x, M.w, .inl (by unfold execOp; rw [ho]; rfl), Post.same hs hv.le (he x), fun _ => ⟨rfl, rfl, he x⟩⟩
  · rename_i c a b ho
    simp only [Option.map_eq_some_iff, Prod.mk.injEq] at h
    obtain ⟨t, ht, rfl, rfl⟩ := h
    have := asB_rep ht (he c)
    have hrep : Rep M (bif t then ev a else ev b) (if t then ρ a else ρ b) := by cases t <;> simp [he a, he b]
    refine ⟨if t then ρ a else ρ b, M.w, .inl ?_, Post.same hs hv.le hrep, fun _ => ⟨rfl, rfl, hrep⟩⟩
    · unfold execOp; rw [ho]; simp only [this, asBool, Sem.run_bind, Sem.run_pure, Result.andThen_ok]
  · rename_i t ho
    split at h
    · rename_i desc size agg bytes z ht
      simp only [Option.some.injEq, Prod.mk.injEq] at h
      obtain ⟨rfl, rfl⟩ := h
      exact pass (alloc_sound ok ht rfl hs hv) (by unfold execOp; rw [ho]) (by rw [ho]; rfl)
    · cases h
  · rename_i t x ho
    simp only [Option.map_eq_some_iff, Prod.mk.injEq] at h
    obtain ⟨cs, hc, rfl, rfl⟩ := h
    exact pass (abox_sound hc (he x) hs hv) (by unfold execOp; rw [ho]) (by rw [ho]; rfl)
  · rename_i t parts ho
    simp only [Option.map_eq_some_iff] at h
    obtain ⟨r', hr, hh⟩ := h
    refine same (abuild_sound (qs := parts.map fun (i, x) => (i, ρ x)) ok hr (by simpa using he.parts parts.toList)) (by unfold execOp; rw [ho]) hh
  · rename_i t len parts ho
    refine pass (abuildSlice_sound (qs := parts.map fun (i, x) => (i, ρ x)) ok h (by simpa using he.parts parts.toList) hs hv) (by unfold execOp; rw [ho]) (by rw [ho]; rfl)
  · rename_i t a ho
    simp only [Option.map_eq_some_iff] at h
    obtain ⟨r', hr, hh⟩ := h
    exact same (aload_sound ok hr hs (he a)) (by unfold execOp; rw [ho]) hh
  · rename_i t a x ho
    simp only [Option.map_eq_some_iff, Prod.mk.injEq] at h
    obtain ⟨H1, hr, rfl, rfl⟩ := h
    obtain ⟨w', h1, h2, h3, h4⟩ := astore_sound ok hr hs (he a) (he x)
    exact ⟨undef, w', by unfold execOp; rw [ho]; exact brings_u h1, ⟨⟨_, rfl, h2, fun _ _ => rfl, Rep.v_self, h3.nv_le hv.le⟩, h4⟩, fun x => by rw [ho] at x; cases x⟩
  · rename_i x ho
    cases hn : nonNil (ev x) with
    | false => simp [hn] at h
    | true =>
    simp only [hn, cond_true, Option.some.injEq, Prod.mk.injEq] at h
    obtain ⟨rfl, rfl⟩ := h
    exact ⟨ρ x, M.w, .inl (nonNil_run hn (he x) M.w o ρ x ho rfl), Post.same hs hv.le (he x), fun _ => ⟨rfl, rfl, he x⟩⟩
  · rename_i bo t x y u ho
    simp only [Option.map_eq_some_iff] at h
    obtain ⟨r', hr, hh⟩ := h
    exact same (abin_sound ok hr (he x) (he y)) (by unfold execOp; rw [ho]) hh
  · rename_i u t x ho
    simp only [Option.bind_eq_some_iff, Option.map_eq_some_iff] at h
    obtain ⟨a, ha, r', hr, hh⟩ := h
    have := toV_rep ha (he x)
    subst this
    exact same (pureOp_sound hr M.w) (by unfold execOp; rw [ho]) hh
  · rename_i s d x ho
    split at h
    · rename_i a _ ha
      simp only [Option.map_eq_some_iff] at h
      obtain ⟨r', hr, hh⟩ := h
      have := toV_rep ha (he x)
      subst this
      exact same (pureOp_sound hr M.w) (by unfold execOp; rw [ho]) hh
    · cases h
  · rename_i t x ho
    split at h
    · cases h
    · rename_i ti hni ht
      simp only [Option.some.injEq] at h
      refine same (s := Instr.makeInterface t (ρ x)) (r' := .ifc t (ev x)) ⟨.iface t (ρ x), ?_, by unfold Rep; exact ⟨_, rfl, he x⟩⟩ (by unfold execOp; rw [ho]) h
      have hu := ty_und ok ht M.w
      simp only [Instr.makeInterface, Sem.run_bind, hu, Result.andThen_ok]
      cases hd : ti.desc <;> first | rfl | skip
      obtain ⟨d, sz, ag, by_, ze⟩ := ti
      simp only at hd; subst hd; exact (hni _ _ _ _ _ rfl).elim
    · cases h
  · rename_i f first cap ho
    simp only [Option.some.injEq] at h
    refine same (s := Instr.makeFunc f (first.map ρ) (cap.map ρ)) (r' := .fn f (first.toList.map ev) (cap.toList.map ev)) ⟨.func f (first.map ρ) (cap.map ρ), rfl, ?_⟩ (by unfold execOp; rw [ho]) h
    unfold Rep
    refine ⟨first.toList.map ρ, cap.toList.map ρ, ?_, he.list _, he.list _⟩
    have e1 : first.map ρ = (first.toList.map ρ).toArray := Array.ext' (by simp)
    have e2 : cap.map ρ = (cap.toList.map ρ).toArray := Array.ext' (by simp)
    rw [e1, e2]
  · rename_i t ho
    simp only [Option.some.injEq, Prod.mk.injEq] at h
    obtain ⟨rfl, rfl⟩ := h
    refine pass (s := Instr.makeMap t none) ⟨.map (some M.w.heap.size), M.w.alloc (.map #[] 0), ?_, ?_⟩ (by unfold execOp; rw [ho]; rfl) (by rw [ho]; rfl)
    · simp only [Instr.makeMap, Sem.run_bind, run_newObj, Result.andThen_ok, Sem.run_pure, World.alloc_eq]
    · exact post_alloc (ct := 0) hs hv _ _ _ _ (fun M' hle hb => ⟨_, _, hb, by simp, by simp⟩) (fun M' hle hmu => by unfold Rep; exact ⟨_, _, hmu, rfl⟩)
  · rename_i t l c ho
    exact pass (amakeSlice_sound ok h (he l) (he c) hs hv) (by unfold execOp; rw [ho]) (by rw [ho]; rfl)
  · rename_i t x lo hi mx ho
    simp only [Option.map_eq_some_iff] at h
    obtain ⟨r', hr, hh⟩ := h
    exact same (aslice_sound ok hr (he x) (he.opt lo) (he.opt hi) (he.opt mx) hs) (by unfold execOp; rw [ho]) hh
  · rename_i t x f ho
    simp only [Option.map_eq_some_iff] at h
    obtain ⟨r', hr, hh⟩ := h
    exact same (afieldAddr_sound ok hr (he x)) (by unfold execOp; rw [ho]) hh
  · rename_i t x f ho
    simp only [Option.map_eq_some_iff] at h
    obtain ⟨r', hr, hh⟩ := h
    exact same (afield_sound ok hr (he x)) (by unfold execOp; rw [ho]) hh
  · rename_i t x i ho
    simp only [Option.map_eq_some_iff] at h
    obtain ⟨r', hr, hh⟩ := h
    exact same (aindexAddr_sound ok hr (he x) (he i) hs) (by unfold execOp; rw [ho]) hh
  · rename_i t x i ho
    simp only [Option.map_eq_some_iff] at h
    obtain ⟨r', hr, hh⟩ := h
    exact same (aindex_sound ok hr (he x) (he i)) (by unfold execOp; rw [ho]) hh
  · rename_i t x i b ho
    simp only [Option.map_eq_some_iff] at h
    obtain ⟨r', hr, hh⟩ := h
    exact same (alookup_sound ok hr (he x) (he i) hs) (by unfold execOp; rw [ho]) hh
  · rename_i t m k v ho
    simp only [Option.map_eq_some_iff, Prod.mk.injEq] at h
    obtain ⟨H1, hr, rfl, rfl⟩ := h
    obtain ⟨w', h1, h2, h3, h4⟩ := amapUpdate_sound ok hr (he m) (he k) (he v) hs
    exact ⟨undef, w', by unfold execOp; rw [ho]; exact brings_u h1, ⟨⟨_, rfl, h2, fun _ _ => rfl, Rep.v_self, h3.nv_le hv.le⟩, h4⟩, fun x => by rw [ho] at x; cases x⟩
  · rename_i t x ho
    split at h
    · rename_i s hx hd
      simp only [Option.some.injEq, Prod.mk.injEq] at h
      obtain ⟨rfl, rfl⟩ := h
      have hxx := he x
      rw [hx] at hxx
      unfold Rep at hxx
      unfold TI.dsc at hd; simp only [Option.map_eq_some_iff] at hd
      obtain ⟨ti, ht, hd⟩ := hd
      have hu := ty_und ok ht M.w
      rw [hd] at hu
      refine pass (s := Instr.range t (ρ x)) ⟨.pointer (some ⟨M.w.heap.size, 0, none⟩), M.w.alloc (.stringIter s 0), ?_, ?_⟩ (by unfold execOp; rw [ho]) (by rw [ho]; rfl)
      · rw [hxx]
        simp only [Instr.range, Sem.run_bind, hu, Result.andThen_ok, Sem.run_pure, run_newObj, World.alloc_eq]
      · exact post_alloc (ct := 0) hs hv _ _ _ _ (fun M' hle hb => hb) (fun M' hle hmu => by unfold Rep; exact ⟨_, _, hmu, rfl⟩)
    · cases h
  · rename_i it ho
    split at h
    · rename_i k rr hit
      split at h
      · rename_i ver' s pos hl
        obtain ⟨hk, hvv⟩ := live_some hl
        simp only at hvv; subst hvv
        obtain ⟨b, ct, hE⟩ := hs.ent _ _ hk
        have hb : M.w.heap[b]? = some (.stringIter s pos) := hE.blk
        have hi := he it
        rw [hit] at hi
        unfold Rep at hi
        obtain ⟨b', ct', hm, hp⟩ := hi
        obtain ⟨rfl, rfl⟩ := mu_eq hE.mu hm
        have hg : (getObj b).run C.P M.w = .ok (.stringIter s pos) M.w := by simp [getObj, Sem.run, hb]
        have hset : ∀ o', (setObj b o').run C.P M.w = .ok () { M.w with heap := M.w.heap.setIfInBounds b o' } := fun o' => by simp [setObj, Sem.run, hb]
        cases hp2 : Nat.blt pos s.size with
        | true =>
          simp only [hp2, cond_true, Option.some.injEq, Prod.mk.injEq] at h
          obtain ⟨rfl, rfl⟩ := h
          have hlt := blt_lt hp2
          obtain ⟨s1, s2, s3⟩ := setObj_write (o' := .stringIter s (pos + (Utf8.decode s pos).2)) hb
          have hW := hs.write hk hE rfl s1 rfl rfl rfl s2 (.siter s (pos + (Utf8.decode s pos).2)) (fun hle => s3)
          refine pass (s := Instr.next (ρ it) true o.type) ⟨.tuple #[.bool true, goInt pos, .int .i32 (Utf8.decode s pos).1], _, ?_, ⟨⟨_, rfl, hW.1, fun _ _ => rfl, ?_, hW.2.1.nv_le hv.le⟩, hW.2.2⟩⟩ (by unfold execOp; rw [ho]) (by rw [ho]; rfl)
          · rw [hp]
            simp only [Instr.next, Sem.run_bind, hg, Result.andThen_ok, hlt, if_true, hset, Sem.run_pure]
          · unfold Rep
            refine ⟨[.bool true, goInt pos, .int .i32 (Utf8.decode s pos).1], rfl, ?_⟩
            simp only [RepL.cons_iff]
            exact ⟨_, _, rfl, Rep.v_self, _, _, rfl, gI_rep pos, _, _, rfl, Rep.v_self, by simp⟩
        | false =>
          simp only [hp2, cond_false, Option.some.injEq] at h
          have hge : ¬ pos < s.size := fun hlt => by
            have : Nat.blt pos s.size = true := Nat.ble_eq_true_of_le hlt
            rw [hp2] at this; cases this
          refine same (s := Instr.next (ρ it) true o.type) (r' := .tup [gB false]) ⟨.tuple #[.bool false], ?_, ?_⟩ (by unfold execOp; rw [ho]) h
          · rw [hp]
            simp only [Instr.next, Sem.run_bind, hg, Result.andThen_ok, hge, if_false, Sem.run_pure]
          · unfold Rep
            refine ⟨[.bool false], rfl, ?_⟩
            simp only [RepL.cons_iff]
            exact ⟨_, _, rfl, Rep.v_self, by simp⟩
      · cases h
    · cases h
  · rename_i t i ho
    split at h
    · rename_i vs hvs
      simp only [Option.map_eq_some_iff] at h
      obtain ⟨r', hr, hh⟩ := h
      have ht := he t
      rw [hvs] at ht
      unfold Rep at ht
      obtain ⟨l, hl, hrep⟩ := ht
      obtain ⟨z, hz, hrz⟩ := hrep.get hr
      refine same (s := Instr.extract (ρ t) i) ⟨z, ?_, hrz⟩ (by unfold execOp; rw [ho]) hh
      rw [hl]
      simp [Instr.extract, hz]
    · cases h
  · rename_i b args argTypes ho
    have hl := he.list args.toList
    obtain ⟨y, w', h1, h2⟩ := abuiltin_sound (consts := args.map fun | .const _ => true | _ => false) ok h hl hs hv
    refine ⟨y, w', ?_, h2.1, fun hst => h2.2 (by rw [ho] at hst; exact hst)⟩
    have hre : execOp ρ o = builtin b argTypes o.type (args.map fun | .const _ => true | _ => false) (args.map ρ) := by
      unfold execOp; rw [ho]; rfl
    rw [hre]
    have harr : (args.toList.map ρ).toArray = args.map ρ := Array.ext' (by simp)
    rw [harr] at h1
    exact h1
  · cases h
end
end Go.Vm
