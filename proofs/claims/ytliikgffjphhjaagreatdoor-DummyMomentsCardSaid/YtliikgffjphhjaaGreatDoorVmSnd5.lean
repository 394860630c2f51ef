/- A small evaluator over abstract values: comparisons, maps, ranges over strings are sound. -/
import Derived.Test.YtliikgffjphhjaaGreatDoorVmSnd4
namespace Go.Vm
open Go.RowKit (Below)

section
variable {M : Mem} {base : Nat} {im0 : Nat → Prop} {nv : Nat} {H : Tr Ent}

theorem isS_rep {a : AV} {y : Value} (h : isS a = true) (hr : Rep M a y) : ∃ x l c, y = .slice (some x) l c := by
  cases a <;> simp only [isS] at h <;> try (cases h; done)
  · unfold Rep at hr; obtain ⟨_, _, _, _, _, rfl, _⟩ := hr; exact ⟨_, _, _, rfl⟩
  · rename_i sz es ex
    cases es with
    | nil => simp [isS] at h
    | cons e es =>
      unfold Rep at hr; obtain ⟨ao, cap, ys, rfl, hc, _, _, hrow, _⟩ := hr
      rcases hrow with ⟨b, o, rfl, _⟩ | e
      · exact ⟨_, _, _, rfl⟩
      · simp at hc; omega
theorem isM_rep {a : AV} {y : Value} (h : isM a = true) (hr : Rep M a y) : ∃ b, y = .map (some b) := by
  cases a <;> simp only [isM] at h <;> try (cases h; done)
  · unfold Rep at hr; obtain ⟨_, _, _, rfl⟩ := hr; exact ⟨_, rfl⟩
  · unfold Rep at hr; obtain ⟨_, _, _, rfl, _⟩ := hr; exact ⟨_, rfl⟩
theorem isF_rep {a : AV} {y : Value} (h : isF a = true) (hr : Rep M a y) : ∃ f l c, y = .func f l c := by
  cases a <;> simp only [isF] at h <;> try (cases h; done)
  unfold Rep at hr; obtain ⟨_, _, rfl, _⟩ := hr; exact ⟨_, _, _, rfl⟩

theorem eqIn_slice {P : Program} {t e : TypeId} (n : Nat) {w : World} (hu : (underlying t).run P w = .ok (.slice e) w) {x : Addr} {l c l' c' : Nat} :
    (Op.equalIn (n + 1) t (.slice none l' c') (.slice (some x) l c)).run P w = .ok false w ∧ (Op.equalIn (n + 1) t (.slice (some x) l c) (.slice none l' c')).run P w = .ok false w := by
  constructor <;> (unfold Op.equalIn; simp only [Sem.run_bind, hu, Result.andThen_ok, Sem.run_pure]; try rfl)
theorem eqIn_map {P : Program} {t k e : TypeId} (n : Nat) {w : World} (hu : (underlying t).run P w = .ok (.map k e) w) {x : Nat} :
    (Op.equalIn (n + 1) t (.map none) (.map (some x))).run P w = .ok false w ∧ (Op.equalIn (n + 1) t (.map (some x)) (.map none)).run P w = .ok false w := by
  constructor <;> (unfold Op.equalIn; simp only [Sem.run_bind, hu, Result.andThen_ok, Sem.run_pure]; try rfl)
theorem eqIn_func {P : Program} {t : TypeId} {p r : Array TypeId} {b : Bool} (n : Nat) {w : World} (hu : (underlying t).run P w = .ok (.func p r b) w) {f : Fn} {l c : Array Value} :
    (Op.equalIn (n + 1) t .nilFunc (.func f l c)).run P w = .ok false w ∧ (Op.equalIn (n + 1) t (.func f l c) .nilFunc).run P w = .ok false w := by
  constructor <;> (unfold Op.equalIn; simp only [Sem.run_bind, hu, Result.andThen_ok, Sem.run_pure])

theorem nilCmp_sound {P : Program} {t : TypeId} {d : TypeDesc} {x y : AV} {vx vy : Value} (h : nilCmp d x y = true) (hx : Rep M x vx) (hy : Rep M y vy) (w : World) (hu : (underlying t).run P w = .ok d w) :
    (Op.equal t vx vy).run P w = .ok false w ∧ (∀ o xo yo, (eqGuard o t xo yo vx vy).run P w = .ok () w) ∧
      (binOp .eql t vx vy = do pure (.bool (← Op.equal t vx vy))) ∧ (binOp .neq t vx vy = do pure (.bool (!(← Op.equal t vx vy)))) := by
  unfold nilCmp at h
  split at h
  · split at h
    · obtain ⟨p, l, c, rfl⟩ := isS_rep h hy
      unfold Rep at hx; subst hx
      refine ⟨?_, fun o _ _ => by cases o <;> rfl, rfl, rfl⟩
      exact (eqIn_slice 9999 hu).1
    · obtain ⟨p, l, c, rfl⟩ := isS_rep h hx
      unfold Rep at hy; subst hy
      refine ⟨?_, fun o _ _ => by cases o <;> rfl, rfl, rfl⟩
      exact (eqIn_slice 9999 hu).2
    · cases h
  · split at h
    · obtain ⟨p, rfl⟩ := isM_rep h hy
      unfold Rep at hx; subst hx
      refine ⟨?_, fun o _ _ => by cases o <;> rfl, rfl, rfl⟩
      exact (eqIn_map 9999 hu).1
    · obtain ⟨p, rfl⟩ := isM_rep h hx
      unfold Rep at hy; subst hy
      refine ⟨?_, fun o _ _ => by cases o <;> rfl, rfl, rfl⟩
      exact (eqIn_map 9999 hu).2
    · cases h
  · split at h
    · obtain ⟨p, l, c, rfl⟩ := isF_rep h hy
      unfold Rep at hx; subst hx
      refine ⟨?_, fun o _ _ => by cases o <;> rfl, rfl, rfl⟩
      exact (eqIn_func 9999 hu).1
    · obtain ⟨p, l, c, rfl⟩ := isF_rep h hx
      unfold Rep at hy; subst hy
      refine ⟨?_, fun o _ _ => by cases o <;> rfl, rfl, rfl⟩
      exact (eqIn_func 9999 hu).2
    · cases h
  · cases h

theorem abin_sound {C : Cx} (ok : TyOk C) {o : BinOp} {t : TypeId} {xo yo : Operand} {x y r : AV} {vx vy : Value} (h : abin C o t xo yo x y = some r) (hx : Rep M x vx) (hy : Rep M y vy) :
    ∃ z, (do eqGuard o t xo yo vx vy; binOp o t vx vy : Sem Value).run C.P M.w = .ok z M.w ∧ Rep M r z := by
  unfold abin at h
  split at h
  · rename_i a b ha hb
    have q1 := toV_rep ha hx
    have q2 := toV_rep hb hy
    subst q1; subst q2
    exact pureOp_sound (C := C) h M.w
  · split at h
    · rename_i ti ht
      cases hn : nilCmp ti.desc x y with
      | false => simp [hn] at h
      | true =>
      simp only [hn, cond_true, Option.some.injEq] at h; subst h
      obtain ⟨h1, h2, h3, h4⟩ := nilCmp_sound hn hx hy M.w (ty_und ok ht M.w)
      refine ⟨.bool false, ?_, Rep.v_self⟩
      rw [h3]
      simp only [Sem.run_bind, h2, Result.andThen_ok, h1, Sem.run_pure]
    · rename_i ti ht
      cases hn : nilCmp ti.desc x y with
      | false => simp [hn] at h
      | true =>
      simp only [hn, cond_true, Option.some.injEq] at h; subst h
      obtain ⟨h1, h2, h3, h4⟩ := nilCmp_sound hn hx hy M.w (ty_und ok ht M.w)
      refine ⟨.bool true, ?_, Rep.v_self⟩
      rw [h4]
      simp only [Sem.run_bind, h2, Result.andThen_ok, h1, Sem.run_pure, Bool.not_false]
    · cases h

/-! ### Maps -/
theorem mapOf_sound {x : AV} {ks vs : List AV} {y : Value} (h : mapOf H x = some (ks, vs)) (hx : Rep M x y) (hs : SimH M base im0 nv H) :
    (y = .map none ∧ ks = [] ∧ vs = []) ∨ ∃ b es clock, y = .map (some b) ∧ M.w.heap[b]? = some (.map es clock) ∧ RepL M ks (es.toList.map (·.key)) ∧ RepL M vs (es.toList.map (·.val)) := by
  unfold mapOf at h
  split at h
  · simp only [Option.some.injEq, Prod.mk.injEq] at h
    obtain ⟨rfl, rfl⟩ := h
    unfold Rep at hx; exact .inl ⟨hx, rfl, rfl⟩
  · simp only [Option.some.injEq, Prod.mk.injEq] at h
    obtain ⟨rfl, rfl⟩ := h
    unfold Rep at hx
    obtain ⟨b, es, clock, rfl, hi, hb, h1, h2⟩ := hx
    exact .inr ⟨b, es, clock, rfl, hb, h1.mono (Mem.bare_le M), h2.mono (Mem.bare_le M)⟩
  · split at h
    · rename_i k r ver fz ks' vs' hl
      simp only [Option.some.injEq, Prod.mk.injEq] at h
      obtain ⟨rfl, rfl⟩ := h
      obtain ⟨hk, hv⟩ := live_some hl
      simp only at hv; subst hv
      obtain ⟨b, ct, hE⟩ := hs.ent _ _ hk
      obtain ⟨es, clock, hb, h1, h2⟩ := hE.blk
      unfold Rep at hx
      obtain ⟨b', ct', hm, rfl⟩ := hx
      obtain ⟨rfl, rfl⟩ := mu_eq hE.mu hm
      exact .inr ⟨_, es, clock, rfl, hb, h1, h2⟩
    · cases h
  · cases h

theorem keyEq_now {kd : TypeDesc} {k e : Value} {b : Bool} (hk : keyKind kd k = true) (h : keyEq k e = some b) : Instr.sameNow kd k e = some b := by
  unfold keyKind at hk
  split at hk
  · unfold keyEq at h
    split at h
    · rename_i k' a k2 b2 hh
      simp only [Value.int.injEq] at hh
      by_cases hkk : k' = k2
      · simp only [hkk, decide_true, cond_true, Option.some.injEq] at h
        simp [Instr.sameNow, hh, hkk, h]
      · simp [hkk] at h
    · simp_all
    · simp_all
    · cases h
  · unfold keyEq at h
    split at h <;> simp_all [Instr.sameNow]
  · unfold keyEq at h
    split at h <;> simp_all [Instr.sameNow]
  · cases hk

theorem findK_now {kd : TypeDesc} {key : Value} (hk : keyKind kd key = true) : ∀ {ks : List AV} {es : List MapEntry} {i : Nat} {r : Option Nat}, findK (fun e => keyEq key e) ks i = some r → RepL M ks (es.map (·.key)) →
    ∃ q, Instr.findNow kd key es i = some q ∧ (r = none → q = none) ∧ (∀ j, r = some j → i ≤ j ∧ ∃ e, es[j - i]? = some e ∧ q = some (j, e.val))
  | [], es, i, r, h, hr => by
    simp only [findK, Option.some.injEq] at h; subst h
    cases es with
    | nil => exact ⟨none, rfl, fun _ => rfl, fun j hj => (by cases hj)⟩
    | cons e es => simp at hr
  | a :: ks, es, i, r, h, hr => by
    cases es with
    | nil => simp at hr
    | cons e es =>
    simp only [findK] at h
    cases ha : toV a with
    | none => simp [ha] at h
    | some ev =>
    simp only [ha] at h
    rw [List.map_cons, RepL.cons_iff] at hr
    obtain ⟨x, xs, hxs, h1, h2⟩ := hr
    simp only [List.cons.injEq] at hxs
    obtain ⟨rfl, rfl⟩ := hxs
    have hev := toV_rep ha h1
    cases hq : keyEq key ev with
    | none => simp [hq] at h
    | some b =>
    simp only [hq] at h
    have hnow := keyEq_now hk hq
    rw [← hev] at hnow
    cases b with
    | true =>
      simp only [Option.some.injEq] at h; subst h
      refine ⟨some (i, e.val), by simp only [Instr.findNow, hnow], fun hh => (by cases hh), fun j hj => ?_⟩
      simp only [Option.some.injEq] at hj; subst hj
      exact ⟨Nat.le_refl _, e, by simp, rfl⟩
    | false =>
      obtain ⟨q, g1, g2, g3⟩ := findK_now hk h h2
      refine ⟨q, by simp only [Instr.findNow, hnow]; exact g1, g2, fun j hj => ?_⟩
      obtain ⟨k1, e', k2, k3⟩ := g3 j hj
      refine ⟨by omega, e', ?_, k3⟩
      rw [show j - i = (j - (i + 1)) + 1 by omega]; simpa using k2

theorem findK_asks {P : Program} {kt : TypeId} {key : Value} (w : World) : ∀ {ks : List AV} {es : List MapEntry} {i : Nat} {r : Option Nat}, findK (fun e => pureRun P (Op.equal kt key e)) ks i = some r → RepL M ks (es.map (·.key)) →
    ∃ q, (Instr.findAsking kt key es i).run P w = .ok q w ∧ (r = none → q = none) ∧ (∀ j, r = some j → i ≤ j ∧ ∃ e, es[j - i]? = some e ∧ q = some (j, e.val))
  | [], es, i, r, h, hr => by
    simp only [findK, Option.some.injEq] at h; subst h
    cases es with
    | nil => exact ⟨none, rfl, fun _ => rfl, fun j hj => (by cases hj)⟩
    | cons e es => simp at hr
  | a :: ks, es, i, r, h, hr => by
    cases es with
    | nil => simp at hr
    | cons e es =>
    simp only [findK] at h
    cases ha : toV a with
    | none => simp [ha] at h
    | some ev =>
    simp only [ha] at h
    rw [List.map_cons, RepL.cons_iff] at hr
    obtain ⟨x, xs, hxs, h1, h2⟩ := hr
    simp only [List.cons.injEq] at hxs
    obtain ⟨rfl, rfl⟩ := hxs
    have hev := toV_rep ha h1
    cases hq : pureRun P (Op.equal kt key ev) with
    | none => simp [hq] at h
    | some b =>
    simp only [hq] at h
    have hrun := pureRun_sound hq w
    rw [← hev] at hrun
    cases b with
    | true =>
      simp only [Option.some.injEq] at h; subst h
      refine ⟨some (i, e.val), by simp only [Instr.findAsking, Sem.run_bind, hrun, Result.andThen_ok, if_true, Sem.run_pure], fun hh => (by cases hh), fun j hj => ?_⟩
      simp only [Option.some.injEq] at hj; subst hj
      exact ⟨Nat.le_refl _, e, by simp, rfl⟩
    | false =>
      obtain ⟨q, g1, g2, g3⟩ := findK_asks w h h2
      refine ⟨q, by simp only [Instr.findAsking, Sem.run_bind, hrun, Result.andThen_ok, Bool.false_eq_true, if_false]; exact g1, g2, fun j hj => ?_⟩
      obtain ⟨k1, e', k2, k3⟩ := g3 j hj
      refine ⟨by omega, e', ?_, k3⟩
      rw [show j - i = (j - (i + 1)) + 1 by omega]; simpa using k2

theorem checkKey_plain {P : Program} {kt : TypeId} {kd : TypeDesc} {key : Value} {em : Bool} (hk : keyKind kd key = true) (w : World) (hu : (underlying kt).run P w = .ok kd w) : (Instr.checkKey em 10000 kt key).run P w = .ok () w := by
  have go : ∀ n, (Instr.checkKey em (n + 1) kt key).run P w = .ok () w := by
    intro n
    unfold keyKind at hk
    split at hk
    · unfold Instr.checkKey; simp only [Sem.run_bind, hu, Result.andThen_ok, Sem.run_pure]
    · unfold Instr.checkKey; simp only [Sem.run_bind, hu, Result.andThen_ok, Sem.run_pure]
    · unfold Instr.checkKey; simp only [Sem.run_bind, hu, Result.andThen_ok, Sem.run_pure]
    · cases hk
  exact go 9999

theorem keyAt_sound {C : Cx} (ok : TyOk C) {kt : TypeId} {ks : List AV} {em : Bool} {key : Value} {r : Option Nat} {es : List MapEntry} (h : keyAt C kt ks em key = some r) (hr : RepL M ks (es.map (·.key))) (w : World) :
    ∃ q, (Instr.checkKey em 10000 kt key).run C.P w = .ok () w ∧ (Instr.findKey kt key es).run C.P w = .ok q w ∧ (r = none → q = none) ∧ (∀ j, r = some j → ∃ e, es[j]? = some e ∧ q = some (j, e.val)) := by
  unfold keyAt at h
  cases ht : C.ty kt with
  | none => simp [ht] at h
  | some kti =>
  simp only [ht] at h
  have hu := ty_und ok ht w
  cases hk : keyKind kti.desc key with
  | true =>
    simp only [hk, cond_true] at h
    have hfun : eqK C kt kti.desc key = fun e => keyEq key e := by funext e; simp [eqK, hk]
    rw [hfun] at h
    obtain ⟨q, g1, g2, g3⟩ := findK_now (kd := kti.desc) hk h hr
    refine ⟨q, checkKey_plain hk w hu, by simp only [Instr.findKey, Sem.run_bind, hu, Result.andThen_ok, g1, Sem.run_pure], g2, fun j hj => ?_⟩
    obtain ⟨_, e, k2, k3⟩ := g3 j hj
    exact ⟨e, by simpa using k2, k3⟩
  | false =>
    simp only [hk, cond_false] at h
    split at h
    · rename_i fields cs hd hc
      have hfun : eqK C kt kti.desc (.agg cs) = fun e => pureRun C.P (Op.equal kt (.agg cs) e) := by funext e; simp [eqK, hk]
      rw [hfun] at h
      obtain ⟨q, g1, g2, g3⟩ := findK_asks w h hr
      have hnone : ∀ (es : List MapEntry) (i : Nat), es ≠ [] → Instr.findNow kti.desc (.agg cs) es i = none := by
        intro es i hes
        cases es with
        | nil => exact absurd rfl hes
        | cons e es => rw [hd]; simp [Instr.findNow, Instr.sameNow]
      refine ⟨q, pureRun_sound hc w, ?_, g2, fun j hj => ?_⟩
      · simp only [Instr.findKey, Sem.run_bind, hu, Result.andThen_ok]
        cases es with
        | nil =>
          simp only [Instr.findNow, Sem.run_pure]
          simp only [Instr.findAsking, Sem.run_pure] at g1
          exact g1
        | cons e es => rw [hnone _ _ (by simp)]; exact g1
      · obtain ⟨_, e, k2, k3⟩ := g3 j hj
        exact ⟨e, by simpa using k2, k3⟩
    · cases h

theorem andThen_assoc {α β γ : Type} (r : Result α) (f : α → World → Result β) (g : β → World → Result γ) : (r.andThen f).andThen g = r.andThen fun a w => (f a w).andThen g := by
  cases r <;> rfl

theorem alookup_sound {C : Cx} (ok : TyOk C) {t : TypeId} {x i r : AV} {b : Bool} {y vi : Value} (h : alookup C H t x i b = some r) (hx : Rep M x y) (hi : Rep M i vi) (hs : SimH M base im0 nv H) :
    ∃ z, (Instr.lookup t y vi b).run C.P M.w = .ok z M.w ∧ Rep M r z := by
  unfold alookup at h
  split at h
  · rename_i kt et _ _ _ _ ks vs key ht hm hk
    have q1 := toV_rep hk hi
    subst q1
    have hu := ty_und ok ht M.w
    simp only at hu
    -- what is left, the entries known
    have fin : ∀ (es : Array MapEntry), RepL M ks (es.toList.map (·.key)) → RepL M vs (es.toList.map (·.val)) →
        ∃ z, (do Instr.checkKey es.isEmpty 10000 kt vi
                 let (v, ok) ← (do match ← Instr.findKey kt vi es.toList with
                    | some (_, v) => pure (v, true)
                    | none => pure (← zeroValue et, false) : Sem (Value × Bool))
                 pure (if b then .tuple #[v, .bool ok] else v) : Sem Value).run C.P M.w = .ok z M.w ∧ Rep M r z := by
      intro es hks hvs
      have hem : ks.isEmpty = es.isEmpty := by
        have := hks.length
        cases ks with
        | nil => simp at this; simp [this]
        | cons a l => simp at this; cases hz : es.isEmpty with
          | false => rfl
          | true => simp at hz; subst hz; simp at this
      rw [hem] at h
      split at h
      · rename_i te j hte hka
        simp only [Option.map_eq_some_iff] at h
        obtain ⟨v, hv, rfl⟩ := h
        obtain ⟨q, g1, g2, g3, g4⟩ := keyAt_sound ok hka hks M.w
        obtain ⟨e, k1, rfl⟩ := g4 j rfl
        obtain ⟨z, hz, hrz⟩ := hvs.get hv
        simp only [List.getElem?_map, k1, Option.map_some, Option.some.injEq] at hz
        subst hz
        cases b with
        | true =>
          refine ⟨.tuple #[e.val, .bool true], ?_, ?_⟩
          · simp only [Sem.run_bind, g1, Result.andThen_ok, g2, Sem.run_pure, if_true]
          · simp only [cond_true]; unfold Rep; exact ⟨[e.val, .bool true], rfl, by simp only [RepL.cons_iff]; exact ⟨_, _, rfl, hrz, _, _, rfl, Rep.v_self, by simp⟩⟩
        | false =>
          refine ⟨e.val, ?_, hrz⟩
          simp only [Sem.run_bind, g1, Result.andThen_ok, g2, Sem.run_pure, Bool.false_eq_true, if_false]
      · rename_i z hte hka
        simp only [Option.some.injEq] at h
        obtain ⟨q, g1, g2, g3, g4⟩ := keyAt_sound ok hka hks M.w
        have g3 := g3 rfl; subst g3
        have hz := ty_zero ok hte rfl M.w
        cases b with
        | true =>
          simp only [cond_true] at h; subst h
          refine ⟨.tuple #[z, .bool false], ?_, ?_⟩
          · simp only [Sem.run_bind, g1, Result.andThen_ok, g2, hz, Sem.run_pure, if_true]
          · unfold Rep; exact ⟨[z, .bool false], rfl, by simp only [RepL.cons_iff]; exact ⟨_, _, rfl, ofV_rep z, _, _, rfl, Rep.v_self, by simp⟩⟩
        | false =>
          simp only [cond_false] at h; subst h
          refine ⟨z, ?_, ofV_rep z⟩
          simp only [Sem.run_bind, g1, Result.andThen_ok, g2, hz, Sem.run_pure, Bool.false_eq_true, if_false]
      · cases h
    rcases mapOf_sound hm hx hs with ⟨rfl, rfl, rfl⟩ | ⟨bb, es, clock, rfl, hb, h1, h2⟩
    · obtain ⟨z, hz, hr⟩ := fin #[] (by simp) (by simp)
      refine ⟨z, ?_, hr⟩
      rw [← hz]
      simp only [Instr.lookup, Sem.run_bind, hu, Result.andThen_ok, Sem.run_pure]
      congr 1; funext _ w
      rw [andThen_assoc]
      congr 1; funext q w
      cases q <;> simp [andThen_assoc]
    · obtain ⟨z, hz, hr⟩ := fin es h1 h2
      refine ⟨z, ?_, hr⟩
      rw [← hz]
      have hg : (getObj bb).run C.P M.w = .ok (.map es clock) M.w := by simp [getObj, Sem.run, hb]
      simp only [Instr.lookup, Sem.run_bind, hu, Result.andThen_ok, Sem.run_pure, hg]
      congr 1; funext _ w
      rw [andThen_assoc]
      congr 1; funext q w
      cases q <;> simp [andThen_assoc]
  · cases h
end
end Go.Vm
