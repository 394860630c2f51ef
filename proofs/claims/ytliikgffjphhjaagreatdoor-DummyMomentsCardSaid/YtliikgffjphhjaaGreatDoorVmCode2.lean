/- A small evaluator over abstract values: code is sound. -/
import Derived.Test.YtliikgffjphhjaaGreatDoorVmCode1
namespace Go.Vm
open Go.RowKit (Below)

section
variable {C : Cx} {cok : FuncId → Code → Prop} {base : Nat} {im0 : Nat → Prop} {lo : Nat} {M0 : Mem}

theorem aop_nodefer {ev : Operand → AV} {H : Tr Ent} {key ver : Nat} {t : TypeId} {op : Op} {x : AV × Tr Ent} (h : aop C ev H key ver t op = some x) : ∀ c, op ≠ .defer c := by
  intro c hc
  subst hc
  simp [aop] at h

/-- What an operation brings, put into its slot. -/
theorem Now.step {nt : Nat} {st : St} {a : Act} {M M' : Mem} {w' : World} {dst : Option Tmp} {r : AV} {y : Value} {T : Tr AV} {nv' : Nat} {H' : Tr Ent} {nf : Nat}
    (hle0 : M0.le M) (hb0 : Below base M0.w M.w) (hT : RepT M nt st.T a.tmps) (hm : Marks M lo a.defers)
    (hw : M'.w = w') (hle : M.le M') (hr : Rep M' r y) (hs : SimH M' base im0 nv' H') (hb : Below base M.w w') (hp : putA nt st.T dst r = some T) :
    Now base im0 nt lo M0 { T := T, H := H', nv := nv', nf := nf } (a.put dst y) w' :=
  ⟨M', hw, Mem.le_trans hle0 hle, hb0.trans hb, putA_sound hp (hT.mono hle) hr, hs, by rw [put_defers]; exact hm.mono hle⟩

/-- An operation that calls nothing, as the region's step. -/
theorem brings_wp {ro : Option Nat} {o : Oper} {a : Act} {w w' : World} {y : Value} {K : Act → World → Prop} {Q : Exit → Act → World → Prop}
    (h : Brings C.P (execOp a.eval o) w y w') (hd : ∀ c, o.op ≠ .defer c) (hK : K (a.put o.dst y) w') : o.wpIn (Fo ro) 0 C.P a w K Q := by
  refine ⟨fun _ _ => trivial, ?_⟩
  have he : (Fo ro).round = ro := rfl
  rw [he, Oper.semAt_eq ro a.eval o hd]
  rcases h with h | ⟨rfl, h⟩
  · rw [h]; exact hK
  · rw [h]; exact hK

theorem upon_wp {ro : Option Nat} {o : Oper} {a : Act} {w : World} {nx : Next} {R : Value → World → Prop} {K : Act → World → Prop} {Q : Exit → Act → World → Prop}
    (h : UponOk C.P nx w R) (hK : ∀ v w', R v w' → K (a.put o.dst v) w') : o.uponIn (Fo ro) 0 C.P a K Q (.ok nx w) := by
  cases nx <;> simp only [UponOk] at h
  · refine ⟨fun x => by simp [Fo] at x, ?_⟩
    rw [callsIn_fo ro none]
    exact h.mono fun e w' ⟨v, he, hr⟩ => by subst he; exact hK v w' hr
  · refine ⟨fun x => by simp [Fo] at x, ?_⟩
    rw [roundIn_fo ro none]
    exact h.mono fun e w' ⟨v, he, hr⟩ => by subst he; exact hK v w' hr

theorem evO_sound (ok : TyOk C) {cl : CallF} (hcl : CallOk C cok cl) (hcok : M0.cok = cok) (hg0 : GlobOk C M0) {fb nt : Nat} {ops : Array Oper} {o : Oper} {i : Nat} {st st' : St} (hi : ops[i]? = some o)
    (h : evO cl C fb nt ops o st = some st') {ro : Option Nat} {a : Act} {w : World} (hn : Now base im0 nt lo M0 st a w) {K : Act → World → Prop} {Q : Exit → Act → World → Prop}
    (hK : ∀ a' w', Now base im0 nt lo M0 st' a' w' → K a' w') : wpOpIn (Fo ro) 0 C.P ops Q i K a w := by
  obtain ⟨M, rfl, hle0, hb0, hT, hs, hm⟩ := hn
  have hg := hg0.mono hle0
  unfold evO at h
  unfold wpOpIn
  simp only [hi]
  cases hwa : wantA ops st.T o with
  | none => rw [hwa] at h; cases h
  | some b =>
    rw [hwa] at h
    rw [wantA_sound hwa hT]
    cases b with
    | false =>
      simp only [Option.map_eq_some_iff] at h
      obtain ⟨T, hT', rfl⟩ := h
      simp only [Bool.false_eq_true, if_false]
      refine ⟨fun _ _ => trivial, hK _ _ ?_⟩
      exact ⟨M, rfl, hle0, hb0, putA_sound hT' hT (by unfold Rep; rfl), hs, by rw [put_defers]; exact hm⟩
    | true =>
      simp only [if_true]
      simp only at h
      split at h
      · rename_i f args ats ho
        split at h
        · cases h
        · rename_i r s1 hc
          simp only [Option.map_eq_some_iff] at h
          obtain ⟨T, hT', rfl⟩ := h
          have he := evOk hT hg (a := a)
          obtain ⟨d, nx, h1, h2, h3, _⟩ := hcl _ _ _ _ _ hc M base im0 (a.eval f) (args.toList.map a.eval) (hle0.cok.trans hcok) hs hg (he f) (he.list _)
          refine ⟨fun _ _ => trivial, ?_⟩
          have hro : (Fo ro).round = ro := rfl
          rw [hro, Oper.semAt_eq ro a.eval o (by intro c hc'; rw [ho] at hc'; cases hc')]
          have hx : (execOp a.eval o).run C.P M.w = .ok nx M.w := by
            unfold execOp
            simp only [ho, resolve]
            have : (args.map a.eval) = (args.toList.map a.eval).toArray := by rw [← Array.toList_map]
            rw [this, Sem.run_bind, h1]
            simpa [Result.andThen] using h2
          rw [hx]
          refine upon_wp h3 fun v w' ⟨M', hw, hle, hr, hs', hb⟩ => hK _ _ ?_
          exact Now.step (st := st) hle0 hb0 hT hm hw hle hr hs' hb hT'
      · rename_i hop
        split at h
        · cases h
        · rename_i r H hc
          simp only [Option.map_eq_some_iff] at h
          obtain ⟨T, hT', rfl⟩ := h
          obtain ⟨y, w', hb, hp, _⟩ := aop_sound ok (o := o) hc (evOk hT hg) hs hs.verOk
          obtain ⟨M', hw, hle, _, hr, hs'⟩ := hp.ex
          refine brings_wp hb (aop_nodefer hc) (hK _ _ ?_)
          exact Now.step (st := st) hle0 hb0 hT hm hw hle hr hs' hp.below hT'

theorem evOps_sound (ok : TyOk C) {cl : CallF} (hcl : CallOk C cok cl) (hcok : M0.cok = cok) (hg0 : GlobOk C M0) {fb nt : Nat} {ops : Array Oper} {ro : Option Nat} {Q : Exit → Act → World → Prop} {st' : St}
    (hQ : ∀ a' w', Now base im0 nt lo M0 st' a' w' → Q .normal a' w') : ∀ (os : List Oper) (l : List Nat), l.map (fun i => ops[i]?) = os.map some → ∀ (st : St) (a : Act) (w : World),
      evOps cl C fb nt ops os st = some st' → Now base im0 nt lo M0 st a w → wpOpsIn (Fo ro) 0 C.P ops Q l a w
  | [], [], _, st, a, w, h, hn => by
    simp only [evOps, Option.some.injEq] at h; subst h
    exact hQ _ _ hn
  | [], _ :: _, hl, _, _, _, _, _ => by simp at hl
  | _ :: _, [], hl, _, _, _, _, _ => by simp at hl
  | o :: os, i :: l, hl, st, a, w, h, hn => by
    simp only [List.map_cons, List.cons.injEq] at hl
    simp only [evOps] at h
    split at h
    · cases h
    · rename_i s1 h1
      rw [wpOpsIn_cons]
      exact evO_sound ok hcl hcok hg0 hl.1 h1 hn (fun a' w' hn' => evOps_sound ok hcl hcok hg0 hQ os l hl.2 s1 a' w' h hn')

def exOf : Ex → Exit
  | .nrm => .normal
  | .exit i => .exit i
  | .ret => .ret

/-- A region that draws its order is sound. -/
def DrawOk (C : Cx) (cok : FuncId → Code → Prop) (drawOk : Array Oper → List DI → Bool) (clK : CallK) : Prop :=
  ∀ (fb nt : Nat) (ops : Array Oper) (is : List DI) (T0 : Tr AV) (nv : Nat) (H0 : Tr Ent) (T : Tr AV) (H : Tr Ent), drawOk ops is = true → evDs clK C fb nt ops T0 nv ops.toList is T0 H0 = some (T, H) →
    ∀ (base : Nat) (im0 : Nat → Prop) (lo : Nat) (M0 : Mem) (nf : Nat) (ro : Option Nat) (id : Nat) (a : Act) (w : World) (Q : Exit → Act → World → Prop), M0.cok = cok → GlobOk C M0 →
      Now base im0 nt lo M0 { T := T0, H := H0, nv := nv, nf := nf } a w →
      (∀ a' w', Now base im0 nt lo M0 { T := T, H := H, nv := nv + ops.size, nf := nf } a' w' → Q .normal a' w') →
      (Code.region id ops true).wpIn (Fo ro) 0 C.P Q a w

theorem Now.nil {nt : Nat} {st : St} {a : Act} {w : World} (h : Now base im0 nt lo M0 st a w) : Below base M0.w w := by
  obtain ⟨M, rfl, _, hb, _⟩ := h; exact hb

theorem stFz_now {nt nv nf : Nat} {a : Act} {w : World} : ∀ (ts : List Tmp) (T : Tr AV) (H : Tr Ent) {T' : Tr AV} {H' : Tr Ent}, stFz ts T H = some (T', H') → Now base im0 nt lo M0 { T := T, H := H, nv := nv, nf := nf } a w →
    Now base im0 nt lo M0 { T := T', H := H', nv := nv, nf := nf } a w
  | [], T, H, T', H', h, hn => by
    simp only [stFz, Option.some.injEq, Prod.mk.injEq] at h
    obtain ⟨rfl, rfl⟩ := h
    exact hn
  | t :: ts, T, H, T', H', h, hn => by
    simp only [stFz] at h
    split at h
    · exact stFz_now ts T H h hn
    · rename_i x hx
      split at h
      · cases h
      · rename_i x' H1 hf
        refine stFz_now ts (T.set t x') H1 h ?_
        obtain ⟨M, rfl, hle0, hb0, hT, hs, hm⟩ := hn
        obtain ⟨M1, hw1, hle1, _, hs1, hr1⟩ := frz_sound hf hs
        refine ⟨M1, hw1, Mem.le_trans hle0 hle1, hb0, ⟨hT.1, fun i z hi => ?_⟩, hs1, hm.mono hle1⟩
        rcases Tr.get_set hi with ⟨rfl, rfl⟩ | ⟨_, hi⟩
        · exact ⟨(hT.2 i x hx).1, (hr1 _ (hT.2 i x hx).2).mono (Mem.bare_le M1)⟩
        · exact ⟨(hT.2 i z hi).1, (hT.2 i z hi).2.mono hle1⟩

theorem iter_sound {f : St → Option (Ex × St)} {nt : Nat} {c : Code} {ro : Option Nat} {ex : Ex} {st' : St}
    (hf : ∀ st ex st1 a w, f st = some (ex, st1) → Now base im0 nt lo M0 st a w → c.wpIn (Fo ro) 0 C.P (fun e a' w' => e = exOf ex ∧ Now base im0 nt lo M0 st1 a' w') a w) :
    ∀ (m : Nat) (st : St) (a : Act) (w : World), iter f m st = some (ex, st') → Now base im0 nt lo M0 st a w →
      Code.roundsIn (Fo ro) 0 C.P c (fun e a' w' => e = exOf ex ∧ Now base im0 nt lo M0 st' a' w') m a w
  | 0, _, _, _, h, _ => by simp [iter] at h
  | m + 1, st, a, w, h, hn => by
    rw [roundsIn_succ]
    simp only [iter] at h
    split at h
    · rename_i s1 h1
      refine wpIn_mono (hf _ _ _ _ _ h1 hn) fun e a' w' ⟨he, hn'⟩ => ?_
      subst he
      exact iter_sound hf m s1 a' w' h hn'
    · rename_i hne
      refine wpIn_mono (hf _ _ _ _ _ h hn) fun e a' w' ⟨he, hn'⟩ => ?_
      subst he
      cases ex with
      | nrm => exact absurd h (hne _)
      | exit i => exact ⟨rfl, hn'⟩
      | ret => exact ⟨rfl, hn'⟩

variable {drawOk : Array Oper → List DI → Bool} {clK : CallK} {cl : CallF}

theorem evCode_sound (ok : TyOk C) (hcl : CallOk C cok cl) (hdraw : DrawOk C cok drawOk clK) (hck : cok = CodeOk C drawOk) (hcok : M0.cok = cok) (hg0 : GlobOk C M0) (hlo : lo ≤ M0.w.heap.size)
    {fid fb nt : Nat} {rd : Bool} {ro : Option Nat} (hro : rd = false → ro = none) : ∀ (code : Code) (st : St) (ex : Ex) (st' : St), evCode cl clK C fid fb nt rd code st = some (ex, st') → CodeOk C drawOk fid code →
      ∀ (a : Act) (w : World), Now base im0 nt lo M0 st a w → code.wpIn (Fo ro) 0 C.P (fun e a' w' => e = exOf ex ∧ Now base im0 nt lo M0 st' a' w') a w
  | .skip, st, ex, st', h, _, a, w, hn => by
    simp only [evCode, Option.some.injEq, Prod.mk.injEq] at h; obtain ⟨rfl, rfl⟩ := h
    exact wpIn_skip ⟨rfl, hn⟩
  | .label _, st, ex, st', h, _, a, w, hn => by
    simp only [evCode, Option.some.injEq, Prod.mk.injEq] at h; obtain ⟨rfl, rfl⟩ := h
    exact wpIn_label ⟨rfl, hn⟩
  | .exit id, st, ex, st', h, _, a, w, hn => by
    simp only [evCode, Option.some.injEq, Prod.mk.injEq] at h; obtain ⟨rfl, rfl⟩ := h
    exact wpIn_exit ⟨rfl, hn⟩
  | .ret, st, ex, st', h, _, a, w, hn => by
    simp only [evCode, Option.some.injEq, Prod.mk.injEq] at h; obtain ⟨rfl, rfl⟩ := h
    exact wpIn_ret ⟨rfl, hn⟩
  | .region id ops dr, st, ex, st', h, hc, a, w, hn => by
    cases dr with
    | false =>
      simp only [evCode, cond_false, Option.map_eq_some_iff, Prod.mk.injEq] at h
      obtain ⟨s, hs, rfl, rfl⟩ := h
      refine wpIn_region (evOps_sound ok hcl hcok hg0 (fun a' w' hn' => ⟨rfl, hn'⟩) ops.toList (List.range ops.size) ?_ st a w hs hn)
      apply List.ext_getElem?
      intro i
      simp only [List.getElem?_map]
      by_cases hi : i < ops.size
      · rw [List.getElem?_range hi]; simp [hi]
      · rw [List.getElem?_eq_none (by simpa using hi), List.getElem?_eq_none (by simpa using hi)]; rfl
    | true =>
      simp only [evCode, cond_true] at h
      split at h
      · cases h
      · rename_i is his
        split at h
        · cases h
        · rename_i T0 H0 hfz
          split at h
          · cases h
          · rename_i T H hd
            simp only [Option.some.injEq, Prod.mk.injEq] at h
            obtain ⟨rfl, rfl⟩ := h
            exact hdraw fb nt ops is T0 st.nv H0 T H (hc is his) hd base im0 lo M0 st.nf ro id a w _ hcok hg0 (stFz_now _ _ _ hfz hn) (fun a' w' hn' => ⟨rfl, hn'⟩)
  | .seq x y, st, ex, st', h, hc, a, w, hn => by
    simp only [evCode] at h
    split at h
    · rename_i s1 h1
      refine wpIn_seq (wpIn_mono (evCode_sound ok hcl hdraw hck hcok hg0 hlo hro x st _ _ h1 hc.1 a w hn) fun e a' w' ⟨he, hn'⟩ => ?_)
      subst he
      exact evCode_sound ok hcl hdraw hck hcok hg0 hlo hro y s1 _ _ h hc.2 a' w' hn'
    · rename_i hne
      refine wpIn_seq (wpIn_mono (evCode_sound ok hcl hdraw hck hcok hg0 hlo hro x st _ _ h hc.1 a w hn) fun e a' w' ⟨he, hn'⟩ => ?_)
      subst he
      cases ex with
      | nrm => exact absurd h (hne _)
      | exit i => exact ⟨rfl, hn'⟩
      | ret => exact ⟨rfl, hn'⟩
  | .cond c x y, st, ex, st', h, hc, a, w, hn => by
    simp only [evCode] at h
    split at h
    · rename_i t ht
      have hev : a.eval c = .bool t := by
        obtain ⟨M, rfl, hle0, hb0, hT, hs, hm⟩ := hn
        have := evOk hT (hg0.mono hle0) (a := a) c
        rw [ht] at this; unfold Rep at this; exact this
      refine wpIn_cond hev ?_
      cases t with
      | true => simp only [cond_true] at h; exact evCode_sound ok hcl hdraw hck hcok hg0 hlo hro x st _ _ h hc.1 a w hn
      | false => simp only [cond_false] at h; exact evCode_sound ok hcl hdraw hck hcok hg0 hlo hro y st _ _ h hc.2 a w hn
    · cases h
  | .block id c, st, ex, st', h, hc, a, w, hn => by
    simp only [evCode] at h
    split at h
    · rename_i i s1 h1
      refine wpIn_block (wpIn_mono (evCode_sound ok hcl hdraw hck hcok hg0 hlo hro c st _ _ h1 hc a w hn) fun e a' w' ⟨he, hn'⟩ => ?_)
      subst he
      simp only [exOf, Exit.inBlock]
      cases hb : Nat.beq i id with
      | true =>
        simp only [hb, cond_true, Option.some.injEq, Prod.mk.injEq] at h; obtain ⟨rfl, rfl⟩ := h
        rw [if_pos (Nat.eq_of_beq_eq_true hb)]; exact ⟨rfl, hn'⟩
      | false =>
        simp only [hb, cond_false, Option.some.injEq, Prod.mk.injEq] at h; obtain ⟨rfl, rfl⟩ := h
        rw [if_neg (Nat.ne_of_beq_eq_false hb)]; exact ⟨rfl, hn'⟩
    · rename_i hne
      refine wpIn_block (wpIn_mono (evCode_sound ok hcl hdraw hck hcok hg0 hlo hro c st _ _ h hc a w hn) fun e a' w' ⟨he, hn'⟩ => ?_)
      subst he
      cases ex with
      | nrm => exact ⟨rfl, hn'⟩
      | exit i => exact absurd h (hne _ _)
      | ret => exact ⟨rfl, hn'⟩
  | .loop c, st, ex, st', h, hc, a, w, hn => by
    simp only [evCode] at h
    refine wpIn_loop_rounds C.fuel (iter_sound (fun st ex st1 a w h hn => ?_) C.fuel st a w h hn)
    exact evCode_sound ok hcl hdraw hck hcok hg0 hlo hro c st _ _ h hc a w hn
  | .scope c, st, ex, st', h, hc, a, w, hn => by
    simp only [evCode] at h
    cases rd with
    | true => simp at h
    | false =>
      simp only [cond_false] at h
      have hro' := hro rfl
      subst hro'
      have hw := evCode_sound ok hcl hdraw hck hcok hg0 hlo hro c st _ _ h hc a w hn
      refine wpIn_wide.2 (wp_scope_straight ?_)
      refine wpIn_wide.1 (wpIn_mono hw fun e a' w' ⟨he, hn'⟩ => ?_)
      subst he
      cases ex with
      | nrm => exact ⟨rfl, hn'⟩
      | exit i => exact ⟨rfl, hn'⟩
      | ret => exact ⟨rfl, hn'⟩
  | .goto _, st, ex, st', h, _, a, w, hn => by simp [evCode] at h
  | .refuse _, st, ex, st', h, _, a, w, hn => by simp [evCode] at h
  | .rangeFunc f ps asg bd, st, ex, st', h, hc, a, w, hn => by
    simp only [evCode] at h
    cases rd with
    | true => simp at h
    | false =>
      simp only [cond_false] at h
      have hro' := hro rfl
      subst hro'
      split at h
      · rename_i p ps' g as bs hps hf
        split at h
        · cases h
        · rename_i x r0 s1 hcall
          split at h
          · rename_i _ ver a1 a2 a3 a4 a5 a6 a7 pend hlive
            refine wpIn_rangeFunc fun fn _ => ?_
            obtain ⟨M, rfl, hle0, hb0, hT, hs, hm⟩ := hn
            obtain ⟨Mb, hwb, hleb, hmub, himb, hsb⟩ := hs.born (.deferred (some []))
            have hszb : Mb.w.heap.size = M.w.heap.size + 1 := by rw [hwb]; simp
            let L : Loop := { state := .ready, pending := none, fn := fn, tmps := a.tmps, params := ps, assign := asg, body := bd, defers := M.w.heap.size }
            have hckM : M.cok = cok := hle0.cok.trans hcok
            obtain ⟨Ml, hwl, hlel, hmul, hverl, hsl⟩ := hsb.alloc hsb.verOk (.loop L) (fb + p) 1 (.loop fid fb nt st.T ps.toList asg bd none) (fun M' hle' hnew => by
              refine ⟨L, hnew, ?_, ?_, rfl, rfl, rfl, (hT.mono (Mem.le_trans hleb hle')), rfl, rfl⟩
              · rw [hle'.cok, hleb.cok, hckM, hck]; exact hc.1
              · rw [hle'.cok, hleb.cok, hckM, hck]; exact hc.2)
            have hleMl : M.le Ml := Mem.le_trans hleb hlel
            have hbMl : Below base M.w Ml.w := by
              rw [hwl, hwb]
              exact ((Below.refl base M.w).alloc hs.size _).alloc (by simp; have := hs.size; omega) _
            have hTl := hT.mono hleMl
            have hgl := hg0.mono (Mem.le_trans hle0 hleMl)
            have hcallee : Rep Ml (.fn g as bs) (a.eval f) := by
              have := evOk hTl hgl (a := a) f
              rwa [hf] at this
            have hy : RepL Ml [.yld (fb + p) st.nv] [.func (.yield Mb.w.heap.size) #[] #[]] := by
              rw [RepL.cons_iff]
              refine ⟨_, _, rfl, ?_, by simp⟩
              unfold Rep
              exact ⟨_, _, hverl, rfl⟩
            obtain ⟨d, nx, h1, h2, h3, h4⟩ := hcl _ _ _ _ _ hcall Ml base im0 (a.eval f) _ (hleMl.cok.trans hckM) hsl hgl hcallee hy
            obtain ⟨f', args, rfl⟩ := h4 ⟨g, as, bs, rfl⟩
            refine ⟨M.w.heap.size + 1, [{ target := .collected M.w.heap.size, args := #[] }], Ml.w, d, Ml.w, f', args, Ml.w, ?_, ?_, fun _ _ => trivial, h2, fun x => by simp [Fo] at x, ?_⟩
            · have := run_enterLoop_outer (P := C.P) (w := M.w) fn a.tmps ps asg bd
              rw [hwl, hwb]; exact this
            · have he : a.eval (.const (.func (.yield (M.w.heap.size + 1)) #[] #[])) = .func (.yield Mb.w.heap.size) #[] #[] := by rw [hszb]; rfl
              simp only [resolve, List.map_toArray, List.map_cons, List.map_nil, he]
              exact h1
            · refine h3.mono fun e w3 ⟨v, he, M3, hw3, hle3, _, hs3, hb3⟩ => ?_
              subst he
              obtain ⟨hget, hver⟩ := live_some hlive
              obtain ⟨b, ct, hE⟩ := hs3.ent _ _ hget
              have hbb : b = Mb.w.heap.size := by
                have e1 := hE.mu
                simp only at hver
                rw [show ({ ver := ver, fz := false, blk := Blk.loop a1 a2 a3 a4 a5 a6 a7 pend } : Ent).ver = st.nv from hver, hle3.mu _ _ hverl] at e1
                simp only [Option.some.injEq, Prod.mk.injEq] at e1
                exact e1.1.symm
              obtain ⟨l3, hheap, _, _, _, _, _, _, hpend⟩ := hE.blk
              rw [hbb, hszb] at hheap
              subst hw3
              have hst : l3.state ≠ .busy := by
                cases pend with
                | none => rw [hpend.1]; simp
                | some q => cases q with
                  | none => simp at h
                  | some c => rw [hpend.1]; simp
              have hrun := run_endLoop (P := C.P) hheap hst
              obtain ⟨hle4, hs4, hb4, _⟩ := hs3.dropWrite hget hE rfl (w' := M3.w.putObj (M.w.heap.size + 1) (.loop { l3 with state := .exhausted }))
                (fun b' hb' => World.putObj_heap_other (by rw [← hszb, ← hbb]; exact hb')) rfl rfl rfl World.putObj_size
              have hle4' : M.le { M3 with w := M3.w.putObj (M.w.heap.size + 1) (.loop { l3 with state := .exhausted }) } := Mem.le_trans hleMl (Mem.le_trans hle3 hle4)
              have hmark : Marks { M3 with w := M3.w.putObj (M.w.heap.size + 1) (.loop { l3 with state := .exhausted }) } lo ([{ target := .collected M.w.heap.size, args := #[] }] ++ a.defers) := by
                obtain ⟨rs, e, n1, n2⟩ := hm
                have hlt : ∀ r ∈ rs, r < M.w.heap.size := fun r hr => hs.lt r (n2 r hr).2.1
                refine ⟨M.w.heap.size :: rs, by rw [e]; rfl, List.nodup_cons.2 ⟨fun hx => Nat.lt_irrefl _ (hlt _ hx), n1⟩, fun r hr => ?_⟩
                rcases List.mem_cons.1 hr with rfl | hr
                · refine ⟨Nat.le_trans hlo hb0.size, ?_, ?_⟩
                  · exact hle4.imm _ (hle3.imm _ (hlel.imm _ himb))
                  · have := (Mem.le_trans hlel (Mem.le_trans hle3 hle4)).same _ himb
                    rw [this, hwb]; exact World.alloc_heap_new M.w _
                · exact ⟨(n2 r hr).1, hle4'.imm r (n2 r hr).2.1, (hle4'.same r (n2 r hr).2.1).trans (n2 r hr).2.2⟩
              have hnow : ∀ nf, Now base im0 nt lo M0 { T := st.T, H := s1.H.del (fb + p), nv := s1.nv, nf := nf } { a with defers := [{ target := .collected M.w.heap.size, args := #[] }] ++ a.defers } (M3.w.putObj (M.w.heap.size + 1) (.loop { l3 with state := .exhausted })) := fun nf =>
                ⟨_, rfl, Mem.le_trans hle0 hle4', hb0.trans (hbMl.trans (hb3.trans hb4)), hT.mono hle4', hs4, hmark⟩
              refine ⟨_, _, hrun, ?_⟩
              split at h
              · simp only [Option.some.injEq, Prod.mk.injEq] at h; obtain ⟨rfl, rfl⟩ := h
                have hnw := hnow s1.nf
                revert hnw; rw [hpend.2]; intro hnw
                exact ⟨rfl, hnw⟩
              · simp only [Option.some.injEq, Prod.mk.injEq] at h; obtain ⟨rfl, rfl⟩ := h
                have hnw := hnow s1.nf
                revert hnw; rw [hpend.2]; intro hnw
                exact wpIn_ret ⟨rfl, hnw⟩
              · simp only [Option.some.injEq, Prod.mk.injEq] at h; obtain ⟨rfl, rfl⟩ := h
                have hnw := hnow s1.nf
                revert hnw; rw [hpend.2]; intro hnw
                exact wpIn_exit ⟨rfl, hnw⟩
              · cases h
          · cases h
      · cases h
end
end Go.Vm
