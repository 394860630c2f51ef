/- A small evaluator over abstract values: a region that draws its order is sound. -/
import Derived.Test.YtliikgffjphhjaaGreatDoorVmDraw3
namespace Go.Vm
open Go.RowKit (Below)

theorem RepT.congr {M : Mem} {nt : Nat} {T T' : Tr AV} {tmps : Array Value} (h : RepT M nt T tmps) (he : ∀ t, T'.get t = T.get t) : RepT M nt T' tmps :=
  ⟨h.1, fun i x hx => h.2 i x (by rw [← he]; exact hx)⟩
theorem SimH.congr {M : Mem} {base : Nat} {im0 : Nat → Prop} {nv : Nat} {H H' : Tr Ent} (h : SimH M base im0 nv H) (he : ∀ k, H'.get k = H.get k) : SimH M base im0 nv H' :=
  h.sub (fun k e hk => by rw [← he]; exact hk)

section
variable {cok : FuncId → Code → Prop} {clK : CallK} {C : Cx} {fb nt : Nat} {ops : Array Oper} {T0 : Tr AV} {H0 : Tr Ent} {is : List DI} {nv : Nat} {x : Nat → Eff}
variable {base : Nat} {im0 : Nat → Prop} {lo : Nat} {M0 : Mem}

/-- How the machine stands when those of S have been carried out. -/
def Mid (base : Nat) (im0 : Nat → Prop) (nt lo : Nat) (M0 : Mem) (ops : Array Oper) (T0 : Tr AV) (H0 : Tr Ent) (nv : Nat) (x : Nat → Eff) (S : Nat → Bool) (a : Act) (w : World) : Prop :=
  ∃ M, M.w = w ∧ M0.le M ∧ Below base M0.w w ∧ RepT M nt (ET S x T0 ops.size) a.tmps ∧ SimH M base im0 (nv + ops.size) (EH S x H0 ops.size) ∧ Marks M lo a.defers ∧
    ∀ i, i < ops.size → S i = false → M.mu (nv + i) = none

theorem wantA_congr {T T' : Tr AV} {o : Oper} (h : ∀ t ∈ o.looksAt ops, T.get t = T'.get t) : wantA ops T o = wantA ops T' o := by
  unfold wantA
  cases hg : o.guard with
  | none => rfl
  | some gw =>
    obtain ⟨j, want⟩ := gw
    simp only
    cases hd : (ops[j]?).bind (·.dst) with
    | none => rfl
    | some d =>
      simp only
      rw [h d (by unfold Oper.looksAt; rw [hg]; simp [hd])]

theorem evA_congr {T T' : Tr AV} {o : Oper} (h : ∀ t ∈ o.looksAt ops, T.get t = T'.get t) : ∀ y ∈ o.op.operands, evA C T y = evA C T' y := by
  intro y hy
  cases y with
  | tmp t =>
    simp only [evA]
    rw [h t (by unfold Oper.looksAt; exact List.mem_append_left _ (List.mem_filterMap.2 ⟨.tmp t, by simpa using hy, rfl⟩))]
  | _ => rfl

theorem Eff.rep {M : Mem} {T : Tr AV} {a : Act} {e : Eff} {o : Oper} {y : Value} (hd : e.dst = o.dst) (hlt : ∀ d, o.dst = some d → d < nt) (hT : RepT M nt T a.tmps) (hr : Rep M e.r y) : RepT M nt (e.t T) (a.put o.dst y).tmps := by
  have : putA nt T o.dst e.r = some (e.t T) := by
    unfold putA Eff.t
    rw [hd]
    cases ho : o.dst with
    | none => rfl
    | some d =>
      have : Nat.blt d nt = true := Nat.ble_eq_true_of_le (hlt d ho)
      simp [this]
  exact putA_sound this hT hr

/-- One operation of the region, where it may come up. -/
theorem op_step (ok : TyOk C) (hclK : CallKOk C cok clK) (hcok : M0.cok = cok) (hg0 : GlobOk C M0) (h : Rg clK C fb nt ops T0 H0 is nv x) {S : Nat → Bool} {i : Nat} (hd : Down ops is S) (hn : Next1 ops is S i)
    {ro : Option Nat} {a : Act} {w : World} {K : Act → World → Prop} {Q : Exit → Act → World → Prop} (hm : Mid base im0 nt lo M0 ops T0 H0 nv x S a w)
    (hK : ∀ a' w', Mid base im0 nt lo M0 ops T0 H0 nv x (add S i) a' w' → K a' w') : wpOpIn (Fo ro) 0 C.P ops Q i K a w := by
  obtain ⟨M, rfl, hle0, hb0, hT, hs, hmk, hmu⟩ := hm
  have hg := hg0.mono hle0
  have hst := h.stp i hn.lt
  have hag : ∀ t ∈ (opAt ops i).looksAt ops, (ET S x T0 ops.size).get t = (ET (fun _ => true) x T0 i).get t := fun t ht => T_agree h hd hn ht
  have hev := evA_congr (C := C) hag
  unfold wpOpIn
  simp only [opAt_some hn.lt]
  obtain ⟨ks, hks, hfree, hdo⟩ := hst.does
  have hver : VerOk M (nv + ops.size) (nv + i) (nv + ops.size) := ⟨hmu i hn.lt hn.out, Nat.le_refl _, by have := hn.lt; omega⟩
  -- the machine's state behind it
  have fin : ∀ (M' : Mem) (y : Value), M.le M' → (∀ q, q ≠ nv + i → M'.mu q = M.mu q) → Rep M' (x i).r y → SimH M' base im0 (nv + ops.size) (EH (add S i) x H0 ops.size) → Below base M.w M'.w →
      Mid base im0 nt lo M0 ops T0 H0 nv x (add S i) (a.put (opAt ops i).dst y) M'.w := by
    intro M' y hle hq hr hs' hb
    refine ⟨M', rfl, Mem.le_trans hle0 hle, hb0.trans hb, ?_, hs', by rw [put_defers]; exact hmk.mono hle, fun j hj hjs => ?_⟩
    · exact (Eff.rep hst.dst hst.lt (hT.mono hle) hr).congr (T_add h hd hn)
    · have hji : j ≠ i := fun e => by subst e; simp [add] at hjs
      rw [hq _ (by omega)]
      refine hmu j hj ?_
      unfold add at hjs; rw [if_neg hji] at hjs; exact hjs
  have keepH : (x i).h = .keep → ∀ k, (EH (add S i) x H0 ops.size).get k = (EH S x H0 ops.size).get k := fun hk k => by
    rw [H_add h hd hn k, hk]; rfl
  rcases hdo with ⟨hw, hr, hk⟩ | ⟨hw, hdoes⟩
  · rw [wantA_sound ((wantA_congr hag).trans hw) hT]
    simp only [Bool.false_eq_true, if_false]
    refine ⟨fun _ _ => trivial, hK _ _ (fin M undef (Mem.le_refl M) (fun _ _ => rfl) (by rw [hr]; unfold Rep; rfl) (hs.congr (keepH hk)) (Below.refl _ _))⟩
  · rw [wantA_sound ((wantA_congr hag).trans hw) hT]
    simp only [if_true]
    have hevo : EvOk M (evA C (ET S x T0 ops.size)) a.eval := evOk hT hg
    have stay : ∀ {V H' : Tr Ent}, Sub V (EH S x H0 ops.size) → stays (opAt ops i).op = true → (x i).h = .keep → aop C (evA C (ET (fun _ => true) x T0 i)) V (fb + (opAt ops i).dst.getD 0) (nv + i) (opAt ops i).type (opAt ops i).op = some ((x i).r, H') →
        (opAt ops i).wpIn (Fo ro) 0 C.P a M.w K Q := by
      intro V H' hsub hst' hk ha
      rw [← aop_congr hev] at ha
      obtain ⟨y, w', hbr, _, hstay⟩ := aop_sound ok (o := opAt ops i) ha hevo (hs.sub hsub) hver
      obtain ⟨_, rfl, hr⟩ := hstay hst'
      exact brings_wp hbr (aop_nodefer ha) (hK _ _ (fin M y (Mem.le_refl M) (fun _ _ => rfl) hr (hs.congr (keepH hk)) (Below.refl _ _)))
    have hsubH : (diAt is i).cls ≠ 0 → Sub (hide (EH (fun _ => true) x H0 i) ks) (EH S x H0 ops.size) := fun hc k e hk => by
      obtain ⟨h1, h2⟩ := hide_get hk
      rw [H_agree h hd hn hks hc h2]; exact h1
    rcases hdoes with ⟨_, hk, hst', H', ha⟩ | ⟨hc, hk, hh⟩ | ⟨hc, k, e, V, hkey, hown, ha, he, hx⟩ | ⟨hc, H', ha, hx⟩
    · exact stay (Sub.leaf _) hst' hk ha
    · rcases hh with ⟨f, args, ats, ho, hcall⟩ | ⟨⟨t, n, ps, ho⟩, H', ha⟩ | ⟨hst', H', ha⟩
      · have e1 : evA C (ET (fun _ => true) x T0 i) f = evA C (ET S x T0 ops.size) f := (hev f (by rw [ho]; simp [Op.operands, Call.operands])).symm
        have e2 : args.toList.map (evA C (ET (fun _ => true) x T0 i)) = args.toList.map (evA C (ET S x T0 ops.size)) := map_congr_mem fun y hy => (hev y (by rw [ho]; simp only [Op.operands, Call.operands, Array.mem_append]; exact .inr (by simpa using hy))).symm
        rw [e1, e2] at hcall
        obtain ⟨d, f', as, h1, h2, h3⟩ := hclK _ _ _ _ hcall M base im0 (nv + ops.size) (a.eval f) (args.toList.map a.eval) (hle0.cok.trans hcok) (hs.sub (hsubH (by omega))) hg (hevo f) (hevo.list _)
        refine ⟨fun _ _ => trivial, ?_⟩
        have hro : (Fo ro).round = ro := rfl
        rw [hro, Oper.semAt_eq ro a.eval _ (by intro c hc'; rw [ho] at hc'; cases hc')]
        have hxx : (execOp a.eval (opAt ops i)).run C.P M.w = .ok (.enter f' as) M.w := by
          unfold execOp
          simp only [ho, resolve]
          have : (args.map a.eval) = (args.toList.map a.eval).toArray := by rw [← Array.toList_map]
          rw [this, Sem.run_bind, h1]
          simpa [Result.andThen] using h2
        rw [hxx]
        refine upon_wp (R := PostK M (x i).r) (h3 : UponOk C.P (.enter f' as) M.w _) fun v w' ⟨M', hw', hle, hmu', hi, hlt, hr, hb⟩ => ?_
        subst hw'
        exact hK _ _ (fin M' v hle (fun q _ => by rw [hmu']) hr ((hs.grow hle hmu' hi hlt hb).congr (keepH hk)) (hb.mono hs.size))
      · rw [← aop_congr hev] at ha
        have hs0 : SimH M M.w.heap.size M.imm (nv + ops.size) .leaf := SimH.empty hs.lt (fun r q hq => hs.fresh r q hq)
        obtain ⟨y, w', hbr, hp, _⟩ := aop_sound ok (o := opAt ops i) ha hevo hs0 hver
        obtain ⟨M', hw', hle, hq, hr, hs'⟩ := hp.ex
        subst hw'
        have hrsl : ∃ sz es ex, (x i).r = .rsl sz es ex := by
          rw [ho] at ha
          simp only [aop, abuildSlice] at ha
          split at ha
          · generalize hcc : (_ && _) = c at ha
            cases c with
            | false => simp at ha
            | true =>
              simp only [cond_true] at ha
              split at ha
              · cases ha
              · simp only [Option.map_eq_some_iff, Prod.mk.injEq] at ha
                obtain ⟨es, _, hr', _⟩ := ha
                exact ⟨_, _, _, hr'.symm⟩
          · cases ha
        let M2 : Mem := { M' with mu := M.mu }
        have hle2 : M.le M2 := ⟨fun _ _ x => x, hle.imm, hle.same, hle.cok⟩
        have hr2 : Rep M2 (x i).r y := by
          obtain ⟨sz, es, ex, e⟩ := hrsl
          rw [e] at hr ⊢
          unfold Rep at hr ⊢; exact hr
        refine brings_wp hbr (aop_nodefer ha) (hK _ _ (fin M2 y hle2 (fun _ _ => rfl) hr2 ((hs.grow hle2 rfl (fun b hb => hs'.new b hb) hs'.lt hp.below).congr (keepH hk)) (hp.below.mono hs.size)))
      · exact stay (hsubH (by omega)) hst' hk ha
    · have hown' : ownOk (evA C (ET S x T0 ops.size)) (fb + (opAt ops i).dst.getD 0) k (opAt ops i).op = true := by
        rw [← hown]
        unfold ownOk
        split
        · rfl
        · rfl
        · rfl
        · rfl
        · rfl
        · rename_i t p q hop
          rw [hev p (by rw [hop]; simp [Op.operands])]
        · rename_i args ats hop
          cases hargs : args.toList with
          | nil => rfl
          | cons s rest =>
            simp only
            rw [hev s (by rw [hop]; simp only [Op.operands, Call.operands, Array.mem_append]; refine .inr ?_; rw [← Array.mem_toList_iff, hargs]; simp)]
        · rfl
      rw [← aop_congr hev] at ha
      obtain ⟨H'', ha', hget, hother⟩ := aop_own hown' (hsubH (by omega)) ha he
      obtain ⟨y, w', hbr, hp, _⟩ := aop_sound ok (o := opAt ops i) ha' hevo hs hver
      obtain ⟨M', hw', hle, hq, hr, hs'⟩ := hp.ex
      subst hw'
      refine brings_wp hbr (aop_nodefer ha') (hK _ _ (fin M' y hle hq hr (hs'.congr fun j => ?_) hp.below))
      rw [H_add h hd hn j, hx]
      simp only [HE.app]
      by_cases hj : j = k
      · subst hj; rw [Tr.get_set_self, hget]
      · rw [Tr.get_set_ne hj, hother j hj]
    · have hks0 : ks = [] := by
        unfold ownFree at hfree
        rw [hc] at hfree
        cases ks with
        | nil => rfl
        | cons => cases hfree
      subst hks0
      rw [← H_same h hd hn hks (by omega), ← aop_congr hev] at ha
      obtain ⟨y, w', hbr, hp, _⟩ := aop_sound ok (o := opAt ops i) ha hevo hs hver
      obtain ⟨M', hw', hle, hq, hr, hs'⟩ := hp.ex
      subst hw'
      refine brings_wp hbr (aop_nodefer ha) (hK _ _ (fin M' y hle hq hr (hs'.congr fun j => ?_) hp.below))
      rw [H_add h hd hn j, hx]; rfl
end
end Go.Vm
