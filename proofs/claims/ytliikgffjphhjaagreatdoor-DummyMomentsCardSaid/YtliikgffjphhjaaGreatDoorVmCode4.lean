/- A small evaluator over abstract values: what the evaluator says of a call holds of the model. -/
import Derived.Test.YtliikgffjphhjaaGreatDoorVmCode3
namespace Go.Vm
open Go.RowKit (Below)

/-- A function's table entry says what the program holds. -/
def FnOk (C : Cx) (drawOk : Array Oper → List DI → Bool) : Prop := ∀ f fi, C.fn f = some fi → ∃ fn, C.P.funcs[f]? = some fn ∧ fn.body = some fi.body ∧ fn.ntmps = fi.ntmps ∧ fn.results.toList = fi.results ∧
  fn.name ≠ "runtime.NumGoroutine" ∧ CodeOk C drawOk f fi.body

def Enters (P : Program) (f : FuncId) : Prop := ∀ args w, (callFunc f args).run P w = .ok (.enter f args) w

/-- The specifications hold. -/
def SpecOk (C : Cx) : Prop := ∀ f as r, C.mode f = .spec → C.spec f as = some r → Enters C.P f ∧ Computes C f as r

theorem enters_of {P : Program} {f : FuncId} {fn : Func} (h1 : P.funcs[f]? = some fn) (h2 : fn.body.isSome) (h3 : fn.name ≠ "runtime.NumGoroutine") : Enters P f := fun args w => by
  unfold callFunc
  have hb : ¬ fn.body = none := fun e => by rw [e] at h2; cases h2
  simp [h1, h3, hb]

section
variable {C : Cx} {drawOk : Array Oper → List DI → Bool} {cl : CallF} {clK : CallK}

theorem GlobOk.bare {M : Mem} (h : GlobOk C M) : GlobOk C M.bare := h
theorem GlobOk.ofBare {M : Mem} (h : GlobOk C M.bare) : GlobOk C M := h

theorem body_sound (ok : TyOk C) (hfn : FnOk C drawOk) (hcl : CallOk C (CodeOk C drawOk) cl) (hdraw : DrawOk C (CodeOk C drawOk) drawOk clK) {f : FuncId} {fb nv nf : Nat} {as : List AV} {H : Tr Ent} {r : AV} {s1 : St}
    (h : body C cl clK f fb as H nv nf = some (r, s1)) {M : Mem} {base : Nat} {im0 : Nat → Prop} {ys : List Value} (hcok : M.cok = CodeOk C drawOk) (hs : SimH M base im0 nv H) (hg : GlobOk C M) (hr : RepL M as ys) :
    Enters C.P f ∧ CallsIn (Fo none) 0 C.P f ys.toArray M.w (fun e w' => ∃ v, e = .returned v ∧ PostV M base im0 s1 r v w') := by
  unfold body at h
  split at h
  · cases h
  · rename_i fi hfi
    obtain ⟨fn, h1, h2, h3, h4, h5, h6⟩ := hfn f fi hfi
    refine ⟨enters_of h1 (by rw [h2]; rfl) h5, ?_⟩
    cases hn : Nat.ble as.length fi.ntmps with
    | false => simp [hn] at h
    | true =>
      simp only [hn, Bool.not_true, cond_false] at h
      have hnow : Now base im0 fi.ntmps M.w.heap.size M { T := initT 0 as .leaf, H := H, nv := nv, nf := nf + fi.ntmps } { tmps := ys.toArray ++ Array.replicate (fn.ntmps - ys.toArray.size) undef, defers := [] } M.w := by
        rw [h3]
        exact ⟨M, rfl, Mem.le_refl M, Below.refl _ _, initT_rep hr (Nat.le_of_ble_eq_true hn), hs, Marks.nil⟩
      have fin : ∀ ex s2, (evCode cl clK C f fb fi.ntmps false fi.body { T := initT 0 as .leaf, H := H, nv := nv, nf := nf + fi.ntmps } = some (ex, s2)) → (exOf ex = .normal ∨ exOf ex = .ret) → (resA C s2 fi.results).map (fun r => (r, s2)) = some (r, s1) →
          CallsIn (Fo none) 0 C.P f ys.toArray M.w (fun e w' => ∃ v, e = .returned v ∧ PostV M base im0 s1 r v w') := by
        intro ex s2 hev hex hres
        simp only [Option.map_eq_some_iff, Prod.mk.injEq] at hres
        obtain ⟨r', hres, rfl, rfl⟩ := hres
        refine callsIn_of_wp_marks h1 h2 trivial (wpIn_mono (evCode_sound ok hcl hdraw rfl hcok hg (Nat.le_refl _) (ro := none) (fun _ => rfl) fi.body _ _ _ hev h6 _ _ hnow) ?_)
        intro e a w ⟨he, M1, hw, hle, hb, hT, hs1, rs, hd, hnd, hrs⟩
        subst hw
        have hleave : LeavesInM (Fo none) 0 C.P fn a.tmps (fun e w' => ∃ v, e = .returned v ∧ PostV M base im0 s2 r' v w') a.defers .returning M1.w := by
          rw [hd]
          refine marks_off (by have := hs.size; omega) rs M1 hs1 hnd hrs fun M2 hoff hs2 => ?_
          have hT2 : RepT M2 fi.ntmps s2.T a.tmps := ⟨hT.1, fun i x hi => ⟨(hT.2 i x hi).1, (hT.2 i x hi).2.monoW hoff.lw⟩⟩
          obtain ⟨v, hv, hrv⟩ := resA_sound (fn := fn) ok hs2 hT2 (by rw [h4]; exact hres)
          refine ⟨v, hv, v, rfl, M2, rfl, ?_, hrv, hs2, hb.trans (hoff.below.mono hs.size)⟩
          exact ⟨fun q x hx => by rw [hoff.mu]; exact hle.mu q x hx, fun b hb' => hoff.imm b (hs.lt b hb') (hle.imm b hb'), fun b hb' => (hoff.below.block b (hs.lt b hb')).trans (hle.same b hb'), hoff.cok.trans hle.cok⟩
        rcases hex with hex | hex
        · rw [he, hex]; exact hleave
        · rw [he, hex]; exact hleave
      split at h
      · rename_i s2 hev; exact fin _ _ hev (.inl rfl) h
      · rename_i s2 hev; exact fin _ _ hev (.inr rfl) h
      · cases h

theorem tree_sound (ok : TyOk C) (hfn : FnOk C drawOk) (hcl : CallOk C (CodeOk C drawOk) cl) (hdraw : DrawOk C (CodeOk C drawOk) drawOk clK) {f : FuncId} {as : List AV} {r : AV} (h : tree C cl clK f as = some r) :
    Enters C.P f ∧ Computes C f as r := by
  unfold tree at h
  split at h
  · cases h
  · rename_i r0 s1 hb
    simp only [Option.map_eq_some_iff] at h
    obtain ⟨⟨r', H'⟩, hf, rfl⟩ := h
    have key : ∀ (M : Mem) (ys : List Value), M.cok = CodeOk C drawOk → (∀ b, M.imm b → b < M.w.heap.size) → RepL M.bare as ys → GlobOk C M →
      Enters C.P f ∧ CallsIn (Fo none) 0 C.P f ys.toArray M.w (fun e w' => ∃ v, e = .returned v ∧ PostK M.bare r' v w') := by
      intro M ys hcok hlt hr hg
      have hs : SimH M.bare M.w.heap.size M.imm 0 .leaf := SimH.empty (M := M.bare) hlt (fun r x hx => by cases hx)
      obtain ⟨h1, h2⟩ := body_sound ok hfn hcl hdraw hb (M := M.bare) (base := M.w.heap.size) (im0 := M.imm) hcok hs hg.bare hr
      refine ⟨h1, h2.mono fun e w' ⟨v, he, M1, hw, hle, hrv, hs1, hbl⟩ => ⟨v, he, ?_⟩⟩
      obtain ⟨M2, hw2, hle2, _, hs2, hr2⟩ := frz_sound hf hs1
      refine ⟨M2.bare, hw2.trans hw, ?_, rfl, fun b hb => ?_, ?_, hr2 v hrv, hbl⟩
      · exact ⟨fun _ _ x => (by cases x), fun b hb => hle2.imm b (hle.imm b hb), fun b hb => (hle2.same b (hle.imm b hb)).trans (hle.same b hb), hle2.cok.trans hle.cok⟩
      · rcases hs2.new b hb with h | h
        · exact .inl h
        · exact .inr h
      · intro b hb
        have := hs2.lt b hb
        rw [hw2, hw] at this; exact this
    have conv : ∀ (M : Mem) (c : FuncId → Code → Prop), M.lw { M with cok := c } := fun M c => ⟨fun _ _ x => x, fun b o hb ho _ => ⟨hb, ho⟩⟩
    have key2 : Computes C f as r' := by
      intro M ys hlt hr hg
      refine (key { M with cok := CodeOk C drawOk } ys rfl hlt (hr.monoW (Mem.lw_bare (conv M _))) (fun g cs hgl => ?_)).2.mono fun e w' ⟨v, he, M2, hw, hle, hmu, hi, hlt2, hrv, hb⟩ => ?_
      · obtain ⟨hi, arr, ty, fr, h1, h2⟩ := hg g cs hgl
        exact ⟨hi, arr, ty, fr, h1, h2.monoW (Mem.lw_bare (conv M _))⟩
      · refine ⟨v, he, { M2 with cok := M.cok }, hw, ⟨hle.mu, hle.imm, hle.same, rfl⟩, hmu, hi, hlt2, hrv.monoW (conv M2 _), hb⟩
    refine ⟨?_, key2⟩
    unfold body at hb
    split at hb
    · cases hb
    · rename_i fi hfi
      obtain ⟨fn, h1, h2, _, _, h5, _⟩ := hfn f fi hfi
      exact enters_of h1 (by rw [h2]; rfl) h5

theorem Rep.toMu {M : Mem} (h : ∀ q, M.mu q = none) {mu : Nat → Option (Nat × Nat)} {a : AV} {y : Value} (k : Rep M a y) : Rep { M with mu := mu } a y := by
  have hl : M.lw { M with mu := mu } := ⟨fun q x hx => (by rw [h q] at hx; cases hx), fun b o hb ho _ => ⟨hb, ho⟩⟩
  exact k.monoW hl

theorem flatCall_sound (ok : TyOk C) (hfn : FnOk C drawOk) (hcl : CallOk C (CodeOk C drawOk) cl) (hdraw : DrawOk C (CodeOk C drawOk) drawOk clK) (hsp : SpecOk C) {f : FuncId} {as : List AV} {r : AV} (h : flatCall C cl clK f as = some r) :
    Enters C.P f ∧ Computes C f as r := by
  unfold flatCall at h
  split at h
  · rename_i hm; exact hsp f as r hm h
  · exact tree_sound ok hfn hcl hdraw h
  · cases h

theorem fn_enter {P : Program} {f : FuncId} (he : Enters P f) {M : Mem} {y : Value} {ys : List Value} {first cap : List AV} {args : List AV} (hy : Rep M (.fn (.func f) first cap) y) (hys : RepL M args ys) :
    ∃ zs, RepL M (first ++ args ++ cap) zs ∧ ∃ d, (Deferred.ofValue y ys.toArray).run P M.w = .ok d M.w ∧ (invoke d.target d.args).run P M.w = .ok (.enter f zs.toArray) M.w := by
  unfold Rep at hy
  obtain ⟨l, c, rfl, h1, h2⟩ := hy
  refine ⟨l ++ ys ++ c, (h1.append hys).append h2, { target := .fn (.func f) c.toArray, args := l.toArray ++ ys.toArray }, rfl, ?_⟩
  have := he (l.toArray ++ ys.toArray ++ c.toArray) M.w
  simpa [invoke] using this

theorem callK_sound (ok : TyOk C) (hfn : FnOk C drawOk) (hcl : CallOk C (CodeOk C drawOk) cl) (hdraw : DrawOk C (CodeOk C drawOk) drawOk clK) (hsp : SpecOk C) : CallKOk C (CodeOk C drawOk) (callK C cl clK) := by
  intro callee args H r h M base im0 nv y ys hcok hs hg hy hys
  unfold callK at h
  split at h
  · rename_i f first cap
    cases hc : (first ++ args ++ cap).all closed with
    | true =>
      simp only [hc, cond_true] at h
      obtain ⟨he, hcomp⟩ := flatCall_sound ok hfn hcl hdraw hsp h
      obtain ⟨zs, hz, d, hd1, hd2⟩ := fn_enter he hy hys
      refine ⟨d, f, _, hd1, hd2, (hcomp M zs hs.lt (closedL_rep hc hz) hg).mono fun e w' ⟨v, hev, M', hw, hle, hmu, hi, hlt, hr, hb⟩ => ⟨v, hev, ?_⟩⟩
      refine ⟨{ M' with mu := M.mu }, hw, ⟨fun _ _ x => x, hle.imm, hle.same, hle.cok⟩, rfl, hi, hlt, Rep.toMu (fun q => by rw [hmu]; rfl) hr, hb⟩
    | false =>
      simp only [hc, cond_false] at h
      split at h
      · cases h
      · rename_i as H' hfz
        split at h
        · cases h
        · rename_i r' hfl
          cases hp : pureA r' with
          | false => simp [hp] at h
          | true =>
            simp only [hp, cond_true, Option.some.injEq] at h; subst h
            obtain ⟨he, hcomp⟩ := flatCall_sound ok hfn hcl hdraw hsp hfl
            obtain ⟨zs, hz, d, hd1, hd2⟩ := fn_enter he hy hys
            obtain ⟨M1, hw1, hle1, hmu1, hs1, hr1⟩ := frzL_sound hfz hs
            have hcall := hcomp M1 zs hs1.lt (hr1 zs hz) (hg.mono hle1)
            rw [hw1] at hcall
            refine ⟨d, f, _, hd1, hd2, hcall.mono fun e w' ⟨v, hev, M', hw, hle, hmu, hi, hlt, hr, hb⟩ => ⟨v, hev, ?_⟩⟩
            have hb' : Below M.w.heap.size M.w w' := by have := hb; rw [show M1.bare.w = M.w from hw1] at this; exact this
            refine ⟨{ M with w := w' }, rfl, (hs.other hb').1, rfl, fun b hb => .inl hb, fun b hb => Nat.lt_of_lt_of_le (hs.lt b hb) hb'.size, pureA_rep hp hr _, hb'⟩
  · cases h

theorem setPs_sound {M : Mem} {nt : Nat} : ∀ (ps : List Tmp) (as : List AV) (T T' : Tr AV) (ys : List Value) (tmps : Array Value), setPs ps as T nt = some T' → RepT M nt T tmps → RepL M as ys →
    ys.length = ps.length ∧ RepT M nt T' ((ps.zip ys).foldl (fun tmps x => tmps.setIfInBounds x.1 x.2) tmps)
  | [], [], T, T', ys, tmps, h, hT, hy => by
    simp only [setPs, Option.some.injEq] at h; subst h
    rw [RepL.nil_iff] at hy; subst hy
    exact ⟨rfl, hT⟩
  | [], _ :: _, _, _, _, _, h, _, _ => by simp [setPs] at h
  | _ :: _, [], _, _, _, _, h, _, _ => by simp [setPs] at h
  | t :: ps, a :: as, T, T', ys, tmps, h, hT, hy => by
    rw [RepL.cons_iff] at hy
    obtain ⟨z, zs, rfl, h1, h2⟩ := hy
    simp only [setPs] at h
    cases hlt : Nat.blt t nt with
    | false => simp [hlt] at h
    | true =>
      simp only [hlt, cond_true] at h
      have := putA_sound (M := M) (nt := nt) (T := T) (T' := T.set t a) (a := { tmps := tmps, defers := [] }) (dst := some t) (r := a) (y := z) (by simp [putA, hlt]) hT h1
      obtain ⟨k1, k2⟩ := setPs_sound ps as _ T' zs _ h this h2
      exact ⟨by simp [k1], k2⟩



/-- A round of a range over a function, asked for by its yield. -/
theorem yield_sound (ok : TyOk C) (hcl : CallOk C (CodeOk C drawOk) cl) (hdraw : DrawOk C (CodeOk C drawOk) drawOk clK) {k r : Nat} {args : List AV} {st st' : St} {x : AV}
    (h : callF C cl clK (.yld k r) args st = some (x, st')) {M : Mem} {base : Nat} {im0 : Nat → Prop} {y : Value} {ys : List Value} (hcok : M.cok = CodeOk C drawOk) (hs : SimH M base im0 st.nv st.H) (hg : GlobOk C M)
    (hy : Rep M (.yld k r) y) (hys : RepL M args ys) :
    ∃ d nx, (Deferred.ofValue y ys.toArray).run C.P M.w = .ok d M.w ∧ (invoke d.target d.args).run C.P M.w = .ok nx M.w ∧ UponOk C.P nx M.w (PostV M base im0 st' x) := by
  unfold callF at h
  simp only at h
  split at h
  · rename_i ver fid fb nt T ps asg bd hlive
    split at h
    · cases h
    · rename_i T1 hps
      split at h
      · rename_i s1 hasg
        split at h
        · rename_i ver1 fid' fb' nt' T' ps' asg' bd' hlive1
          split at h
          · cases h
          · rename_i e s2 hbd
            split at h
            · rename_i ver2 fid2 fb2 nt2 T2 ps2 asg2 bd2 hlive2
              unfold Rep at hy
              obtain ⟨b, ct, hmu, rfl⟩ := hy
              obtain ⟨hget, hver⟩ := live_some hlive
              obtain ⟨b0, ct0, hE⟩ := hs.ent _ _ hget
              have heq := hE.mu
              rw [hver, hmu] at heq
              simp only [Option.some.injEq, Prod.mk.injEq] at heq
              obtain ⟨rfl, rfl⟩ := heq
              obtain ⟨l, hheap, hc1, hc2, hp1, hp2, hp3, hp4, hp5⟩ := hE.blk
              obtain ⟨hlen, hT1⟩ := setPs_sound ps args T T1 ys l.tmps hps hp4 hys
              have hsz : ys.toArray.size = l.params.size := by rw [List.size_toArray, hlen, ← hp1]; simp
              have hyield := run_yield (P := C.P) (args := ys.toArray) hheap hsz
              have hfold : ((l.params.zip ys.toArray).foldl (fun tmps (t, a) => tmps.setIfInBounds t a) l.tmps) = ((ps.zip ys).foldl (fun tmps x => tmps.setIfInBounds x.1 x.2) l.tmps) := by
                rw [← Array.foldl_toList, Array.toList_zip, hp1]
              rw [hfold] at hyield
              refine ⟨{ target := .fn (.yield b) #[], args := #[] ++ ys.toArray }, _, rfl, by simpa [invoke] using hyield, ?_⟩
              refine roundIn_of_wpIn trivial ?_
              have hin : (Fo none).inRound b = Fo (some b) := rfl
              rw [hin, hp2, hp3]
              have hn0 : Now base im0 nt M.w.heap.size M { st with T := T1 } { tmps := (ps.zip ys).foldl (fun tmps x => tmps.setIfInBounds x.1 x.2) l.tmps, defers := [] } M.w :=
                ⟨M, rfl, Mem.le_refl M, Below.refl _ _, hT1, hs, Marks.nil⟩
              refine wpIn_mono (evCode_sound ok hcl hdraw rfl hcok hg (Nat.le_refl _) (ro := some b) (fun hx => by cases hx) asg _ _ _ hasg (by rw [hcok] at hc1; exact hc1) _ _ hn0) ?_
              intro e1 a1 w1 ⟨he1, M1, hw1, hle1, hb1, hT1', hs1, hm1⟩
              subst hw1
              rw [he1]
              obtain ⟨hget1, hver1⟩ := live_some hlive1
              obtain ⟨b1, ct1, hE1⟩ := hs1.ent _ _ hget1
              have heq := hE1.mu
              rw [hver1, hle1.mu _ _ hmu] at heq
              simp only [Option.some.injEq, Prod.mk.injEq] at heq
              obtain ⟨rfl, rfl⟩ := heq
              obtain ⟨l1, hheap1, hc11, hc12, hp11, hp12, hp13, hp14, hp15⟩ := hE1.blk
              have hbegin := run_beginRound (P := C.P) hheap1 hp15.1
              refine ⟨_, hbegin, ?_⟩
              obtain ⟨hle2, hs2, hb2⟩ := hs1.write hget1 hE1 rfl (w' := M1.w.putObj b (.loop { l1 with state := .busy })) (fun b' hb' => World.putObj_heap_other hb') rfl rfl rfl World.putObj_size
                (.loop fid' fb' nt' T' ps' asg' bd' (some none)) (fun hle => ⟨{ l1 with state := .busy }, World.putObj_heap_same hE1.lt, hc11, hc12, hp11, hp12, hp13, hp14.mono hle, rfl⟩)
              have hn1 : Now base im0 nt M.w.heap.size M { s1 with H := s1.H.set k { ver := r, fz := false, blk := .loop fid' fb' nt' T' ps' asg' bd' (some none) } } a1 (M1.w.putObj b (.loop { l1 with state := .busy })) :=
                ⟨_, rfl, Mem.le_trans hle1 hle2, hb1.trans hb2, hT1'.mono hle2, by have := hs2; rw [hver1] at this; exact this, hm1.mono hle2⟩
              refine wpIn_mono (evCode_sound ok hcl hdraw rfl hcok hg (Nat.le_refl _) (ro := some b) (fun hx => by cases hx) bd _ _ _ hbd (by rw [hcok] at hc2; exact hc2) _ _ hn1) ?_
              intro e2 a2 w2 ⟨he2, M2, hw2, hle2', hbb2, hT2, hs2', hm2⟩
              subst hw2
              rw [he2]
              obtain ⟨hget2, hver2⟩ := live_some hlive2
              obtain ⟨b2, ct2, hE2⟩ := hs2'.ent _ _ hget2
              have heq := hE2.mu
              rw [hver2, hle2'.mu _ _ hmu] at heq
              simp only [Option.some.injEq, Prod.mk.injEq] at heq
              obtain ⟨rfl, rfl⟩ := heq
              obtain ⟨l2, hheap2, hc21, hc22, hp21, hp22, hp23, hp24, hp25⟩ := hE2.blk
              have fin : ∀ (pend : Option (Option Code)) (jump : Option Code) (W : World), W = M2.w.putObj b (.loop { l2 with state := if jump.isNone then .ready else .done, pending := jump }) →
                  (match pend with | none => (if jump.isNone then LoopState.ready else .done) = .ready ∧ jump = none | some none => (if jump.isNone then LoopState.ready else .done) = .busy | some (some c) => (if jump.isNone then LoopState.ready else .done) = .done ∧ jump = some c) →
                  ∃ v w', Result.ok (.bool jump.isNone) W = (.ok v w' : Result Value) ∧ ∃ v_1, Ending.returned v = .returned v_1 ∧ PostV M base im0 { s2 with T := st.T, H := s2.H.set k { ver := r, fz := false, blk := .loop fid2 fb2 nt2 T2 ps2 asg2 bd2 pend } } (gB jump.isNone) v_1 w' := by
                intro pend jump W hW hp
                subst hW
                obtain ⟨hle3, hs3, hb3⟩ := hs2'.write hget2 hE2 rfl (w' := M2.w.putObj b (.loop { l2 with state := if jump.isNone then .ready else .done, pending := jump })) (fun b' hb' => World.putObj_heap_other hb') rfl rfl rfl World.putObj_size
                  (.loop fid2 fb2 nt2 T2 ps2 asg2 bd2 pend) (fun hle => ⟨_, World.putObj_heap_same hE2.lt, hc21, hc22, hp21, hp22, hp23, hp24.mono hle, hp⟩)
                refine ⟨_, _, rfl, _, rfl, _, rfl, Mem.le_trans hle2' hle3, by unfold gB Rep; rfl, by have := hs3; rw [hver2] at this; exact this, hbb2.trans hb3⟩
              cases e with
              | nrm =>
                simp only [Option.some.injEq, Prod.mk.injEq] at h
                obtain ⟨rfl, rfl⟩ := h
                simp only [exOf, roundPost, run_endRound (P := C.P) none hheap2]
                exact fin none none _ rfl ⟨rfl, rfl⟩
              | exit i =>
                simp only [Option.some.injEq, Prod.mk.injEq] at h
                obtain ⟨rfl, rfl⟩ := h
                simp only [exOf, roundPost, run_endRound (P := C.P) (some (.exit i)) hheap2]
                exact fin (some (some (.exit i))) (some (.exit i)) _ rfl ⟨rfl, rfl⟩
              | ret =>
                simp only [Option.some.injEq, Prod.mk.injEq] at h
                obtain ⟨rfl, rfl⟩ := h
                simp only [exOf, roundPost, run_endRound (P := C.P) (some .ret) hheap2]
                exact fin (some (some .ret)) (some .ret) _ rfl ⟨rfl, rfl⟩
            · cases h
        · cases h
      · cases h
  · cases h

theorem callF_sound (ok : TyOk C) (hfn : FnOk C drawOk) (hcl : CallOk C (CodeOk C drawOk) cl) (hdraw : DrawOk C (CodeOk C drawOk) drawOk clK) (hsp : SpecOk C) : CallOk C (CodeOk C drawOk) (callF C cl clK) := by
  intro callee args st r st' h M base im0 y ys hcok hs hg hy hys
  cases callee with
  | yld k q =>
    obtain ⟨d, nx, h1, h2, h3⟩ := yield_sound ok hcl hdraw h hcok hs hg hy hys
    exact ⟨d, nx, h1, h2, h3, fun ⟨_, _, _, e⟩ => by cases e⟩
  | fn f first cap =>
    cases f with
    | func f =>
      simp only [callF] at h
      split at h
      · split at h
        · cases h
        · rename_i r0 s1 hb
          simp only [Option.some.injEq, Prod.mk.injEq] at h
          obtain ⟨rfl, rfl⟩ := h
          have he : Enters C.P f := by
            unfold body at hb
            split at hb
            · cases hb
            · rename_i fi hfi
              obtain ⟨fn, h1, h2, _, _, h5, _⟩ := hfn f fi hfi
              exact enters_of h1 (by rw [h2]; rfl) h5
          obtain ⟨zs, hz, d, hd1, hd2⟩ := fn_enter he hy hys
          have hcall := (body_sound ok hfn hcl hdraw hb hcok hs hg hz).2
          exact ⟨d, _, hd1, hd2, hcall, fun _ => ⟨_, _, rfl⟩⟩
      · split at h
        · cases h
        · rename_i as H' hfz
          split at h
          · cases h
          · rename_i r' hfl
            simp only [Option.some.injEq, Prod.mk.injEq] at h
            obtain ⟨rfl, rfl⟩ := h
            obtain ⟨he, hcomp⟩ := flatCall_sound ok hfn hcl hdraw hsp hfl
            obtain ⟨zs, hz, d, hd1, hd2⟩ := fn_enter he hy hys
            obtain ⟨M1, hw1, hle1, hmu1, hs1, hr1⟩ := frzL_sound hfz hs
            have hcall := hcomp M1 zs hs1.lt (hr1 zs hz) (hg.mono hle1)
            rw [hw1] at hcall
            refine ⟨d, _, hd1, hd2, hcall.mono fun e w' ⟨v, hev, M', hw, hle, hmu, hi, hlt, hr, hb⟩ => ⟨v, hev, ?_⟩, fun _ => ⟨_, _, rfl⟩⟩
            have hb' : Below M.w.heap.size M.w w' := by have := hb; rw [show M1.bare.w = M.w from hw1] at this; exact this
            cases hp : pureA r' with
            | true => exact ⟨{ M with w := w' }, rfl, (hs.other hb').1, pureA_rep hp hr _, (hs.other hb').2, hb'.mono hs.size⟩
            | false =>
              have hle2 : M1.le { M' with mu := M1.mu } := ⟨fun _ _ x => x, hle.imm, hle.same, hle.cok⟩
              refine ⟨{ M' with mu := M1.mu }, hw, Mem.le_trans hle1 hle2, Rep.toMu (fun q => by rw [hmu]; rfl) hr, ?_, hb'.mono hs.size⟩
              refine SimH.grow hs1 hle2 rfl hi (fun b hb => ?_) ?_
              · have := hlt b hb; rw [← hw] at this; exact this
              · have := hb; rw [← hw] at this; exact this
    | _ => simp [callF] at h
  | _ => simp [callF] at h

/-- All calls through the evaluator are sound. -/
theorem run_sound (ok : TyOk C) (hfn : FnOk C drawOk) (hsp : SpecOk C) (hdraw : ∀ clK, CallKOk C (CodeOk C drawOk) clK → DrawOk C (CodeOk C drawOk) drawOk clK) :
    ∀ d, CallOk C (CodeOk C drawOk) (run C d) ∧ CallKOk C (CodeOk C drawOk) (runK C d)
  | 0 => ⟨fun _ _ _ _ _ h => by simp [run] at h, fun _ _ _ _ h => by simp [runK] at h⟩
  | d + 1 => by
    obtain ⟨h1, h2⟩ := run_sound ok hfn hsp hdraw d
    exact ⟨fun c a s r s' h => callF_sound ok hfn h1 (hdraw _ h2) hsp c a s r s' (by simpa [run] using h), fun c a s r h => callK_sound ok hfn h1 (hdraw _ h2) hsp c a s r (by simpa [runK] using h)⟩

theorem evTree_sound (ok : TyOk C) (hfn : FnOk C drawOk) (hsp : SpecOk C) (hdraw : ∀ clK, CallKOk C (CodeOk C drawOk) clK → DrawOk C (CodeOk C drawOk) drawOk clK) {d : Nat} {f : FuncId} {as : List AV} {r : AV}
    (h : evTree C d f as = some r) : Enters C.P f ∧ Computes C f as r := by
  obtain ⟨h1, h2⟩ := run_sound ok hfn hsp hdraw d
  exact tree_sound ok hfn h1 (hdraw _ h2) h
end
end Go.Vm
