/- A small evaluator over abstract values: code and functions whose values are not known. -/
import Derived.Test.YtliikgffjphhjaaGreatDoorVmF
import Derived.KernelRfl
import Derived.Laws.StructEq
namespace Go.Vm
open Go.RowKit (Below)
structure Says (C : Cx) (p nt : Nat) (rd : Bool) (c : Code) (st : St) (ex : Ex) (st' : St) : Prop where
 run : ∀ (ro : Option Nat), (rd = false → ro = none) → ∀ (base : Nat) (im0 : Nat → Prop) (lo : Nat) (M0 : Mem) (a : Act) (w : World), M0.cok = CodeOk C drawOk → GlobOk C M0 → lo ≤ M0.w.heap.size → (∀ r, p ≤ r → M0.mu r = none) → Now base im0 nt lo M0 st a w →
  c.wpIn (Fo ro) 0 C.P (fun e a' w' => e = exOf ex ∧ Now base im0 nt lo M0 st' a' w') a w
def findBr : List Hn → Option (List Hn × List Hn)
 | [] => none
 | .br a b :: _ => some (a, b)
 | _ :: r => findBr r
def brT (hs : List Hn) : List Hn := match findBr hs with
 | some p => p.1
 | none => hs
def brF (hs : List Hn) : List Hn := match findBr hs with
 | some p => p.2
 | none => hs
section
variable {R : Type}
def evCodeD (cl : CallF) (clK : CallK) (clD : CallD R) (C : Cx) (fid fb nt : Nat) (rd : Bool) : Code → St → List Hn → (Ex → St → List Hn → Dt R) → Dt R
 | .skip, st, hs, k => k .nrm st hs
 | .label _, st, hs, k => k .nrm st hs
 | .region id ops dr, st, hs, k => fzD hs st fun st hs =>
  bif dr then
   match C.draw fid id with
   | none => .done none
   | some is => match stFz (C.pre fid id) st.T st.H with
    | none => .done none
    | some (T0, H0) => evDsD clK C fb nt ops T0 st.nv ops.toList is T0 H0 hs fun T H h1 => k .nrm { st with T := T, H := H, nv := st.nv + ops.size } h1
  else evOpsD cl clD C fb nt ops ops.toList st hs fun s h => k .nrm s h
 | .seq a b, st, hs, k => evCodeD cl clK clD C fid fb nt rd a st hs fun ex s1 h1 => match ex with
  | .nrm => evCodeD cl clK clD C fid fb nt rd b s1 h1 k
  | e => k e s1 h1
 | .cond c a b, st, hs, k => asD hs st.T (tmpOf c) fun T hs => match evA C T c with
  | .v (.bool t) => bif t then evCodeD cl clK clD C fid fb nt rd a { st with T := setC T c true } (brT hs) k else evCodeD cl clK clD C fid fb nt rd b { st with T := setC T c false } (brF hs) k
  | _ => .done none
 | .block id c, st, hs, k => evCodeD cl clK clD C fid fb nt rd c st hs fun ex s1 h1 => match ex with
  | .exit i => bif Nat.beq i id then k .nrm s1 h1 else k (.exit i) s1 h1
  | e => k e s1 h1
 | .loop c, st, hs, k => match hs with
  | .loop p ts ks ts2 ks2 ex vs' es' :: hs' => match canon C.keep 0 nt ts ks st with
   | none => .done none
   | some (vs, es) => bif nodupN ks2 && Nat.ble p ks2.length && Nat.ble p ks.length && Nat.beq es'.length ks2.length then
     .need (EnC es ∧ EnC es' ∧ Says C p nt rd (.loop c) (mkSt ts ks st.nf vs es) ex (mkSt ts2 ks2 st.nf vs' es')) (k ex (backSt p (versOf st.H ks) st.nv ts2 ks2 st.nf vs' es') hs')
    else .done none
  | hs => iterD (evCodeD cl clK clD C fid fb nt rd c) C.fuel st hs k
 | .scope c, st, hs, k => bif rd then .done none else evCodeD cl clK clD C fid fb nt rd c st hs k
 | .exit id, st, hs, k => k (.exit id) st hs
 | .ret, st, hs, k => fpD hs st fun st hs => k .ret st hs
 | .goto _, _, _, _ => .done none
 | .refuse _, _, _, _ => .done none
 | .rangeFunc f ps asg body, st, hs, k =>
  bif rd then .done none else
  match ps.toList, evA C st.T f with
  | p :: _, .fn g as bs =>
   clD (.fn g as bs) [.yld (fb + p) st.nv] { st with H := st.H.set (fb + p) { ver := st.nv, fz := false, blk := .loop fid fb nt st.T ps.toList asg body none }, nv := st.nv + 1 } hs fun _ s1 h1 =>
    match live s1.H (fb + p) st.nv with
    | some { fz := false, blk := .loop _ _ _ _ _ _ _ pend, .. } =>
     match pend with
     | none => k .nrm { s1 with T := st.T, H := s1.H.del (fb + p) } h1
     | some (some .ret) => k .ret { s1 with T := st.T, H := s1.H.del (fb + p) } h1
     | some (some (.exit i)) => k (.exit i) { s1 with T := st.T, H := s1.H.del (fb + p) } h1
     | _ => .done none
    | _ => .done none
  | _, _ => .done none
def leaveD (C : Cx) (fi : FI) (k : AV → St → List Hn → Dt R) : Ex → St → List Hn → Dt R
 | .exit _, _, _ => .done none
 | _, s1, h1 => match resA C s1 fi.results with
  | none => .done none
  | some r => k r s1 h1
def inlD (C : Cx) (cl : CallF) (clK : CallK) (clD : CallD R) (f : FuncId) (as : List AV) (st : St) (hs : List Hn) (k : AV → St → List Hn → Dt R) : Dt R :=
 match C.fn f with
 | none => .done none
 | some fi =>
  bif Nat.ble as.length fi.ntmps then
   evCodeD cl clK clD C f st.nf fi.ntmps false fi.body { T := initT 0 as .leaf, H := st.H, nv := st.nv, nf := st.nf + fi.ntmps } hs
    (leaveD C fi fun r s1 h1 => k r { s1 with T := st.T } h1)
  else .done none
def WrOk (C : Cx) (f : FuncId) (sz : Nat) (es rest es' : List AV) : Prop :=
 Enters C.P f ∧ 0 < es.length ∧ es'.length = es.length ∧ ∀ (M : Mem) (b ct : Nat) (arr : Array Value) (ty : TypeId) (ys rs : List Value), (∀ x, M.imm x → x < M.w.heap.size) → GlobOk C M → ¬ M.imm b → b < M.w.heap.size →
  M.w.heap[b]? = some (.cells arr ty (0, 0)) → RepL M es ys → Sized sz ys → arr.size = ct * sz → es.length ≤ ct → arr.toList.take (es.length * sz) = flat ys → RepL M rest rs →
  CallsIn (Fo none) 0 C.P f (.slice (some ⟨b, 0, none⟩) es.length ct :: rs).toArray M.w (fun e w' => e = .returned (.tuple #[]) ∧ w'.os = M.w.os ∧ w'.tape = M.w.tape ∧ w'.output = M.w.output ∧ M.w.heap.size ≤ w'.heap.size ∧
   (∀ k, k ≠ b → k < M.w.heap.size → w'.heap[k]? = M.w.heap[k]?) ∧ ∃ arr' ys', w'.heap[b]? = some (.cells arr' ty (0, 0)) ∧ RepL M es' ys' ∧ Sized sz ys' ∧ arr'.size = arr.size ∧ arr'.toList.take (es.length * sz) = flat ys')
def efD (C : Cx) (f : FuncId) (l : List AV) (st : St) (hs : List Hn) (k : AV → St → List Hn → Dt R) (e : Dt R) : Dt R :=
 match hs with
 | .ef es' :: hs' => (match l with
  | .sl kk q sz 0 len :: rest => (match live st.H kk q with
   | some { fz := false, blk := .arr sz' es ex, .. } => bif Nat.beq sz sz' then
     .need (len = es.length ∧ WrOk C f sz es rest es') (k (.v (.tuple #[])) { st with H := st.H.set kk { ver := q, fz := false, blk := .arr sz' es' ex } } hs')
    else .done none
   | _ => .done none)
  | _ => .done none)
 | _ => e
def callD (C : Cx) (cl : CallF) (clK : CallK) (clD : CallD R) : CallD R := fun callee args st hs k =>
 match callee with
 | .yld kk r => match live st.H kk r with
  | some { fz := false, blk := .loop fid fb nt T ps asg bd none, .. } =>
   match setPs ps args T nt with
   | none => .done none
   | some T1 => evCodeD cl clK clD C fid fb nt true asg { st with T := T1 } hs fun e1 s1 h1 => match e1 with
    | .nrm => match live s1.H kk r with
     | some { fz := false, blk := .loop fid' fb' nt' T' ps' asg' bd' none, .. } =>
      evCodeD cl clK clD C fid fb nt true bd { s1 with H := s1.H.set kk { ver := r, fz := false, blk := .loop fid' fb' nt' T' ps' asg' bd' (some none) } } h1 fun e s2 h2 =>
       match live s2.H kk r with
       | some { fz := false, blk := .loop fid2 fb2 nt2 T2 ps2 asg2 bd2 (some none), .. } =>
        match e with
        | .nrm => k (gB true) { s2 with T := st.T, H := s2.H.set kk { ver := r, fz := false, blk := .loop fid2 fb2 nt2 T2 ps2 asg2 bd2 none } } h2
        | .exit i => k (gB false) { s2 with T := st.T, H := s2.H.set kk { ver := r, fz := false, blk := .loop fid2 fb2 nt2 T2 ps2 asg2 bd2 (some (some (.exit i))) } } h2
        | .ret => k (gB false) { s2 with T := st.T, H := s2.H.set kk { ver := r, fz := false, blk := .loop fid2 fb2 nt2 T2 ps2 asg2 bd2 (some (some .ret)) } } h2
       | _ => .done none
     | _ => .done none
    | _ => .done none
  | _ => .done none
 | .fn (.func f) first cap => efD C f (first ++ args ++ cap) st hs k <|
  match C.mode f with
  | .inl => inlD C cl clK clD f (first ++ args ++ cap) st hs k
  | .spec => match hs with
   | .il :: hs' => inlD C cl clK clD f (first ++ args ++ cap) st hs' k
   | .sp as r :: hs' => match frzL st.H (first ++ args ++ cap) with
    | none => .done none
    | some (as', H) => .need (as' = as ∧ C.spec f as = some r) (k r (bif pureA r then st else { st with H := H }) hs')
   | hs => match callF C cl clK callee args st with
    | none => .done none
    | some (r, s1) => k r s1 hs
  | .tree => match callF C cl clK callee args st with
   | none => .done none
   | some (r, s1) => k r s1 hs
 | _ => .done none
def runD (C : Cx) : Nat → CallD R
 | 0, _, _, _, _, _ => .done none
 | d + 1, callee, args, st, hs, k => callD C (run C d) (runK C (d + 1)) (runD C d) callee args st hs k
theorem knows_runK {C : Cx} (d : Nat) : KnowsSp C (runK C (d + 1)) := fun g first cap args H as r hm ha hp hs => by
 unfold argsK at ha
 cases hc : (first ++ args ++ cap).all closed with
 | true =>
  rw [hc] at ha
  simp only [cond_true, Option.some.injEq] at ha
  subst ha
  simp only [runK, callK, hc, cond_true, flatCall, hm, hs]
 | false =>
  rw [hc, Bool.false_or] at hp
  rw [hc] at ha
  simp only [cond_false] at ha
  obtain ⟨⟨as', H'⟩, hf, rfl⟩ := Option.map_eq_some_iff.1 ha
  simp only [runK, callK, hc, cond_false, hf, flatCall, hm, hs, hp, cond_true]
def treeD (C : Cx) (cl : CallF) (clK : CallK) (clD : CallD AV) (f : FuncId) (as : List AV) (hs : List Hn) : Dt AV :=
 match C.fn f with
 | none => .done none
 | some fi =>
  bif Nat.ble as.length fi.ntmps then
  evCodeD cl clK clD C f 0 fi.ntmps false fi.body { T := initT 0 as .leaf, H := .leaf, nv := 0, nf := 0 + fi.ntmps } hs
   (leaveD C fi fun r s1 _ => .done ((frz s1.H r).map (·.1)))
  else .done none
def evTreeD (C : Cx) (d : Nat) (f : FuncId) (as : List AV) (hs : List Hn) : Dt AV := treeD C (run C d) (runK C (d + 1)) (runD C d) f as hs
def PostD (M : Mem) (base : Nat) (im0 : Nat → Prop) (r : R) (k : AV → St → List Hn → Dt R) (v : Value) (w' : World) : Prop :=
 ∃ x s1 h1, PostV M base im0 s1 x v w' ∧ (k x s1 h1).ok r
def CallDOk (C : Cx) (cok : FuncId → Code → Prop) (clD : CallD R) : Prop := ∀ callee args st hs k r, (clD callee args st hs k).ok r →
 ∀ (M : Mem) (base : Nat) (im0 : Nat → Prop) (y : Value) (ys : List Value), M.cok = cok → SimH M base im0 st.nv st.H → GlobOk C M → Rep M callee y → RepL M args ys →
  ∃ d nx, (Deferred.ofValue y ys.toArray).run C.P M.w = .ok d M.w ∧ (invoke d.target d.args).run C.P M.w = .ok nx M.w ∧
   UponOk C.P nx M.w (PostD M base im0 r k) ∧ ((∃ f a b, callee = .fn f a b) → ∃ f args, nx = .enter f args)
section
variable {C : Cx} {cl : CallF} {clK : CallK} {clD : CallD R} {base : Nat} {im0 : Nat → Prop} {lo : Nat} {M0 : Mem} {r : R} {fid fb nt : Nat} {rd : Bool} {ro : Option Nat}
theorem evOD_says (ok : TyOk C) (hcl : CallOk C (CodeOk C drawOk) cl) (hclD : CallDOk C (CodeOk C drawOk) clD) (hcok : M0.cok = CodeOk C drawOk) (hg0 : GlobOk C M0) {ops : Array Oper} {o : Oper} {i : Nat} {st : St} {hs : List Hn} {k : St → List Hn → Dt R} (hi : ops[i]? = some o)
  (h : (evOD cl clD C fb nt ops o st hs k).ok r) {a : Act} {w : World} (hn : Now base im0 nt lo M0 st a w) {K : Act → World → Prop} {Q : Exit → Act → World → Prop}
  (hK : ∀ s1 h1 a' w', Now base im0 nt lo M0 s1 a' w' → (k s1 h1).ok r → K a' w') : wpOpIn (Fo ro) 0 C.P ops Q i K a w := by
 rcases evOD_ok h with ⟨s1, s2, h1, he, hwk, hk⟩ | ⟨f, args, ats, hwa, ho, hc⟩
 ·exact evO_sound ok hcl hcok hg0 hi he hn (fun a' w' hn' => hK s2 h1 a' w' (hwk _ _ _ _ _ _ _ hn') hk)
 ·obtain ⟨M, rfl, hle0, hb0, hT, hs', hm⟩ := hn
  have hg := hg0.mono hle0
  unfold wpOpIn
  simp only [hi]
  rw [wantA_sound hwa hT]
  simp only [if_true]
  have he := evOk hT hg (a := a)
  obtain ⟨d, nx, h1, h2, h3, _⟩ := hclD _ _ _ _ _ _ hc M base im0 (a.eval f) (args.toList.map a.eval) (hle0.cok.trans hcok) hs' hg (he f) (he.list _)
  refine ⟨fun _ _ => trivial, ?_⟩
  have hro : (Fo ro).round = ro := rfl
  rw [hro, Oper.semAt_eq ro a.eval o (by intro c hc'; rw [ho] at hc'; cases hc')]
  have hx : (execOp a.eval o).run C.P M.w = .ok nx M.w := by
   unfold execOp
   simp only [ho, resolve]
   have : (args.map a.eval) = (args.toList.map a.eval).toArray := by rw [← Array.toList_map]
   rw [this, Sem.run_bind, h1]
   simpa [Result.andThen] using h2
  rw [hx]
  refine upon_wp h3 fun v w' ⟨x, s1, hh1, ⟨M', hw, hle, hr, hs'', hb⟩, hk⟩ => ?_
  dsimp only at hk
  split at hk
  ·exact (Dt.fail hk).elim
  ·rename_i T hT'
   exact hK _ _ _ _ (Now.step (st := st) hle0 hb0 hT hm hw hle hr hs'' hb hT') hk
theorem evOpsD_says (ok : TyOk C) (hcl : CallOk C (CodeOk C drawOk) cl) (hclD : CallDOk C (CodeOk C drawOk) clD) (hcok : M0.cok = CodeOk C drawOk) (hg0 : GlobOk C M0) {ops : Array Oper} {k : St → List Hn → Dt R} {Q : Exit → Act → World → Prop}
  (hQ : ∀ s1 h1 a' w', Now base im0 nt lo M0 s1 a' w' → (k s1 h1).ok r → Q .normal a' w') : ∀ (os : List Oper) (l : List Nat), l.map (fun i => ops[i]?) = os.map some → ∀ (st : St) (hs : List Hn) (a : Act) (w : World),
   (evOpsD cl clD C fb nt ops os st hs k).ok r → Now base im0 nt lo M0 st a w → wpOpsIn (Fo ro) 0 C.P ops Q l a w
 | [], [], _, st, hs, a, w, h, hn => hQ _ _ _ _ hn h
 | [], _ :: _, hl, _, _, _, _, _, _ => by simp at hl
 | _ :: _, [], hl, _, _, _, _, _, _ => by simp at hl
 | o :: os, i :: l, hl, st, hs, a, w, h, hn => by
  simp only [List.map_cons, List.cons.injEq] at hl
  simp only [evOpsD] at h
  obtain ⟨_, h⟩ := asD_ok h
  rw [wpOpsIn_cons]
  exact evOD_says ok hcl hclD hcok hg0 hl.1 h hn (fun s1 h1 a' w' hn' hk => evOpsD_says ok hcl hclD hcok hg0 hQ os l hl.2 s1 h1 a' w' hk hn')
theorem iterD_says {c : Code} {g : St → List Hn → (Ex → St → List Hn → Dt R) → Dt R}
  (hg : ∀ st hs k, (g st hs k).ok r → ∀ a w, Now base im0 nt lo M0 st a w → c.wpIn (Fo ro) 0 C.P (fun e a' w' => ∃ ex st1 h1, e = exOf ex ∧ Now base im0 nt lo M0 st1 a' w' ∧ (k ex st1 h1).ok r) a w) :
  ∀ (m : Nat) (st : St) (hs : List Hn) (k : Ex → St → List Hn → Dt R), (iterD g m st hs k).ok r → ∀ a w, Now base im0 nt lo M0 st a w →
   Code.roundsIn (Fo ro) 0 C.P c (fun e a' w' => ∃ ex st1 h1, e = exOf ex ∧ Now base im0 nt lo M0 st1 a' w' ∧ (k ex st1 h1).ok r) m a w
 | 0, _, _, _, h, _, _, _ => (Dt.fail h).elim
 | m + 1, st, hs, k, h, a, w, hn => by
  rw [roundsIn_succ]
  simp only [iterD] at h
  refine wpIn_mono (hg _ _ _ h a w hn) fun e a' w' ⟨ex, st1, h1, he, hn', hk⟩ => ?_
  subst he
  cases ex with
  | nrm => exact iterD_says hg m st1 h1 k hk a' w' hn'
  | exit i => exact ⟨_, st1, h1, rfl, hn', hk⟩
  | ret => exact ⟨_, st1, h1, rfl, hn', hk⟩
theorem evCodeD_says {rd : Bool} {ro : Option Nat} (ok : TyOk C) (hK : KnowsSp C clK) (hcl : CallOk C (CodeOk C drawOk) cl) (hclD : CallDOk C (CodeOk C drawOk) clD) (hdraw : DrawOk C (CodeOk C drawOk) drawOk clK) (hcok : M0.cok = CodeOk C drawOk) (hg0 : GlobOk C M0) (hlo : lo ≤ M0.w.heap.size) (hro : rd = false → ro = none) :
  ∀ (c : Code) (st : St) (hs : List Hn) (k : Ex → St → List Hn → Dt R), (evCodeD cl clK clD C fid fb nt rd c st hs k).ok r → CodeOk C drawOk fid c → ∀ a w, Now base im0 nt lo M0 st a w →
   c.wpIn (Fo ro) 0 C.P (fun e a' w' => ∃ ex st1 h1, e = exOf ex ∧ Now base im0 nt lo M0 st1 a' w' ∧ (k ex st1 h1).ok r) a w
 | .skip, st, hs, k, h, _, a, w, hn => wpIn_skip ⟨.nrm, _, _, rfl, hn, h⟩
 | .label _, st, hs, k, h, _, a, w, hn => wpIn_label ⟨.nrm, _, _, rfl, hn, h⟩
 | .exit id, st, hs, k, h, _, a, w, hn => wpIn_exit ⟨.exit id, _, _, rfl, hn, h⟩
 | .ret, st, hs, k, h, _, a, w, hn => by
  obtain ⟨st', hs', hwk, h⟩ := fpD_ok (by simpa only [evCodeD] using h)
  exact wpIn_ret ⟨.ret, _, _, rfl, hwk _ _ _ _ _ _ _ hn, h⟩
 | .region id ops dr, st, hs, k, h, hc, a, w, hn => by
  obtain ⟨st', hs', hwk, h⟩ := fzD_ok (by simpa only [evCodeD] using h)
  have hn := hwk _ _ _ _ _ _ _ hn
  clear hwk
  revert h hn
  generalize st' = st
  generalize hs' = hs
  intro h hn
  cases dr with
  | true =>
   simp only [cond_true] at h
   split at h
   ·exact (Dt.fail h).elim
   ·rename_i is his
    split at h
    ·exact (Dt.fail h).elim
    ·rename_i T0 H0 hfz
     obtain ⟨T1, H1, hh1, h1, h⟩ := evDsD_ok hK _ _ _ _ _ _ h
     exact hdraw fb nt ops is T0 st.nv H0 T1 H1 (hc is his) h1 base im0 lo M0 st.nf ro id a w _ hcok hg0 (stFz_now _ _ _ hfz hn) (fun a' w' hn' => ⟨.nrm, _, hh1, rfl, hn', h⟩)
  | false =>
   simp only [cond_false] at h
   refine wpIn_region (evOpsD_says ok hcl hclD hcok hg0 (fun s1 h1 a' w' hn' hk => ⟨.nrm, s1, h1, rfl, hn', hk⟩) ops.toList (List.range ops.size) ?_ st hs a w h hn)
   apply List.ext_getElem?
   intro i
   simp only [List.getElem?_map]
   by_cases hi : i < ops.size
   ·rw [List.getElem?_range hi]; simp [hi]
   ·rw [List.getElem?_eq_none (by simpa using hi), List.getElem?_eq_none (by simpa using hi)]; rfl
 | .seq x y, st, hs, k, h, hc, a, w, hn => by
  simp only [evCodeD] at h
  refine wpIn_seq (wpIn_mono (evCodeD_says ok hK hcl hclD hdraw hcok hg0 hlo hro x st hs _ h hc.1 a w hn) fun e a' w' ⟨ex, st1, h1, he, hn', hk⟩ => ?_)
  subst he
  cases ex with
  | nrm => exact evCodeD_says ok hK hcl hclD hdraw hcok hg0 hlo hro y st1 h1 k hk hc.2 a' w' hn'
  | exit i => exact ⟨_, st1, h1, rfl, hn', hk⟩
  | ret => exact ⟨_, st1, h1, rfl, hn', hk⟩
 | .cond c x y, st, hs, k, h, hc, a, w, hn => by
  simp only [evCodeD] at h
  obtain ⟨_, h⟩ := asD_ok h
  split at h
  ·rename_i t ht
   have hev : a.eval c = .bool t := by
    obtain ⟨M, rfl, hle0, hb0, hT, hs, hm⟩ := hn
    have := evOk hT (hg0.mono hle0) (a := a) c
    rw [ht] at this; unfold Rep at this; exact this
   have hsame := setC_same ht
   refine wpIn_cond hev ?_
   cases t with
   | true => rw [hsame] at h; exact evCodeD_says ok hK hcl hclD hdraw hcok hg0 hlo hro x st _ k h hc.1 a w hn
   | false => rw [hsame] at h; exact evCodeD_says ok hK hcl hclD hdraw hcok hg0 hlo hro y st _ k h hc.2 a w hn
  ·exact (Dt.fail h).elim
 | .block id c, st, hs, k, h, hc, a, w, hn => by
  simp only [evCodeD] at h
  refine wpIn_block (wpIn_mono (evCodeD_says ok hK hcl hclD hdraw hcok hg0 hlo hro c st hs _ h hc a w hn) fun e a' w' ⟨ex, st1, h1, he, hn', hk⟩ => ?_)
  subst he
  cases ex with
  | nrm => exact ⟨_, st1, h1, rfl, hn', hk⟩
  | exit i =>
   simp only [exOf, Exit.inBlock]
   simp only at hk
   cases hb : Nat.beq i id with
   | true => simp only [hb, cond_true] at hk; rw [if_pos (Nat.eq_of_beq_eq_true hb)]; exact ⟨.nrm, st1, h1, rfl, hn', hk⟩
   | false => simp only [hb, cond_false] at hk; rw [if_neg (Nat.ne_of_beq_eq_false hb)]; exact ⟨.exit i, st1, h1, rfl, hn', hk⟩
  | ret => exact ⟨_, st1, h1, rfl, hn', hk⟩
 | .loop c, st, hs, k, h, hc, a, w, hn => by
  simp only [evCodeD] at h
  split at h
  ·rename_i p ts ks ts2 ks2 ex vs' es' hs'
   split at h
   ·exact (Dt.fail h).elim
   ·rename_i vs es hcan
    generalize hbb : (nodupN ks2 && Nat.ble p ks2.length && Nat.ble p ks.length && Nat.beq es'.length ks2.length) = bb at h
    cases bb with
    | false => exact (Dt.fail h).elim
    | true =>
    simp only [Bool.and_eq_true] at hbb
    obtain ⟨⟨⟨b1, b2⟩, b3⟩, b4⟩ := hbb
    obtain ⟨⟨h1, h2, h3⟩, h4⟩ := h
    obtain ⟨M, rfl, hle0, hb0, hT, hs0, hm⟩ := hn
    have hall : ∀ {j k : Nat}, ks[j]? = some k → ∃ e, st.H.get k = some e := by
     unfold canon at hcan
     generalize (nodupN ks && allLt nt ts && perOk 0 0 (versOf st.H ks)) = q at hcan
     cases q with
     | false => cases hcan
     | true =>
      simp only [cond_true] at hcan
      split at hcan
      ·cases hcan
      ·rename_i es0 hes; exact fun hk => canonH_all hes hk
    let N : Mem := { M with mu := fun r => if r < p then muAt M st.H ks r else none }
    have hNn : Now base im0 nt lo N (mkSt ts ks st.nf vs es) a M.w := canon_at hcan h1 hT hs0 hm (Below.refl _ _) (fun r x hx => by
      have hx : (if r < p then muAt M st.H ks r else none) = some x := hx
      by_cases hr : r < p
      ·rw [if_pos hr] at hx; exact hx
      ·rw [if_neg hr] at hx; cases hx) (fun _ x => x) (fun _ _ => rfl) rfl
    have hlen : es'.length = ks2.length := Nat.eq_of_beq_eq_true b4
    refine wpIn_mono (h3.run ro hro base im0 lo N a M.w (hle0.cok.trans hcok) (fun g cs hgl => (hg0.mono hle0 : GlobOk C M) g cs hgl) (Nat.le_trans hlo hb0.size) (fun r hr => if_neg (by omega)) hNn) fun e a' w' ⟨he, hn'⟩ => ?_
    exact ⟨ex, _, _, he, back_now (N := N) hs0 rfl rfl rfl rfl b1 (Nat.le_of_ble_eq_true b2) (Nat.le_of_ble_eq_true b3) hall hlen h2 hle0 hb0 hn', h4⟩
  ·exact wpIn_loop_rounds C.fuel (iterD_says (fun st hs k h a w hn => evCodeD_says ok hK hcl hclD hdraw hcok hg0 hlo hro c st hs k h hc a w hn) C.fuel st _ k h a w hn)
 | .scope c, st, hs, k, h, hc, a, w, hn => by
  simp only [evCodeD] at h
  cases rd with
  | true => exact (Dt.fail h).elim
  | false =>
  simp only [cond_false] at h
  have hw := evCodeD_says ok hK hcl hclD hdraw hcok hg0 hlo hro c st hs k h hc a w hn
  have hro' := hro rfl
  subst hro'
  refine wpIn_wide.2 (wp_scope_straight ?_)
  refine wpIn_wide.1 (wpIn_mono hw fun e a' w' ⟨ex, st1, h1, he, hn', hk⟩ => ?_)
  subst he
  cases ex with
  | nrm => exact ⟨.nrm, st1, h1, rfl, hn', hk⟩
  | exit i => exact ⟨.exit i, st1, h1, rfl, hn', hk⟩
  | ret => exact ⟨.ret, st1, h1, rfl, hn', hk⟩
 | .goto _, st, hs, k, h, _, _, _, _ => by simp only [evCodeD] at h; exact (Dt.fail h).elim
 | .refuse _, st, hs, k, h, _, _, _, _ => by simp only [evCodeD] at h; exact (Dt.fail h).elim
 | .rangeFunc f ps asg bd, st, hs0, k, h, hc, a, w, hn => by
  simp only [evCodeD] at h
  cases rd with
  | true => exact (Dt.fail h).elim
  | false =>
  simp only [cond_false] at h
  have hro' := hro rfl
  subst hro'
  split at h
  ·rename_i p ps' g as bs hps hf
   refine wpIn_rangeFunc fun fn _ => ?_
   obtain ⟨M, rfl, hle0, hb0, hT, hs, hm⟩ := hn
   obtain ⟨Mb, hwb, hleb, hmub, himb, hsb⟩ := hs.born (.deferred (some []))
   have hszb : Mb.w.heap.size = M.w.heap.size + 1 := by rw [hwb]; simp
   let L : Loop := { state := .ready, pending := none, fn := fn, tmps := a.tmps, params := ps, assign := asg, body := bd, defers := M.w.heap.size }
   have hckM : M.cok = CodeOk C drawOk := hle0.cok.trans hcok
   obtain ⟨Ml, hwl, hlel, hmul, hverl, hsl⟩ := hsb.alloc hsb.verOk (.loop L) (fb + p) 1 (.loop fid fb nt st.T ps.toList asg bd none) (fun M' hle' hnew => by
    refine ⟨L, hnew, ?_, ?_, rfl, rfl, rfl, (hT.mono (Mem.le_trans hleb hle')), rfl, rfl⟩
    ·rw [hle'.cok, hleb.cok, hckM]; exact hc.1
    ·rw [hle'.cok, hleb.cok, hckM]; exact hc.2)
   have hleMl : M.le Ml := Mem.le_trans hleb hlel
   have hbMl : Below base M.w Ml.w := by
    rw [hwl, hwb]
    exact ((Below.refl base M.w).alloc hs.size _).alloc (by simp; have := hs.size; omega) _
   have hTl := hT.mono hleMl
   have hgl := hg0.mono (Mem.le_trans hle0 hleMl)
   have hcallee : Rep Ml (.fn g as bs) (a.eval f) := by
    have := evOk hTl hgl (a := a) f
    rwa [hf] at this
   have hy : RepL Ml [.yld (fb + p) st.nv] [.func (.yield Mb.w.heap.size) #[] #[]] := by
    rw [RepL.cons_iff]
    refine ⟨_, _, rfl, ?_, by simp⟩
    unfold Rep
    exact ⟨_, _, hverl, rfl⟩
   obtain ⟨d, nx, h1, h2, h3, h4⟩ := hclD _ _ _ _ _ _ h Ml base im0 (a.eval f) _ (hleMl.cok.trans hckM) hsl hgl hcallee hy
   obtain ⟨f', args, rfl⟩ := h4 ⟨g, as, bs, rfl⟩
   refine ⟨M.w.heap.size + 1, [{ target := .collected M.w.heap.size, args := #[] }], Ml.w, d, Ml.w, f', args, Ml.w, ?_, ?_, fun _ _ => trivial, h2, fun x => by simp [Fo] at x, ?_⟩
   ·have := run_enterLoop_outer (P := C.P) (w := M.w) fn a.tmps ps asg bd
    rw [hwl, hwb]; exact this
   ·have he : a.eval (.const (.func (.yield (M.w.heap.size + 1)) #[] #[])) = .func (.yield Mb.w.heap.size) #[] #[] := by rw [hszb]; rfl
    simp only [resolve, List.map_toArray, List.map_cons, List.map_nil, he]
    exact h1
   ·refine h3.mono fun e w3 ⟨v, he, x0, s1, hh1, ⟨M3, hw3, hle3, _, hs3, hb3⟩, h⟩ => ?_
    subst he
    dsimp only at h
    split at h
    ·rename_i _ ver a1 a2 a3 a4 a5 a6 a7 pend hlive
     obtain ⟨hget, hver⟩ := live_some hlive
     obtain ⟨b, ct, hE⟩ := hs3.ent _ _ hget
     have hbb : b = Mb.w.heap.size := by
      have e1 := hE.mu
      simp only at hver
      rw [show ({ ver := ver, fz := false, blk := Blk.loop a1 a2 a3 a4 a5 a6 a7 pend } : Ent).ver = st.nv from hver, hle3.mu _ _ hverl] at e1
      simp only [Option.some.injEq, Prod.mk.injEq] at e1
      exact e1.1.symm
     obtain ⟨l3, hheap, _, _, _, _, _, _, hpend⟩ := hE.blk
     rw [hbb, hszb] at hheap
     subst hw3
     have hst : l3.state ≠ .busy := by
      cases pend with
      | none => rw [hpend.1]; simp
      | some q => cases q with
       | none => exact (Dt.fail h).elim
       | some c => rw [hpend.1]; simp
     have hrun := run_endLoop (P := C.P) hheap hst
     obtain ⟨hle4, hs4, hb4, _⟩ := hs3.dropWrite hget hE rfl (w' := M3.w.putObj (M.w.heap.size + 1) (.loop { l3 with state := .exhausted }))
      (fun b' hb' => World.putObj_heap_other (by rw [← hszb, ← hbb]; exact hb')) rfl rfl rfl World.putObj_size
     have hle4' : M.le { M3 with w := M3.w.putObj (M.w.heap.size + 1) (.loop { l3 with state := .exhausted }) } := Mem.le_trans hleMl (Mem.le_trans hle3 hle4)
     have hmark : Marks { M3 with w := M3.w.putObj (M.w.heap.size + 1) (.loop { l3 with state := .exhausted }) } lo ([{ target := .collected M.w.heap.size, args := #[] }] ++ a.defers) := by
      obtain ⟨rs, e, n1, n2⟩ := hm
      have hlt : ∀ r ∈ rs, r < M.w.heap.size := fun r hr => hs.lt r (n2 r hr).2.1
      refine ⟨M.w.heap.size :: rs, by rw [e]; rfl, List.nodup_cons.2 ⟨fun hx => Nat.lt_irrefl _ (hlt _ hx), n1⟩, fun r hr => ?_⟩
      rcases List.mem_cons.1 hr with rfl | hr
      ·refine ⟨Nat.le_trans hlo hb0.size, ?_, ?_⟩
       ·exact hle4.imm _ (hle3.imm _ (hlel.imm _ himb))
       ·have := (Mem.le_trans hlel (Mem.le_trans hle3 hle4)).same _ himb
        rw [this, hwb]; exact World.alloc_heap_new M.w _
      ·exact ⟨(n2 r hr).1, hle4'.imm r (n2 r hr).2.1, (hle4'.same r (n2 r hr).2.1).trans (n2 r hr).2.2⟩
     have hnow : ∀ nf, Now base im0 nt lo M0 { T := st.T, H := s1.H.del (fb + p), nv := s1.nv, nf := nf } { a with defers := [{ target := .collected M.w.heap.size, args := #[] }] ++ a.defers } (M3.w.putObj (M.w.heap.size + 1) (.loop { l3 with state := .exhausted })) := fun nf =>
      ⟨_, rfl, Mem.le_trans hle0 hle4', hb0.trans (hbMl.trans (hb3.trans hb4)), hT.mono hle4', hs4, hmark⟩
     refine ⟨_, _, hrun, ?_⟩
     split at h
     ·have hnw := hnow s1.nf
      revert hnw; rw [hpend.2]; intro hnw
      exact ⟨.nrm, _, _, rfl, hnw, h⟩
     ·have hnw := hnow s1.nf
      revert hnw; rw [hpend.2]; intro hnw
      exact wpIn_ret ⟨.ret, _, _, rfl, hnw, h⟩
     ·have hnw := hnow s1.nf
      revert hnw; rw [hpend.2]; intro hnw
      exact wpIn_exit ⟨.exit _, _, _, rfl, hnw, h⟩
     ·exact (Dt.fail h).elim
    ·exact (Dt.fail h).elim
  ·exact (Dt.fail h).elim
end
end
section
variable {R : Type} {C : Cx} {cl : CallF} {clK : CallK} {clD : CallD R} {r : R}
theorem bodyD_sound (ok : TyOk C) (hK : KnowsSp C clK) (hfn : FnOk C drawOk) (hcl : CallOk C (CodeOk C drawOk) cl) (hclD : CallDOk C (CodeOk C drawOk) clD) (hdraw : DrawOk C (CodeOk C drawOk) drawOk clK) {f : FuncId} {fi : FI} (hfi : C.fn f = some fi) {fb nv nf : Nat} {as : List AV} {H : Tr Ent} {hs0 : List Hn} {k : AV → St → List Hn → Dt R}
  (hn : Nat.ble as.length fi.ntmps = true) (h : (evCodeD cl clK clD C f fb fi.ntmps false fi.body { T := initT 0 as .leaf, H := H, nv := nv, nf := nf } hs0 (leaveD C fi k)).ok r)
  {M : Mem} {base : Nat} {im0 : Nat → Prop} {ys : List Value} (hcok : M.cok = CodeOk C drawOk) (hs : SimH M base im0 nv H) (hg : GlobOk C M) (hr : RepL M as ys) :
  Enters C.P f ∧ CallsIn (Fo none) 0 C.P f ys.toArray M.w (fun e w' => ∃ v, e = .returned v ∧ PostD M base im0 r k v w') := by
 obtain ⟨fn, h1, h2, h3, h4, h5, h6⟩ := hfn f fi hfi
 refine ⟨enters_of h1 (by rw [h2]; rfl) h5, ?_⟩
 have hnow : Now base im0 fi.ntmps M.w.heap.size M { T := initT 0 as .leaf, H := H, nv := nv, nf := nf } { tmps := ys.toArray ++ Array.replicate (fn.ntmps - ys.toArray.size) undef, defers := [] } M.w := by
  rw [h3]
  exact ⟨M, rfl, Mem.le_refl M, Below.refl _ _, initT_rep hr (Nat.le_of_ble_eq_true hn), hs, Marks.nil⟩
 refine callsIn_of_wp_marks h1 h2 trivial (wpIn_mono (evCodeD_says ok hK hcl hclD hdraw hcok hg (Nat.le_refl _) (ro := none) (fun _ => rfl) fi.body _ _ _ h h6 _ _ hnow) ?_)
 intro e a w ⟨ex, s2, hh2, he, ⟨M1, hw, hle, hb, hT, hs1, rs, hd, hnd, hrs⟩, hk⟩
 subst hw
 have fin : (match resA C s2 fi.results with | none => (Dt.done none : Dt R) | some x => k x s2 hh2).ok r →
   LeavesInM (Fo none) 0 C.P fn a.tmps (fun e w' => ∃ v, e = .returned v ∧ PostD M base im0 r k v w') a.defers .returning M1.w := by
  intro hk
  split at hk
  ·exact (Dt.fail hk).elim
  ·rename_i r' hres
   rw [hd]
   refine marks_off (by have := hs.size; omega) rs M1 hs1 hnd hrs fun M2 hoff hs2 => ?_
   have hT2 : RepT M2 fi.ntmps s2.T a.tmps := ⟨hT.1, fun i x hi => ⟨(hT.2 i x hi).1, (hT.2 i x hi).2.monoW hoff.lw⟩⟩
   obtain ⟨v, hv, hrv⟩ := resA_sound (fn := fn) ok hs2 hT2 (by rw [h4]; exact hres)
   refine ⟨v, hv, v, rfl, r', s2, hh2, ⟨M2, rfl, ?_, hrv, hs2, hb.trans (hoff.below.mono hs.size)⟩, hk⟩
   exact ⟨fun q x hx => by rw [hoff.mu]; exact hle.mu q x hx, fun b hb' => hoff.imm b (hs.lt b hb') (hle.imm b hb'), fun b hb' => (hoff.below.block b (hs.lt b hb')).trans (hle.same b hb'), hoff.cok.trans hle.cok⟩
 cases ex with
 | nrm => rw [he]; exact fin hk
 | ret => rw [he]; exact fin hk
 | exit i => exact (Dt.fail hk).elim
theorem yieldD_sound (ok : TyOk C) (hK : KnowsSp C clK) (hcl : CallOk C (CodeOk C drawOk) cl) (hclD : CallDOk C (CodeOk C drawOk) clD) (hdraw : DrawOk C (CodeOk C drawOk) drawOk clK) {kk q : Nat} {args : List AV} {st : St} {hs0 : List Hn} {k : AV → St → List Hn → Dt R}
  (h : (callD C cl clK clD (.yld kk q) args st hs0 k).ok r) {M : Mem} {base : Nat} {im0 : Nat → Prop} {y : Value} {ys : List Value} (hcok : M.cok = CodeOk C drawOk) (hs : SimH M base im0 st.nv st.H) (hg : GlobOk C M)
  (hy : Rep M (.yld kk q) y) (hys : RepL M args ys) :
  ∃ d nx, (Deferred.ofValue y ys.toArray).run C.P M.w = .ok d M.w ∧ (invoke d.target d.args).run C.P M.w = .ok nx M.w ∧ UponOk C.P nx M.w (PostD M base im0 r k) := by
 unfold callD at h
 simp only at h
 split at h
 ·rename_i ver fid fb nt T ps asg bd hlive
  split at h
  ·exact (Dt.fail h).elim
  ·rename_i T1 hps
   unfold Rep at hy
   obtain ⟨b, ct, hmu, rfl⟩ := hy
   obtain ⟨hget, hver⟩ := live_some hlive
   obtain ⟨b0, ct0, hE⟩ := hs.ent _ _ hget
   have heq := hE.mu
   rw [hver, hmu] at heq
   simp only [Option.some.injEq, Prod.mk.injEq] at heq
   obtain ⟨rfl, rfl⟩ := heq
   obtain ⟨l, hheap, hc1, hc2, hp1, hp2, hp3, hp4, hp5⟩ := hE.blk
   obtain ⟨hlen, hT1⟩ := setPs_sound ps args T T1 ys l.tmps hps hp4 hys
   have hsz : ys.toArray.size = l.params.size := by rw [List.size_toArray, hlen, ← hp1]; simp
   have hyield := run_yield (P := C.P) (args := ys.toArray) hheap hsz
   have hfold : ((l.params.zip ys.toArray).foldl (fun tmps (t, a) => tmps.setIfInBounds t a) l.tmps) = ((ps.zip ys).foldl (fun tmps x => tmps.setIfInBounds x.1 x.2) l.tmps) := by
    rw [← Array.foldl_toList, Array.toList_zip, hp1]
   rw [hfold] at hyield
   refine ⟨{ target := .fn (.yield b) #[], args := #[] ++ ys.toArray }, _, rfl, by simpa [invoke] using hyield, ?_⟩
   refine roundIn_of_wpIn trivial ?_
   have hin : (Fo none).inRound b = Fo (some b) := rfl
   rw [hin, hp2, hp3]
   have hn0 : Now base im0 nt M.w.heap.size M { st with T := T1 } { tmps := (ps.zip ys).foldl (fun tmps x => tmps.setIfInBounds x.1 x.2) l.tmps, defers := [] } M.w :=
    ⟨M, rfl, Mem.le_refl M, Below.refl _ _, hT1, hs, Marks.nil⟩
   refine wpIn_mono (evCodeD_says ok hK hcl hclD hdraw hcok hg (Nat.le_refl _) (ro := some b) (fun hx => by cases hx) asg _ _ _ h (by rw [hcok] at hc1; exact hc1) _ _ hn0) ?_
   intro e1 a1 w1 ⟨ex1, s1, hh1, he1, ⟨M1, hw1, hle1, hb1, hT1', hs1, hm1⟩, h⟩
   subst hw1
   rw [he1]
   cases ex1 with
   | exit i => exact (Dt.fail h).elim
   | ret => exact (Dt.fail h).elim
   | nrm =>
   simp only at h
   split at h
   ·rename_i ver1 fid' fb' nt' T' ps' asg' bd' hlive1
    obtain ⟨hget1, hver1⟩ := live_some hlive1
    obtain ⟨b1, ct1, hE1⟩ := hs1.ent _ _ hget1
    have heq := hE1.mu
    rw [hver1, hle1.mu _ _ hmu] at heq
    simp only [Option.some.injEq, Prod.mk.injEq] at heq
    obtain ⟨rfl, rfl⟩ := heq
    obtain ⟨l1, hheap1, hc11, hc12, hp11, hp12, hp13, hp14, hp15⟩ := hE1.blk
    have hbegin := run_beginRound (P := C.P) hheap1 hp15.1
    refine ⟨_, hbegin, ?_⟩
    obtain ⟨hle2, hs2, hb2⟩ := hs1.write hget1 hE1 rfl (w' := M1.w.putObj b (.loop { l1 with state := .busy })) (fun b' hb' => World.putObj_heap_other hb') rfl rfl rfl World.putObj_size
     (.loop fid' fb' nt' T' ps' asg' bd' (some none)) (fun hle => ⟨{ l1 with state := .busy }, World.putObj_heap_same hE1.lt, hc11, hc12, hp11, hp12, hp13, hp14.mono hle, rfl⟩)
    have hn1 : Now base im0 nt M.w.heap.size M { s1 with H := s1.H.set kk { ver := q, fz := false, blk := .loop fid' fb' nt' T' ps' asg' bd' (some none) } } a1 (M1.w.putObj b (.loop { l1 with state := .busy })) :=
     ⟨_, rfl, Mem.le_trans hle1 hle2, hb1.trans hb2, hT1'.mono hle2, by have := hs2; rw [hver1] at this; exact this, hm1.mono hle2⟩
    refine wpIn_mono (evCodeD_says ok hK hcl hclD hdraw hcok hg (Nat.le_refl _) (ro := some b) (fun hx => by cases hx) bd _ _ _ h (by rw [hcok] at hc2; exact hc2) _ _ hn1) ?_
    intro e2 a2 w2 ⟨e, s2, hh2, he2, ⟨M2, hw2, hle2', hbb2, hT2, hs2', hm2⟩, h⟩
    subst hw2
    rw [he2]
    split at h
    ·rename_i ver2 fid2 fb2 nt2 T2 ps2 asg2 bd2 hlive2
     obtain ⟨hget2, hver2⟩ := live_some hlive2
     obtain ⟨b2, ct2, hE2⟩ := hs2'.ent _ _ hget2
     have heq := hE2.mu
     rw [hver2, hle2'.mu _ _ hmu] at heq
     simp only [Option.some.injEq, Prod.mk.injEq] at heq
     obtain ⟨rfl, rfl⟩ := heq
     obtain ⟨l2, hheap2, hc21, hc22, hp21, hp22, hp23, hp24, hp25⟩ := hE2.blk
     have fin : ∀ (pend : Option (Option Code)) (jump : Option Code) (W : World), W = M2.w.putObj b (.loop { l2 with state := if jump.isNone then .ready else .done, pending := jump }) →
       (match pend with | none => (if jump.isNone then LoopState.ready else .done) = .ready ∧ jump = none | some none => (if jump.isNone then LoopState.ready else .done) = .busy | some (some c) => (if jump.isNone then LoopState.ready else .done) = .done ∧ jump = some c) →
       (k (gB jump.isNone) { s2 with T := st.T, H := s2.H.set kk { ver := q, fz := false, blk := .loop fid2 fb2 nt2 T2 ps2 asg2 bd2 pend } } hh2).ok r →
       ∃ v w', Result.ok (.bool jump.isNone) W = (.ok v w' : Result Value) ∧ ∃ v_1, Ending.returned v = .returned v_1 ∧ PostD M base im0 r k v_1 w' := by
      intro pend jump W hW hp hk
      subst hW
      obtain ⟨hle3, hs3, hb3⟩ := hs2'.write hget2 hE2 rfl (w' := M2.w.putObj b (.loop { l2 with state := if jump.isNone then .ready else .done, pending := jump })) (fun b' hb' => World.putObj_heap_other hb') rfl rfl rfl World.putObj_size
       (.loop fid2 fb2 nt2 T2 ps2 asg2 bd2 pend) (fun hle => ⟨_, World.putObj_heap_same hE2.lt, hc21, hc22, hp21, hp22, hp23, hp24.mono hle, hp⟩)
      refine ⟨_, _, rfl, _, rfl, _, _, _, ⟨_, rfl, Mem.le_trans hle2' hle3, by unfold gB Rep; rfl, by have := hs3; rw [hver2] at this; exact this, hbb2.trans hb3⟩, hk⟩
     cases e with
     | nrm =>
      simp only [exOf, roundPost, run_endRound (P := C.P) none hheap2]
      exact fin none none _ rfl ⟨rfl, rfl⟩ h
     | exit i =>
      simp only [exOf, roundPost, run_endRound (P := C.P) (some (.exit i)) hheap2]
      exact fin (some (some (.exit i))) (some (.exit i)) _ rfl ⟨rfl, rfl⟩ h
     | ret =>
      simp only [exOf, roundPost, run_endRound (P := C.P) (some .ret) hheap2]
      exact fin (some (some .ret)) (some .ret) _ rfl ⟨rfl, rfl⟩ h
    ·exact (Dt.fail h).elim
   ·exact (Dt.fail h).elim
 ·exact (Dt.fail h).elim
theorem efD_ok {f : FuncId} {l : List AV} {st : St} {hs : List Hn} {k : AV → St → List Hn → Dt R} {e : Dt R} (h : (efD C f l st hs k e).ok r) :
  (∃ kk q sz len rest ver sz' es es' ex hs', l = .sl kk q sz 0 len :: rest ∧ live st.H kk q = some { ver := ver, fz := false, blk := .arr sz' es ex } ∧ sz = sz' ∧ len = es.length ∧ WrOk C f sz es rest es' ∧
   (k (.v (.tuple #[])) { st with H := st.H.set kk { ver := q, fz := false, blk := .arr sz' es' ex } } hs').ok r) ∨ e.ok r := by
 unfold efD at h
 split at h
 ·split at h
  ·split at h
   ·rename_i kk q sz len rest _ ver sz' es ex hl
    generalize hb : Nat.beq sz sz' = b at h
    cases b with
    | false => exact (Dt.fail h).elim
    | true => exact .inl ⟨_, _, _, _, _, _, _, _, _, _, _, rfl, hl, Nat.eq_of_beq_eq_true hb, h.1.1, h.1.2, h.2⟩
   ·exact (Dt.fail h).elim
  ·exact (Dt.fail h).elim
 ·exact .inr h
theorem callD_sound (ok : TyOk C) (hK : KnowsSp C clK) (hfn : FnOk C drawOk) (hcl : CallOk C (CodeOk C drawOk) cl) (_hclK : CallKOk C (CodeOk C drawOk) clK) (hclD : CallDOk C (CodeOk C drawOk) clD) (hdraw : DrawOk C (CodeOk C drawOk) drawOk clK) (hsp : SpecOk C) : CallDOk C (CodeOk C drawOk) (callD C cl clK clD) := by
 intro callee args st hs0 k r h M base im0 y ys hcok hs hg hy hys
 have byF : ∀ {x : AV} {s1 : St} {h1 : List Hn}, callF C cl clK callee args st = some (x, s1) → (k x s1 h1).ok r →
   ∃ d nx, (Deferred.ofValue y ys.toArray).run C.P M.w = .ok d M.w ∧ (invoke d.target d.args).run C.P M.w = .ok nx M.w ∧ UponOk C.P nx M.w (PostD M base im0 r k) ∧ ((∃ f a b, callee = .fn f a b) → ∃ f args, nx = .enter f args) := by
  intro x s1 h1 hc hk
  obtain ⟨d, nx, e1, e2, e3, e4⟩ := callF_sound ok hfn hcl hdraw hsp _ _ _ _ _ hc M base im0 y ys hcok hs hg hy hys
  refine ⟨d, nx, e1, e2, ?_, e4⟩
  cases nx <;> simp only [UponOk] at e3 ⊢
  ·exact e3.mono fun e w' ⟨v, he, hp⟩ => ⟨v, he, x, s1, h1, hp, hk⟩
  ·exact e3.mono fun e w' ⟨v, he, hp⟩ => ⟨v, he, x, s1, h1, hp, hk⟩
 cases callee with
 | yld kk q =>
  obtain ⟨d, nx, h1, h2, h3⟩ := yieldD_sound ok hK hcl hclD hdraw h hcok hs hg hy hys
  exact ⟨d, nx, h1, h2, h3, fun ⟨_, _, _, e⟩ => by cases e⟩
 | fn f first cap =>
  cases f with
  | func f =>
   have byI : ∀ {hs' : List Hn}, (inlD C cl clK clD f (first ++ args ++ cap) st hs' k).ok r →
     ∃ d nx, (Deferred.ofValue y ys.toArray).run C.P M.w = .ok d M.w ∧ (invoke d.target d.args).run C.P M.w = .ok nx M.w ∧ UponOk C.P nx M.w (PostD M base im0 r k) ∧ ((∃ f' a b, AV.fn (.func f) first cap = .fn f' a b) → ∃ f args, nx = .enter f args) := by
    intro hs' h
    unfold inlD at h
    split at h
    ·exact (Dt.fail h).elim
    ·rename_i fi hfi
     cases hn : Nat.ble (first ++ args ++ cap).length fi.ntmps with
     | false => simp only [hn, cond_false] at h; exact (Dt.fail h).elim
     | true =>
      simp only [hn, cond_true] at h
      obtain ⟨fn, q1, q2, _, _, q5, _⟩ := hfn f fi hfi
      obtain ⟨zs, hz, d, hd1, hd2⟩ := fn_enter (enters_of q1 (by rw [q2]; rfl) q5) hy hys
      have hcall := (bodyD_sound ok hK hfn hcl hclD hdraw hfi hn h hcok hs hg hz).2
      exact ⟨d, _, hd1, hd2, hcall.mono fun e w' ⟨v, he, x, s1, h1, hp, hk⟩ => ⟨v, he, x, { s1 with T := st.T }, h1, hp, hk⟩, fun _ => ⟨_, _, rfl⟩⟩
   simp only [callD] at h
   rcases efD_ok h with ⟨kk, q, sz, len, rest, ver, sz', es, es', ex, hs', hl, hlive, hsz, hlen, hE, hk⟩ | h
   ·obtain ⟨he, hpos, hlen', hrun⟩ := hE
    obtain ⟨zs, hz, d, hd1, hd2⟩ := fn_enter he hy hys
    refine ⟨d, _, hd1, hd2, ?_, fun _ => ⟨_, _, rfl⟩⟩
    rw [hl, RepL.cons_iff] at hz
    obtain ⟨z, rs, rfl, hz1, hz2⟩ := hz
    obtain ⟨hget, rfl⟩ := live_some hlive
    obtain ⟨b, ct, hent⟩ := hs.ent _ _ hget
    unfold Rep at hz1
    obtain ⟨b', ct', o, hmu', hle', rfl, ho⟩ := hz1
    have := hent.mu.symm.trans hmu'
    simp only [Option.some.injEq, Prod.mk.injEq] at this
    obtain ⟨rfl, rfl⟩ := this
    obtain ⟨arr, ty, ys0, hb0, hr0, hsd0, hsz0, hct0, hex0, htk0⟩ := hent.blk
    subst hlen
    subst hsz
    have ho' : o = 0 := by rw [ho (by omega), Nat.zero_mul]
    subst ho'
    refine (hrun M b ct arr ty ys0 rs hs.lt hg (hent.own rfl) hent.lt hb0 hr0 hsd0 hsz0 hct0 htk0 hz2).mono ?_
    rintro e w' ⟨rfl, p1, p2, p3, p4, p5, arr', ys', q1, q2, q3, q4, q5⟩
    refine ⟨_, rfl, _, _, _, ?_, hk⟩
    let w1 : World := { M.w with heap := M.w.heap.setIfInBounds b (.cells arr' ty (0, 0)) }
    have hw1 : w1.heap[b]? = some (.cells arr' ty (0, 0)) := by show (M.w.heap.setIfInBounds b _)[b]? = _; simp [hent.lt]
    have hw1' : ∀ k, k ≠ b → w1.heap[k]? = M.w.heap[k]? := fun k hk => by show (M.w.heap.setIfInBounds b _)[k]? = _; simp [Ne.symm hk]
    have hsz1 : w1.heap.size = M.w.heap.size := by show (M.w.heap.setIfInBounds b _).size = _; simp
    obtain ⟨r1, r2, r3⟩ := hs.write (w' := w1) hget hent rfl hw1' rfl rfl rfl hsz1 (.arr sz es' ex) (fun hle => ⟨arr', ty, ys', hw1, q2.mono hle, q3, q4.trans hsz0, by omega, fun x => hlen'.trans (hex0 x), by rw [hlen']; exact q5⟩)
    have hbel : Below w1.heap.size w1 w' := ⟨p1, p2, p3, hsz1 ▸ p4, fun k hk => by
     by_cases hkb : k = b
     ·subst hkb; exact q1.trans hw1.symm
     ·exact (p5 k hkb (hsz1 ▸ hk)).trans (hw1' k hkb).symm⟩
    obtain ⟨r4, r5⟩ := r2.other hbel
    exact ⟨_, rfl, Mem.le_trans r1 r4, by unfold Rep; rfl, r5, r3.trans (hbel.mono (Nat.le_trans hs.size (Nat.le_of_eq hsz1.symm)))⟩
   split at h
   ·exact byI h
   ·rename_i hmode
    split at h
    ·exact byI h
    ·rename_i as x hs' _
     split at h
     ·exact (Dt.fail h).elim
     ·rename_i as' H hfz
      obtain ⟨⟨ha, hsx⟩, hk⟩ := h
      refine byF (x := x) (s1 := bif pureA x then st else { st with H := H }) ?_ hk
      subst ha
      simp only [callF, hmode, hfz, flatCall, hsx]
    ·split at h
     ·exact (Dt.fail h).elim
     ·rename_i x s1 hc; exact byF hc h
   ·split at h
    ·exact (Dt.fail h).elim
    ·rename_i x s1 hc; exact byF hc h
  | _ => simp only [callD] at h; exact (Dt.fail h).elim
 | _ => simp only [callD] at h; exact (Dt.fail h).elim
theorem runD_sound (ok : TyOk C) (hfn : FnOk C drawOk) (hsp : SpecOk C) (hdraw : ∀ clK, CallKOk C (CodeOk C drawOk) clK → DrawOk C (CodeOk C drawOk) drawOk clK) : ∀ d, CallDOk C (CodeOk C drawOk) (runD (R := R) C d)
 | 0 => fun _ _ _ _ _ _ h => (Dt.fail h).elim
 | d + 1 => by
  have h1 := (run_sound ok hfn hsp hdraw d).1
  have h2 := (run_sound ok hfn hsp hdraw (d + 1)).2
  exact fun c a s hs k r h => callD_sound ok (knows_runK d) hfn h1 h2 (runD_sound ok hfn hsp hdraw d) (hdraw _ h2) hsp c a s hs k r h
theorem treeD_sound {clD : CallD AV} (ok : TyOk C) (hK : KnowsSp C clK) (hfn : FnOk C drawOk) (hcl : CallOk C (CodeOk C drawOk) cl) (hclD : CallDOk C (CodeOk C drawOk) clD) (hdraw : DrawOk C (CodeOk C drawOk) drawOk clK) {f : FuncId} {as : List AV} {hs : List Hn} {r : AV} (h : (treeD C cl clK clD f as hs).ok r) :
  Enters C.P f ∧ Computes C f as r := by
 unfold treeD at h
 split at h
 ·exact (Dt.fail h).elim
 ·rename_i fi hfi
  obtain ⟨fn, h1, h2, h3, h4, h5, h6⟩ := hfn f fi hfi
  refine ⟨enters_of h1 (by rw [h2]; rfl) h5, ?_⟩
  cases hn : Nat.ble as.length fi.ntmps with
  | false => simp only [hn, cond_false] at h; exact (Dt.fail h).elim
  | true =>
   simp only [hn, cond_true] at h
   have key : ∀ (M : Mem) (ys : List Value), M.cok = CodeOk C drawOk → (∀ b, M.imm b → b < M.w.heap.size) → RepL M.bare as ys → GlobOk C M →
     CallsIn (Fo none) 0 C.P f ys.toArray M.w (fun e w' => ∃ v, e = .returned v ∧ PostK M.bare r v w') := by
    intro M ys hcok hlt hr hg
    have hs0 : SimH M.bare M.w.heap.size M.imm 0 .leaf := SimH.empty (M := M.bare) hlt (fun r x hx => by cases hx)
    refine (bodyD_sound ok hK hfn hcl hclD hdraw hfi hn h (M := M.bare) (base := M.w.heap.size) (im0 := M.imm) hcok hs0 hg.bare hr).2.mono fun e w' ⟨v, he, x, s1, hh1, ⟨M1, hw, hle, hrv, hs1, hbl⟩, hk⟩ => ⟨v, he, ?_⟩
    have hfz : (frz s1.H x).map (fun (p : AV × Tr Ent) => p.1) = some r := hk
    simp only [Option.map_eq_some_iff] at hfz
    obtain ⟨⟨r', H'⟩, hf, rfl⟩ := hfz
    obtain ⟨M2, hw2, hle2, _, hs2, hr2⟩ := frz_sound hf hs1
    refine ⟨M2.bare, hw2.trans hw, ?_, rfl, fun b hb => ?_, ?_, hr2 v hrv, hbl⟩
    ·exact ⟨fun _ _ x => (by cases x), fun b hb => hle2.imm b (hle.imm b hb), fun b hb => (hle2.same b (hle.imm b hb)).trans (hle.same b hb), hle2.cok.trans hle.cok⟩
    ·rcases hs2.new b hb with h | h
     ·exact .inl h
     ·exact .inr h
    ·intro b hb
     have := hs2.lt b hb
     rw [hw2, hw] at this; exact this
   have conv : ∀ (M : Mem) (c : FuncId → Code → Prop), M.lw { M with cok := c } := fun M c => ⟨fun _ _ x => x, fun b o hb ho _ => ⟨hb, ho⟩⟩
   intro M ys hlt hr hg
   refine (key { M with cok := CodeOk C drawOk } ys rfl hlt (hr.monoW (Mem.lw_bare (conv M _))) (fun g cs hgl => ?_)).mono fun e w' ⟨v, he, M2, hw, hle, hmu, hi, hlt2, hrv, hb⟩ => ?_
   ·obtain ⟨hi, arr, ty, fr, h1, h2⟩ := hg g cs hgl
    exact ⟨hi, arr, ty, fr, h1, h2.monoW (Mem.lw_bare (conv M _))⟩
   ·exact ⟨v, he, { M2 with cok := M.cok }, hw, ⟨hle.mu, hle.imm, hle.same, rfl⟩, hmu, hi, hlt2, hrv.monoW (conv M2 _), hb⟩
theorem evD_sound (ok : TyOk C) (hfn : FnOk C drawOk) (hsp : SpecOk C) (hmix : C.P.follows .mixedOrders = true) {d : Nat} {f : FuncId} {as : List AV} {hs : List Hn} {r : AV} (h : (evTreeD C d f as hs).ok r) : Enters C.P f ∧ Computes C f as r := by
 have h1 := (run_sound ok hfn hsp (fun _ hk => draw_sound ok hmix hk) d).1
 have h2 := (run_sound ok hfn hsp (fun _ hk => draw_sound ok hmix hk) (d + 1)).2
 exact treeD_sound ok (knows_runK d) hfn h1 (runD_sound ok hfn hsp (fun _ hk => draw_sound ok hmix hk) d) (draw_sound ok hmix h2) h
def roundD (C : Cx) (d p : Nat) (fid fb nt nf : Nat) (rd : Bool) (c : Code) (ts : List Tmp) (ks : List Nat) (ts1 : List Tmp) (ks1 : List Nat) (ts2 : List Tmp) (ks2 : List Nat) (vs : List AV) (es : List (Bool × Blk)) (hs : List Hn) : Dt (Ex × List AV × List (Bool × Blk)) :=
 evCodeD (run C d) (runK C (d + 1)) (runD C d) C fid fb nt rd c (mkSt ts ks nf vs es) hs fun ex s1 _ => match ex with
  | .nrm => (match canon C.keep p nt ts1 ks1 s1 with
   | none => .done none
   | some (vs1, es1) => .need (EnC es1) (.done (some (.nrm, vs1, es1))))
  | ex => (match canon C.keep p nt ts2 ks2 s1 with
   | none => .done none
   | some (vs1, es1) => .need (EnC es1) (.done (some (ex, vs1, es1))))
def endSt (ex : Ex) (ts : List Tmp) (ks : List Nat) (ts2 : List Tmp) (ks2 : List Nat) (nf : Nat) (vs : List AV) (es : List (Bool × Blk)) : St :=
 match ex with
 | .nrm => mkSt ts ks nf vs es
 | _ => mkSt ts2 ks2 nf vs es
theorem roundD_says (ok : TyOk C) (hfn : FnOk C drawOk) (hsp : SpecOk C) (hmix : C.P.follows .mixedOrders = true) {d p fid fb nt nf : Nat} {rd : Bool} {c : Code} (hc : CodeOk C drawOk fid c) {ts ts1 ts2 : List Tmp} {ks ks1 ks2 : List Nat} {vs vs1 : List AV} {es es1 : List (Bool × Blk)} {hs : List Hn} {ex : Ex}
  (h : (roundD C d p fid fb nt nf rd c ts ks ts1 ks1 ts2 ks2 vs es hs).ok (ex, vs1, es1)) : Says C p nt rd c (mkSt ts ks nf vs es) ex (endSt ex ts1 ks1 ts2 ks2 nf vs1 es1) := by
 have h1 := (run_sound ok hfn hsp (fun _ hk => draw_sound ok hmix hk) d).1
 have h2 := (run_sound ok hfn hsp (fun _ hk => draw_sound ok hmix hk) (d + 1)).2
 refine ⟨fun ro hro base im0 lo M0 a w hcok hg hlo hmu hn => ?_⟩
 refine wpIn_mono (evCodeD_says ok (knows_runK d) h1 (runD_sound ok hfn hsp (fun _ hk => draw_sound ok hmix hk) d) (draw_sound ok hmix h2) hcok hg hlo hro c _ hs _ h hc a w hn) fun e a' w' ⟨ex', st1, hs1, he, hn', hk⟩ => ?_
 have fin : ∀ {ts : List Tmp} {ks : List Nat}, (match canon C.keep p nt ts ks st1 with | none => (Dt.done none : Dt (Ex × List AV × List (Bool × Blk))) | some (vs1, es1) => .need (EnC es1) (.done (some (ex', vs1, es1)))).ok (ex, vs1, es1) →
   ex' = ex ∧ Now base im0 nt lo M0 (mkSt ts ks nf vs1 es1) a' w' := by
  intro ts ks hk
  split at hk
  ·exact (Dt.fail hk).elim
  ·rename_i vs2 es2 hcan
   obtain ⟨hcl, hr⟩ := hk
   simp only [Dt.ok, Option.some.injEq, Prod.mk.injEq] at hr
   obtain ⟨rfl, rfl, rfl⟩ := hr
   exact ⟨rfl, canon_now hcan hcl hmu hn'⟩
 cases ex' with
 | nrm => obtain ⟨rfl, hx⟩ := fin hk; exact ⟨he, hx⟩
 | exit i => obtain ⟨rfl, hx⟩ := fin hk; exact ⟨he, hx⟩
 | ret => obtain ⟨rfl, hx⟩ := fin hk; exact ⟨he, hx⟩
inductive LoopRun (C : Cx) (p nt : Nat) (rd : Bool) (c : Code) : St → Ex → St → Prop where
 | done {S S' : St} {ex : Ex} (h : Says C p nt rd c S ex S') (hne : ex ≠ .nrm) : LoopRun C p nt rd c S ex S'
 | step {S S1 S' : St} {ex : Ex} (h : Says C p nt rd c S .nrm S1) (k : LoopRun C p nt rd c S1 ex S') : LoopRun C p nt rd c S ex S'
theorem LoopRun.says {p nt : Nat} {rd : Bool} {c : Code} {S S' : St} {ex : Ex} (h : LoopRun C p nt rd c S ex S') : Says C p nt rd (.loop c) S ex S' := by
 have key : ∃ m : Nat, ∀ (ro : Option Nat), (rd = false → ro = none) → ∀ (base : Nat) (im0 : Nat → Prop) (lo : Nat) (M0 : Mem) (a : Act) (w : World), M0.cok = CodeOk C drawOk → GlobOk C M0 → lo ≤ M0.w.heap.size → (∀ r, p ≤ r → M0.mu r = none) → Now base im0 nt lo M0 S a w →
   Code.roundsIn (Fo ro) 0 C.P c (fun e a' w' => e = exOf ex ∧ Now base im0 nt lo M0 S' a' w') m a w := by
  induction h with
  | @done S S' ex h hne =>
   refine ⟨1, fun ro hro base im0 lo M0 a w hcok hg hlo hmu hn => ?_⟩
   rw [roundsIn_succ]
   refine wpIn_mono (h.run ro hro base im0 lo M0 a w hcok hg hlo hmu hn) fun e a' w' ⟨he, hn'⟩ => ?_
   subst he
   cases ex with
   | nrm => exact absurd rfl hne
   | exit k => exact ⟨rfl, hn'⟩
   | ret => exact ⟨rfl, hn'⟩
  | step h _ ih =>
   obtain ⟨m, hm⟩ := ih
   refine ⟨m + 1, fun ro hro base im0 lo M0 a w hcok hg hlo hmu hn => ?_⟩
   rw [roundsIn_succ]
   refine wpIn_mono (h.run ro hro base im0 lo M0 a w hcok hg hlo hmu hn) fun e a' w' ⟨he, hn'⟩ => ?_
   subst he
   exact hm ro hro base im0 lo M0 a' w' hcok hg hlo hmu hn'
 obtain ⟨m, hm⟩ := key
 exact ⟨fun ro hro base im0 lo M0 a w hcok hg hlo hmu hn => wpIn_loop_rounds m (hm ro hro base im0 lo M0 a w hcok hg hlo hmu hn)⟩
def findLoop (bid : Nat) : Option Nat → Code → Option Code
 | _, .block id c => findLoop bid (some id) c
 | cur, .seq a b => (match findLoop bid cur a with | some x => some x | none => findLoop bid cur b)
 | cur, .cond _ a b => (match findLoop bid cur a with | some x => some x | none => findLoop bid cur b)
 | cur, .loop c => bif (match cur with | some id => Nat.beq id bid | none => false) then some c else findLoop bid cur c
 | cur, .scope c => findLoop bid cur c
 | _, .rangeFunc _ _ _ b => findLoop bid none b
 | _, _ => none
def lO (C : Cx) (fid bid : Nat) : Code := match C.fn fid with
 | some fi => (findLoop bid none fi.body).getD .skip
 | none => .skip
theorem findLoop_ok {fid bid : Nat} : ∀ {cur : Option Nat} {c x : Code}, findLoop bid cur c = some x → CodeOk C drawOk fid c → CodeOk C drawOk fid x
 | cur, .block id c, x, h, hc => findLoop_ok (c := c) (by simpa only [findLoop] using h) hc
 | cur, .seq a b, x, h, hc => by
  simp only [findLoop] at h
  split at h
  ·rename_i y hy; simp only [Option.some.injEq] at h; subst h; exact findLoop_ok hy hc.1
  ·exact findLoop_ok h hc.2
 | cur, .cond _ a b, x, h, hc => by
  simp only [findLoop] at h
  split at h
  ·rename_i y hy; simp only [Option.some.injEq] at h; subst h; exact findLoop_ok hy hc.1
  ·exact findLoop_ok h hc.2
 | cur, .loop c, x, h, hc => by
  simp only [findLoop] at h
  generalize (match cur with | some id => Nat.beq id bid | none => false) = t at h
  cases t with
  | true => simp only [cond_true, Option.some.injEq] at h; subst h; exact hc
  | false => simp only [cond_false] at h; exact findLoop_ok (c := c) h hc
 | cur, .scope c, x, h, hc => findLoop_ok (c := c) (by simpa only [findLoop] using h) hc
 | _, .skip, x, h, _ => by simp [findLoop] at h
 | _, .label _, x, h, _ => by simp [findLoop] at h
 | _, .region .., x, h, _ => by simp [findLoop] at h
 | _, .exit _, x, h, _ => by simp [findLoop] at h
 | _, .ret, x, h, _ => by simp [findLoop] at h
 | _, .goto _, x, h, _ => by simp [findLoop] at h
 | _, .refuse _, x, h, _ => by simp [findLoop] at h
 | _, .rangeFunc _ _ _ b, x, h, hc => findLoop_ok (c := b) (by simpa only [findLoop] using h) hc.2
def findRange (p : Tmp) : Code → Option (Code × Code)
 | .block _ c => findRange p c
 | .seq a b => (match findRange p a with | some x => some x | none => findRange p b)
 | .cond _ a b => (match findRange p a with | some x => some x | none => findRange p b)
 | .loop c => findRange p c
 | .scope c => findRange p c
 | .rangeFunc _ ps a b => bif (match ps.toList with | q :: _ => Nat.beq q p | [] => false) then some (a, b) else findRange p b
 | _ => none
def rangeOf (C : Cx) (fid p : Nat) : Code × Code := match C.fn fid with
 | some fi => (findRange p fi.body).getD (.skip, .skip)
 | none => (.skip, .skip)
theorem loopOf_ok (hfn : FnOk C drawOk) {fid bid : Nat} : CodeOk C drawOk fid (lO C fid bid) := by
 unfold lO
 split
 ·rename_i fi hfi
  obtain ⟨_, _, _, _, _, _, h6⟩ := hfn fid fi hfi
  cases hx : findLoop bid none fi.body with
  | none => exact trivial
  | some x => exact findLoop_ok hx h6
 ·exact trivial
end
end Go.Vm

namespace Go.Vm
def tyOf (P : Program) (t : TypeId) : Option TI :=
 match P.underlying t, P.info? t with
 | some d, some i => some { desc := d, size := i.size, agg := isAggD d, bytes := i.bytes, zero := i.zero }
 | _, _ => none
def fnOf (P : Program) (f : FuncId) : Option FI :=
 match P.funcs[f]? with
 | some { body := some c, ntmps, results, .. } => some { ntmps, results := results.toList, body := c }
 | _ => none
def drawOf (D : Tr (Tr (List DI))) (f : FuncId) (id : Nat) : Option (List DI) :=
 match D.get f with
 | some T => T.get id
 | none => none
def codeOkB (D : Tr (Tr (List DI))) (f : FuncId) : Code → Bool
 | .region id ops dr => bif dr then (match drawOf D f id with | some is => drawOk ops is | none => true) else true
 | .seq a b => codeOkB D f a && codeOkB D f b
 | .cond _ a b => codeOkB D f a && codeOkB D f b
 | .block _ c => codeOkB D f c
 | .loop c => codeOkB D f c
 | .scope c => codeOkB D f c
 | .rangeFunc _ _ a b => codeOkB D f a && codeOkB D f b
 | _ => true
def fnOkB (P : Program) (D : Tr (Tr (List DI))) (f : FuncId) : Bool :=
 match P.funcs[f]? with
 | some { body := some c, name, .. } => decide (name ≠ "runtime.NumGoroutine") && codeOkB D f c
 | _ => true
def fnsOkB (P : Program) (D : Tr (Tr (List DI))) : Nat → Bool
 | 0 => true
 | n + 1 => bif fnOkB P D n then fnsOkB P D n else false
def preOf (D : Tr (Tr (List Tmp))) (f : FuncId) (id : Nat) : List Tmp :=
 match D.get f with
 | some T => (match T.get id with | some l => l | none => [])
 | none => []
theorem codeOkB_ok {C : Cx} {D : Tr (Tr (List DI))} (hC : C.draw = drawOf D) {f : FuncId} : ∀ {c : Code}, codeOkB D f c = true → CodeOk C drawOk f c
 | .region id ops dr, h => by
  cases dr with
  | false => trivial
  | true =>
   intro is his
   rw [hC] at his
   simp only [codeOkB, cond_true, his] at h
   exact h
 | .seq a b, h => by simp only [codeOkB, Bool.and_eq_true] at h; exact ⟨codeOkB_ok hC h.1, codeOkB_ok hC h.2⟩
 | .cond _ a b, h => by simp only [codeOkB, Bool.and_eq_true] at h; exact ⟨codeOkB_ok hC h.1, codeOkB_ok hC h.2⟩
 | .block _ c, h => by simp only [codeOkB] at h; exact codeOkB_ok (c := c) hC h
 | .loop c, h => by simp only [codeOkB] at h; exact codeOkB_ok (c := c) hC h
 | .scope c, h => by simp only [codeOkB] at h; exact codeOkB_ok (c := c) hC h
 | .rangeFunc _ _ a b, h => by simp only [codeOkB, Bool.and_eq_true] at h; exact ⟨codeOkB_ok hC h.1, codeOkB_ok hC h.2⟩
 | .skip, _ => trivial
 | .label _, _ => trivial
 | .exit _, _ => trivial
 | .ret, _ => trivial
 | .goto _, _ => trivial
 | .refuse _, _ => trivial
theorem fnsOkB_at {P : Program} {D : Tr (Tr (List DI))} : ∀ {n : Nat}, fnsOkB P D n = true → ∀ f, f < n → fnOkB P D f = true
 | 0, _, f, hf => by omega
 | n + 1, h, f, hf => by
  simp only [fnsOkB] at h
  cases hn : fnOkB P D n with
  | false => simp [hn] at h
  | true =>
   simp only [hn, cond_true] at h
   by_cases hfn : f = n
   ·subst hfn; exact hn
   ·exact fnsOkB_at h f (by omega)
theorem fnOk_of {C : Cx} {D : Tr (Tr (List DI))} (hf : C.fn = fnOf C.P) (hC : C.draw = drawOf D) (h : fnsOkB C.P D C.P.funcs.size = true) : FnOk C drawOk := by
 intro f fi hfi
 rw [hf] at hfi
 unfold fnOf at hfi
 split at hfi
 ·rename_i nm x1 x2 x3 x4 c x5 nt rs x6 x7 hx
  simp only [Option.some.injEq] at hfi; subst hfi
  have hlt : f < C.P.funcs.size := (Array.getElem?_eq_some_iff.1 hx).1
  have hk := fnsOkB_at h f hlt
  unfold fnOkB at hk
  rw [hx] at hk
  simp only [Bool.and_eq_true, decide_eq_true_eq] at hk
  exact ⟨_, hx, rfl, rfl, rfl, hk.1, codeOkB_ok hC hk.2⟩
 ·cases hfi
theorem tyOk_of {C : Cx} (h : C.ty = tyOf C.P) : TyOk C := by
 intro t ti ht
 rw [h] at ht
 unfold tyOf at ht
 split at ht
 ·rename_i d i hd hi
  simp only [Option.some.injEq] at ht; subst ht
  exact ⟨hd, rfl, i, hi, rfl, rfl, rfl⟩
 ·cases ht
def keepOf (D : Tr (List Tmp)) (f : FuncId) : List Tmp := match D.get f with
 | some l => l
 | none => []
structure Tabs where
 D : Tr (Tr (List DI))
 D2 : Tr (Tr (List Tmp))
 D3 : Tr (List Tmp)
 glob : Nat → Option (List AV)
def Tabs.bare (glob : Nat → Option (List AV)) : Tabs := ⟨.leaf, .leaf, .leaf, glob⟩
def mkCx (P : Program) (B : Tabs) (fuel : Nat) (mode : FuncId → Md) (spec : FuncId → List AV → Option AV) : Cx :=
 Cx.mk P (tyOf P) (fnOf P) mode spec B.glob fuel (drawOf B.D) (preOf B.D2) (keepOf B.D3)
section
variable {P : Program} {B : Tabs} {fuel : Nat} {mode : FuncId → Md} {spec : FuncId → List AV → Option AV}
theorem mkCx_ty : TyOk (mkCx P B fuel mode spec) := tyOk_of rfl
theorem mkCx_fn {n : Nat} (hn : P.funcs.size = n) (h : fnsOkB P B.D n = true) : FnOk (mkCx P B fuel mode spec) drawOk := fnOk_of (D := B.D) rfl rfl (by subst hn; exact h)
theorem mkCx_sound {n : Nat} (hn : P.funcs.size = n) (hf : fnsOkB P B.D n = true) (hmix : P.follows .mixedOrders = true) (hsp : SpecOk (mkCx P B fuel mode spec)) {d : Nat} {f : FuncId} {l : List AV} {r : AV}
  (h : evTree (mkCx P B fuel mode spec) d f l = some r) : Enters P f ∧ Computes (mkCx P B fuel mode spec) f l r :=
 ev_sound mkCx_ty (mkCx_fn hn hf) hsp hmix h
abbrev Specs := Tr (List AV → Option AV)
def specT (S : Specs) (f : FuncId) (l : List AV) : Option AV := match S.get f with
 | some g => g l
 | none => none
def modeS (S : Specs) (I : Tr Md) (f : FuncId) : Md := match S.get f with
 | some _ => .spec
 | none => match I.get f with
  | some m => m
  | none => .tree
def Holds1 (P : Program) (glob : Nat → Option (List AV)) (f : FuncId) (g : List AV → Option AV) : Prop :=
 ∀ l r, g l = some r → Enters P f ∧ Computes (mkCx P (Tabs.bare glob) 0 (fun _ => .tree) (fun _ _ => none)) f l r
def SpecsOk (P : Program) (glob : Nat → Option (List AV)) (S : Specs) : Prop := ∀ f g, S.get f = some g → Holds1 P glob f g
theorem SpecsOk.leaf {glob : Nat → Option (List AV)} : SpecsOk P glob .leaf := fun f g h => by rw [Tr.get_leaf] at h; cases h
theorem SpecsOk.set {glob : Nat → Option (List AV)} {S : Specs} (h : SpecsOk P glob S) {f : FuncId} {g : List AV → Option AV} (hg : Holds1 P glob f g) : SpecsOk P glob (S.set f g) := fun f' g' h' => by
 rcases Tr.get_set h' with ⟨rfl, rfl⟩ | ⟨_, h'⟩
 ·exact hg
 ·exact h f' g' h'
theorem SpecsOk.specOk {S : Specs} (h : SpecsOk P B.glob S) : SpecOk (mkCx P B fuel mode (specT S)) := fun f l r _ hr => by
 have hr : specT S f l = some r := hr
 unfold specT at hr
 split at hr
 ·rename_i g hg
  exact h f g hg l r hr
 ·cases hr
def Weak (a b : AV) : Prop := ∀ (M : Mem) (y : Value), Rep M a y → Rep M b y
def WeakL (as bs : List AV) : Prop := ∀ (M : Mem) (ys : List Value), RepL M as ys → RepL M bs ys
theorem Weak.rfl {a : AV} : Weak a a := fun _ _ h => h
theorem WeakL.nil : WeakL [] [] := fun _ _ h => h
theorem WeakL.cons {a b : AV} {as bs : List AV} (h : Weak a b) (k : WeakL as bs) : WeakL (a :: as) (b :: bs) := fun M ys hr => by
 rw [RepL.cons_iff] at hr ⊢
 obtain ⟨x, xs, e, h1, h2⟩ := hr
 exact ⟨x, xs, e, h M x h1, k M xs h2⟩
theorem WeakL.rfl : ∀ {as : List AV}, WeakL as as := fun _ _ h => h
theorem Weak.agg {as bs : List AV} (h : WeakL as bs) : Weak (.agg as) (.agg bs) := fun M y hr => by
 unfold Rep at hr ⊢; obtain ⟨l, e, hr⟩ := hr; exact ⟨l, e, h M l hr⟩
theorem Weak.tup {as bs : List AV} (h : WeakL as bs) : Weak (.tup as) (.tup bs) := fun M y hr => by
 unfold Rep at hr ⊢; obtain ⟨l, e, hr⟩ := hr; exact ⟨l, e, h M l hr⟩
theorem Weak.nilSl {sz : Nat} {ex : Bool} : Weak (.v (.slice none 0 0)) (.rsl sz [] ex) := fun M y hr => by
 unfold Rep at hr ⊢; subst hr
 exact ⟨none, 0, [], Eq.refl _, Nat.le_refl _, by simp, fun y hy => by simp at hy, .inr (Eq.refl _), fun _ => Eq.refl _⟩
theorem Weak.rsl {sz sz' : Nat} {es es' : List AV} {ex ex' : Bool} (hex : ex' = true → ex = true) (hsz : es = [] ∨ sz = sz') (h : WeakL es es') : Weak (.rsl sz es ex) (.rsl sz' es' ex') := fun M y hr => by
 unfold Rep at hr ⊢
 obtain ⟨ao, cap, ys, rfl, hc, hes, hsd, hrow, hx⟩ := hr
 have hes' := h _ _ hes
 have hl : es'.length = es.length := by rw [← hes'.length, hes.length]
 refine ⟨ao, cap, ys, by rw [hl], by omega, hes', ?_, hrow, fun q => by rw [hl]; exact hx (hex q)⟩
 rcases hsz with rfl | rfl
 ·rw [RepL.nil_iff] at hes; subst hes; exact fun y hy => by simp at hy
 ·exact hsd
theorem Computes.weak {C : Cx} {f : FuncId} {l l' : List AV} {r r' : AV} (h : Computes C f l' r') (hl : WeakL l l') (hr : Weak r' r) : Computes C f l r := fun M ys hlt hy hg =>
 (h M ys hlt (hl _ _ hy) hg).mono fun _ _ ⟨v, he, M', hw, hle, hmu, hi, hlt', hrv, hb⟩ => ⟨v, he, M', hw, hle, hmu, hi, hlt', hr _ _ hrv, hb⟩
theorem SpecsOk.comp {C : Cx} {n : Nat} {S : Specs} (hC : C = mkCx P B fuel mode (specT S)) (hn : P.funcs.size = n) (hf : fnsOkB P B.D n = true) (hmix : P.follows .mixedOrders = true) (h : SpecsOk P B.glob S)
  {f : FuncId} {d : Nat} {l : List AV} {r : AV} (hg : evTree C d f l = some r) : Enters P f ∧ Computes (mkCx P (Tabs.bare B.glob) 0 (fun _ => .tree) (fun _ _ => none)) f l r := by
 subst hC
 exact mkCx_sound hn hf hmix h.specOk hg
theorem SpecsOk.compD {C : Cx} {n : Nat} {S : Specs} (hC : C = mkCx P B fuel mode (specT S)) (hn : P.funcs.size = n) (hf : fnsOkB P B.D n = true) (hmix : P.follows .mixedOrders = true) (h : SpecsOk P B.glob S)
  {f : FuncId} {d : Nat} {hs : List Hn} {l : List AV} {r : AV} (hg : (evTreeD C d f l hs).Ok r) : Enters P f ∧ Computes (mkCx P (Tabs.bare B.glob) 0 (fun _ => .tree) (fun _ _ => none)) f l r := by
 subst hC
 exact evD_sound mkCx_ty (mkCx_fn hn hf) h.specOk hmix hg.ok
theorem SpecsOk.roundC {C : Cx} {n : Nat} {S : Specs} (hC : C = mkCx P B fuel mode (specT S)) (hn : P.funcs.size = n) (hf : fnsOkB P B.D n = true) (hmix : P.follows .mixedOrders = true) (h : SpecsOk P B.glob S)
  {d p fid fb bid nt nf : Nat} {rd : Bool} {ts ts1 ts2 : List Tmp} {ks ks1 ks2 : List Nat} {vs vs1 : List AV} {es es1 : List (Bool × Blk)} {hs : List Hn} {ex : Ex}
  (hr : (roundD C d p fid fb nt nf rd (lO C fid bid) ts ks ts1 ks1 ts2 ks2 vs es hs).Ok (ex, vs1, es1)) : Says C p nt rd (lO C fid bid) (mkSt ts ks nf vs es) ex (endSt ex ts1 ks1 ts2 ks2 nf vs1 es1) := by
 subst hC
 exact roundD_says mkCx_ty (mkCx_fn hn hf) h.specOk hmix (loopOf_ok (mkCx_fn hn hf)) hr.ok
end
end Go.Vm

namespace Go.Vm
theorem pureRun_bind {α β : Type} {P : Program} (s : Sem α) (f : α → Sem β) : pureRun P (s >>= f) = (pureRun P s).bind fun a => pureRun P (f a) := by
 show pureRun P (s.bind f) = _
 induction s with
 | pure a => rfl
 | program k ih => exact ih P
 | mark m k ih => exact ih
 | _ => rfl
@[simp] theorem pureRun_pure {α : Type} {P : Program} (a : α) : pureRun P (pure a : Sem α) = some a := rfl
theorem pureRun_underlying {P : Program} {t : TypeId} {d : TypeDesc} (h : P.underlying t = some d) : pureRun P (underlying t) = some d := by
 unfold underlying
 rw [pureRun_bind]
 show (pureRun P (match P.underlying t with | some d => pure d | none => _)) = _
 rw [h]; rfl
section
variable {P : Program}
end
end Go.Vm

namespace Go.Vm
open Go.RowKit (Below)
structure Cod (α : Type) where
 dec : AV → Option α
 enc : α → AV
 weak : ∀ a x, dec a = some x → Weak a (enc x)
 rt : ∀ x, dec (enc x) = some x
abbrev iA (n : Int) : AV := .v (.int .i64 n)
abbrev sA (s : ByteArray) : AV := .v (.string s)
abbrev bA (b : Bool) : AV := .v (.bool b)
abbrev u8A (n : Int) : AV := .v (.int .u8 n)
def intC : Cod Int where
  dec | .v (.int .i64 n) => some n
      | _ => none
  enc := iA
  weak a x h := by
    split at h
    · simp only [Option.some.injEq] at h; subst h; exact Weak.rfl
    · cases h
  rt _ := rfl
def boolC : Cod Bool where
  dec | .v (.bool b) => some b
      | _ => none
  enc := bA
  weak a x h := by
    split at h
    · simp only [Option.some.injEq] at h; subst h; exact Weak.rfl
    · cases h
  rt _ := rfl
def strC : Cod ByteArray where
  dec | .v (.string s) => some s
      | _ => none
  enc := sA
  weak a x h := by
    split at h
    · simp only [Option.some.injEq] at h; subst h; exact Weak.rfl
    · cases h
  rt _ := rfl
def oneC (a : AV) (is : AV → Bool) (h : ∀ b, is b = true → Weak b a) (hr : is a = true) : Cod Unit where
 dec b := bif is b then some () else none
 enc _ := a
 weak b x e := by
  cases hb : is b with
  | false => simp [hb] at e
  | true => exact h b hb
 rt _ := by simp [hr]
section
variable {α β γ δ ε ζ : Type}
def decL (A : Cod α) : List AV → Option (List α)
 | [] => some []
 | a :: as => match A.dec a, decL A as with
  | some x, some xs => some (x :: xs)
  | _, _ => none
theorem decL_weak {A : Cod α} : ∀ {as : List AV} {l : List α}, decL A as = some l → WeakL as (l.map A.enc)
 | [], l, h => by simp only [decL, Option.some.injEq] at h; subst h; exact WeakL.nil
 | a :: as, l, h => by
  simp only [decL] at h
  split at h
  ·rename_i x xs h1 h2
   simp only [Option.some.injEq] at h; subst h
   exact WeakL.cons (A.weak _ _ h1) (decL_weak h2)
  ·cases h
theorem decL_rt {A : Cod α} : ∀ (l : List α), decL A (l.map A.enc) = some l
 | [] => rfl
 | x :: l => by simp only [List.map_cons, decL, A.rt, decL_rt l]
def slA (A : Cod α) (sz : Nat) (l : List α) : AV := .rsl sz (l.map A.enc) false
def listC (A : Cod α) (sz : Nat) : Cod (List α) where
  dec | .v (.slice none 0 0) => some []
      | .rsl s es _ => bif Nat.beq s sz || es.isEmpty then decL A es else none
      | _ => none
  enc := slA A sz
  weak a x h := by
    split at h
    · simp only [Option.some.injEq] at h; subst h; exact Weak.nilSl
    · rename_i s es ex
      generalize hb : (Nat.beq s sz || es.isEmpty) = b at h
      cases b with
      | false => simp at h
      | true =>
        simp only [cond_true] at h
        refine Weak.rsl (fun q => by cases q) ?_ (decL_weak h)
        simp only [Bool.or_eq_true] at hb
        rcases hb with hb | hb
        · exact .inr (Nat.eq_of_beq_eq_true hb)
        · exact .inl (by simpa using hb)
    · cases h
  rt l := by
    show (bif Nat.beq sz sz || _ then _ else _) = _
    rw [Nat.beq_refl, Bool.true_or, cond_true, decL_rt]
structure RC (α : Type) where
 decs : List AV → Option α
 encs : α → List AV
 weak : ∀ a x, decs a = some x → WeakL a (encs x)
 rt : ∀ x, decs (encs x) = some x
def RC.one (A : Cod α) : RC α where
  decs | [a] => A.dec a
       | _ => none
  encs x := [A.enc x]
  weak a x h := by
    split at h
    · exact WeakL.cons (A.weak _ _ h) WeakL.nil
    · cases h
  rt x := A.rt x
def RC.cons (A : Cod α) (B : RC β) : RC (α × β) where
  decs | a :: as => match A.dec a, B.decs as with
         | some x, some y => some (x, y)
         | _, _ => none
       | _ => none
  encs x := A.enc x.1 :: B.encs x.2
  weak a x h := by
    split at h
    · split at h
      · rename_i h1 h2
        simp only [Option.some.injEq] at h; subst h
        exact WeakL.cons (A.weak _ _ h1) (B.weak _ _ h2)
      · cases h
    · cases h
  rt x := by simp only [A.rt, B.rt]
def aggC (R : RC α) : Cod α where
  dec | .agg cs => R.decs cs
      | _ => none
  enc x := .agg (R.encs x)
  weak a x h := by
    split at h
    · exact Weak.agg (R.weak _ _ h)
    · cases h
  rt x := R.rt x
def sp1 (A : Cod α) (F : α → Option AV) : List AV → Option AV
 | [a] => match A.dec a with
  | some x => F x
  | none => none
 | _ => none
def sp2 (A : Cod α) (B : Cod β) (F : α → β → Option AV) : List AV → Option AV
 | [a, b] => match A.dec a, B.dec b with
  | some x, some y => F x y
  | _, _ => none
 | _ => none
def sp3 (A : Cod α) (B : Cod β) (D : Cod γ) (F : α → β → γ → Option AV) : List AV → Option AV
 | [a, b, c] => match A.dec a, B.dec b, D.dec c with
  | some x, some y, some z => F x y z
  | _, _, _ => none
 | _ => none
def sp4 (A : Cod α) (B : Cod β) (D : Cod γ) (E : Cod δ) (F : α → β → γ → δ → Option AV) : List AV → Option AV
 | [a, b, c, d] => match A.dec a, B.dec b, D.dec c, E.dec d with
  | some x, some y, some z, some u => F x y z u
  | _, _, _, _ => none
 | _ => none
theorem sp1_at {A : Cod α} {F : α → Option AV} (x : α) : sp1 A F [A.enc x] = F x := by simp only [sp1, A.rt]
theorem sp2_at {A : Cod α} {B : Cod β} {F : α → β → Option AV} (x : α) (y : β) : sp2 A B F [A.enc x, B.enc y] = F x y := by simp only [sp2, A.rt, B.rt]
theorem sp3_at {A : Cod α} {B : Cod β} {D : Cod γ} {F : α → β → γ → Option AV} (x : α) (y : β) (z : γ) : sp3 A B D F [A.enc x, B.enc y, D.enc z] = F x y z := by simp only [sp3, A.rt, B.rt, D.rt]
theorem sp4_at {A : Cod α} {B : Cod β} {D : Cod γ} {E : Cod δ} {F : α → β → γ → δ → Option AV} (x : α) (y : β) (z : γ) (u : δ) : sp4 A B D E F [A.enc x, B.enc y, D.enc z, E.enc u] = F x y z u := by simp only [sp4, A.rt, B.rt, D.rt, E.rt]
def Comp (P : Program) (glob : Nat → Option (List AV)) (f : FuncId) (l : List AV) (r : AV) : Prop := Enters P f ∧ Computes (mkCx P (Tabs.bare glob) 0 (fun _ => .tree) (fun _ _ => none)) f l r
theorem Comp.weak {P : Program} {glob : Nat → Option (List AV)} {f : FuncId} {l l' : List AV} {r r' : AV} (h : Comp P glob f l' r') (hl : WeakL l l') (hr : Weak r' r) : Comp P glob f l r := ⟨h.1, h.2.weak hl hr⟩
variable {P : Program} {glob : Nat → Option (List AV)} {f : FuncId}
theorem holds1 {A : Cod α} {F : α → Option AV} (h : ∀ x r, F x = some r → Comp P glob f [A.enc x] r) : Holds1 P glob f (sp1 A F) := fun l r hr => by
 unfold sp1 at hr
 split at hr
 ·split at hr
  ·rename_i hx
   exact (h _ r hr).weak (WeakL.cons (A.weak _ _ hx) WeakL.nil) Weak.rfl
  ·cases hr
 ·cases hr
theorem holds2 {A : Cod α} {B : Cod β} {F : α → β → Option AV} (h : ∀ x y r, F x y = some r → Comp P glob f [A.enc x, B.enc y] r) : Holds1 P glob f (sp2 A B F) := fun l r hr => by
 unfold sp2 at hr
 split at hr
 ·split at hr
  ·rename_i hx hy
   exact (h _ _ r hr).weak (WeakL.cons (A.weak _ _ hx) (WeakL.cons (B.weak _ _ hy) WeakL.nil)) Weak.rfl
  ·cases hr
 ·cases hr
theorem holds3 {A : Cod α} {B : Cod β} {D : Cod γ} {F : α → β → γ → Option AV} (h : ∀ x y z r, F x y z = some r → Comp P glob f [A.enc x, B.enc y, D.enc z] r) : Holds1 P glob f (sp3 A B D F) := fun l r hr => by
 unfold sp3 at hr
 split at hr
 ·split at hr
  ·rename_i hx hy hz
   exact (h _ _ _ r hr).weak (WeakL.cons (A.weak _ _ hx) (WeakL.cons (B.weak _ _ hy) (WeakL.cons (D.weak _ _ hz) WeakL.nil))) Weak.rfl
  ·cases hr
 ·cases hr
theorem holds4 {A : Cod α} {B : Cod β} {D : Cod γ} {E : Cod δ} {F : α → β → γ → δ → Option AV} (h : ∀ x y z u r, F x y z u = some r → Comp P glob f [A.enc x, B.enc y, D.enc z, E.enc u] r) : Holds1 P glob f (sp4 A B D E F) := fun l r hr => by
 unfold sp4 at hr
 split at hr
 ·split at hr
  ·rename_i hx hy hz hu
   exact (h _ _ _ _ r hr).weak (WeakL.cons (A.weak _ _ hx) (WeakL.cons (B.weak _ _ hy) (WeakL.cons (D.weak _ _ hz) (WeakL.cons (E.weak _ _ hu) WeakL.nil)))) Weak.rfl
  ·cases hr
 ·cases hr
end
section
variable {α σ τ : Type}
def goL (step : Nat → α → σ → σ ⊕ τ) (fin : σ → τ) : Nat → List α → σ → τ
 | _, [], s => fin s
 | i, x :: r, s => match step i x s with
  | .inl s' => goL step fin (i + 1) r s'
  | .inr t => t
def goW (rnd : σ → σ ⊕ τ) : Nat → σ → Option τ
 | 0, _ => none
 | n + 1, s => match rnd s with
  | .inl s' => goW rnd n s'
  | .inr t => some t
variable {C : Cx} {p nt : Nat} {rd : Bool} {c : Code}
theorem LoopRun.list {step : Nat → α → σ → σ ⊕ τ} {fin : σ → τ} {enc : Nat → σ → St} {ex : τ → Ex} {out : τ → St} {l : List α} (Inv : Nat → σ → Prop)
  (hs : ∀ i x s, l[i]? = some x → Inv i s → match step i x s with
   | .inl s' => Says C p nt rd c (enc i s) .nrm (enc (i + 1) s') ∧ Inv (i + 1) s'
   | .inr t => Says C p nt rd c (enc i s) (ex t) (out t) ∧ ex t ≠ .nrm)
  (hf : ∀ s, Inv l.length s → Says C p nt rd c (enc l.length s) (ex (fin s)) (out (fin s)) ∧ ex (fin s) ≠ .nrm) :
  ∀ (rest pre : List α) (s : σ), pre ++ rest = l → Inv pre.length s → LoopRun C p nt rd c (enc pre.length s) (ex (goL step fin pre.length rest s)) (out (goL step fin pre.length rest s))
 | [], pre, s, h, hi => by
  rw [List.append_nil] at h
  subst h
  obtain ⟨h1, h2⟩ := hf s hi
  exact .done h1 h2
 | x :: r, pre, s, h, hi => by
  have hx : l[pre.length]? = some x := by rw [← h]; simp
  have hst := hs pre.length x s hx hi
  unfold goL
  cases hq : step pre.length x s with
  | inl s' =>
   rw [hq] at hst
   have := LoopRun.list Inv hs hf r (pre ++ [x]) s' (by rw [← h]; simp) (by simpa using hst.2)
   simp only [List.length_append, List.length_cons, List.length_nil, Nat.zero_add] at this
   exact .step hst.1 this
  | inr t =>
   rw [hq] at hst
   exact .done hst.1 hst.2
theorem LoopRun.rounds {rnd : σ → σ ⊕ τ} {enc : σ → St} {ex : τ → Ex} {out : τ → St} (Inv : σ → Prop)
  (hs : ∀ s, Inv s → match rnd s with
   | .inl s' => Says C p nt rd c (enc s) .nrm (enc s') ∧ Inv s'
   | .inr t => Says C p nt rd c (enc s) (ex t) (out t) ∧ ex t ≠ .nrm) :
  ∀ (n : Nat) (s : σ) (t : τ), Inv s → goW rnd n s = some t → LoopRun C p nt rd c (enc s) (ex t) (out t)
 | 0, s, t, _, h => by simp [goW] at h
 | n + 1, s, t, hi, h => by
  have hst := hs s hi
  unfold goW at h
  cases hq : rnd s with
  | inl s' =>
   rw [hq] at hst h
   exact .step hst.1 (LoopRun.rounds Inv hs n s' t hst.2 h)
  | inr t' =>
   rw [hq] at hst h
   simp only [Option.some.injEq] at h; subst h
   exact .done hst.1 hst.2
end
section
variable {α τ : Type}
def srch (f : Nat → α → Option τ) : Nat → List α → Option τ
 | _, [] => none
 | i, x :: r => match f i x with
  | some t => some t
  | none => srch f (i + 1) r
variable {C : Cx} {p nt : Nat} {rd : Bool} {c : Code}
theorem LoopRun.search {f : Nat → α → Option τ} {enc : Nat → St} {out : τ → St} {miss : St} {ex2 : Ex} {ex : τ → Ex} {l : List α} (hx2 : ex2 ≠ .nrm) (hx : ∀ t, ex t ≠ .nrm)
  (hr : ∀ i x, l[i]? = some x → match f i x with
   | some t => Says C p nt rd c (enc i) (ex t) (out t)
   | none => Says C p nt rd c (enc i) .nrm (enc (i + 1)))
  (he : Says C p nt rd c (enc l.length) ex2 miss) :
  match srch f 0 l with
  | some t => LoopRun C p nt rd c (enc 0) (ex t) (out t)
  | none => LoopRun C p nt rd c (enc 0) ex2 miss := by
 have key : ∀ (rest pre : List α), pre ++ rest = l → match srch f pre.length rest with
  | some t => LoopRun C p nt rd c (enc pre.length) (ex t) (out t)
  | none => LoopRun C p nt rd c (enc pre.length) ex2 miss := by
  intro rest
  induction rest with
  | nil =>
   intro pre h
   rw [List.append_nil] at h
   subst h
   exact .done he hx2
  | cons x r ih =>
   intro pre h
   have hxl : l[pre.length]? = some x := by rw [← h]; simp
   have hst := hr _ _ hxl
   unfold srch
   cases hq : f pre.length x with
   | some t =>
    rw [hq] at hst
    exact .done hst (hx t)
   | none =>
    rw [hq] at hst
    have := ih (pre ++ [x]) (by rw [← h]; simp)
    simp only [List.length_append, List.length_cons, List.length_nil, Nat.zero_add] at this
    dsimp only
    split
    ·rename_i t ht; rw [ht] at this; exact .step hst this
    ·rename_i ht; rw [ht] at this; exact .step hst this
 exact key l [] rfl
end
end Go.Vm

namespace Go.Vm
section
variable {P : Program}
end
end Go.Vm
