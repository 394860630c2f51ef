/- A small evaluator over abstract values: what is said of code, of calls, of what a function leaves. -/
import Derived.Test.YtliikgffjphhjaaGreatDoorVmC
import Derived.RangeFuncLeaves
import Derived.RangeFuncRecord
import Derived.OrdersIn
import Derived.LoopNIn
import Derived.Scope
import Derived.Laws.Sem
namespace Go.Vm
open Go.RowKit (Below)
def Fo (o : Option Nat) : Fence := { fn := fun _ => True, depth := none, alive := false, round := o }
theorem callsIn_fo (o o' : Option Nat) {n : Nat} {P : Program} {f : FuncId} {args : Array Value} {w : World} {R : Ending → World → Prop} : CallsIn (Fo o) n P f args w R = CallsIn (Fo o') n P f args w R := rfl
theorem roundIn_fo (o o' : Option Nat) {n : Nat} {P : Program} {l : Nat} {f : FuncId} {tmps : Array Value} {a b : Code} {w : World} {R : Ending → World → Prop} :
  RoundIn (Fo o) n P l f tmps a b w R = RoundIn (Fo o') n P l f tmps a b w R := rfl
theorem callsIn_one {o : Option Nat} {P : Program} {f : FuncId} {args : Array Value} {w : World} {R : Ending → World → Prop} : CallsIn (Fo o) 0 P f args w R ↔ Calls P f args w R := by
 rw [callsIn_fo o none]; exact callsIn_wide
def GlobOk (C : Cx) (M : Mem) : Prop := ∀ g cs, C.glob g = some cs → M.imm g ∧ ∃ arr ty fr, M.w.heap[g]? = some (.cells arr ty fr) ∧ RepL M.bare cs arr.toList
theorem GlobOk.mono {C : Cx} {M M' : Mem} (h : M.le M') (k : GlobOk C M) : GlobOk C M' := fun g cs hg => by
 obtain ⟨hi, arr, ty, fr, h1, h2⟩ := k g cs hg
 exact ⟨h.imm g hi, arr, ty, fr, (h.same g hi).trans h1, h2.mono (Mem.le_bare h)⟩
theorem evOk {C : Cx} {M : Mem} {nt : Nat} {T : Tr AV} {a : Act} (hT : RepT M nt T a.tmps) (hg : GlobOk C M) : EvOk M (evA C T) a.eval := by
 intro x
 cases x with
 | tmp t =>
  simp only [evA, Act.eval]
  cases h : T.get t with
  | none => unfold Rep; trivial
  | some y => exact (hT.2 t y h).2
 | const v => exact ofV_rep v
 | global g =>
  simp only [evA, Act.eval]
  cases h : C.glob g with
  | none => simp only; unfold Rep; trivial
  | some cs =>
   obtain ⟨hi, arr, ty, fr, h1, h2⟩ := hg g cs h
   simp only; unfold Rep
   exact ⟨g, 0, arr.toList, rfl, h2, by have := Mem.row_of_cells (o := 0) h1 hi; simpa using this⟩
 | func f => simp only [evA, Act.eval]; unfold Rep; exact ⟨[], [], rfl, by simp, by simp⟩
theorem putA_sound {M : Mem} {nt : Nat} {T T' : Tr AV} {a : Act} {dst : Option Tmp} {r : AV} {y : Value} (h : putA nt T dst r = some T') (hT : RepT M nt T a.tmps) (hr : Rep M r y) :
  RepT M nt T' (a.put dst y).tmps := by
 cases dst with
 | none => simp only [putA, Option.some.injEq] at h; subst h; exact hT
 | some d =>
  simp only [putA] at h
  cases hd : Nat.blt d nt with
  | false => simp [hd] at h
  | true =>
   simp only [hd, cond_true, Option.some.injEq] at h; subst h
   have hlt : d < nt := Nat.le_of_ble_eq_true hd
   refine ⟨by simp [Act.put, hT.1], fun i x hi => ?_⟩
   rcases Tr.get_set hi with ⟨rfl, rfl⟩ | ⟨hne, hi⟩
   ·refine ⟨hlt, ?_⟩
    have : (a.put (some i) y).tmps.getD i undef = y := by
     simp only [Act.put, Array.getD_eq_getD_getElem?, Array.getElem?_setIfInBounds_self]
     have : i < a.tmps.size := by rw [hT.1]; exact hlt
     simp [this]
    rw [this]; exact hr
   ·refine ⟨(hT.2 i x hi).1, ?_⟩
    have : (a.put (some d) y).tmps.getD i undef = a.tmps.getD i undef := by
     simp only [Act.put, Array.getD_eq_getD_getElem?]
     rw [Array.getElem?_setIfInBounds_ne (Ne.symm hne)]
    rw [this]; exact (hT.2 i x hi).2
theorem put_defers (a : Act) (d : Option Tmp) (v : Value) : (a.put d v).defers = a.defers := by cases d <;> rfl
theorem wantA_sound {M : Mem} {nt : Nat} {T : Tr AV} {a : Act} {ops : Array Oper} {o : Oper} {b : Bool} (h : wantA ops T o = some b) (hT : RepT M nt T a.tmps) : Region.wanted o (yielded ops a.tmps) = b := by
 unfold wantA at h
 unfold Region.wanted
 cases hg : o.guard with
 | none => simp only [hg, Option.some.injEq] at h; simp [← h]
 | some gw =>
  obtain ⟨j, want⟩ := gw
  simp only [hg] at h ⊢
  unfold yielded
  cases hd : (ops[j]?).bind (·.dst) with
  | none => simp only [hd, Option.some.injEq] at h; subst h; simp
  | some d =>
   simp only [hd, Option.bind_some] at h ⊢
   split at h
   ·rename_i c hc
    simp only [Option.some.injEq] at h; subst h
    obtain ⟨h1, h2⟩ := hT.2 d _ hc
    unfold Rep at h2
    have hs : d < a.tmps.size := by rw [hT.1]; exact h1
    have : a.tmps[d]? = some (.bool c) := by
     rw [Array.getD_eq_getD_getElem?] at h2
     cases hx : a.tmps[d]? with
     | none => rw [Array.getElem?_eq_none_iff] at hx; exact absurd hs (Nat.not_lt.2 hx)
     | some z => rw [hx] at h2; simp at h2; rw [h2]
    rw [this]; cases c <;> cases want <;> rfl
   ·rename_i x hnb hc
    simp only [Option.some.injEq] at h; subst h
    obtain ⟨h1, h2⟩ := hT.2 d _ hc
    unfold Rep at h2
    have : a.tmps[d]? = some x := by
     have hs : d < a.tmps.size := by rw [hT.1]; exact h1
     rw [Array.getD_eq_getD_getElem?] at h2
     cases hx : a.tmps[d]? with
     | none => rw [Array.getElem?_eq_none_iff] at hx; exact absurd hs (Nat.not_lt.2 hx)
     | some z => rw [hx] at h2; simp at h2; rw [h2]
    rw [this]
    cases x with
    | bool c => exact absurd rfl (hnb c)
    | _ => rfl
   ·cases h
def Marks (M : Mem) (lo : Nat) (ds : List Deferred) : Prop :=
 ∃ rs : List Nat, ds = rs.map (fun r => { target := .collected r, args := #[] }) ∧ rs.Nodup ∧ ∀ r ∈ rs, lo ≤ r ∧ M.imm r ∧ M.w.heap[r]? = some (.deferred (some []))
theorem Marks.mono {M M' : Mem} (h : M.le M') {lo : Nat} {ds : List Deferred} (k : Marks M lo ds) : Marks M' lo ds := by
 obtain ⟨rs, e, h1, h2⟩ := k
 exact ⟨rs, e, h1, fun r hr => ⟨(h2 r hr).1, h.imm r (h2 r hr).2.1, (h.same r (h2 r hr).2.1).trans (h2 r hr).2.2⟩⟩
theorem Marks.nil {M : Mem} {lo : Nat} : Marks M lo [] := ⟨[], rfl, List.nodup_nil, by simp⟩
def Now (base : Nat) (im0 : Nat → Prop) (nt lo : Nat) (M0 : Mem) (st : St) (a : Act) (w : World) : Prop :=
 ∃ M, M.w = w ∧ M0.le M ∧ Below base M0.w w ∧ RepT M nt st.T a.tmps ∧ SimH M base im0 st.nv st.H ∧ Marks M lo a.defers
def PostV (M : Mem) (base : Nat) (im0 : Nat → Prop) (st' : St) (r : AV) (v : Value) (w' : World) : Prop :=
 ∃ M', M'.w = w' ∧ M.le M' ∧ Rep M' r v ∧ SimH M' base im0 st'.nv st'.H ∧ Below base M.w w'
def UponOk (P : Program) (nx : Next) (w : World) (R : Value → World → Prop) : Prop :=
 match nx with
 | .enter f args => CallsIn (Fo none) 0 P f args w (fun e w' => ∃ v, e = .returned v ∧ R v w')
 | .round l f tmps asg body => RoundIn (Fo none) 0 P l f tmps asg body w (fun e w' => ∃ v, e = .returned v ∧ R v w')
 | _ => False
def CodeOk (C : Cx) (drawOk : Array Oper → List DI → Bool) (fid : FuncId) : Code → Prop
 | .region id ops true => ∀ is, C.draw fid id = some is → drawOk ops is = true
 | .seq a b => CodeOk C drawOk fid a ∧ CodeOk C drawOk fid b
 | .cond _ a b => CodeOk C drawOk fid a ∧ CodeOk C drawOk fid b
 | .block _ c => CodeOk C drawOk fid c
 | .loop c => CodeOk C drawOk fid c
 | .scope c => CodeOk C drawOk fid c
 | .rangeFunc _ _ a b => CodeOk C drawOk fid a ∧ CodeOk C drawOk fid b
 | _ => True
def CallOk (C : Cx) (cok : FuncId → Code → Prop) (cl : CallF) : Prop := ∀ callee args st r st', cl callee args st = some (r, st') →
 ∀ (M : Mem) (base : Nat) (im0 : Nat → Prop) (y : Value) (ys : List Value), M.cok = cok → SimH M base im0 st.nv st.H → GlobOk C M → Rep M callee y → RepL M args ys →
  ∃ d nx, (Deferred.ofValue y ys.toArray).run C.P M.w = .ok d M.w ∧ (invoke d.target d.args).run C.P M.w = .ok nx M.w ∧
   UponOk C.P nx M.w (PostV M base im0 st' r) ∧ ((∃ f a b, callee = .fn f a b) → ∃ f args, nx = .enter f args)
def PostK (M : Mem) (r : AV) (v : Value) (w' : World) : Prop :=
 ∃ M', M'.w = w' ∧ M.le M' ∧ M'.mu = M.mu ∧ (∀ b, M'.imm b → M.imm b ∨ M.w.heap.size ≤ b) ∧ (∀ b, M'.imm b → b < w'.heap.size) ∧ Rep M' r v ∧ Below M.w.heap.size M.w w'
def CallKOk (C : Cx) (cok : FuncId → Code → Prop) (clK : CallK) : Prop := ∀ callee args H r, clK callee args H = some r →
 ∀ (M : Mem) (base : Nat) (im0 : Nat → Prop) (nv : Nat) (y : Value) (ys : List Value), M.cok = cok → SimH M base im0 nv H → GlobOk C M → Rep M callee y → RepL M args ys →
  ∃ d f as, (Deferred.ofValue y ys.toArray).run C.P M.w = .ok d M.w ∧ (invoke d.target d.args).run C.P M.w = .ok (.enter f as) M.w ∧
   CallsIn (Fo none) 0 C.P f as M.w (fun e w' => ∃ v, e = .returned v ∧ PostK M r v w')
def Computes (C : Cx) (f : FuncId) (as : List AV) (r : AV) : Prop :=
 ∀ (M : Mem) (ys : List Value), (∀ b, M.imm b → b < M.w.heap.size) → RepL M.bare as ys → GlobOk C M →
  CallsIn (Fo none) 0 C.P f ys.toArray M.w (fun e w' => ∃ v, e = .returned v ∧ PostK M.bare r v w')
theorem SimH.grow {M M' : Mem} {base : Nat} {im0 : Nat → Prop} {nv : Nat} {H : Tr Ent} (h : SimH M base im0 nv H) (hle : M.le M') (hmu : M'.mu = M.mu)
  (hi : ∀ b, M'.imm b → M.imm b ∨ M.w.heap.size ≤ b) (hlt : ∀ b, M'.imm b → b < M'.w.heap.size) (hb : Below M.w.heap.size M.w M'.w) : SimH M' base im0 nv H := {
 ent := fun k e he => by
  obtain ⟨b, ct, hE⟩ := h.ent k e he
  have hsame := hb.block b hE.lt
  refine ⟨b, ct, hmu ▸ hE.mu, hE.blk.mono hle hsame, hE.base, fun x => ⟨hle.imm b (hE.fz x).1, (hE.fz x).2.mono (Mem.le_bare hle) hsame⟩, fun x hx => ?_⟩
  rcases hi b hx with hx | hx
  ·exact hE.own x hx
  ·exact Nat.lt_irrefl _ (Nat.lt_of_lt_of_le hE.lt hx)
 inj := fun k e k' e' b ct ct' h1 h2 hk m1 m2 => h.inj k e k' e' b ct ct' h1 h2 hk (hmu ▸ m1) (hmu ▸ m2)
 fresh := fun r x hr => h.fresh r x (hmu ▸ hr)
 lt := hlt
 old := fun b hb' => hle.imm b (h.old b hb')
 lo := h.lo
 new := fun b hb' => by
  rcases hi b hb' with hx | hx
  ·exact h.new b hx
  ·exact .inr (Nat.le_trans h.size hx)
 size := Nat.le_trans h.size hb.size }
theorem SimH.empty {M : Mem} (hlt : ∀ b, M.imm b → b < M.w.heap.size) {nv : Nat} (hmu : ∀ r x, M.mu r = some x → r < nv) : SimH M M.w.heap.size M.imm nv .leaf := {
 ent := fun k e he => by rw [Tr.get_leaf] at he; cases he
 inj := fun k e k' e' b ct ct' he => by rw [Tr.get_leaf] at he; cases he
 fresh := hmu
 lt := hlt
 old := fun _ x => x
 lo := hlt
 new := fun _ x => .inl x
 size := Nat.le_refl _ }
theorem cells_pure {cs : List AV} : ∀ {l : List Value}, cellsV cs = some l → ∀ {M : Mem} {ys : List Value}, RepL M cs ys → ∀ M' : Mem, RepL M' cs ys := by
 induction cs with
 | nil => intro l _ M ys h M'; simpa using h
 | cons c cs ih =>
  intro l h M ys hr M'
  cases c <;> simp only [cellsV] at h <;> try (cases h; done)
  rename_i x
  simp only [Option.map_eq_some_iff] at h
  obtain ⟨l', hl, _⟩ := h
  rw [RepL.cons_iff] at hr ⊢
  obtain ⟨z, zs, rfl, h1, h2⟩ := hr
  refine ⟨z, zs, rfl, ?_, ih hl h2 M'⟩
  unfold Rep at h1 ⊢; exact h1
theorem toV_pure {a : AV} {x : Value} (h : toV a = some x) {M : Mem} {y : Value} (hr : Rep M a y) (M' : Mem) : Rep M' a y := by
 cases a <;> simp only [toV] at h <;> try (cases h; done)
 ·unfold Rep at hr ⊢; exact hr
 ·rename_i cs
  simp only [Option.map_eq_some_iff] at h
  obtain ⟨l, hl, _⟩ := h
  unfold Rep at hr ⊢
  obtain ⟨l', e, hr⟩ := hr
  exact ⟨l', e, cells_pure hl hr M'⟩
 ·rename_i f as bs
  cases as <;> cases bs <;> simp only at h <;> try (cases h; done)
  unfold Rep at hr ⊢
  obtain ⟨l, c, e, h1, h2⟩ := hr
  rw [RepL.nil_iff] at h1 h2
  exact ⟨l, c, e, by rw [RepL.nil_iff]; exact h1, by rw [RepL.nil_iff]; exact h2⟩
theorem toVL_pure {cs : List AV} : ∀ {l : List Value}, toVL cs = some l → ∀ {M : Mem} {ys : List Value}, RepL M cs ys → ∀ M' : Mem, RepL M' cs ys := by
 induction cs with
 | nil => intro l _ M ys h M'; simpa using h
 | cons c cs ih =>
  intro l h M ys hr M'
  simp only [toVL] at h
  split at h
  ·rename_i x xs h1 h2
   rw [RepL.cons_iff] at hr ⊢
   obtain ⟨z, zs, rfl, k1, k2⟩ := hr
   exact ⟨z, zs, rfl, toV_pure h1 k1 M', ih h2 k2 M'⟩
  ·cases h
theorem pureA_rep {a : AV} (h : pureA a = true) {M : Mem} {y : Value} (hr : Rep M a y) (M' : Mem) : Rep M' a y := by
 cases a <;> simp only [pureA] at h <;> try (cases h; done)
 ·unfold Rep at hr ⊢; exact hr
 ·obtain ⟨l, hl⟩ := Option.isSome_iff_exists.1 h
  unfold Rep at hr ⊢
  obtain ⟨l', e, hr⟩ := hr
  exact ⟨l', e, cells_pure hl hr M'⟩
 ·obtain ⟨l, hl⟩ := Option.isSome_iff_exists.1 h
  unfold Rep at hr ⊢
  obtain ⟨l', e, hr⟩ := hr
  exact ⟨l', e, toVL_pure hl hr M'⟩
theorem closedA_rep : ∀ (n : Nat) {a : AV}, closedA n a = true → ∀ {M : Mem} {y : Value}, Rep M a y → Rep M.bare a y
 | 0, a, h, _, _, _ => by simp [closedA] at h
 | n + 1, a, h, M, y, hr => by
  have list : ∀ {cs : List AV}, cs.all (closedA n) = true → ∀ {l : List Value}, RepL M cs l → RepL M.bare cs l := by
   intro cs
   induction cs with
   | nil => intro _ l h; simpa using h
   | cons c cs ih =>
    intro h l hl
    simp only [List.all_cons, Bool.and_eq_true] at h
    rw [RepL.cons_iff] at hl ⊢
    obtain ⟨z, zs, rfl, h1, h2⟩ := hl
    exact ⟨z, zs, rfl, closedA_rep n h.1 h1, ih h.2 h2⟩
  cases a <;> simp only [closedA] at h <;> try (cases h; done)
  ·unfold Rep at hr ⊢; exact hr
  ·unfold Rep at hr ⊢; obtain ⟨l, e, hr⟩ := hr; exact ⟨l, e, list h hr⟩
  ·unfold Rep at hr ⊢; obtain ⟨l, e, hr⟩ := hr; exact ⟨l, e, list h hr⟩
  ·unfold Rep at hr ⊢; exact hr
  ·unfold Rep at hr ⊢; exact hr
  ·unfold Rep at hr ⊢; exact hr
  ·unfold Rep at hr ⊢
   simp only [Bool.and_eq_true] at h
   obtain ⟨l, c, e, h1, h2⟩ := hr; exact ⟨l, c, e, list h.1 h1, list h.2 h2⟩
  ·unfold Rep at hr ⊢; obtain ⟨z, e, hr⟩ := hr; exact ⟨z, e, closedA_rep n h hr⟩
theorem closedL_rep {cs : List AV} (h : cs.all closed = true) {M : Mem} {l : List Value} (hl : RepL M cs l) : RepL M.bare cs l := by
 induction cs generalizing l with
 | nil => simpa using hl
 | cons c cs ih =>
  simp only [List.all_cons, Bool.and_eq_true] at h
  rw [RepL.cons_iff] at hl ⊢
  obtain ⟨z, zs, rfl, h1, h2⟩ := hl
  exact ⟨z, zs, rfl, closedA_rep 20 h.1 h1, ih h.2 h2⟩
end Go.Vm

namespace Go.Vm
open Go.RowKit (Below)
section
variable {C : Cx} {cok : FuncId → Code → Prop} {base : Nat} {im0 : Nat → Prop} {lo : Nat} {M0 : Mem}
theorem aop_nodefer {ev : Operand → AV} {H : Tr Ent} {key ver : Nat} {t : TypeId} {op : Op} {x : AV × Tr Ent} (h : aop C ev H key ver t op = some x) : ∀ c, op ≠ .defer c := by
 intro c hc
 subst hc
 simp [aop] at h
theorem Now.step {nt : Nat} {st : St} {a : Act} {M M' : Mem} {w' : World} {dst : Option Tmp} {r : AV} {y : Value} {T : Tr AV} {nv' : Nat} {H' : Tr Ent} {nf : Nat}
  (hle0 : M0.le M) (hb0 : Below base M0.w M.w) (hT : RepT M nt st.T a.tmps) (hm : Marks M lo a.defers)
  (hw : M'.w = w') (hle : M.le M') (hr : Rep M' r y) (hs : SimH M' base im0 nv' H') (hb : Below base M.w w') (hp : putA nt st.T dst r = some T) :
  Now base im0 nt lo M0 { T := T, H := H', nv := nv', nf := nf } (a.put dst y) w' :=
 ⟨M', hw, Mem.le_trans hle0 hle, hb0.trans hb, putA_sound hp (hT.mono hle) hr, hs, by rw [put_defers]; exact hm.mono hle⟩
theorem brings_wp {ro : Option Nat} {o : Oper} {a : Act} {w w' : World} {y : Value} {K : Act → World → Prop} {Q : Exit → Act → World → Prop}
  (h : Brings C.P (execOp a.eval o) w y w') (hd : ∀ c, o.op ≠ .defer c) (hK : K (a.put o.dst y) w') : o.wpIn (Fo ro) 0 C.P a w K Q := by
 refine ⟨fun _ _ => trivial, ?_⟩
 have he : (Fo ro).round = ro := rfl
 rw [he, Oper.semAt_eq ro a.eval o hd]
 rcases h with h | ⟨rfl, h⟩
 ·rw [h]; exact hK
 ·rw [h]; exact hK
theorem upon_wp {ro : Option Nat} {o : Oper} {a : Act} {w : World} {nx : Next} {R : Value → World → Prop} {K : Act → World → Prop} {Q : Exit → Act → World → Prop}
  (h : UponOk C.P nx w R) (hK : ∀ v w', R v w' → K (a.put o.dst v) w') : o.uponIn (Fo ro) 0 C.P a K Q (.ok nx w) := by
 cases nx <;> simp only [UponOk] at h
 ·refine ⟨fun x => by simp [Fo] at x, ?_⟩
  rw [callsIn_fo ro none]
  exact h.mono fun e w' ⟨v, he, hr⟩ => by subst he; exact hK v w' hr
 ·refine ⟨fun x => by simp [Fo] at x, ?_⟩
  rw [roundIn_fo ro none]
  exact h.mono fun e w' ⟨v, he, hr⟩ => by subst he; exact hK v w' hr
theorem evO_sound (ok : TyOk C) {cl : CallF} (hcl : CallOk C cok cl) (hcok : M0.cok = cok) (hg0 : GlobOk C M0) {fb nt : Nat} {ops : Array Oper} {o : Oper} {i : Nat} {st st' : St} (hi : ops[i]? = some o)
  (h : evO cl C fb nt ops o st = some st') {ro : Option Nat} {a : Act} {w : World} (hn : Now base im0 nt lo M0 st a w) {K : Act → World → Prop} {Q : Exit → Act → World → Prop}
  (hK : ∀ a' w', Now base im0 nt lo M0 st' a' w' → K a' w') : wpOpIn (Fo ro) 0 C.P ops Q i K a w := by
 obtain ⟨M, rfl, hle0, hb0, hT, hs, hm⟩ := hn
 have hg := hg0.mono hle0
 unfold evO at h
 unfold wpOpIn
 simp only [hi]
 cases hwa : wantA ops st.T o with
 | none => rw [hwa] at h; cases h
 | some b =>
  rw [hwa] at h
  rw [wantA_sound hwa hT]
  cases b with
  | false =>
   simp only [Option.map_eq_some_iff] at h
   obtain ⟨T, hT', rfl⟩ := h
   simp only [Bool.false_eq_true, if_false]
   refine ⟨fun _ _ => trivial, hK _ _ ?_⟩
   exact ⟨M, rfl, hle0, hb0, putA_sound hT' hT (by unfold Rep; rfl), hs, by rw [put_defers]; exact hm⟩
  | true =>
   simp only [if_true]
   simp only at h
   split at h
   ·rename_i f args ats ho
    split at h
    ·cases h
    ·rename_i r s1 hc
     simp only [Option.map_eq_some_iff] at h
     obtain ⟨T, hT', rfl⟩ := h
     have he := evOk hT hg (a := a)
     obtain ⟨d, nx, h1, h2, h3, _⟩ := hcl _ _ _ _ _ hc M base im0 (a.eval f) (args.toList.map a.eval) (hle0.cok.trans hcok) hs hg (he f) (he.list _)
     refine ⟨fun _ _ => trivial, ?_⟩
     have hro : (Fo ro).round = ro := rfl
     rw [hro, Oper.semAt_eq ro a.eval o (by intro c hc'; rw [ho] at hc'; cases hc')]
     have hx : (execOp a.eval o).run C.P M.w = .ok nx M.w := by
      unfold execOp
      simp only [ho, resolve]
      have : (args.map a.eval) = (args.toList.map a.eval).toArray := by rw [← Array.toList_map]
      rw [this, Sem.run_bind, h1]
      simpa [Result.andThen] using h2
     rw [hx]
     refine upon_wp h3 fun v w' ⟨M', hw, hle, hr, hs', hb⟩ => hK _ _ ?_
     exact Now.step (st := st) hle0 hb0 hT hm hw hle hr hs' hb hT'
   ·rename_i hop
    split at h
    ·cases h
    ·rename_i r H hc
     simp only [Option.map_eq_some_iff] at h
     obtain ⟨T, hT', rfl⟩ := h
     obtain ⟨y, w', hb, hp, _⟩ := aop_sound ok (o := o) hc (evOk hT hg) hs hs.verOk
     obtain ⟨M', hw, hle, _, hr, hs'⟩ := hp.ex
     refine brings_wp hb (aop_nodefer hc) (hK _ _ ?_)
     exact Now.step (st := st) hle0 hb0 hT hm hw hle hr hs' hp.below hT'
theorem evOps_sound (ok : TyOk C) {cl : CallF} (hcl : CallOk C cok cl) (hcok : M0.cok = cok) (hg0 : GlobOk C M0) {fb nt : Nat} {ops : Array Oper} {ro : Option Nat} {Q : Exit → Act → World → Prop} {st' : St}
  (hQ : ∀ a' w', Now base im0 nt lo M0 st' a' w' → Q .normal a' w') : ∀ (os : List Oper) (l : List Nat), l.map (fun i => ops[i]?) = os.map some → ∀ (st : St) (a : Act) (w : World),
   evOps cl C fb nt ops os st = some st' → Now base im0 nt lo M0 st a w → wpOpsIn (Fo ro) 0 C.P ops Q l a w
 | [], [], _, st, a, w, h, hn => by
  simp only [evOps, Option.some.injEq] at h; subst h
  exact hQ _ _ hn
 | [], _ :: _, hl, _, _, _, _, _ => by simp at hl
 | _ :: _, [], hl, _, _, _, _, _ => by simp at hl
 | o :: os, i :: l, hl, st, a, w, h, hn => by
  simp only [List.map_cons, List.cons.injEq] at hl
  simp only [evOps] at h
  split at h
  ·cases h
  ·rename_i s1 h1
   rw [wpOpsIn_cons]
   exact evO_sound ok hcl hcok hg0 hl.1 h1 hn (fun a' w' hn' => evOps_sound ok hcl hcok hg0 hQ os l hl.2 s1 a' w' h hn')
def exOf : Ex → Exit
 | .nrm => .normal
 | .exit i => .exit i
 | .ret => .ret
def DrawOk (C : Cx) (cok : FuncId → Code → Prop) (drawOk : Array Oper → List DI → Bool) (clK : CallK) : Prop :=
 ∀ (fb nt : Nat) (ops : Array Oper) (is : List DI) (T0 : Tr AV) (nv : Nat) (H0 : Tr Ent) (T : Tr AV) (H : Tr Ent), drawOk ops is = true → evDs clK C fb nt ops T0 nv ops.toList is T0 H0 = some (T, H) →
  ∀ (base : Nat) (im0 : Nat → Prop) (lo : Nat) (M0 : Mem) (nf : Nat) (ro : Option Nat) (id : Nat) (a : Act) (w : World) (Q : Exit → Act → World → Prop), M0.cok = cok → GlobOk C M0 →
   Now base im0 nt lo M0 { T := T0, H := H0, nv := nv, nf := nf } a w →
   (∀ a' w', Now base im0 nt lo M0 { T := T, H := H, nv := nv + ops.size, nf := nf } a' w' → Q .normal a' w') →
   (Code.region id ops true).wpIn (Fo ro) 0 C.P Q a w
theorem Now.nil {nt : Nat} {st : St} {a : Act} {w : World} (h : Now base im0 nt lo M0 st a w) : Below base M0.w w := by
 obtain ⟨M, rfl, _, hb, _⟩ := h; exact hb
theorem stFz_now {nt nv nf : Nat} {a : Act} {w : World} : ∀ (ts : List Tmp) (T : Tr AV) (H : Tr Ent) {T' : Tr AV} {H' : Tr Ent}, stFz ts T H = some (T', H') → Now base im0 nt lo M0 { T := T, H := H, nv := nv, nf := nf } a w →
  Now base im0 nt lo M0 { T := T', H := H', nv := nv, nf := nf } a w
 | [], T, H, T', H', h, hn => by
  simp only [stFz, Option.some.injEq, Prod.mk.injEq] at h
  obtain ⟨rfl, rfl⟩ := h
  exact hn
 | t :: ts, T, H, T', H', h, hn => by
  simp only [stFz] at h
  split at h
  ·exact stFz_now ts T H h hn
  ·rename_i x hx
   split at h
   ·cases h
   ·rename_i x' H1 hf
    refine stFz_now ts (T.set t x') H1 h ?_
    obtain ⟨M, rfl, hle0, hb0, hT, hs, hm⟩ := hn
    obtain ⟨M1, hw1, hle1, _, hs1, hr1⟩ := frz_sound hf hs
    refine ⟨M1, hw1, Mem.le_trans hle0 hle1, hb0, ⟨hT.1, fun i z hi => ?_⟩, hs1, hm.mono hle1⟩
    rcases Tr.get_set hi with ⟨rfl, rfl⟩ | ⟨_, hi⟩
    ·exact ⟨(hT.2 i x hx).1, (hr1 _ (hT.2 i x hx).2).mono (Mem.bare_le M1)⟩
    ·exact ⟨(hT.2 i z hi).1, (hT.2 i z hi).2.mono hle1⟩
theorem iter_sound {f : St → Option (Ex × St)} {nt : Nat} {c : Code} {ro : Option Nat} {ex : Ex} {st' : St}
  (hf : ∀ st ex st1 a w, f st = some (ex, st1) → Now base im0 nt lo M0 st a w → c.wpIn (Fo ro) 0 C.P (fun e a' w' => e = exOf ex ∧ Now base im0 nt lo M0 st1 a' w') a w) :
  ∀ (m : Nat) (st : St) (a : Act) (w : World), iter f m st = some (ex, st') → Now base im0 nt lo M0 st a w →
   Code.roundsIn (Fo ro) 0 C.P c (fun e a' w' => e = exOf ex ∧ Now base im0 nt lo M0 st' a' w') m a w
 | 0, _, _, _, h, _ => by simp [iter] at h
 | m + 1, st, a, w, h, hn => by
  rw [roundsIn_succ]
  simp only [iter] at h
  split at h
  ·rename_i s1 h1
   refine wpIn_mono (hf _ _ _ _ _ h1 hn) fun e a' w' ⟨he, hn'⟩ => ?_
   subst he
   exact iter_sound hf m s1 a' w' h hn'
  ·rename_i hne
   refine wpIn_mono (hf _ _ _ _ _ h hn) fun e a' w' ⟨he, hn'⟩ => ?_
   subst he
   cases ex with
   | nrm => exact absurd h (hne _)
   | exit i => exact ⟨rfl, hn'⟩
   | ret => exact ⟨rfl, hn'⟩
variable {drawOk : Array Oper → List DI → Bool} {clK : CallK} {cl : CallF}
theorem evCode_sound (ok : TyOk C) (hcl : CallOk C cok cl) (hdraw : DrawOk C cok drawOk clK) (hck : cok = CodeOk C drawOk) (hcok : M0.cok = cok) (hg0 : GlobOk C M0) (hlo : lo ≤ M0.w.heap.size)
  {fid fb nt : Nat} {rd : Bool} {ro : Option Nat} (hro : rd = false → ro = none) : ∀ (code : Code) (st : St) (ex : Ex) (st' : St), evCode cl clK C fid fb nt rd code st = some (ex, st') → CodeOk C drawOk fid code →
   ∀ (a : Act) (w : World), Now base im0 nt lo M0 st a w → code.wpIn (Fo ro) 0 C.P (fun e a' w' => e = exOf ex ∧ Now base im0 nt lo M0 st' a' w') a w
 | .skip, st, ex, st', h, _, a, w, hn => by
  simp only [evCode, Option.some.injEq, Prod.mk.injEq] at h; obtain ⟨rfl, rfl⟩ := h
  exact wpIn_skip ⟨rfl, hn⟩
 | .label _, st, ex, st', h, _, a, w, hn => by
  simp only [evCode, Option.some.injEq, Prod.mk.injEq] at h; obtain ⟨rfl, rfl⟩ := h
  exact wpIn_label ⟨rfl, hn⟩
 | .exit id, st, ex, st', h, _, a, w, hn => by
  simp only [evCode, Option.some.injEq, Prod.mk.injEq] at h; obtain ⟨rfl, rfl⟩ := h
  exact wpIn_exit ⟨rfl, hn⟩
 | .ret, st, ex, st', h, _, a, w, hn => by
  simp only [evCode, Option.some.injEq, Prod.mk.injEq] at h; obtain ⟨rfl, rfl⟩ := h
  exact wpIn_ret ⟨rfl, hn⟩
 | .region id ops dr, st, ex, st', h, hc, a, w, hn => by
  cases dr with
  | false =>
   simp only [evCode, cond_false, Option.map_eq_some_iff, Prod.mk.injEq] at h
   obtain ⟨s, hs, rfl, rfl⟩ := h
   refine wpIn_region (evOps_sound ok hcl hcok hg0 (fun a' w' hn' => ⟨rfl, hn'⟩) ops.toList (List.range ops.size) ?_ st a w hs hn)
   apply List.ext_getElem?
   intro i
   simp only [List.getElem?_map]
   by_cases hi : i < ops.size
   ·rw [List.getElem?_range hi]; simp [hi]
   ·rw [List.getElem?_eq_none (by simpa using hi), List.getElem?_eq_none (by simpa using hi)]; rfl
  | true =>
   simp only [evCode, cond_true] at h
   split at h
   ·cases h
   ·rename_i is his
    split at h
    ·cases h
    ·rename_i T0 H0 hfz
     split at h
     ·cases h
     ·rename_i T H hd
      simp only [Option.some.injEq, Prod.mk.injEq] at h
      obtain ⟨rfl, rfl⟩ := h
      exact hdraw fb nt ops is T0 st.nv H0 T H (hc is his) hd base im0 lo M0 st.nf ro id a w _ hcok hg0 (stFz_now _ _ _ hfz hn) (fun a' w' hn' => ⟨rfl, hn'⟩)
 | .seq x y, st, ex, st', h, hc, a, w, hn => by
  simp only [evCode] at h
  split at h
  ·rename_i s1 h1
   refine wpIn_seq (wpIn_mono (evCode_sound ok hcl hdraw hck hcok hg0 hlo hro x st _ _ h1 hc.1 a w hn) fun e a' w' ⟨he, hn'⟩ => ?_)
   subst he
   exact evCode_sound ok hcl hdraw hck hcok hg0 hlo hro y s1 _ _ h hc.2 a' w' hn'
  ·rename_i hne
   refine wpIn_seq (wpIn_mono (evCode_sound ok hcl hdraw hck hcok hg0 hlo hro x st _ _ h hc.1 a w hn) fun e a' w' ⟨he, hn'⟩ => ?_)
   subst he
   cases ex with
   | nrm => exact absurd h (hne _)
   | exit i => exact ⟨rfl, hn'⟩
   | ret => exact ⟨rfl, hn'⟩
 | .cond c x y, st, ex, st', h, hc, a, w, hn => by
  simp only [evCode] at h
  split at h
  ·rename_i t ht
   have hev : a.eval c = .bool t := by
    obtain ⟨M, rfl, hle0, hb0, hT, hs, hm⟩ := hn
    have := evOk hT (hg0.mono hle0) (a := a) c
    rw [ht] at this; unfold Rep at this; exact this
   refine wpIn_cond hev ?_
   cases t with
   | true => simp only [cond_true] at h; exact evCode_sound ok hcl hdraw hck hcok hg0 hlo hro x st _ _ h hc.1 a w hn
   | false => simp only [cond_false] at h; exact evCode_sound ok hcl hdraw hck hcok hg0 hlo hro y st _ _ h hc.2 a w hn
  ·cases h
 | .block id c, st, ex, st', h, hc, a, w, hn => by
  simp only [evCode] at h
  split at h
  ·rename_i i s1 h1
   refine wpIn_block (wpIn_mono (evCode_sound ok hcl hdraw hck hcok hg0 hlo hro c st _ _ h1 hc a w hn) fun e a' w' ⟨he, hn'⟩ => ?_)
   subst he
   simp only [exOf, Exit.inBlock]
   cases hb : Nat.beq i id with
   | true =>
    simp only [hb, cond_true, Option.some.injEq, Prod.mk.injEq] at h; obtain ⟨rfl, rfl⟩ := h
    rw [if_pos (Nat.eq_of_beq_eq_true hb)]; exact ⟨rfl, hn'⟩
   | false =>
    simp only [hb, cond_false, Option.some.injEq, Prod.mk.injEq] at h; obtain ⟨rfl, rfl⟩ := h
    rw [if_neg (Nat.ne_of_beq_eq_false hb)]; exact ⟨rfl, hn'⟩
  ·rename_i hne
   refine wpIn_block (wpIn_mono (evCode_sound ok hcl hdraw hck hcok hg0 hlo hro c st _ _ h hc a w hn) fun e a' w' ⟨he, hn'⟩ => ?_)
   subst he
   cases ex with
   | nrm => exact ⟨rfl, hn'⟩
   | exit i => exact absurd h (hne _ _)
   | ret => exact ⟨rfl, hn'⟩
 | .loop c, st, ex, st', h, hc, a, w, hn => by
  simp only [evCode] at h
  refine wpIn_loop_rounds C.fuel (iter_sound (fun st ex st1 a w h hn => ?_) C.fuel st a w h hn)
  exact evCode_sound ok hcl hdraw hck hcok hg0 hlo hro c st _ _ h hc a w hn
 | .scope c, st, ex, st', h, hc, a, w, hn => by
  simp only [evCode] at h
  cases rd with
  | true => simp at h
  | false =>
   simp only [cond_false] at h
   have hro' := hro rfl
   subst hro'
   have hw := evCode_sound ok hcl hdraw hck hcok hg0 hlo hro c st _ _ h hc a w hn
   refine wpIn_wide.2 (wp_scope_straight ?_)
   refine wpIn_wide.1 (wpIn_mono hw fun e a' w' ⟨he, hn'⟩ => ?_)
   subst he
   cases ex with
   | nrm => exact ⟨rfl, hn'⟩
   | exit i => exact ⟨rfl, hn'⟩
   | ret => exact ⟨rfl, hn'⟩
 | .goto _, st, ex, st', h, _, a, w, hn => by simp [evCode] at h
 | .refuse _, st, ex, st', h, _, a, w, hn => by simp [evCode] at h
 | .rangeFunc f ps asg bd, st, ex, st', h, hc, a, w, hn => by
  simp only [evCode] at h
  cases rd with
  | true => simp at h
  | false =>
   simp only [cond_false] at h
   have hro' := hro rfl
   subst hro'
   split at h
   ·rename_i p ps' g as bs hps hf
    split at h
    ·cases h
    ·rename_i x r0 s1 hcall
     split at h
     ·rename_i _ ver a1 a2 a3 a4 a5 a6 a7 pend hlive
      refine wpIn_rangeFunc fun fn _ => ?_
      obtain ⟨M, rfl, hle0, hb0, hT, hs, hm⟩ := hn
      obtain ⟨Mb, hwb, hleb, hmub, himb, hsb⟩ := hs.born (.deferred (some []))
      have hszb : Mb.w.heap.size = M.w.heap.size + 1 := by rw [hwb]; simp
      let L : Loop := { state := .ready, pending := none, fn := fn, tmps := a.tmps, params := ps, assign := asg, body := bd, defers := M.w.heap.size }
      have hckM : M.cok = cok := hle0.cok.trans hcok
      obtain ⟨Ml, hwl, hlel, hmul, hverl, hsl⟩ := hsb.alloc hsb.verOk (.loop L) (fb + p) 1 (.loop fid fb nt st.T ps.toList asg bd none) (fun M' hle' hnew => by
       refine ⟨L, hnew, ?_, ?_, rfl, rfl, rfl, (hT.mono (Mem.le_trans hleb hle')), rfl, rfl⟩
       ·rw [hle'.cok, hleb.cok, hckM, hck]; exact hc.1
       ·rw [hle'.cok, hleb.cok, hckM, hck]; exact hc.2)
      have hleMl : M.le Ml := Mem.le_trans hleb hlel
      have hbMl : Below base M.w Ml.w := by
       rw [hwl, hwb]
       exact ((Below.refl base M.w).alloc hs.size _).alloc (by simp; have := hs.size; omega) _
      have hTl := hT.mono hleMl
      have hgl := hg0.mono (Mem.le_trans hle0 hleMl)
      have hcallee : Rep Ml (.fn g as bs) (a.eval f) := by
       have := evOk hTl hgl (a := a) f
       rwa [hf] at this
      have hy : RepL Ml [.yld (fb + p) st.nv] [.func (.yield Mb.w.heap.size) #[] #[]] := by
       rw [RepL.cons_iff]
       refine ⟨_, _, rfl, ?_, by simp⟩
       unfold Rep
       exact ⟨_, _, hverl, rfl⟩
      obtain ⟨d, nx, h1, h2, h3, h4⟩ := hcl _ _ _ _ _ hcall Ml base im0 (a.eval f) _ (hleMl.cok.trans hckM) hsl hgl hcallee hy
      obtain ⟨f', args, rfl⟩ := h4 ⟨g, as, bs, rfl⟩
      refine ⟨M.w.heap.size + 1, [{ target := .collected M.w.heap.size, args := #[] }], Ml.w, d, Ml.w, f', args, Ml.w, ?_, ?_, fun _ _ => trivial, h2, fun x => by simp [Fo] at x, ?_⟩
      ·have := run_enterLoop_outer (P := C.P) (w := M.w) fn a.tmps ps asg bd
       rw [hwl, hwb]; exact this
      ·have he : a.eval (.const (.func (.yield (M.w.heap.size + 1)) #[] #[])) = .func (.yield Mb.w.heap.size) #[] #[] := by rw [hszb]; rfl
       simp only [resolve, List.map_toArray, List.map_cons, List.map_nil, he]
       exact h1
      ·refine h3.mono fun e w3 ⟨v, he, M3, hw3, hle3, _, hs3, hb3⟩ => ?_
       subst he
       obtain ⟨hget, hver⟩ := live_some hlive
       obtain ⟨b, ct, hE⟩ := hs3.ent _ _ hget
       have hbb : b = Mb.w.heap.size := by
        have e1 := hE.mu
        simp only at hver
        rw [show ({ ver := ver, fz := false, blk := Blk.loop a1 a2 a3 a4 a5 a6 a7 pend } : Ent).ver = st.nv from hver, hle3.mu _ _ hverl] at e1
        simp only [Option.some.injEq, Prod.mk.injEq] at e1
        exact e1.1.symm
       obtain ⟨l3, hheap, _, _, _, _, _, _, hpend⟩ := hE.blk
       rw [hbb, hszb] at hheap
       subst hw3
       have hst : l3.state ≠ .busy := by
        cases pend with
        | none => rw [hpend.1]; simp
        | some q => cases q with
         | none => simp at h
         | some c => rw [hpend.1]; simp
       have hrun := run_endLoop (P := C.P) hheap hst
       obtain ⟨hle4, hs4, hb4, _⟩ := hs3.dropWrite hget hE rfl (w' := M3.w.putObj (M.w.heap.size + 1) (.loop { l3 with state := .exhausted }))
        (fun b' hb' => World.putObj_heap_other (by rw [← hszb, ← hbb]; exact hb')) rfl rfl rfl World.putObj_size
       have hle4' : M.le { M3 with w := M3.w.putObj (M.w.heap.size + 1) (.loop { l3 with state := .exhausted }) } := Mem.le_trans hleMl (Mem.le_trans hle3 hle4)
       have hmark : Marks { M3 with w := M3.w.putObj (M.w.heap.size + 1) (.loop { l3 with state := .exhausted }) } lo ([{ target := .collected M.w.heap.size, args := #[] }] ++ a.defers) := by
        obtain ⟨rs, e, n1, n2⟩ := hm
        have hlt : ∀ r ∈ rs, r < M.w.heap.size := fun r hr => hs.lt r (n2 r hr).2.1
        refine ⟨M.w.heap.size :: rs, by rw [e]; rfl, List.nodup_cons.2 ⟨fun hx => Nat.lt_irrefl _ (hlt _ hx), n1⟩, fun r hr => ?_⟩
        rcases List.mem_cons.1 hr with rfl | hr
        ·refine ⟨Nat.le_trans hlo hb0.size, ?_, ?_⟩
         ·exact hle4.imm _ (hle3.imm _ (hlel.imm _ himb))
         ·have := (Mem.le_trans hlel (Mem.le_trans hle3 hle4)).same _ himb
          rw [this, hwb]; exact World.alloc_heap_new M.w _
        ·exact ⟨(n2 r hr).1, hle4'.imm r (n2 r hr).2.1, (hle4'.same r (n2 r hr).2.1).trans (n2 r hr).2.2⟩
       have hnow : ∀ nf, Now base im0 nt lo M0 { T := st.T, H := s1.H.del (fb + p), nv := s1.nv, nf := nf } { a with defers := [{ target := .collected M.w.heap.size, args := #[] }] ++ a.defers } (M3.w.putObj (M.w.heap.size + 1) (.loop { l3 with state := .exhausted })) := fun nf =>
        ⟨_, rfl, Mem.le_trans hle0 hle4', hb0.trans (hbMl.trans (hb3.trans hb4)), hT.mono hle4', hs4, hmark⟩
       refine ⟨_, _, hrun, ?_⟩
       split at h
       ·simp only [Option.some.injEq, Prod.mk.injEq] at h; obtain ⟨rfl, rfl⟩ := h
        have hnw := hnow s1.nf
        revert hnw; rw [hpend.2]; intro hnw
        exact ⟨rfl, hnw⟩
       ·simp only [Option.some.injEq, Prod.mk.injEq] at h; obtain ⟨rfl, rfl⟩ := h
        have hnw := hnow s1.nf
        revert hnw; rw [hpend.2]; intro hnw
        exact wpIn_ret ⟨rfl, hnw⟩
       ·simp only [Option.some.injEq, Prod.mk.injEq] at h; obtain ⟨rfl, rfl⟩ := h
        have hnw := hnow s1.nf
        revert hnw; rw [hpend.2]; intro hnw
        exact wpIn_exit ⟨rfl, hnw⟩
       ·cases h
     ·cases h
   ·cases h
end
end Go.Vm

namespace Go.Vm
open Go.RowKit (Below)
theorem BlkIs.monoW {M M' : Mem} (h : M.lw M') (hc : M'.cok = M.cok) {b ct : Nat} {bl : Blk} (hb : M'.w.heap[b]? = M.w.heap[b]?) (k : BlkIs M b ct bl) : BlkIs M' b ct bl := by
 cases bl with
 | box cs => obtain ⟨a, t, e, r⟩ := k; exact ⟨a, t, hb.trans e, r.monoW h⟩
 | arr sz es ex => obtain ⟨a, t, ys, e, r, rest⟩ := k; exact ⟨a, t, ys, hb.trans e, r.monoW h, rest⟩
 | map ks vs => obtain ⟨a, t, e, r, s⟩ := k; exact ⟨a, t, hb.trans e, r.monoW h, s.monoW h⟩
 | siter s pos => exact hb.trans k
 | loop fid fb nt T ps asg bd pend =>
  obtain ⟨l, e, c1, c2, a2, a3, a4, a5, a6⟩ := k
  exact ⟨l, hb.trans e, hc.symm ▸ c1, hc.symm ▸ c2, a2, a3, a4, ⟨a5.1, fun i x hi => ⟨(a5.2 i x hi).1, (a5.2 i x hi).2.monoW h⟩⟩, a6⟩
theorem BlkIs.notDef {M : Mem} {b ct : Nat} {bl : Blk} (k : BlkIs M b ct bl) {d : Option (List Deferred)} : M.w.heap[b]? ≠ some (.deferred d) := by
 intro hd
 cases bl with
 | box cs => obtain ⟨a, t, e, _⟩ := k; rw [hd] at e; cases e
 | arr sz es ex => obtain ⟨a, t, ys, e, _⟩ := k; rw [hd] at e; cases e
 | map ks vs => obtain ⟨a, t, e, _⟩ := k; rw [hd] at e; cases e
 | siter s pos => have e : M.w.heap[b]? = _ := k; rw [hd] at e; cases e
 | loop fid fb nt T ps asg bd pend => obtain ⟨l, e, _⟩ := k; rw [hd] at e; cases e
structure Off (lo : Nat) (M M' : Mem) : Prop where
 lw : M.lw M'
 mu : M'.mu = M.mu
 cok : M'.cok = M.cok
 imm : ∀ b, b < lo → M.imm b → M'.imm b
 below : Below lo M.w M'.w
theorem Off.refl (lo : Nat) (M : Mem) : Off lo M M := ⟨(Mem.le_refl M).w, rfl, rfl, fun _ _ h => h, Below.refl _ _⟩
theorem Mem.lw_trans {A B C : Mem} (h : A.lw B) (k : B.lw C) : A.lw C :=
 ⟨fun r x hx => k.mu r x (h.mu r x hx), fun b o hb ho hd => by obtain ⟨h1, h2⟩ := h.keep b o hb ho hd; exact k.keep b o h1 h2 hd⟩
theorem Off.trans {lo : Nat} {A B C : Mem} (h : Off lo A B) (k : Off lo B C) : Off lo A C :=
 ⟨Mem.lw_trans h.lw k.lw, k.mu.trans h.mu, k.cok.trans h.cok, fun b hb x => k.imm b hb (h.imm b hb x), h.below.trans k.below⟩
theorem mark_off {M : Mem} {base : Nat} {im0 : Nat → Prop} {nv lo r : Nat} {H : Tr Ent} (hs : SimH M base im0 nv H) (hbl : base ≤ lo) (hlo : lo ≤ r) (hi : M.imm r) (hr : M.w.heap[r]? = some (.deferred (some []))) :
  ∃ M', M'.w = M.w.putObj r (.deferred none) ∧ Off lo M M' ∧ (∀ b, b ≠ r → M.imm b → M'.imm b) ∧ SimH M' base im0 nv H := by
 have hlt := hs.lt r hi
 have hne : ∀ b, b ≠ r → (M.w.putObj r (.deferred none)).heap[b]? = M.w.heap[b]? := fun b hb => World.putObj_heap_other hb
 let M' : Mem := { M with imm := fun b => M.imm b ∧ b ≠ r, w := M.w.putObj r (.deferred none) }
 have hlw : M.lw M' := ⟨fun _ _ x => x, fun b o hb ho hd => by
  have hbr : b ≠ r := fun e => by subst e; rw [hr] at ho; simp only [Option.some.injEq] at ho; subst ho; simp [isData] at hd
  exact ⟨⟨hb, hbr⟩, (hne b hbr).trans ho⟩⟩
 refine ⟨M', rfl, ⟨hlw, rfl, rfl, fun b hb x => ⟨x, by omega⟩, ⟨rfl, rfl, rfl, Nat.le_of_eq World.putObj_size.symm, fun b hb => hne b (by omega)⟩⟩, fun b hb x => ⟨x, hb⟩, ?_⟩
 exact {
  ent := fun k e he => by
   obtain ⟨b, ct, hE⟩ := hs.ent k e he
   have hbr : b ≠ r := fun e' => by subst e'; exact hE.blk.notDef hr
   exact ⟨b, ct, hE.mu, hE.blk.monoW hlw rfl (hne b hbr), hE.base, fun x => ⟨⟨(hE.fz x).1, hbr⟩, (hE.fz x).2.monoW (Mem.lw_bare hlw) rfl (hne b hbr)⟩, fun x hx => hE.own x hx.1⟩
  inj := hs.inj
  fresh := hs.fresh
  lt := fun b x => by show b < (M.w.putObj r (.deferred none)).heap.size; rw [World.putObj_size]; exact hs.lt b x.1
  old := fun b x => ⟨hs.old b x, by have := hs.lo b x; omega⟩
  lo := hs.lo
  new := fun b x => hs.new b x.1
  size := by show base ≤ (M.w.putObj r (.deferred none)).heap.size; rw [World.putObj_size]; exact hs.size }
section
variable {C : Cx} {base : Nat} {im0 : Nat → Prop} {nv lo : Nat} {H : Tr Ent}
theorem marks_off {fn : Func} {tmps : Array Value} {R : Ending → World → Prop} (hbl : base ≤ lo) : ∀ (rs : List Nat) (M : Mem), SimH M base im0 nv H → rs.Nodup →
  (∀ r ∈ rs, lo ≤ r ∧ M.imm r ∧ M.w.heap[r]? = some (.deferred (some []))) →
  (∀ M', Off lo M M' → SimH M' base im0 nv H → ∃ v, (results fn tmps).run C.P M'.w = .ok v M'.w ∧ R (.returned v) M'.w) →
  LeavesInM (Fo none) 0 C.P fn tmps R (rs.map (fun r => { target := .collected r, args := #[] })) .returning M.w
 | [], M, hs, _, _, hk => by
  obtain ⟨v, h1, h2⟩ := hk M (Off.refl lo M) hs
  exact ⟨v, h1, h2⟩
 | r :: rs, M, hs, hn, hr, hk => by
  rw [List.nodup_cons] at hn
  obtain ⟨h1, h2, h3⟩ := hr r (by simp)
  obtain ⟨M', hw, hoff, himm, hs'⟩ := mark_off hs hbl h1 h2 h3
  refine ⟨by simp, .inl ⟨r, M.w.putObj r (.deferred none), rfl, run_takeDeferred h3, ?_⟩⟩
  rw [← hw]
  refine marks_off hbl rs M' hs' hn.2 (fun q hq => ?_) (fun M'' hoff' hs'' => hk M'' (hoff.trans hoff') hs'')
  have hqr : q ≠ r := fun e => hn.1 (e ▸ hq)
  obtain ⟨k1, k2, k3⟩ := hr q (by simp [hq])
  exact ⟨k1, himm q hqr k2, by rw [hw, World.putObj_heap_other hqr]; exact k3⟩
def resOne (tmps : Array Value) : ResultVar → Sem Value
  | .tmp t => pure (tmps.getD t undef)
  | .cell a t => do loadVar t (← asAddr (tmps.getD a undef))
theorem load_as {P : Program} {t : TypeId} {y z : Value} {w : World} (h : (Instr.loadAt t y).run P w = .ok z w) : (do loadVar t (← asAddr y)).run P w = .ok z w := by
  unfold Instr.loadAt at h
  cases y with
  | pointer a =>
    cases a with
    | some a => exact h
    | none => simp [Instr.sureAddr, Sem.run_bind] at h
  | _ => simp [Instr.sureAddr, Sem.run_bind] at h
theorem resL_sound (ok : TyOk C) {M : Mem} {s : St} {nt : Nat} {tmps : Array Value} (hs : SimH M base im0 nv s.H) (hT : RepT M nt s.T tmps) : ∀ (rs : List ResultVar) (l : List AV), resL C s rs = some l →
  ∃ ys, (rs.mapM (resOne tmps)).run C.P M.w = .ok ys M.w ∧ RepL M l ys
 | [], l, h => by simp only [resL, Option.some.injEq] at h; subst h; exact ⟨[], rfl, by simp⟩
 | .tmp t :: rs, l, h => by
  simp only [resL] at h
  split at h
  ·rename_i l' hl
   simp only [Option.some.injEq] at h; subst h
   obtain ⟨ys, h1, h2⟩ := resL_sound ok hs hT rs l' hl
   refine ⟨tmps.getD t undef :: ys, by simp [List.mapM_cons, resOne, h1], ?_⟩
   rw [RepL.cons_iff]
   refine ⟨_, _, rfl, ?_, h2⟩
   simp only [evA]
   split
   ·rename_i x hx; exact (hT.2 t x hx).2
   ·unfold Rep; trivial
  ·cases h
 | .cell a t :: rs, l, h => by
  simp only [resL] at h
  split at h
  ·rename_i x l' hx hl
   simp only [Option.some.injEq] at h; subst h
   obtain ⟨ys, h1, h2⟩ := resL_sound ok hs hT rs l' hl
   have hr : Rep M (evA C s.T (.tmp a)) (tmps.getD a undef) := by
    simp only [evA]
    split
    ·rename_i x hx; exact (hT.2 a x hx).2
    ·unfold Rep; trivial
   obtain ⟨z, hz, hzr⟩ := aload_sound ok hx hs hr
   refine ⟨z :: ys, ?_, by rw [RepL.cons_iff]; exact ⟨_, _, rfl, hzr, h2⟩⟩
   have hl : (resOne tmps (.cell a t)).run C.P M.w = .ok z M.w := load_as hz
   simp [List.mapM_cons, hl, h1]
  ·cases h
theorem resA_sound (ok : TyOk C) {M : Mem} {s : St} {nt : Nat} {fn : Func} {tmps : Array Value} {r : AV} (hs : SimH M base im0 nv s.H) (hT : RepT M nt s.T tmps) (h : resA C s fn.results.toList = some r) :
  ∃ v, (results fn tmps).run C.P M.w = .ok v M.w ∧ Rep M r v := by
 have hm : results fn tmps = (fn.results.mapM (resOne tmps)) >>= fun vs => pure (if h : vs.size = 1 then vs[0] else .tuple vs) := by
  unfold results
  refine congrArg (fun (m : Sem (Array Value)) => m >>= fun vs => (pure (if h : vs.size = 1 then vs[0] else Value.tuple vs) : Sem Value)) ?_
  refine congrArg (fun g => Array.mapM g fn.results) ?_
  funext r; cases r <;> rfl
 have hres : ∀ ys, (fn.results.toList.mapM (resOne tmps)).run C.P M.w = .ok ys M.w → (results fn tmps).run C.P M.w = .ok (if h : ys.toArray.size = 1 then ys.toArray[0] else .tuple ys.toArray) M.w := by
  intro ys hy
  rw [hm, Array.mapM_eq_mapM_toList]
  simp [hy]
 unfold resA at h
 cases hl : resL C s fn.results.toList with
 | none => simp [hl] at h
 | some l =>
  obtain ⟨ys, h1, h2⟩ := resL_sound ok hs hT _ _ hl
  refine ⟨_, hres ys h1, ?_⟩
  have hlen := h2.length
  rw [hl] at h
  split at h
  ·rename_i x hx
   simp only [Option.some.injEq] at hx h; subst hx; subst h
   rw [RepL.cons_iff] at h2
   obtain ⟨y, ys', rfl, h2, h3⟩ := h2
   rw [RepL.nil_iff] at h3; subst h3
   simpa using h2
  ·rename_i l' hne hl'
   simp only [Option.some.injEq] at hl' h; subst hl'; subst h
   have : ys.toArray.size ≠ 1 := by
    intro e
    match l, hlen with
    | [x], _ => exact hne x rfl
    | [], hlen => rw [List.size_toArray, hlen] at e; cases e
    | _ :: _ :: _, hlen => rw [List.size_toArray, hlen] at e; simp at e
   rw [dif_neg this]
   unfold Rep
   exact ⟨ys, rfl, h2⟩
  ·rename_i h'; cases h'
theorem initT_get : ∀ (as : List AV) (i : Nat) (T : Tr AV) (j : Nat) (x : AV), (initT i as T).get j = some x → (∃ k, as[k]? = some x ∧ j = i + k) ∨ T.get j = some x
 | [], _, _, _, _, h => .inr h
 | a :: as, i, T, j, x, h => by
  simp only [initT] at h
  rcases initT_get as (i + 1) _ j x h with ⟨k, hk, rfl⟩ | h
  ·exact .inl ⟨k + 1, by simpa using hk, by omega⟩
  ·rcases Tr.get_set h with ⟨rfl, rfl⟩ | ⟨_, h⟩
   ·exact .inl ⟨0, rfl, rfl⟩
   ·exact .inr h
theorem initT_rep {M : Mem} {as : List AV} {ys : List Value} (h : RepL M as ys) {nt : Nat} (hn : as.length ≤ nt) : RepT M nt (initT 0 as .leaf) (ys.toArray ++ Array.replicate (nt - ys.toArray.size) undef) := by
 have hl := h.length
 refine ⟨by rw [Array.size_append, Array.size_replicate, List.size_toArray]; omega, fun i x hi => ?_⟩
 rcases initT_get as 0 .leaf i x hi with ⟨k, hk, rfl⟩ | hx
 ·obtain ⟨y, hy, hr⟩ := h.get hk
  have hlt : k < ys.length := (List.getElem?_eq_some_iff.1 hy).1
  refine ⟨by omega, ?_⟩
  have : (ys.toArray ++ Array.replicate (nt - ys.toArray.size) undef).getD (0 + k) undef = y := by
   rw [Array.getD_eq_getD_getElem?, Nat.zero_add, Array.getElem?_append_left (by simpa using hlt)]
   simp [hy]
  rw [this]; exact hr
 ·rw [Tr.get_leaf] at hx; cases hx
end
end Go.Vm

namespace Go.Vm
open Go.RowKit (Below)
def FnOk (C : Cx) (drawOk : Array Oper → List DI → Bool) : Prop := ∀ f fi, C.fn f = some fi → ∃ fn, C.P.funcs[f]? = some fn ∧ fn.body = some fi.body ∧ fn.ntmps = fi.ntmps ∧ fn.results.toList = fi.results ∧
 fn.name ≠ "runtime.NumGoroutine" ∧ CodeOk C drawOk f fi.body
def Enters (P : Program) (f : FuncId) : Prop := ∀ args w, (callFunc f args).run P w = .ok (.enter f args) w
def SpecOk (C : Cx) : Prop := ∀ f as r, C.mode f = .spec → C.spec f as = some r → Enters C.P f ∧ Computes C f as r
theorem enters_of {P : Program} {f : FuncId} {fn : Func} (h1 : P.funcs[f]? = some fn) (h2 : fn.body.isSome) (h3 : fn.name ≠ "runtime.NumGoroutine") : Enters P f := fun args w => by
 unfold callFunc
 have hb : ¬ fn.body = none := fun e => by rw [e] at h2; cases h2
 simp [h1, h3, hb]
section
variable {C : Cx} {drawOk : Array Oper → List DI → Bool} {cl : CallF} {clK : CallK}
theorem GlobOk.bare {M : Mem} (h : GlobOk C M) : GlobOk C M.bare := h
theorem body_sound (ok : TyOk C) (hfn : FnOk C drawOk) (hcl : CallOk C (CodeOk C drawOk) cl) (hdraw : DrawOk C (CodeOk C drawOk) drawOk clK) {f : FuncId} {fb nv nf : Nat} {as : List AV} {H : Tr Ent} {r : AV} {s1 : St}
  (h : body C cl clK f fb as H nv nf = some (r, s1)) {M : Mem} {base : Nat} {im0 : Nat → Prop} {ys : List Value} (hcok : M.cok = CodeOk C drawOk) (hs : SimH M base im0 nv H) (hg : GlobOk C M) (hr : RepL M as ys) :
  Enters C.P f ∧ CallsIn (Fo none) 0 C.P f ys.toArray M.w (fun e w' => ∃ v, e = .returned v ∧ PostV M base im0 s1 r v w') := by
 unfold body at h
 split at h
 ·cases h
 ·rename_i fi hfi
  obtain ⟨fn, h1, h2, h3, h4, h5, h6⟩ := hfn f fi hfi
  refine ⟨enters_of h1 (by rw [h2]; rfl) h5, ?_⟩
  cases hn : Nat.ble as.length fi.ntmps with
  | false => simp [hn] at h
  | true =>
   simp only [hn, Bool.not_true, cond_false] at h
   have hnow : Now base im0 fi.ntmps M.w.heap.size M { T := initT 0 as .leaf, H := H, nv := nv, nf := nf + fi.ntmps } { tmps := ys.toArray ++ Array.replicate (fn.ntmps - ys.toArray.size) undef, defers := [] } M.w := by
    rw [h3]
    exact ⟨M, rfl, Mem.le_refl M, Below.refl _ _, initT_rep hr (Nat.le_of_ble_eq_true hn), hs, Marks.nil⟩
   have fin : ∀ ex s2, (evCode cl clK C f fb fi.ntmps false fi.body { T := initT 0 as .leaf, H := H, nv := nv, nf := nf + fi.ntmps } = some (ex, s2)) → (exOf ex = .normal ∨ exOf ex = .ret) → (resA C s2 fi.results).map (fun r => (r, s2)) = some (r, s1) →
     CallsIn (Fo none) 0 C.P f ys.toArray M.w (fun e w' => ∃ v, e = .returned v ∧ PostV M base im0 s1 r v w') := by
    intro ex s2 hev hex hres
    simp only [Option.map_eq_some_iff, Prod.mk.injEq] at hres
    obtain ⟨r', hres, rfl, rfl⟩ := hres
    refine callsIn_of_wp_marks h1 h2 trivial (wpIn_mono (evCode_sound ok hcl hdraw rfl hcok hg (Nat.le_refl _) (ro := none) (fun _ => rfl) fi.body _ _ _ hev h6 _ _ hnow) ?_)
    intro e a w ⟨he, M1, hw, hle, hb, hT, hs1, rs, hd, hnd, hrs⟩
    subst hw
    have hleave : LeavesInM (Fo none) 0 C.P fn a.tmps (fun e w' => ∃ v, e = .returned v ∧ PostV M base im0 s2 r' v w') a.defers .returning M1.w := by
     rw [hd]
     refine marks_off (by have := hs.size; omega) rs M1 hs1 hnd hrs fun M2 hoff hs2 => ?_
     have hT2 : RepT M2 fi.ntmps s2.T a.tmps := ⟨hT.1, fun i x hi => ⟨(hT.2 i x hi).1, (hT.2 i x hi).2.monoW hoff.lw⟩⟩
     obtain ⟨v, hv, hrv⟩ := resA_sound (fn := fn) ok hs2 hT2 (by rw [h4]; exact hres)
     refine ⟨v, hv, v, rfl, M2, rfl, ?_, hrv, hs2, hb.trans (hoff.below.mono hs.size)⟩
     exact ⟨fun q x hx => by rw [hoff.mu]; exact hle.mu q x hx, fun b hb' => hoff.imm b (hs.lt b hb') (hle.imm b hb'), fun b hb' => (hoff.below.block b (hs.lt b hb')).trans (hle.same b hb'), hoff.cok.trans hle.cok⟩
    rcases hex with hex | hex
    ·rw [he, hex]; exact hleave
    ·rw [he, hex]; exact hleave
   split at h
   ·rename_i s2 hev; exact fin _ _ hev (.inl rfl) h
   ·rename_i s2 hev; exact fin _ _ hev (.inr rfl) h
   ·cases h
theorem tree_sound (ok : TyOk C) (hfn : FnOk C drawOk) (hcl : CallOk C (CodeOk C drawOk) cl) (hdraw : DrawOk C (CodeOk C drawOk) drawOk clK) {f : FuncId} {as : List AV} {r : AV} (h : tree C cl clK f as = some r) :
  Enters C.P f ∧ Computes C f as r := by
 unfold tree at h
 split at h
 ·cases h
 ·rename_i r0 s1 hb
  simp only [Option.map_eq_some_iff] at h
  obtain ⟨⟨r', H'⟩, hf, rfl⟩ := h
  have key : ∀ (M : Mem) (ys : List Value), M.cok = CodeOk C drawOk → (∀ b, M.imm b → b < M.w.heap.size) → RepL M.bare as ys → GlobOk C M →
   Enters C.P f ∧ CallsIn (Fo none) 0 C.P f ys.toArray M.w (fun e w' => ∃ v, e = .returned v ∧ PostK M.bare r' v w') := by
   intro M ys hcok hlt hr hg
   have hs : SimH M.bare M.w.heap.size M.imm 0 .leaf := SimH.empty (M := M.bare) hlt (fun r x hx => by cases hx)
   obtain ⟨h1, h2⟩ := body_sound ok hfn hcl hdraw hb (M := M.bare) (base := M.w.heap.size) (im0 := M.imm) hcok hs hg.bare hr
   refine ⟨h1, h2.mono fun e w' ⟨v, he, M1, hw, hle, hrv, hs1, hbl⟩ => ⟨v, he, ?_⟩⟩
   obtain ⟨M2, hw2, hle2, _, hs2, hr2⟩ := frz_sound hf hs1
   refine ⟨M2.bare, hw2.trans hw, ?_, rfl, fun b hb => ?_, ?_, hr2 v hrv, hbl⟩
   ·exact ⟨fun _ _ x => (by cases x), fun b hb => hle2.imm b (hle.imm b hb), fun b hb => (hle2.same b (hle.imm b hb)).trans (hle.same b hb), hle2.cok.trans hle.cok⟩
   ·rcases hs2.new b hb with h | h
    ·exact .inl h
    ·exact .inr h
   ·intro b hb
    have := hs2.lt b hb
    rw [hw2, hw] at this; exact this
  have conv : ∀ (M : Mem) (c : FuncId → Code → Prop), M.lw { M with cok := c } := fun M c => ⟨fun _ _ x => x, fun b o hb ho _ => ⟨hb, ho⟩⟩
  have key2 : Computes C f as r' := by
   intro M ys hlt hr hg
   refine (key { M with cok := CodeOk C drawOk } ys rfl hlt (hr.monoW (Mem.lw_bare (conv M _))) (fun g cs hgl => ?_)).2.mono fun e w' ⟨v, he, M2, hw, hle, hmu, hi, hlt2, hrv, hb⟩ => ?_
   ·obtain ⟨hi, arr, ty, fr, h1, h2⟩ := hg g cs hgl
    exact ⟨hi, arr, ty, fr, h1, h2.monoW (Mem.lw_bare (conv M _))⟩
   ·refine ⟨v, he, { M2 with cok := M.cok }, hw, ⟨hle.mu, hle.imm, hle.same, rfl⟩, hmu, hi, hlt2, hrv.monoW (conv M2 _), hb⟩
  refine ⟨?_, key2⟩
  unfold body at hb
  split at hb
  ·cases hb
  ·rename_i fi hfi
   obtain ⟨fn, h1, h2, _, _, h5, _⟩ := hfn f fi hfi
   exact enters_of h1 (by rw [h2]; rfl) h5
theorem Rep.toMu {M : Mem} (h : ∀ q, M.mu q = none) {mu : Nat → Option (Nat × Nat)} {a : AV} {y : Value} (k : Rep M a y) : Rep { M with mu := mu } a y := by
 have hl : M.lw { M with mu := mu } := ⟨fun q x hx => (by rw [h q] at hx; cases hx), fun b o hb ho _ => ⟨hb, ho⟩⟩
 exact k.monoW hl
theorem flatCall_sound (ok : TyOk C) (hfn : FnOk C drawOk) (hcl : CallOk C (CodeOk C drawOk) cl) (hdraw : DrawOk C (CodeOk C drawOk) drawOk clK) (hsp : SpecOk C) {f : FuncId} {as : List AV} {r : AV} (h : flatCall C cl clK f as = some r) :
  Enters C.P f ∧ Computes C f as r := by
 unfold flatCall at h
 split at h
 ·rename_i hm; exact hsp f as r hm h
 ·exact tree_sound ok hfn hcl hdraw h
 ·cases h
theorem fn_enter {P : Program} {f : FuncId} (he : Enters P f) {M : Mem} {y : Value} {ys : List Value} {first cap : List AV} {args : List AV} (hy : Rep M (.fn (.func f) first cap) y) (hys : RepL M args ys) :
  ∃ zs, RepL M (first ++ args ++ cap) zs ∧ ∃ d, (Deferred.ofValue y ys.toArray).run P M.w = .ok d M.w ∧ (invoke d.target d.args).run P M.w = .ok (.enter f zs.toArray) M.w := by
 unfold Rep at hy
 obtain ⟨l, c, rfl, h1, h2⟩ := hy
 refine ⟨l ++ ys ++ c, (h1.append hys).append h2, { target := .fn (.func f) c.toArray, args := l.toArray ++ ys.toArray }, rfl, ?_⟩
 have := he (l.toArray ++ ys.toArray ++ c.toArray) M.w
 simpa [invoke] using this
theorem callK_sound (ok : TyOk C) (hfn : FnOk C drawOk) (hcl : CallOk C (CodeOk C drawOk) cl) (hdraw : DrawOk C (CodeOk C drawOk) drawOk clK) (hsp : SpecOk C) : CallKOk C (CodeOk C drawOk) (callK C cl clK) := by
 intro callee args H r h M base im0 nv y ys hcok hs hg hy hys
 unfold callK at h
 split at h
 ·rename_i f first cap
  cases hc : (first ++ args ++ cap).all closed with
  | true =>
   simp only [hc, cond_true] at h
   obtain ⟨he, hcomp⟩ := flatCall_sound ok hfn hcl hdraw hsp h
   obtain ⟨zs, hz, d, hd1, hd2⟩ := fn_enter he hy hys
   refine ⟨d, f, _, hd1, hd2, (hcomp M zs hs.lt (closedL_rep hc hz) hg).mono fun e w' ⟨v, hev, M', hw, hle, hmu, hi, hlt, hr, hb⟩ => ⟨v, hev, ?_⟩⟩
   refine ⟨{ M' with mu := M.mu }, hw, ⟨fun _ _ x => x, hle.imm, hle.same, hle.cok⟩, rfl, hi, hlt, Rep.toMu (fun q => by rw [hmu]; rfl) hr, hb⟩
  | false =>
   simp only [hc, cond_false] at h
   split at h
   ·cases h
   ·rename_i as H' hfz
    split at h
    ·cases h
    ·rename_i r' hfl
     cases hp : pureA r' with
     | false => simp [hp] at h
     | true =>
      simp only [hp, cond_true, Option.some.injEq] at h; subst h
      obtain ⟨he, hcomp⟩ := flatCall_sound ok hfn hcl hdraw hsp hfl
      obtain ⟨zs, hz, d, hd1, hd2⟩ := fn_enter he hy hys
      obtain ⟨M1, hw1, hle1, hmu1, hs1, hr1⟩ := frzL_sound hfz hs
      have hcall := hcomp M1 zs hs1.lt (hr1 zs hz) (hg.mono hle1)
      rw [hw1] at hcall
      refine ⟨d, f, _, hd1, hd2, hcall.mono fun e w' ⟨v, hev, M', hw, hle, hmu, hi, hlt, hr, hb⟩ => ⟨v, hev, ?_⟩⟩
      have hb' : Below M.w.heap.size M.w w' := by have := hb; rw [show M1.bare.w = M.w from hw1] at this; exact this
      refine ⟨{ M with w := w' }, rfl, (hs.other hb').1, rfl, fun b hb => .inl hb, fun b hb => Nat.lt_of_lt_of_le (hs.lt b hb) hb'.size, pureA_rep hp hr _, hb'⟩
 ·cases h
theorem setPs_sound {M : Mem} {nt : Nat} : ∀ (ps : List Tmp) (as : List AV) (T T' : Tr AV) (ys : List Value) (tmps : Array Value), setPs ps as T nt = some T' → RepT M nt T tmps → RepL M as ys →
  ys.length = ps.length ∧ RepT M nt T' ((ps.zip ys).foldl (fun tmps x => tmps.setIfInBounds x.1 x.2) tmps)
 | [], [], T, T', ys, tmps, h, hT, hy => by
  simp only [setPs, Option.some.injEq] at h; subst h
  rw [RepL.nil_iff] at hy; subst hy
  exact ⟨rfl, hT⟩
 | [], _ :: _, _, _, _, _, h, _, _ => by simp [setPs] at h
 | _ :: _, [], _, _, _, _, h, _, _ => by simp [setPs] at h
 | t :: ps, a :: as, T, T', ys, tmps, h, hT, hy => by
  rw [RepL.cons_iff] at hy
  obtain ⟨z, zs, rfl, h1, h2⟩ := hy
  simp only [setPs] at h
  cases hlt : Nat.blt t nt with
  | false => simp [hlt] at h
  | true =>
   simp only [hlt, cond_true] at h
   have := putA_sound (M := M) (nt := nt) (T := T) (T' := T.set t a) (a := { tmps := tmps, defers := [] }) (dst := some t) (r := a) (y := z) (by simp [putA, hlt]) hT h1
   obtain ⟨k1, k2⟩ := setPs_sound ps as _ T' zs _ h this h2
   exact ⟨by simp [k1], k2⟩
theorem yield_sound (ok : TyOk C) (hcl : CallOk C (CodeOk C drawOk) cl) (hdraw : DrawOk C (CodeOk C drawOk) drawOk clK) {k r : Nat} {args : List AV} {st st' : St} {x : AV}
  (h : callF C cl clK (.yld k r) args st = some (x, st')) {M : Mem} {base : Nat} {im0 : Nat → Prop} {y : Value} {ys : List Value} (hcok : M.cok = CodeOk C drawOk) (hs : SimH M base im0 st.nv st.H) (hg : GlobOk C M)
  (hy : Rep M (.yld k r) y) (hys : RepL M args ys) :
  ∃ d nx, (Deferred.ofValue y ys.toArray).run C.P M.w = .ok d M.w ∧ (invoke d.target d.args).run C.P M.w = .ok nx M.w ∧ UponOk C.P nx M.w (PostV M base im0 st' x) := by
 unfold callF at h
 simp only at h
 split at h
 ·rename_i ver fid fb nt T ps asg bd hlive
  split at h
  ·cases h
  ·rename_i T1 hps
   split at h
   ·rename_i s1 hasg
    split at h
    ·rename_i ver1 fid' fb' nt' T' ps' asg' bd' hlive1
     split at h
     ·cases h
     ·rename_i e s2 hbd
      split at h
      ·rename_i ver2 fid2 fb2 nt2 T2 ps2 asg2 bd2 hlive2
       unfold Rep at hy
       obtain ⟨b, ct, hmu, rfl⟩ := hy
       obtain ⟨hget, hver⟩ := live_some hlive
       obtain ⟨b0, ct0, hE⟩ := hs.ent _ _ hget
       have heq := hE.mu
       rw [hver, hmu] at heq
       simp only [Option.some.injEq, Prod.mk.injEq] at heq
       obtain ⟨rfl, rfl⟩ := heq
       obtain ⟨l, hheap, hc1, hc2, hp1, hp2, hp3, hp4, hp5⟩ := hE.blk
       obtain ⟨hlen, hT1⟩ := setPs_sound ps args T T1 ys l.tmps hps hp4 hys
       have hsz : ys.toArray.size = l.params.size := by rw [List.size_toArray, hlen, ← hp1]; simp
       have hyield := run_yield (P := C.P) (args := ys.toArray) hheap hsz
       have hfold : ((l.params.zip ys.toArray).foldl (fun tmps (t, a) => tmps.setIfInBounds t a) l.tmps) = ((ps.zip ys).foldl (fun tmps x => tmps.setIfInBounds x.1 x.2) l.tmps) := by
        rw [← Array.foldl_toList, Array.toList_zip, hp1]
       rw [hfold] at hyield
       refine ⟨{ target := .fn (.yield b) #[], args := #[] ++ ys.toArray }, _, rfl, by simpa [invoke] using hyield, ?_⟩
       refine roundIn_of_wpIn trivial ?_
       have hin : (Fo none).inRound b = Fo (some b) := rfl
       rw [hin, hp2, hp3]
       have hn0 : Now base im0 nt M.w.heap.size M { st with T := T1 } { tmps := (ps.zip ys).foldl (fun tmps x => tmps.setIfInBounds x.1 x.2) l.tmps, defers := [] } M.w :=
        ⟨M, rfl, Mem.le_refl M, Below.refl _ _, hT1, hs, Marks.nil⟩
       refine wpIn_mono (evCode_sound ok hcl hdraw rfl hcok hg (Nat.le_refl _) (ro := some b) (fun hx => by cases hx) asg _ _ _ hasg (by rw [hcok] at hc1; exact hc1) _ _ hn0) ?_
       intro e1 a1 w1 ⟨he1, M1, hw1, hle1, hb1, hT1', hs1, hm1⟩
       subst hw1
       rw [he1]
       obtain ⟨hget1, hver1⟩ := live_some hlive1
       obtain ⟨b1, ct1, hE1⟩ := hs1.ent _ _ hget1
       have heq := hE1.mu
       rw [hver1, hle1.mu _ _ hmu] at heq
       simp only [Option.some.injEq, Prod.mk.injEq] at heq
       obtain ⟨rfl, rfl⟩ := heq
       obtain ⟨l1, hheap1, hc11, hc12, hp11, hp12, hp13, hp14, hp15⟩ := hE1.blk
       have hbegin := run_beginRound (P := C.P) hheap1 hp15.1
       refine ⟨_, hbegin, ?_⟩
       obtain ⟨hle2, hs2, hb2⟩ := hs1.write hget1 hE1 rfl (w' := M1.w.putObj b (.loop { l1 with state := .busy })) (fun b' hb' => World.putObj_heap_other hb') rfl rfl rfl World.putObj_size
        (.loop fid' fb' nt' T' ps' asg' bd' (some none)) (fun hle => ⟨{ l1 with state := .busy }, World.putObj_heap_same hE1.lt, hc11, hc12, hp11, hp12, hp13, hp14.mono hle, rfl⟩)
       have hn1 : Now base im0 nt M.w.heap.size M { s1 with H := s1.H.set k { ver := r, fz := false, blk := .loop fid' fb' nt' T' ps' asg' bd' (some none) } } a1 (M1.w.putObj b (.loop { l1 with state := .busy })) :=
        ⟨_, rfl, Mem.le_trans hle1 hle2, hb1.trans hb2, hT1'.mono hle2, by have := hs2; rw [hver1] at this; exact this, hm1.mono hle2⟩
       refine wpIn_mono (evCode_sound ok hcl hdraw rfl hcok hg (Nat.le_refl _) (ro := some b) (fun hx => by cases hx) bd _ _ _ hbd (by rw [hcok] at hc2; exact hc2) _ _ hn1) ?_
       intro e2 a2 w2 ⟨he2, M2, hw2, hle2', hbb2, hT2, hs2', hm2⟩
       subst hw2
       rw [he2]
       obtain ⟨hget2, hver2⟩ := live_some hlive2
       obtain ⟨b2, ct2, hE2⟩ := hs2'.ent _ _ hget2
       have heq := hE2.mu
       rw [hver2, hle2'.mu _ _ hmu] at heq
       simp only [Option.some.injEq, Prod.mk.injEq] at heq
       obtain ⟨rfl, rfl⟩ := heq
       obtain ⟨l2, hheap2, hc21, hc22, hp21, hp22, hp23, hp24, hp25⟩ := hE2.blk
       have fin : ∀ (pend : Option (Option Code)) (jump : Option Code) (W : World), W = M2.w.putObj b (.loop { l2 with state := if jump.isNone then .ready else .done, pending := jump }) →
         (match pend with | none => (if jump.isNone then LoopState.ready else .done) = .ready ∧ jump = none | some none => (if jump.isNone then LoopState.ready else .done) = .busy | some (some c) => (if jump.isNone then LoopState.ready else .done) = .done ∧ jump = some c) →
         ∃ v w', Result.ok (.bool jump.isNone) W = (.ok v w' : Result Value) ∧ ∃ v_1, Ending.returned v = .returned v_1 ∧ PostV M base im0 { s2 with T := st.T, H := s2.H.set k { ver := r, fz := false, blk := .loop fid2 fb2 nt2 T2 ps2 asg2 bd2 pend } } (gB jump.isNone) v_1 w' := by
        intro pend jump W hW hp
        subst hW
        obtain ⟨hle3, hs3, hb3⟩ := hs2'.write hget2 hE2 rfl (w' := M2.w.putObj b (.loop { l2 with state := if jump.isNone then .ready else .done, pending := jump })) (fun b' hb' => World.putObj_heap_other hb') rfl rfl rfl World.putObj_size
         (.loop fid2 fb2 nt2 T2 ps2 asg2 bd2 pend) (fun hle => ⟨_, World.putObj_heap_same hE2.lt, hc21, hc22, hp21, hp22, hp23, hp24.mono hle, hp⟩)
        refine ⟨_, _, rfl, _, rfl, _, rfl, Mem.le_trans hle2' hle3, by unfold gB Rep; rfl, by have := hs3; rw [hver2] at this; exact this, hbb2.trans hb3⟩
       cases e with
       | nrm =>
        simp only [Option.some.injEq, Prod.mk.injEq] at h
        obtain ⟨rfl, rfl⟩ := h
        simp only [exOf, roundPost, run_endRound (P := C.P) none hheap2]
        exact fin none none _ rfl ⟨rfl, rfl⟩
       | exit i =>
        simp only [Option.some.injEq, Prod.mk.injEq] at h
        obtain ⟨rfl, rfl⟩ := h
        simp only [exOf, roundPost, run_endRound (P := C.P) (some (.exit i)) hheap2]
        exact fin (some (some (.exit i))) (some (.exit i)) _ rfl ⟨rfl, rfl⟩
       | ret =>
        simp only [Option.some.injEq, Prod.mk.injEq] at h
        obtain ⟨rfl, rfl⟩ := h
        simp only [exOf, roundPost, run_endRound (P := C.P) (some .ret) hheap2]
        exact fin (some (some .ret)) (some .ret) _ rfl ⟨rfl, rfl⟩
      ·cases h
    ·cases h
   ·cases h
 ·cases h
theorem callF_sound (ok : TyOk C) (hfn : FnOk C drawOk) (hcl : CallOk C (CodeOk C drawOk) cl) (hdraw : DrawOk C (CodeOk C drawOk) drawOk clK) (hsp : SpecOk C) : CallOk C (CodeOk C drawOk) (callF C cl clK) := by
 intro callee args st r st' h M base im0 y ys hcok hs hg hy hys
 cases callee with
 | yld k q =>
  obtain ⟨d, nx, h1, h2, h3⟩ := yield_sound ok hcl hdraw h hcok hs hg hy hys
  exact ⟨d, nx, h1, h2, h3, fun ⟨_, _, _, e⟩ => by cases e⟩
 | fn f first cap =>
  cases f with
  | func f =>
   simp only [callF] at h
   split at h
   ·split at h
    ·cases h
    ·rename_i r0 s1 hb
     simp only [Option.some.injEq, Prod.mk.injEq] at h
     obtain ⟨rfl, rfl⟩ := h
     have he : Enters C.P f := by
      unfold body at hb
      split at hb
      ·cases hb
      ·rename_i fi hfi
       obtain ⟨fn, h1, h2, _, _, h5, _⟩ := hfn f fi hfi
       exact enters_of h1 (by rw [h2]; rfl) h5
     obtain ⟨zs, hz, d, hd1, hd2⟩ := fn_enter he hy hys
     have hcall := (body_sound ok hfn hcl hdraw hb hcok hs hg hz).2
     exact ⟨d, _, hd1, hd2, hcall, fun _ => ⟨_, _, rfl⟩⟩
   ·split at h
    ·cases h
    ·rename_i as H' hfz
     split at h
     ·cases h
     ·rename_i r' hfl
      simp only [Option.some.injEq, Prod.mk.injEq] at h
      obtain ⟨rfl, rfl⟩ := h
      obtain ⟨he, hcomp⟩ := flatCall_sound ok hfn hcl hdraw hsp hfl
      obtain ⟨zs, hz, d, hd1, hd2⟩ := fn_enter he hy hys
      obtain ⟨M1, hw1, hle1, hmu1, hs1, hr1⟩ := frzL_sound hfz hs
      have hcall := hcomp M1 zs hs1.lt (hr1 zs hz) (hg.mono hle1)
      rw [hw1] at hcall
      refine ⟨d, _, hd1, hd2, hcall.mono fun e w' ⟨v, hev, M', hw, hle, hmu, hi, hlt, hr, hb⟩ => ⟨v, hev, ?_⟩, fun _ => ⟨_, _, rfl⟩⟩
      have hb' : Below M.w.heap.size M.w w' := by have := hb; rw [show M1.bare.w = M.w from hw1] at this; exact this
      cases hp : pureA r' with
      | true => exact ⟨{ M with w := w' }, rfl, (hs.other hb').1, pureA_rep hp hr _, (hs.other hb').2, hb'.mono hs.size⟩
      | false =>
       have hle2 : M1.le { M' with mu := M1.mu } := ⟨fun _ _ x => x, hle.imm, hle.same, hle.cok⟩
       refine ⟨{ M' with mu := M1.mu }, hw, Mem.le_trans hle1 hle2, Rep.toMu (fun q => by rw [hmu]; rfl) hr, ?_, hb'.mono hs.size⟩
       refine SimH.grow hs1 hle2 rfl hi (fun b hb => ?_) ?_
       ·have := hlt b hb; rw [← hw] at this; exact this
       ·have := hb; rw [← hw] at this; exact this
  | _ => simp [callF] at h
 | _ => simp [callF] at h
theorem run_sound (ok : TyOk C) (hfn : FnOk C drawOk) (hsp : SpecOk C) (hdraw : ∀ clK, CallKOk C (CodeOk C drawOk) clK → DrawOk C (CodeOk C drawOk) drawOk clK) :
  ∀ d, CallOk C (CodeOk C drawOk) (run C d) ∧ CallKOk C (CodeOk C drawOk) (runK C d)
 | 0 => ⟨fun _ _ _ _ _ h => by simp [run] at h, fun _ _ _ _ h => by simp [runK] at h⟩
 | d + 1 => by
  obtain ⟨h1, h2⟩ := run_sound ok hfn hsp hdraw d
  exact ⟨fun c a s r s' h => callF_sound ok hfn h1 (hdraw _ h2) hsp c a s r s' (by simpa [run] using h), fun c a s r h => callK_sound ok hfn h1 (hdraw _ h2) hsp c a s r (by simpa [runK] using h)⟩
theorem evTree_sound (ok : TyOk C) (hfn : FnOk C drawOk) (hsp : SpecOk C) (hdraw : ∀ clK, CallKOk C (CodeOk C drawOk) clK → DrawOk C (CodeOk C drawOk) drawOk clK) {d : Nat} {f : FuncId} {as : List AV} {r : AV}
  (h : evTree C d f as = some r) : Enters C.P f ∧ Computes C f as r := by
 obtain ⟨h1, h2⟩ := run_sound ok hfn hsp hdraw d
 exact tree_sound ok hfn h1 (hdraw _ h2) h
end
end Go.Vm
