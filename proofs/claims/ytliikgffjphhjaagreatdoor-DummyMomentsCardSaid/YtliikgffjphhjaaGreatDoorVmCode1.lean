/- A small evaluator over abstract values: what is said of code, of calls, of what a function leaves. -/
import Derived.Test.YtliikgffjphhjaaGreatDoorVmSnd9
import Derived.RangeFuncLeaves
import Derived.RangeFuncRecord
import Derived.OrdersIn
import Derived.LoopNIn
import Derived.Scope
import Derived.Laws.Sem
namespace Go.Vm
open Go.RowKit (Below)

/-- Nothing is asked of a machine; a round's frame or none. -/
def Fo (o : Option Nat) : Fence := { fn := fun _ => True, depth := none, alive := false, round := o }
theorem callsIn_fo (o o' : Option Nat) {n : Nat} {P : Program} {f : FuncId} {args : Array Value} {w : World} {R : Ending → World → Prop} : CallsIn (Fo o) n P f args w R = CallsIn (Fo o') n P f args w R := rfl
theorem roundIn_fo (o o' : Option Nat) {n : Nat} {P : Program} {l : Nat} {f : FuncId} {tmps : Array Value} {a b : Code} {w : World} {R : Ending → World → Prop} :
    RoundIn (Fo o) n P l f tmps a b w R = RoundIn (Fo o') n P l f tmps a b w R := rfl
theorem callsIn_one {o : Option Nat} {P : Program} {f : FuncId} {args : Array Value} {w : World} {R : Ending → World → Prop} : CallsIn (Fo o) 0 P f args w R ↔ Calls P f args w R := by
  rw [callsIn_fo o none]; exact callsIn_wide

def GlobOk (C : Cx) (M : Mem) : Prop := ∀ g cs, C.glob g = some cs → M.imm g ∧ ∃ arr ty fr, M.w.heap[g]? = some (.cells arr ty fr) ∧ RepL M.bare cs arr.toList
theorem GlobOk.mono {C : Cx} {M M' : Mem} (h : M.le M') (k : GlobOk C M) : GlobOk C M' := fun g cs hg => by
  obtain ⟨hi, arr, ty, fr, h1, h2⟩ := k g cs hg
  exact ⟨h.imm g hi, arr, ty, fr, (h.same g hi).trans h1, h2.mono (Mem.le_bare h)⟩

theorem evOk {C : Cx} {M : Mem} {nt : Nat} {T : Tr AV} {a : Act} (hT : RepT M nt T a.tmps) (hg : GlobOk C M) : EvOk M (evA C T) a.eval := by
  intro x
  cases x with
  | tmp t =>
    simp only [evA, Act.eval]
    cases h : T.get t with
    | none => unfold Rep; trivial
    | some y => exact (hT.2 t y h).2
  | const v => exact ofV_rep v
  | global g =>
    simp only [evA, Act.eval]
    cases h : C.glob g with
    | none => simp only; unfold Rep; trivial
    | some cs =>
      obtain ⟨hi, arr, ty, fr, h1, h2⟩ := hg g cs h
      simp only; unfold Rep
      exact ⟨g, 0, arr.toList, rfl, h2, by have := Mem.row_of_cells (o := 0) h1 hi; simpa using this⟩
  | func f => simp only [evA, Act.eval]; unfold Rep; exact ⟨[], [], rfl, by simp, by simp⟩

theorem putA_sound {M : Mem} {nt : Nat} {T T' : Tr AV} {a : Act} {dst : Option Tmp} {r : AV} {y : Value} (h : putA nt T dst r = some T') (hT : RepT M nt T a.tmps) (hr : Rep M r y) :
    RepT M nt T' (a.put dst y).tmps := by
  cases dst with
  | none => simp only [putA, Option.some.injEq] at h; subst h; exact hT
  | some d =>
    simp only [putA] at h
    cases hd : Nat.blt d nt with
    | false => simp [hd] at h
    | true =>
      simp only [hd, cond_true, Option.some.injEq] at h; subst h
      have hlt : d < nt := Nat.le_of_ble_eq_true hd
      refine ⟨by simp [Act.put, hT.1], fun i x hi => ?_⟩
      rcases Tr.get_set hi with ⟨rfl, rfl⟩ | ⟨hne, hi⟩
      · refine ⟨hlt, ?_⟩
        have : (a.put (some i) y).tmps.getD i undef = y := by
          simp only [Act.put, Array.getD_eq_getD_getElem?, Array.getElem?_setIfInBounds_self]
          have : i < a.tmps.size := by rw [hT.1]; exact hlt
          simp [this]
        rw [this]; exact hr
      · refine ⟨(hT.2 i x hi).1, ?_⟩
        have : (a.put (some d) y).tmps.getD i undef = a.tmps.getD i undef := by
          simp only [Act.put, Array.getD_eq_getD_getElem?]
          rw [Array.getElem?_setIfInBounds_ne (Ne.symm hne)]
        rw [this]; exact (hT.2 i x hi).2

theorem put_defers (a : Act) (d : Option Tmp) (v : Value) : (a.put d v).defers = a.defers := by cases d <;> rfl

theorem wantA_sound {M : Mem} {nt : Nat} {T : Tr AV} {a : Act} {ops : Array Oper} {o : Oper} {b : Bool} (h : wantA ops T o = some b) (hT : RepT M nt T a.tmps) : Region.wanted o (yielded ops a.tmps) = b := by
  unfold wantA at h
  unfold Region.wanted
  cases hg : o.guard with
  | none => simp only [hg, Option.some.injEq] at h; simp [← h]
  | some gw =>
    obtain ⟨j, want⟩ := gw
    simp only [hg] at h ⊢
    unfold yielded
    cases hd : (ops[j]?).bind (·.dst) with
    | none => simp only [hd, Option.some.injEq] at h; subst h; simp
    | some d =>
      simp only [hd, Option.bind_some] at h ⊢
      split at h
      · rename_i c hc
        simp only [Option.some.injEq] at h; subst h
        obtain ⟨h1, h2⟩ := hT.2 d _ hc
        unfold Rep at h2
        have hs : d < a.tmps.size := by rw [hT.1]; exact h1
        have : a.tmps[d]? = some (.bool c) := by
          rw [Array.getD_eq_getD_getElem?] at h2
          cases hx : a.tmps[d]? with
          | none => rw [Array.getElem?_eq_none_iff] at hx; exact absurd hs (Nat.not_lt.2 hx)
          | some z => rw [hx] at h2; simp at h2; rw [h2]
        rw [this]; cases c <;> cases want <;> rfl
      · rename_i x hnb hc
        simp only [Option.some.injEq] at h; subst h
        obtain ⟨h1, h2⟩ := hT.2 d _ hc
        unfold Rep at h2
        have : a.tmps[d]? = some x := by
          have hs : d < a.tmps.size := by rw [hT.1]; exact h1
          rw [Array.getD_eq_getD_getElem?] at h2
          cases hx : a.tmps[d]? with
          | none => rw [Array.getElem?_eq_none_iff] at hx; exact absurd hs (Nat.not_lt.2 hx)
          | some z => rw [hx] at h2; simp at h2; rw [h2]
        rw [this]
        cases x with
        | bool c => exact absurd rfl (hnb c)
        | _ => rfl
      · cases h

/-- The marks that ranges over functions have left among the deferred calls. -/
def Marks (M : Mem) (lo : Nat) (ds : List Deferred) : Prop :=
  ∃ rs : List Nat, ds = rs.map (fun r => { target := .collected r, args := #[] }) ∧ rs.Nodup ∧ ∀ r ∈ rs, lo ≤ r ∧ M.imm r ∧ M.w.heap[r]? = some (.deferred (some []))
theorem Marks.mono {M M' : Mem} (h : M.le M') {lo : Nat} {ds : List Deferred} (k : Marks M lo ds) : Marks M' lo ds := by
  obtain ⟨rs, e, h1, h2⟩ := k
  exact ⟨rs, e, h1, fun r hr => ⟨(h2 r hr).1, h.imm r (h2 r hr).2.1, (h.same r (h2 r hr).2.1).trans (h2 r hr).2.2⟩⟩
theorem Marks.nil {M : Mem} {lo : Nat} : Marks M lo [] := ⟨[], rfl, List.nodup_nil, by simp⟩

/-- How an activation stands to the evaluator's state. -/
def Now (base : Nat) (im0 : Nat → Prop) (nt lo : Nat) (M0 : Mem) (st : St) (a : Act) (w : World) : Prop :=
  ∃ M, M.w = w ∧ M0.le M ∧ Below base M0.w w ∧ RepT M nt st.T a.tmps ∧ SimH M base im0 st.nv st.H ∧ Marks M lo a.defers

/-- What a call leaves. -/
def PostV (M : Mem) (base : Nat) (im0 : Nat → Prop) (st' : St) (r : AV) (v : Value) (w' : World) : Prop :=
  ∃ M', M'.w = w' ∧ M.le M' ∧ Rep M' r v ∧ SimH M' base im0 st'.nv st'.H ∧ Below base M.w w'

def UponOk (P : Program) (nx : Next) (w : World) (R : Value → World → Prop) : Prop :=
  match nx with
  | .enter f args => CallsIn (Fo none) 0 P f args w (fun e w' => ∃ v, e = .returned v ∧ R v w')
  | .round l f tmps asg body => RoundIn (Fo none) 0 P l f tmps asg body w (fun e w' => ∃ v, e = .returned v ∧ R v w')
  | _ => False

def CodeOk (C : Cx) (drawOk : Array Oper → List DI → Bool) (fid : FuncId) : Code → Prop
  | .region id ops true => ∀ is, C.draw fid id = some is → drawOk ops is = true
  | .seq a b => CodeOk C drawOk fid a ∧ CodeOk C drawOk fid b
  | .cond _ a b => CodeOk C drawOk fid a ∧ CodeOk C drawOk fid b
  | .block _ c => CodeOk C drawOk fid c
  | .loop c => CodeOk C drawOk fid c
  | .scope c => CodeOk C drawOk fid c
  | .rangeFunc _ _ a b => CodeOk C drawOk fid a ∧ CodeOk C drawOk fid b
  | _ => True

/-- A call through the evaluator is sound. -/
def CallOk (C : Cx) (cok : FuncId → Code → Prop) (cl : CallF) : Prop := ∀ callee args st r st', cl callee args st = some (r, st') →
  ∀ (M : Mem) (base : Nat) (im0 : Nat → Prop) (y : Value) (ys : List Value), M.cok = cok → SimH M base im0 st.nv st.H → GlobOk C M → Rep M callee y → RepL M args ys →
    ∃ d nx, (Deferred.ofValue y ys.toArray).run C.P M.w = .ok d M.w ∧ (invoke d.target d.args).run C.P M.w = .ok nx M.w ∧
      UponOk C.P nx M.w (PostV M base im0 st' r) ∧ ((∃ f a b, callee = .fn f a b) → ∃ f args, nx = .enter f args)

/-- What a call leaves that turns nothing that was there. -/
def PostK (M : Mem) (r : AV) (v : Value) (w' : World) : Prop :=
  ∃ M', M'.w = w' ∧ M.le M' ∧ M'.mu = M.mu ∧ (∀ b, M'.imm b → M.imm b ∨ M.w.heap.size ≤ b) ∧ (∀ b, M'.imm b → b < w'.heap.size) ∧ Rep M' r v ∧ Below M.w.heap.size M.w w'

def CallKOk (C : Cx) (cok : FuncId → Code → Prop) (clK : CallK) : Prop := ∀ callee args H r, clK callee args H = some r →
  ∀ (M : Mem) (base : Nat) (im0 : Nat → Prop) (nv : Nat) (y : Value) (ys : List Value), M.cok = cok → SimH M base im0 nv H → GlobOk C M → Rep M callee y → RepL M args ys →
    ∃ d f as, (Deferred.ofValue y ys.toArray).run C.P M.w = .ok d M.w ∧ (invoke d.target d.args).run C.P M.w = .ok (.enter f as) M.w ∧
      CallsIn (Fo none) 0 C.P f as M.w (fun e w' => ∃ v, e = .returned v ∧ PostK M r v w')

/-- A function's contract from trees to a tree. -/
def Computes (C : Cx) (f : FuncId) (as : List AV) (r : AV) : Prop :=
  ∀ (M : Mem) (ys : List Value), (∀ b, M.imm b → b < M.w.heap.size) → RepL M.bare as ys → GlobOk C M →
    CallsIn (Fo none) 0 C.P f ys.toArray M.w (fun e w' => ∃ v, e = .returned v ∧ PostK M.bare r v w')

/-- The state has grown by what a call has left. -/
theorem SimH.grow {M M' : Mem} {base : Nat} {im0 : Nat → Prop} {nv : Nat} {H : Tr Ent} (h : SimH M base im0 nv H) (hle : M.le M') (hmu : M'.mu = M.mu)
    (hi : ∀ b, M'.imm b → M.imm b ∨ M.w.heap.size ≤ b) (hlt : ∀ b, M'.imm b → b < M'.w.heap.size) (hb : Below M.w.heap.size M.w M'.w) : SimH M' base im0 nv H := {
  ent := fun k e he => by
    obtain ⟨b, ct, hE⟩ := h.ent k e he
    have hsame := hb.block b hE.lt
    refine ⟨b, ct, hmu ▸ hE.mu, hE.blk.mono hle hsame, hE.base, fun x => ⟨hle.imm b (hE.fz x).1, (hE.fz x).2.mono (Mem.le_bare hle) hsame⟩, fun x hx => ?_⟩
    rcases hi b hx with hx | hx
    · exact hE.own x hx
    · exact Nat.lt_irrefl _ (Nat.lt_of_lt_of_le hE.lt hx)
  inj := fun k e k' e' b ct ct' h1 h2 hk m1 m2 => h.inj k e k' e' b ct ct' h1 h2 hk (hmu ▸ m1) (hmu ▸ m2)
  fresh := fun r x hr => h.fresh r x (hmu ▸ hr)
  lt := hlt
  old := fun b hb' => hle.imm b (h.old b hb')
  lo := h.lo
  new := fun b hb' => by
    rcases hi b hb' with hx | hx
    · exact h.new b hx
    · exact .inr (Nat.le_trans h.size hx)
  size := Nat.le_trans h.size hb.size }

theorem SimH.empty {M : Mem} (hlt : ∀ b, M.imm b → b < M.w.heap.size) {nv : Nat} (hmu : ∀ r x, M.mu r = some x → r < nv) : SimH M M.w.heap.size M.imm nv .leaf := {
  ent := fun k e he => by rw [Tr.get_leaf] at he; cases he
  inj := fun k e k' e' b ct ct' he => by rw [Tr.get_leaf] at he; cases he
  fresh := hmu
  lt := hlt
  old := fun _ x => x
  lo := hlt
  new := fun _ x => .inl x
  size := Nat.le_refl _ }

theorem cells_pure {cs : List AV} : ∀ {l : List Value}, cellsV cs = some l → ∀ {M : Mem} {ys : List Value}, RepL M cs ys → ∀ M' : Mem, RepL M' cs ys := by
  induction cs with
  | nil => intro l _ M ys h M'; simpa using h
  | cons c cs ih =>
    intro l h M ys hr M'
    cases c <;> simp only [cellsV] at h <;> try (cases h; done)
    rename_i x
    simp only [Option.map_eq_some_iff] at h
    obtain ⟨l', hl, _⟩ := h
    rw [RepL.cons_iff] at hr ⊢
    obtain ⟨z, zs, rfl, h1, h2⟩ := hr
    refine ⟨z, zs, rfl, ?_, ih hl h2 M'⟩
    unfold Rep at h1 ⊢; exact h1

theorem toV_pure {a : AV} {x : Value} (h : toV a = some x) {M : Mem} {y : Value} (hr : Rep M a y) (M' : Mem) : Rep M' a y := by
  cases a <;> simp only [toV] at h <;> try (cases h; done)
  · unfold Rep at hr ⊢; exact hr
  · rename_i cs
    simp only [Option.map_eq_some_iff] at h
    obtain ⟨l, hl, _⟩ := h
    unfold Rep at hr ⊢
    obtain ⟨l', e, hr⟩ := hr
    exact ⟨l', e, cells_pure hl hr M'⟩
  · rename_i f as bs
    cases as <;> cases bs <;> simp only at h <;> try (cases h; done)
    unfold Rep at hr ⊢
    obtain ⟨l, c, e, h1, h2⟩ := hr
    rw [RepL.nil_iff] at h1 h2
    exact ⟨l, c, e, by rw [RepL.nil_iff]; exact h1, by rw [RepL.nil_iff]; exact h2⟩

theorem toVL_pure {cs : List AV} : ∀ {l : List Value}, toVL cs = some l → ∀ {M : Mem} {ys : List Value}, RepL M cs ys → ∀ M' : Mem, RepL M' cs ys := by
  induction cs with
  | nil => intro l _ M ys h M'; simpa using h
  | cons c cs ih =>
    intro l h M ys hr M'
    simp only [toVL] at h
    split at h
    · rename_i x xs h1 h2
      rw [RepL.cons_iff] at hr ⊢
      obtain ⟨z, zs, rfl, k1, k2⟩ := hr
      exact ⟨z, zs, rfl, toV_pure h1 k1 M', ih h2 k2 M'⟩
    · cases h

theorem pureA_rep {a : AV} (h : pureA a = true) {M : Mem} {y : Value} (hr : Rep M a y) (M' : Mem) : Rep M' a y := by
  cases a <;> simp only [pureA] at h <;> try (cases h; done)
  · unfold Rep at hr ⊢; exact hr
  · obtain ⟨l, hl⟩ := Option.isSome_iff_exists.1 h
    unfold Rep at hr ⊢
    obtain ⟨l', e, hr⟩ := hr
    exact ⟨l', e, cells_pure hl hr M'⟩
  · obtain ⟨l, hl⟩ := Option.isSome_iff_exists.1 h
    unfold Rep at hr ⊢
    obtain ⟨l', e, hr⟩ := hr
    exact ⟨l', e, toVL_pure hl hr M'⟩

theorem closedA_rep : ∀ (n : Nat) {a : AV}, closedA n a = true → ∀ {M : Mem} {y : Value}, Rep M a y → Rep M.bare a y
  | 0, a, h, _, _, _ => by simp [closedA] at h
  | n + 1, a, h, M, y, hr => by
    have list : ∀ {cs : List AV}, cs.all (closedA n) = true → ∀ {l : List Value}, RepL M cs l → RepL M.bare cs l := by
      intro cs
      induction cs with
      | nil => intro _ l h; simpa using h
      | cons c cs ih =>
        intro h l hl
        simp only [List.all_cons, Bool.and_eq_true] at h
        rw [RepL.cons_iff] at hl ⊢
        obtain ⟨z, zs, rfl, h1, h2⟩ := hl
        exact ⟨z, zs, rfl, closedA_rep n h.1 h1, ih h.2 h2⟩
    cases a <;> simp only [closedA] at h <;> try (cases h; done)
    · unfold Rep at hr ⊢; exact hr
    · unfold Rep at hr ⊢; obtain ⟨l, e, hr⟩ := hr; exact ⟨l, e, list h hr⟩
    · unfold Rep at hr ⊢; obtain ⟨l, e, hr⟩ := hr; exact ⟨l, e, list h hr⟩
    · unfold Rep at hr ⊢; exact hr
    · unfold Rep at hr ⊢; exact hr
    · unfold Rep at hr ⊢; exact hr
    · unfold Rep at hr ⊢
      simp only [Bool.and_eq_true] at h
      obtain ⟨l, c, e, h1, h2⟩ := hr; exact ⟨l, c, e, list h.1 h1, list h.2 h2⟩
    · unfold Rep at hr ⊢; obtain ⟨z, e, hr⟩ := hr; exact ⟨z, e, closedA_rep n h hr⟩

theorem closedL_rep {cs : List AV} (h : cs.all closed = true) {M : Mem} {l : List Value} (hl : RepL M cs l) : RepL M.bare cs l := by
  induction cs generalizing l with
  | nil => simpa using hl
  | cons c cs ih =>
    simp only [List.all_cons, Bool.and_eq_true] at h
    rw [RepL.cons_iff] at hl ⊢
    obtain ⟨z, zs, rfl, h1, h2⟩ := hl
    exact ⟨z, zs, rfl, closedA_rep 20 h.1 h1, ih h.2 h2⟩

end Go.Vm
