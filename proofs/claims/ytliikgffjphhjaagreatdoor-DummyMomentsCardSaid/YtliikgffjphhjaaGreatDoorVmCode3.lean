/- A small evaluator over abstract values: functions, rounds and calls are sound. -/
import Derived.Test.YtliikgffjphhjaaGreatDoorVmCode2
namespace Go.Vm
open Go.RowKit (Below)

theorem BlkIs.monoW {M M' : Mem} (h : M.lw M') (hc : M'.cok = M.cok) {b ct : Nat} {bl : Blk} (hb : M'.w.heap[b]? = M.w.heap[b]?) (k : BlkIs M b ct bl) : BlkIs M' b ct bl := by
  cases bl with
  | box cs => obtain ⟨a, t, e, r⟩ := k; exact ⟨a, t, hb.trans e, r.monoW h⟩
  | arr sz es ex => obtain ⟨a, t, ys, e, r, rest⟩ := k; exact ⟨a, t, ys, hb.trans e, r.monoW h, rest⟩
  | map ks vs => obtain ⟨a, t, e, r, s⟩ := k; exact ⟨a, t, hb.trans e, r.monoW h, s.monoW h⟩
  | siter s pos => exact hb.trans k
  | loop fid fb nt T ps asg bd pend =>
    obtain ⟨l, e, c1, c2, a2, a3, a4, a5, a6⟩ := k
    exact ⟨l, hb.trans e, hc.symm ▸ c1, hc.symm ▸ c2, a2, a3, a4, ⟨a5.1, fun i x hi => ⟨(a5.2 i x hi).1, (a5.2 i x hi).2.monoW h⟩⟩, a6⟩

theorem BlkIs.notDef {M : Mem} {b ct : Nat} {bl : Blk} (k : BlkIs M b ct bl) {d : Option (List Deferred)} : M.w.heap[b]? ≠ some (.deferred d) := by
  intro hd
  cases bl with
  | box cs => obtain ⟨a, t, e, _⟩ := k; rw [hd] at e; cases e
  | arr sz es ex => obtain ⟨a, t, ys, e, _⟩ := k; rw [hd] at e; cases e
  | map ks vs => obtain ⟨a, t, e, _⟩ := k; rw [hd] at e; cases e
  | siter s pos => have e : M.w.heap[b]? = _ := k; rw [hd] at e; cases e
  | loop fid fb nt T ps asg bd pend => obtain ⟨l, e, _⟩ := k; rw [hd] at e; cases e

/-- Marks have been taken off. -/
structure Off (lo : Nat) (M M' : Mem) : Prop where
  lw : M.lw M'
  mu : M'.mu = M.mu
  cok : M'.cok = M.cok
  imm : ∀ b, b < lo → M.imm b → M'.imm b
  below : Below lo M.w M'.w

theorem Off.refl (lo : Nat) (M : Mem) : Off lo M M := ⟨(Mem.le_refl M).w, rfl, rfl, fun _ _ h => h, Below.refl _ _⟩
theorem Mem.lw_trans {A B C : Mem} (h : A.lw B) (k : B.lw C) : A.lw C :=
  ⟨fun r x hx => k.mu r x (h.mu r x hx), fun b o hb ho hd => by obtain ⟨h1, h2⟩ := h.keep b o hb ho hd; exact k.keep b o h1 h2 hd⟩
theorem Off.trans {lo : Nat} {A B C : Mem} (h : Off lo A B) (k : Off lo B C) : Off lo A C :=
  ⟨Mem.lw_trans h.lw k.lw, k.mu.trans h.mu, k.cok.trans h.cok, fun b hb x => k.imm b hb (h.imm b hb x), h.below.trans k.below⟩

/-- One mark is taken off: its block is shut. -/
theorem mark_off {M : Mem} {base : Nat} {im0 : Nat → Prop} {nv lo r : Nat} {H : Tr Ent} (hs : SimH M base im0 nv H) (hbl : base ≤ lo) (hlo : lo ≤ r) (hi : M.imm r) (hr : M.w.heap[r]? = some (.deferred (some []))) :
    ∃ M', M'.w = M.w.putObj r (.deferred none) ∧ Off lo M M' ∧ (∀ b, b ≠ r → M.imm b → M'.imm b) ∧ SimH M' base im0 nv H := by
  have hlt := hs.lt r hi
  have hne : ∀ b, b ≠ r → (M.w.putObj r (.deferred none)).heap[b]? = M.w.heap[b]? := fun b hb => World.putObj_heap_other hb
  let M' : Mem := { M with imm := fun b => M.imm b ∧ b ≠ r, w := M.w.putObj r (.deferred none) }
  have hlw : M.lw M' := ⟨fun _ _ x => x, fun b o hb ho hd => by
    have hbr : b ≠ r := fun e => by subst e; rw [hr] at ho; simp only [Option.some.injEq] at ho; subst ho; simp [isData] at hd
    exact ⟨⟨hb, hbr⟩, (hne b hbr).trans ho⟩⟩
  refine ⟨M', rfl, ⟨hlw, rfl, rfl, fun b hb x => ⟨x, by omega⟩, ⟨rfl, rfl, rfl, Nat.le_of_eq World.putObj_size.symm, fun b hb => hne b (by omega)⟩⟩, fun b hb x => ⟨x, hb⟩, ?_⟩
  exact {
    ent := fun k e he => by
      obtain ⟨b, ct, hE⟩ := hs.ent k e he
      have hbr : b ≠ r := fun e' => by subst e'; exact hE.blk.notDef hr
      exact ⟨b, ct, hE.mu, hE.blk.monoW hlw rfl (hne b hbr), hE.base, fun x => ⟨⟨(hE.fz x).1, hbr⟩, (hE.fz x).2.monoW (Mem.lw_bare hlw) rfl (hne b hbr)⟩, fun x hx => hE.own x hx.1⟩
    inj := hs.inj
    fresh := hs.fresh
    lt := fun b x => by show b < (M.w.putObj r (.deferred none)).heap.size; rw [World.putObj_size]; exact hs.lt b x.1
    old := fun b x => ⟨hs.old b x, by have := hs.lo b x; omega⟩
    lo := hs.lo
    new := fun b x => hs.new b x.1
    size := by show base ≤ (M.w.putObj r (.deferred none)).heap.size; rw [World.putObj_size]; exact hs.size }

section
variable {C : Cx} {base : Nat} {im0 : Nat → Prop} {nv lo : Nat} {H : Tr Ent}

theorem marks_off {fn : Func} {tmps : Array Value} {R : Ending → World → Prop} (hbl : base ≤ lo) : ∀ (rs : List Nat) (M : Mem), SimH M base im0 nv H → rs.Nodup →
    (∀ r ∈ rs, lo ≤ r ∧ M.imm r ∧ M.w.heap[r]? = some (.deferred (some []))) →
    (∀ M', Off lo M M' → SimH M' base im0 nv H → ∃ v, (results fn tmps).run C.P M'.w = .ok v M'.w ∧ R (.returned v) M'.w) →
    LeavesInM (Fo none) 0 C.P fn tmps R (rs.map (fun r => { target := .collected r, args := #[] })) .returning M.w
  | [], M, hs, _, _, hk => by
    obtain ⟨v, h1, h2⟩ := hk M (Off.refl lo M) hs
    exact ⟨v, h1, h2⟩
  | r :: rs, M, hs, hn, hr, hk => by
    rw [List.nodup_cons] at hn
    obtain ⟨h1, h2, h3⟩ := hr r (by simp)
    obtain ⟨M', hw, hoff, himm, hs'⟩ := mark_off hs hbl h1 h2 h3
    refine ⟨by simp, .inl ⟨r, M.w.putObj r (.deferred none), rfl, run_takeDeferred h3, ?_⟩⟩
    rw [← hw]
    refine marks_off hbl rs M' hs' hn.2 (fun q hq => ?_) (fun M'' hoff' hs'' => hk M'' (hoff.trans hoff') hs'')
    have hqr : q ≠ r := fun e => hn.1 (e ▸ hq)
    obtain ⟨k1, k2, k3⟩ := hr q (by simp [hq])
    exact ⟨k1, himm q hqr k2, by rw [hw, World.putObj_heap_other hqr]; exact k3⟩

/-- The one value of a result variable. -/
def resOne (tmps : Array Value) : ResultVar → Sem Value
  | .tmp t => pure (tmps.getD t undef)
  | .cell a t => do loadVar t (← asAddr (tmps.getD a undef))

theorem load_as {P : Program} {t : TypeId} {y z : Value} {w : World} (h : (Instr.loadAt t y).run P w = .ok z w) : (do loadVar t (← asAddr y)).run P w = .ok z w := by
  unfold Instr.loadAt at h
  cases y with
  | pointer a =>
    cases a with
    | some a => exact h
    | none => simp [Instr.sureAddr, Sem.run_bind] at h
  | _ => simp [Instr.sureAddr, Sem.run_bind] at h

theorem resL_sound (ok : TyOk C) {M : Mem} {s : St} {nt : Nat} {tmps : Array Value} (hs : SimH M base im0 nv s.H) (hT : RepT M nt s.T tmps) : ∀ (rs : List ResultVar) (l : List AV), resL C s rs = some l →
    ∃ ys, (rs.mapM (resOne tmps)).run C.P M.w = .ok ys M.w ∧ RepL M l ys
  | [], l, h => by simp only [resL, Option.some.injEq] at h; subst h; exact ⟨[], rfl, by simp⟩
  | .tmp t :: rs, l, h => by
    simp only [resL] at h
    split at h
    · rename_i l' hl
      simp only [Option.some.injEq] at h; subst h
      obtain ⟨ys, h1, h2⟩ := resL_sound ok hs hT rs l' hl
      refine ⟨tmps.getD t undef :: ys, by simp [List.mapM_cons, resOne, h1], ?_⟩
      rw [RepL.cons_iff]
      refine ⟨_, _, rfl, ?_, h2⟩
      simp only [evA]
      split
      · rename_i x hx; exact (hT.2 t x hx).2
      · unfold Rep; trivial
    · cases h
  | .cell a t :: rs, l, h => by
    simp only [resL] at h
    split at h
    · rename_i x l' hx hl
      simp only [Option.some.injEq] at h; subst h
      obtain ⟨ys, h1, h2⟩ := resL_sound ok hs hT rs l' hl
      have hr : Rep M (evA C s.T (.tmp a)) (tmps.getD a undef) := by
        simp only [evA]
        split
        · rename_i x hx; exact (hT.2 a x hx).2
        · unfold Rep; trivial
      obtain ⟨z, hz, hzr⟩ := aload_sound ok hx hs hr
      refine ⟨z :: ys, ?_, by rw [RepL.cons_iff]; exact ⟨_, _, rfl, hzr, h2⟩⟩
      have hl : (resOne tmps (.cell a t)).run C.P M.w = .ok z M.w := load_as hz
      simp [List.mapM_cons, hl, h1]
    · cases h

theorem resA_sound (ok : TyOk C) {M : Mem} {s : St} {nt : Nat} {fn : Func} {tmps : Array Value} {r : AV} (hs : SimH M base im0 nv s.H) (hT : RepT M nt s.T tmps) (h : resA C s fn.results.toList = some r) :
    ∃ v, (results fn tmps).run C.P M.w = .ok v M.w ∧ Rep M r v := by
  have hm : results fn tmps = (fn.results.mapM (resOne tmps)) >>= fun vs => pure (if h : vs.size = 1 then vs[0] else .tuple vs) := by
    unfold results
    refine congrArg (fun (m : Sem (Array Value)) => m >>= fun vs => (pure (if h : vs.size = 1 then vs[0] else Value.tuple vs) : Sem Value)) ?_
    refine congrArg (fun g => Array.mapM g fn.results) ?_
    funext r; cases r <;> rfl
  have hres : ∀ ys, (fn.results.toList.mapM (resOne tmps)).run C.P M.w = .ok ys M.w → (results fn tmps).run C.P M.w = .ok (if h : ys.toArray.size = 1 then ys.toArray[0] else .tuple ys.toArray) M.w := by
    intro ys hy
    rw [hm, Array.mapM_eq_mapM_toList]
    simp [hy]
  unfold resA at h
  cases hl : resL C s fn.results.toList with
  | none => simp [hl] at h
  | some l =>
    obtain ⟨ys, h1, h2⟩ := resL_sound ok hs hT _ _ hl
    refine ⟨_, hres ys h1, ?_⟩
    have hlen := h2.length
    rw [hl] at h
    split at h
    · rename_i x hx
      simp only [Option.some.injEq] at hx h; subst hx; subst h
      rw [RepL.cons_iff] at h2
      obtain ⟨y, ys', rfl, h2, h3⟩ := h2
      rw [RepL.nil_iff] at h3; subst h3
      simpa using h2
    · rename_i l' hne hl'
      simp only [Option.some.injEq] at hl' h; subst hl'; subst h
      have : ys.toArray.size ≠ 1 := by
        intro e
        match l, hlen with
        | [x], _ => exact hne x rfl
        | [], hlen => rw [List.size_toArray, hlen] at e; cases e
        | _ :: _ :: _, hlen => rw [List.size_toArray, hlen] at e; simp at e
      rw [dif_neg this]
      unfold Rep
      exact ⟨ys, rfl, h2⟩
    · rename_i h'; cases h'

theorem initT_get : ∀ (as : List AV) (i : Nat) (T : Tr AV) (j : Nat) (x : AV), (initT i as T).get j = some x → (∃ k, as[k]? = some x ∧ j = i + k) ∨ T.get j = some x
  | [], _, _, _, _, h => .inr h
  | a :: as, i, T, j, x, h => by
    simp only [initT] at h
    rcases initT_get as (i + 1) _ j x h with ⟨k, hk, rfl⟩ | h
    · exact .inl ⟨k + 1, by simpa using hk, by omega⟩
    · rcases Tr.get_set h with ⟨rfl, rfl⟩ | ⟨_, h⟩
      · exact .inl ⟨0, rfl, rfl⟩
      · exact .inr h

theorem initT_rep {M : Mem} {as : List AV} {ys : List Value} (h : RepL M as ys) {nt : Nat} (hn : as.length ≤ nt) : RepT M nt (initT 0 as .leaf) (ys.toArray ++ Array.replicate (nt - ys.toArray.size) undef) := by
  have hl := h.length
  refine ⟨by rw [Array.size_append, Array.size_replicate, List.size_toArray]; omega, fun i x hi => ?_⟩
  rcases initT_get as 0 .leaf i x hi with ⟨k, hk, rfl⟩ | hx
  · obtain ⟨y, hy, hr⟩ := h.get hk
    have hlt : k < ys.length := (List.getElem?_eq_some_iff.1 hy).1
    refine ⟨by omega, ?_⟩
    have : (ys.toArray ++ Array.replicate (nt - ys.toArray.size) undef).getD (0 + k) undef = y := by
      rw [Array.getD_eq_getD_getElem?, Nat.zero_add, Array.getElem?_append_left (by simpa using hlt)]
      simp [hy]
    rw [this]; exact hr
  · rw [Tr.get_leaf] at hx; cases hx
end
end Go.Vm
