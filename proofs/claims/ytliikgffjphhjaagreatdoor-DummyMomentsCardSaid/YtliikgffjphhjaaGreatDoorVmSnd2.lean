/- A small evaluator over abstract values: blocks that are made, structs, slices are sound. -/
import Derived.Test.YtliikgffjphhjaaGreatDoorVmSnd1
namespace Go.Vm
open Go.RowKit (Below)

section
variable {M : Mem}

theorem Rep.v_self {x : Value} : Rep M (.v x) x := by unfold Rep; rfl
theorem RepL.vs : ∀ (l : List Value), RepL M (l.map .v) l
  | [] => by simp
  | x :: xs => by rw [List.map_cons, RepL.cons_iff]; exact ⟨x, xs, rfl, Rep.v_self, RepL.vs xs⟩
theorem ofV_rep (x : Value) : Rep M (ofV x) x := by
  cases x <;> simp only [ofV] <;> try exact Rep.v_self
  rename_i cs
  unfold Rep; exact ⟨cs.toList, by simp, RepL.vs _⟩

theorem cellsV_rep : ∀ {cs : List AV} {l : List Value}, cellsV cs = some l → ∀ {m : List Value}, RepL M cs m → m = l
  | [], l, h, m, hm => by simp only [cellsV, Option.some.injEq] at h; subst h; simpa using hm
  | c :: cs, l, h, m, hm => by
    cases c <;> simp only [cellsV] at h <;> try (cases h; done)
    rename_i x
    simp only [Option.map_eq_some_iff] at h
    obtain ⟨l', h', rfl⟩ := h
    rw [RepL.cons_iff] at hm
    obtain ⟨y, ys, rfl, h1, h2⟩ := hm
    unfold Rep at h1; subst h1
    rw [cellsV_rep h' h2]
theorem toV_rep {a : AV} {x y : Value} (h : toV a = some x) (hr : Rep M a y) : y = x := by
  cases a <;> simp only [toV] at h <;> try (cases h; done)
  · simp only [Option.some.injEq] at h; subst h; unfold Rep at hr; exact hr
  · simp only [Option.map_eq_some_iff] at h
    obtain ⟨l, hl, rfl⟩ := h
    unfold Rep at hr
    obtain ⟨m, rfl, hm⟩ := hr
    rw [cellsV_rep hl hm]
  · rename_i f a b
    cases a <;> cases b <;> simp only at h <;> try (cases h; done)
    simp only [Option.some.injEq] at h; subst h
    unfold Rep at hr
    obtain ⟨l, c, rfl, h1, h2⟩ := hr
    rw [RepL.nil_iff] at h1 h2; subst h1; subst h2; rfl
theorem toVL_rep : ∀ {as : List AV} {l : List Value}, toVL as = some l → ∀ {m : List Value}, RepL M as m → m = l
  | [], l, h, m, hm => by simp only [toVL, Option.some.injEq] at h; subst h; simpa using hm
  | a :: as, l, h, m, hm => by
    simp only [toVL] at h
    cases h1 : toV a with
    | none => simp [h1] at h
    | some x =>
    cases h2 : toVL as with
    | none => simp [h1, h2] at h
    | some xs =>
    simp only [h1, h2, Option.some.injEq] at h; subst h
    rw [RepL.cons_iff] at hm
    obtain ⟨y, ys, rfl, k1, k2⟩ := hm
    rw [toV_rep h1 k1, toVL_rep h2 k2]

theorem pureOp_sound {C : Cx} {s : Sem Value} {r : AV} (h : pureOp C s = some r) (w : World) : ∃ y, s.run C.P w = .ok y w ∧ Rep M r y := by
  simp only [pureOp, Option.bind_eq_some_iff] at h
  obtain ⟨x, hx, h⟩ := h
  cases hs : Value.single x with
  | false => simp [hs] at h
  | true => simp only [hs, cond_true, Option.some.injEq] at h; subst h; exact ⟨x, pureRun_sound hx w, Rep.v_self⟩

theorem asN_rep {a : AV} {n : Nat} {y : Value} (h : asN a = some n) (hr : Rep M a y) : ∃ k, y = .int k n := by
  unfold asN at h
  split at h
  · simp only [Option.some.injEq] at h; subst h
    unfold Rep at hr; subst hr; exact ⟨_, rfl⟩
  · cases h
theorem asB_rep {a : AV} {b : Bool} {y : Value} (h : asB a = some b) (hr : Rep M a y) : y = .bool b := by
  cases a <;> simp only [asB] at h <;> try (cases h; done)
  rename_i x
  cases x <;> simp only at h <;> try (cases h; done)
  simp only [Option.some.injEq] at h; subst h
  unfold Rep at hr; exact hr

/-! ### Blocks that are made -/
section
variable {base : Nat} {im0 : Nat → Prop} {nv : Nat} {H : Tr Ent}

theorem post_alloc {ver key ct nv' : Nat} (hs : SimH M base im0 nv H) (hv : VerOk M nv ver nv') (o : Obj) (bl : Blk) (r : AV) (y : Value)
    (hbl : ∀ M' : Mem, M.le M' → M'.w.heap[M.w.heap.size]? = some o → BlkIs M' M.w.heap.size ct bl)
    (hr : ∀ M' : Mem, M.le M' → M'.mu ver = some (M.w.heap.size, ct) → Rep M' r y) :
    Post M base im0 ver nv' r (H.set key { ver := ver, fz := false, blk := bl }) y (M.w.alloc o) := by
  obtain ⟨M', hw, hle, hmo, hmu, hs'⟩ := hs.alloc hv o key ct bl hbl
  exact ⟨⟨M', hw, hle, hmo, hr M' hle hmu, hs'⟩, (Below.refl _ _).alloc hs.size o⟩

theorem box_post {ver key nv' : Nat} (hs : SimH M base im0 nv H) (hv : VerOk M nv ver nv') {cs : List AV} {arr : Array Value} {ty : TypeId} (hc : RepL M cs arr.toList) :
    Post M base im0 ver nv' (.ptr key ver 0) (H.set key { ver := ver, fz := false, blk := .box cs }) (.pointer (some ⟨M.w.heap.size, 0, none⟩)) (M.w.alloc (.cells arr ty)) :=
  post_alloc (ct := 0) hs hv _ _ _ _ (fun M' hle hb => ⟨arr, ty, hb, hc.mono hle⟩) (fun M' hle hmu => by unfold Rep; exact ⟨_, _, hmu, rfl⟩)

theorem alloc_sound {C : Cx} (ok : TyOk C) {t : TypeId} {ti : TI} {z : Value} {ver key nv' : Nat} (ht : C.ty t = some ti) (hz : ti.zero = some z) (hs : SimH M base im0 nv H) (hv : VerOk M nv ver nv') :
    ∃ y w', (Instr.alloc t true (.tuple #[])).run C.P M.w = .ok y w' ∧ Post M base im0 ver nv' (.ptr key ver 0) (H.set key { ver := ver, fz := false, blk := .box (z.cells.toList.map .v) }) y w' :=
  ⟨_, _, by simp only [Instr.alloc, Sem.run_bind, ty_zero ok ht hz, Result.andThen_ok, newVar, newRow, run_newObj, Sem.run_pure]; rfl, box_post hs hv (ty := t) (RepL.vs _)⟩

theorem abox_sound {C : Cx} {t : TypeId} {cs : List AV} {x : AV} {y : Value} {ver key nv' : Nat} (hc : cells? x = some cs) (hx : Rep M x y) (hs : SimH M base im0 nv H) (hv : VerOk M nv ver nv') :
    ∃ z w', (Instr.box t y).run C.P M.w = .ok z w' ∧ Post M base im0 ver nv' (.ptr key ver 0) (H.set key { ver := ver, fz := false, blk := .box cs }) z w' :=
  ⟨_, _, by simp only [Instr.box, Sem.run_bind, newVar, newRow, run_newObj, Result.andThen_ok, Sem.run_pure]; rfl, box_post hs hv (ty := t) (cells?_len hc hx)⟩
end

/-! ### Structs -/
inductive RepP (M : Mem) : List (Nat × AV) → List (Nat × Value) → Prop where
  | nil : RepP M [] []
  | cons {i : Nat} {x : AV} {y : Value} {ps : List (Nat × AV)} {qs : List (Nat × Value)} (h : Rep M x y) (k : RepP M ps qs) : RepP M ((i, x) :: ps) ((i, y) :: qs)

theorem foldl_set (n off : Nat) : ∀ (vs : List Value) (j : Nat) (arr : Array Value), off + j + vs.length ≤ arr.size →
    ((vs.zipIdx j).foldl (fun cs (c, j) => cs.setIfInBounds (off + j) c) arr).toList = arr.toList.take (off + j) ++ vs ++ arr.toList.drop (off + j + vs.length)
  | [], j, arr, _ => by simp
  | v :: vs, j, arr, h => by
    simp only [List.zipIdx_cons, List.foldl_cons]
    have hlen : off + j < arr.size := by simp at h; omega
    rw [foldl_set n off vs (j + 1) _ (by simp at h ⊢; omega)]
    have e := list_seg_step arr.toList (off + j) v vs (by simp at h ⊢; omega)
    simpa [Array.toList_setIfInBounds, Nat.add_assoc] using e

theorem afill_sound {pl : Nat → Option (Nat × Nat)} : ∀ {ps : List (Nat × AV)} {qs : List (Nat × Value)} {cs cs' : List AV} {arr : Array Value}, RepP M ps qs → afill pl cs ps = some cs' → RepL M cs arr.toList →
    ∃ arr', Instr.fill pl arr qs = some arr' ∧ RepL M cs' arr'.toList
  | [], _, cs, cs', arr, hp, h, hc => by
    cases hp
    simp only [afill, Option.some.injEq] at h; subst h
    exact ⟨arr, rfl, hc⟩
  | (i, x) :: ps, _, cs, cs', arr, hp, h, hc => by
    cases hp with
    | cons hx hk =>
    rename_i y qs
    simp only [afill] at h
    cases hpl : pl i with
    | none => simp [hpl] at h
    | some p =>
    obtain ⟨off, size⟩ := p
    cases hcx : cells? x with
    | none => simp [hpl, hcx] at h
    | some vs =>
    simp only [hpl, hcx] at h
    cases h1 : Nat.beq vs.length size with
    | false => simp [h1] at h
    | true =>
    cases h2 : Nat.ble (off + vs.length) cs.length with
    | false => simp [h1, h2] at h
    | true =>
    simp only [h1, h2, Bool.and_self, cond_true] at h
    have h1 := Nat.eq_of_beq_eq_true h1
    have h2 := Nat.le_of_ble_eq_true h2
    have hv := cells?_len hcx hx
    have hl := hv.length
    have hal : arr.size = cs.length := by rw [← Array.length_toList, hc.length]
    simp only [Array.length_toList] at hl
    have hfold := foldl_set 0 off y.cells.toList 0 arr (by rw [Array.length_toList, hl, hal]; omega)
    have hzip : y.cells.zipIdx.foldl (fun cs (c, j) => cs.setIfInBounds (off + j) c) arr = (y.cells.toList.zipIdx 0).foldl (fun cs (c, j) => cs.setIfInBounds (off + j) c) arr := by
      rw [← Array.foldl_toList, Array.toList_zipIdx]
    rw [← hzip] at hfold
    obtain ⟨arr', ha, hr⟩ := afill_sound (pl := pl) (arr := y.cells.zipIdx.foldl (fun cs (c, j) => cs.setIfInBounds (off + j) c) arr) hk h (by
      rw [hfold]
      simpa using RepL.splice off hc hv)
    refine ⟨arr', ?_, hr⟩
    simp only [Instr.fill, hpl]
    rw [if_neg (by simp; omega)]
    exact ha

theorem mapM_run {α β : Type} {P : Program} (w : World) (f : α → Sem β) (g : α → β) : ∀ (l : List α), (∀ x ∈ l, (f x).run P w = .ok (g x) w) → (l.mapM f).run P w = .ok (l.map g) w
  | [], _ => rfl
  | x :: xs, h => by
    simp only [List.mapM_cons, Sem.run_bind, h x (by simp), Result.andThen_ok, mapM_run w f g xs (fun y hy => h y (by simp [hy])), Sem.run_pure, List.map_cons]

theorem fieldPl_run {C : Cx} (ok : TyOk C) (w : World) : ∀ (fs : List Field) (pl : List (Nat × Nat)), fieldPl C fs = some pl →
    (fs.mapM fun f => (do pure (f.offset, ← sizeOf f.type) : Sem (Nat × Nat))).run C.P w = .ok pl w
  | [], pl, h => by simp only [fieldPl, Option.some.injEq] at h; subst h; rfl
  | f :: fs, pl, h => by
    simp only [fieldPl] at h
    cases h1 : C.ty f.type with
    | none => simp [h1] at h
    | some ti =>
    cases h2 : fieldPl C fs with
    | none => simp [h1, h2] at h
    | some l =>
    simp only [h1, h2, Option.some.injEq] at h; subst h
    simp only [List.mapM_cons, Sem.run_bind, ty_size ok h1, Result.andThen_ok, Sem.run_pure, fieldPl_run ok w fs l h2]

theorem abuild_sound {C : Cx} (ok : TyOk C) {t : TypeId} {ps : List (Nat × AV)} {qs : Array (Nat × Value)} {r : AV} (h : abuild C t ps = some r) (hp : RepP M ps qs.toList) :
    ∃ y, (Instr.build t qs).run C.P M.w = .ok y M.w ∧ Rep M r y := by
  simp only [abuild] at h
  cases ht : C.ty t with
  | none => simp [ht] at h
  | some ti =>
  simp only [ht] at h
  have fin : ∀ {pl : Nat → Option (Nat × Nat)} {z : Array Value} {cs : List AV}, afill pl (z.toList.map .v) ps = some cs → ∃ cells, Instr.fill pl z qs.toList = some cells ∧ Rep M (.agg cs) (.agg cells) := by
    intro pl z cs hf
    obtain ⟨arr', ha, hr⟩ := afill_sound hp hf (RepL.vs (M := M) z.toList)
    exact ⟨arr', ha, by unfold Rep; exact ⟨arr'.toList, by simp, hr⟩⟩
  split at h
  · rename_i z fields hz hd
    cases hpl : fieldPl C fields.toList with
    | none => simp [hpl] at h
    | some pl =>
    simp only [hpl, Option.map_eq_some_iff] at h
    obtain ⟨cs, hf, rfl⟩ := h
    obtain ⟨cells, h1, h2⟩ := fin hf
    refine ⟨_, ?_, h2⟩
    have hm := fieldPl_run ok M.w fields.toList pl hpl
    have hu := ty_und ok ht M.w
    rw [hd] at hu
    have hm2 : (fields.mapM fun f => (do pure (f.offset, ← sizeOf f.type) : Sem (Nat × Nat))).run C.P M.w = .ok pl.toArray M.w := by
      rw [Array.mapM_eq_mapM_toList]
      simp only [Sem.run_map, hm, Result.andThen_ok]
    simp only [Instr.build, Sem.run_bind, ty_zero ok ht hz, Result.andThen_ok, hu, hm2]
    have hfun : (fun i : Nat => pl.toArray[i]?) = fun i => pl[i]? := by funext i; simp
    simp only [Value.cells, hfun, h1, Sem.run_pure]
  · rename_i z n elem hz hd
    cases hte : C.ty elem with
    | none => simp [hte] at h
    | some te =>
    simp only [hte, Option.map_eq_some_iff] at h
    obtain ⟨cs, hf, rfl⟩ := h
    obtain ⟨cells, h1, h2⟩ := fin hf
    refine ⟨_, ?_, h2⟩
    have hu := ty_und ok ht M.w
    rw [hd] at hu
    simp only [Instr.build, Sem.run_bind, ty_zero ok ht hz, Result.andThen_ok, hu, ty_size ok hte, Value.cells, h1, Sem.run_pure]
  · cases h

theorem partA_sound {C : Cx} (ok : TyOk C) {t : TypeId} {cs : List AV} {off : Nat} {r : AV} {l : List Value} (h : partA C t cs off = some r) (hc : RepL M cs l) :
    ∃ z, (part t l.toArray off).run C.P M.w = .ok z M.w ∧ Rep M r z := by
  simp only [partA] at h
  cases ht : C.ty t with
  | none => simp [ht] at h
  | some ti =>
    simp only [ht] at h
    simp only [part, Sem.run_bind, ty_agg ok ht, Result.andThen_ok]
    cases ha : ti.agg with
    | true =>
      simp only [ha, cond_true] at h
      cases hn : Nat.ble (off + ti.size) cs.length with
      | false => simp [hn] at h
      | true =>
        simp only [hn, cond_true, Option.some.injEq] at h; subst h
        refine ⟨.agg ((l.drop off).take ti.size).toArray, ?_, by unfold Rep; exact ⟨_, rfl, (hc.drop off).take _⟩⟩
        simp only [if_true, Sem.run_bind, ty_size ok ht, Result.andThen_ok, Sem.run_pure]
        congr 2
        apply Array.ext'
        simp [List.take_drop]
    | false =>
      simp only [ha, cond_false] at h
      obtain ⟨x, hx, hr⟩ := hc.get h
      refine ⟨x, ?_, hr⟩
      simp [hx]
end
end Go.Vm
