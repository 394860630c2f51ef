/- A small evaluator over abstract values: addresses, slices, comparisons with nil are sound. -/
import Derived.Test.YtliikgffjphhjaaGreatDoorVmSnd2
namespace Go.Vm
open Go.RowKit (Below)

/-- A new block that is never written again. -/
theorem SimH.born {M : Mem} {base : Nat} {im0 : Nat → Prop} {nv : Nat} {H : Tr Ent} (h : SimH M base im0 nv H) (o : Obj) :
    ∃ M', M'.w = M.w.alloc o ∧ M.le M' ∧ M'.mu = M.mu ∧ M'.imm M.w.heap.size ∧ SimH M' base im0 nv H := by
  have hold : ∀ b, b < M.w.heap.size → (M.w.alloc o).heap[b]? = M.w.heap[b]? := fun b hb => Below.heap_alloc M.w o b hb
  have hle : M.le { M with imm := fun x => M.imm x ∨ x = M.w.heap.size, w := M.w.alloc o } := Mem.mk3 (fun _ _ x => x) (fun _ x => .inl x) (fun b x => hold b (h.lt b x))
  refine ⟨{ M with imm := fun x => M.imm x ∨ x = M.w.heap.size, w := M.w.alloc o }, rfl, hle, rfl, .inr rfl, ?_⟩
  exact {
    ent := fun k e he => by
      obtain ⟨b, ct, hE⟩ := h.ent k e he
      refine ⟨b, ct, hE.mu, hE.blk.mono hle (hold b hE.lt), hE.base, fun x => ⟨.inl (hE.fz x).1, (hE.fz x).2.mono (Mem.le_bare hle) (hold b hE.lt)⟩, fun x hi => ?_⟩
      rcases hi with hi | rfl
      · exact hE.own x hi
      · exact Nat.lt_irrefl _ hE.lt
    inj := h.inj
    fresh := h.fresh
    lt := fun b x => by
      show b < (M.w.alloc o).heap.size
      rcases x with x | rfl
      · have := h.lt b x; simp; omega
      · simp
    old := fun b x => .inl (h.old b x)
    lo := h.lo
    new := fun b x => by rcases x with x | rfl; exact h.new b x; exact .inr h.size
    size := by have := h.size; show base ≤ (M.w.alloc o).heap.size; simp; omega }

section
variable {M : Mem} {base : Nat} {im0 : Nat → Prop} {nv : Nat} {H : Tr Ent}

theorem aels_sound {sz : Nat} : ∀ {es es' : List AV} {ps : List (Nat × AV)} {qs : List (Nat × Value)} {ys : List Value} {cells : Array Value}, aels sz es ps = some es' → RepP M ps qs → RepL M es ys → Sized sz ys → cells.toList = flat ys →
    ∃ ys' cells', Instr.fill (fun i => some (i * sz, sz)) cells qs = some cells' ∧ RepL M es' ys' ∧ Sized sz ys' ∧ cells'.toList = flat ys' ∧ es'.length = es.length
  | es, es', [], _, ys, cells, h, hp, hr, hs, hc => by
    cases hp
    simp only [aels, Option.some.injEq] at h; subst h
    exact ⟨ys, cells, rfl, hr, hs, hc, rfl⟩
  | es, es', (i, x) :: ps, _, ys, cells, h, hp, hr, hs, hc => by
    cases hp with
    | cons hx hk =>
    rename_i y qs
    simp only [aels] at h
    cases hcx : cells? x with
    | none => simp [hcx] at h
    | some vs =>
    simp only [hcx] at h
    cases h1 : Nat.beq vs.length sz with
    | false => simp [h1] at h
    | true =>
    cases h2 : Nat.blt i es.length with
    | false => simp [h1, h2] at h
    | true =>
    simp only [h1, h2, Bool.and_self, cond_true] at h
    have h1 := Nat.eq_of_beq_eq_true h1
    have h2 : i < es.length := Nat.lt_of_lt_of_le (Nat.lt_succ_self i) (Nat.le_of_ble_eq_true h2)
    have hv := cells?_len hcx hx
    have hl := hv.length
    simp only [Array.length_toList] at hl
    have hyl := hr.length
    obtain ⟨ye, hye⟩ : ∃ ye, ys[i]? = some ye := ⟨_, List.getElem?_eq_getElem (by omega)⟩
    have hsz : ye.cells.size = sz := hs ye (by obtain ⟨hlt, hie⟩ := List.getElem?_eq_some_iff.1 hye; exact hie ▸ List.getElem_mem hlt)
    obtain ⟨q1, q2⟩ := splice_el hs (arr := flat ys) (by rw [← flat_length hs, List.take_length]) hye (off := 0) (m := y.cells.toList) (ye' := y) (by simp; omega) (by
      rw [List.take_zero, List.nil_append, List.drop_of_length_le (by simp; omega), List.append_nil])
    have hcl : cells.size = ys.length * sz := by rw [← Array.length_toList, hc, flat_length hs]
    have hle : i * sz + y.cells.size ≤ cells.size := by
      rw [hcl]
      have : (i + 1) * sz ≤ ys.length * sz := Nat.mul_le_mul_right _ (by omega)
      rw [Nat.succ_mul] at this; omega
    have hfold := foldl_set 0 (i * sz) y.cells.toList 0 cells (by rw [Array.length_toList]; omega)
    have hzip : y.cells.zipIdx.foldl (fun cs (c, j) => cs.setIfInBounds (i * sz + j) c) cells = (y.cells.toList.zipIdx 0).foldl (fun cs (c, j) => cs.setIfInBounds (i * sz + j) c) cells := by
      rw [← Array.foldl_toList, Array.toList_zipIdx]
    rw [← hzip] at hfold
    obtain ⟨ys', cells', ha, r1, r2, r3, r4⟩ := aels_sound (cells := y.cells.zipIdx.foldl (fun cs (c, j) => cs.setIfInBounds (i * sz + j) c) cells) h hk (hr.set i hx) q1 (by
      rw [hfold, hc]
      simp only [Nat.add_zero] at q2 ⊢
      rw [← q2]
      symm
      apply List.take_of_length_le
      simp only [List.length_append, List.length_take, List.length_drop, List.length_set, Array.length_toList, flat_length hs]
      omega)
    refine ⟨ys', cells', ?_, r1, r2, r3, by simpa using r4⟩
    simp only [Instr.fill]
    rw [if_neg (by simp; omega)]
    exact ha

theorem RepP.of_zip : ∀ (ns : List Nat) {xs : List AV} {ys : List Value}, RepL M xs ys → RepP M (ns.zip xs) (ns.zip ys)
  | [], _, _, _ => by simp; exact .nil
  | n :: ns, [], _, h => by rw [RepL.nil_iff] at h; subst h; simp; exact .nil
  | n :: ns, x :: xs, _, h => by
    rw [RepL.cons_iff] at h
    obtain ⟨y, ys, rfl, h1, h2⟩ := h
    exact .cons h1 (RepP.of_zip ns h2)

theorem zip_split {α β : Type} : ∀ (l : List (α × β)), (l.map (·.1)).zip (l.map (·.2)) = l
  | [] => rfl
  | (a, b) :: l => by simp [zip_split l]

theorem RepP.snd : ∀ {ps : List (Nat × AV)} {qs : List (Nat × Value)}, RepP M ps qs → RepL M (ps.map (·.2)) (qs.map (·.2)) ∧ ps.map (·.1) = qs.map (·.1)
  | _, _, .nil => by simp
  | _, _, .cons h k => by
    obtain ⟨k1, k2⟩ := RepP.snd k
    refine ⟨?_, by simp [k2]⟩
    rw [List.map_cons, RepL.cons_iff]; exact ⟨_, _, rfl, h, k1⟩

theorem elemTI_sound {C : Cx} (ok : TyOk C) {t : TypeId} {ti : TI} (h : elemTI C t = some ti) : ∃ e, (∀ w, (underlying t).run C.P w = .ok (.slice e) w) ∧ C.ty e = some ti := by
  unfold elemTI at h
  split at h
  · rename_i e _ _ _ _ ht
    exact ⟨e, fun w => ty_und ok ht w, h⟩
  · cases h

/-- Zero cells, 'len' elements of them. -/
theorem zeros_flat (z : Value) : ∀ (len : Nat), ((Array.range (len * z.cells.size)).map (fun i => z.cells[i % z.cells.size]!)).toList = flat (List.replicate len z)
  | 0 => by simp [flat]
  | n + 1 => by
    rw [List.replicate_succ', flat_append, ← zeros_flat z n]
    apply List.ext_getElem?
    intro i
    have hfl : flat [z] = z.cells.toList := by simp [flat]
    rw [hfl]
    simp only [Array.toList_map, Array.toList_range, List.getElem?_map]
    by_cases h1 : i < n * z.cells.size
    · have h2 : i < (n + 1) * z.cells.size := by rw [Nat.succ_mul]; omega
      rw [List.getElem?_append_left (by simpa using h1)]
      simp [h1, h2]
    · rw [List.getElem?_append_right (by simp; omega)]
      simp only [List.length_map, List.length_range]
      by_cases h2 : i < (n + 1) * z.cells.size
      · have hlt : i - n * z.cells.size < z.cells.size := by rw [Nat.succ_mul] at h2; omega
        have hmod : i % z.cells.size = i - n * z.cells.size := by
          have e : i = (i - n * z.cells.size) + n * z.cells.size := by omega
          conv => lhs; rw [e]
          rw [Nat.add_mul_mod_self_right, Nat.mod_eq_of_lt hlt]
        simp [h2, hmod, hlt]
      · have hge : ¬ i - n * z.cells.size < z.cells.size := by rw [Nat.succ_mul] at h2; omega
        simp [h2, hge]

theorem RepL.replicate {a : AV} {y : Value} (h : Rep M a y) : ∀ (n : Nat), RepL M (List.replicate n a) (List.replicate n y)
  | 0 => by simp
  | n + 1 => by rw [List.replicate_succ, List.replicate_succ, RepL.cons_iff]; exact ⟨y, _, rfl, h, RepL.replicate h n⟩

theorem abuildSlice_sound {C : Cx} (ok : TyOk C) {t : TypeId} {len : Nat} {ps : List (Nat × AV)} {qs : Array (Nat × Value)} {r : AV} {H' : Tr Ent} {ver nv' : Nat} (h : abuildSlice C H t len ps = some (r, H')) (hp : RepP M ps qs.toList)
    (hs : SimH M base im0 nv H) (hv : VerOk M nv ver nv') : ∃ y w', (Instr.buildSlice t len qs).run C.P M.w = .ok y w' ∧ Post M base im0 ver nv' r H' y w' := by
  unfold abuildSlice at h
  split at h
  · rename_i desc sz agg bytes z he
    obtain ⟨e, hu, hte⟩ := elemTI_sound ok he
    cases h1 : Nat.ble (len * sz) 16777216 with
    | false => simp [h1] at h
    | true =>
    cases h2 : Nat.beq z.cells.size sz with
    | false => simp [h1, h2] at h
    | true =>
    simp only [h1, h2, Bool.and_self, cond_true] at h
    cases hf : frzL H (ps.map (·.2)) with
    | none => simp [hf] at h
    | some p =>
    obtain ⟨xs, H1⟩ := p
    simp only [hf, Option.map_eq_some_iff, Prod.mk.injEq] at h
    obtain ⟨es, hes, rfl, rfl⟩ := h
    have h1 := Nat.le_of_ble_eq_true h1
    have h2 := Nat.eq_of_beq_eq_true h2
    obtain ⟨hp1, hp2⟩ := hp.snd
    obtain ⟨M1, hw1, hle1, hmu1, hs1, hr1⟩ := frzL_sound hf hs
    have hxs := hr1 _ hp1
    have hpz := RepP.of_zip (ps.map (·.1)) hxs
    rw [hp2, zip_split, ← hp2] at hpz
    subst h2
    obtain ⟨ys', cells', g1, g2, g3, g4, g5⟩ := aels_sound (M := M1.bare) (ys := List.replicate len z) (cells := (Array.range (len * z.cells.size)).map (fun i => z.cells[i % z.cells.size]!)) hes hpz
      (RepL.replicate (ofV_rep z) len) (fun y hy => by rw [List.eq_of_mem_replicate hy]) (zeros_flat z len)
    obtain ⟨M2, hw2, hle2, hmu2, hi2, hs2⟩ := hs1.born (.cells cells' e)
    have hb : M2.w.heap[M1.w.heap.size]? = some (.cells cells' e (0, 0)) := by rw [hw2]; show (M1.w.heap.push _)[M1.w.heap.size]? = _; simp
    have hlen : es.length = len := by simpa using g5
    refine ⟨.slice (some ⟨M1.w.heap.size, 0, none⟩) len len, M1.w.alloc (.cells cells' e), ?_, ⟨⟨M2, hw2, Mem.le_trans hle1 hle2, fun q _ => by rw [hmu2, hmu1], ?_, hs2.nv_le hv.le⟩, ?_⟩⟩
    · obtain ⟨_, _, i, hi, hsz, _, hz⟩ := ok e _ hte
      simp only [Instr.buildSlice, Sem.run_bind, hu, Result.andThen_ok, ty_size ok hte]
      rw [if_neg (by omega)]
      by_cases h0 : len * z.cells.size = 0
      · have hc : cells' = cells' := rfl
        simp only [h0, if_true, Sem.run_bind, Sem.run_pure, Result.andThen_ok]
        have hcells : (Array.map (fun x => (#[] : Array Value)[x % (#[] : Array Value).size]!) (Array.range 0)) = (Array.range (len * z.cells.size)).map (fun i => z.cells[i % z.cells.size]!) := by
          rw [h0]; simp
        rw [hcells, g1]
        simp only [newRow, Sem.run_bind, run_newObj, Result.andThen_ok, Sem.run_pure, hw1]
        rfl
      · simp only [h0, if_false, Sem.run_bind, ty_zero ok hte rfl, Sem.run_pure, Result.andThen_ok]
        rw [g1]
        simp only [newRow, Sem.run_bind, run_newObj, Result.andThen_ok, Sem.run_pure, hw1]
        rfl
    · unfold Rep
      refine ⟨some ⟨M1.w.heap.size, 0, none⟩, len, ys', by rw [hlen], by omega, g2.mono (Mem.le_bare hle2), g3, .inl ⟨M1.w.heap.size, 0, rfl, ?_⟩, fun _ => hlen.symm⟩
      rw [← g4]
      have := Mem.row_of_cells (M := M2) (o := 0) hb hi2
      simpa using this
    · rw [hw1]; exact (Below.refl _ _).alloc hs.size _
  · cases h
end
end Go.Vm
