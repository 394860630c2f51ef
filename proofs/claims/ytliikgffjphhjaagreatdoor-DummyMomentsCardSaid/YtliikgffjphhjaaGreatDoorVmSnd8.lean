/- A small evaluator over abstract values: every operation that calls no function is sound. -/
import Derived.Test.YtliikgffjphhjaaGreatDoorVmSnd7
namespace Go.Vm
open Go.RowKit (Below)

section
variable {M : Mem} {base : Nat} {im0 : Nat → Prop} {nv : Nat} {H : Tr Ent}

/-- Elements of a row of one's own are written. -/
theorem lay_sound {C : Cx} {k sz lo len b ct o : Nat} {r ver nv' : Nat} {es xs : List AV} {ex : Bool} {zs : List Value} (hs : SimH M base im0 nv H) (hk : H.get k = some { ver := r, fz := false, blk := .arr sz es ex })
    (hE : EntIs M base { ver := r, fz := false, blk := .arr sz es ex } b ct) (hzs : RepL M xs zs) (ha : allSz sz xs = true) (hle : lo + xs.length ≤ es.length) (hv : VerOk M nv ver nv') :
    ∃ w', (storeCells ⟨b, lo * sz, none⟩ (flat zs)).run C.P M.w = .ok () w' ∧ M.le { M with w := w' } ∧ SimH { M with w := w' } base im0 nv' (H.set k { ver := r, fz := false, blk := .arr sz (splice es lo xs) ex }) ∧ Below base M.w w' := by
  obtain ⟨arr, ty, ys, hb, hrep, hsd, has, hlen, hex, htk⟩ := hE.blk
  have hyl := hrep.length
  have hzl := hzs.length
  have szz := allSz_sized ha hzs
  have hone := flat_one ha hzs
  have hfl := flat_length szz
  have hszl : (lo + zs.length) * sz ≤ arr.size := by rw [has]; exact Nat.mul_le_mul_right _ (by omega)
  have hrun := store_run (P := C.P) (o := lo * sz) hb (m := flat zs) (by rw [hfl, ← Nat.add_mul]; exact hszl) hone
  obtain ⟨q1, q2, q3, q4, q5, q6⟩ := setRow_write (arr' := (arr.toList.take (lo * sz) ++ flat zs ++ arr.toList.drop (lo * sz + (flat zs).length)).toArray) hb
  have hlay := lay_flat hsd szz (arr := arr.toList) (by rw [hyl]; exact htk) (j := lo) (by omega) (by simpa using hszl) es.length (by omega)
  have hsplen : (splice es lo xs).length = es.length := by
    simp only [splice, List.length_append, List.length_take, List.length_drop]; omega
  have hW := hs.write hk hE rfl q1 q2 q3 q4 q5 (.arr sz (splice es lo xs) ex) (fun hle => ⟨_, ty, _, q6, (RepL.splice lo (hrep.mono hle) (hzs.mono hle)), by
      rw [Sized.append, Sized.append]
      exact ⟨⟨hsd.sub fun x hx => List.mem_of_mem_take hx, szz⟩, hsd.sub fun x hx => List.mem_of_mem_drop hx⟩, by
      rw [← has]
      simp only [List.size_toArray, List.length_append, List.length_take, List.length_drop, Array.length_toList, hfl]
      rw [Nat.add_mul] at hszl
      omega, by rw [hsplen]; exact hlen, by rw [hsplen]; exact hex, by rw [hsplen]; simpa using hlay⟩)
  exact ⟨_, hrun, hW.1, hW.2.1.nv_le hv.le, hW.2.2⟩

theorem gI_rep (n : Nat) : Rep M (gI n) (goInt n) := Rep.v_self

theorem acopy_sound {C : Cx} (ok : TyOk C) {argTypes : List TypeId} {type : TypeId} {ver nv' : Nat} {d x r : AV} {H' : Tr Ent} {yd yx : Value} (h : acopy C H argTypes d x = some (r, H')) (hd : Rep M d yd) (hx : Rep M x yx)
    (hs : SimH M base im0 nv H) (hv : VerOk M nv ver nv') : ∃ y w', (Builtin.copy_ argTypes.toArray type #[yd, yx]).run C.P M.w = .ok y w' ∧ Post M base im0 ver nv' r H' y w' := by
  unfold acopy at h
  split at h
  · rename_i st rest
    split at h
    · rename_i desc sz agg by_ zero xs hel hxs
      obtain ⟨e, ti, hst, hds, hte⟩ := elemTI_some ok hel
      have hu : ∀ w, (underlying st).run C.P w = .ok (.slice e) w := fun w => by have := ty_und ok hst w; rwa [hds] at this
      cases c1 : allSz sz xs with
      | false => simp [c1] at h
      | true =>
      simp only [c1, Bool.not_true, cond_false] at h
      obtain ⟨zs, hzs, szz, hlen, hfc⟩ := elemsOf_sound (P := C.P) hxs c1 hx hs
      have run : ∀ {a : Option Addr} {len cap : Nat}, (Builtin.copy_ (st :: rest).toArray type #[.slice a len cap, yx]).run C.P M.w =
          (do (if let some a := a then storeCells a (flat (zs.take (Nat.min xs.length len))) else pure ()); pure (goInt (Nat.min xs.length len)) : Sem Value).run C.P M.w := by
        intro a len cap
        have hmin : Nat.min xs.length len ≤ xs.length := Nat.min_le_left _ _
        simp only [Builtin.copy_, List.getElem?_toArray, List.getElem?_cons_zero, List.getElem?_cons_succ, Sem.run_bind, hu, Result.andThen_ok, hlen, ty_size ok hte, hfc _ hmin M.w rfl]
        cases a <;> simp
      have nothing : ∀ {a : Option Addr} {cap : Nat}, yd = .slice a 0 cap → some (gI 0, H) = some (r, H') → ∃ y w', (Builtin.copy_ (st :: rest).toArray type #[yd, yx]).run C.P M.w = .ok y w' ∧ Post M base im0 ver nv' r H' y w' := by
        intro a cap hy he
        simp only [Option.some.injEq, Prod.mk.injEq] at he
        obtain ⟨rfl, rfl⟩ := he
        subst hy
        refine ⟨goInt 0, M.w, ?_, Post.same hs hv.le (gI_rep 0)⟩
        rw [run]
        have : Nat.min xs.length 0 = 0 := Nat.min_zero _
        rw [this]
        cases a <;> simp [flat, storeCells]
      split at h
      · unfold Rep at hd; exact nothing hd h
      · unfold Rep at hd; obtain ⟨ao, cap, l, hy, _⟩ := hd; exact nothing hy h
      · rename_i k rr sz' lo len
        split at h
        · rename_i ver' sz'' es ex hl
          cases d1 : Nat.beq sz sz' with
          | false => simp [d1] at h
          | true =>
          cases d2 : Nat.beq sz sz'' with
          | false => simp [d1, d2] at h
          | true =>
          cases d3 : Nat.ble (lo + len) es.length with
          | false => simp [d1, d2, d3] at h
          | true =>
          simp only [d1, d2, d3, Bool.and_self, cond_true, Option.some.injEq, Prod.mk.injEq] at h
          obtain ⟨rfl, rfl⟩ := h
          have e1 := Nat.eq_of_beq_eq_true d1; subst e1
          have e2 := Nat.eq_of_beq_eq_true d2; subst e2
          have d3 := Nat.le_of_ble_eq_true d3
          obtain ⟨hk, hvv⟩ := live_some hl
          simp only at hvv; subst hvv
          obtain ⟨b, ct, hE⟩ := hs.ent _ _ hk
          unfold Rep at hd
          obtain ⟨b', ct', o, hm, hct, rfl, ho⟩ := hd
          obtain ⟨rfl, rfl⟩ := mu_eq hE.mu hm
          have hmin : Nat.min xs.length len ≤ len := Nat.min_le_right _ _
          have hall : allSz sz (xs.take (Nat.min xs.length len)) = true := by
            unfold allSz at c1 ⊢
            rw [List.all_eq_true] at c1 ⊢
            exact fun a ha => c1 a (List.mem_of_mem_take ha)
          obtain ⟨w', q1, q2, q3, q4⟩ := lay_sound (C := C) (lo := lo) (o := 0) (len := 0) hs hk hE (hzs.take (Nat.min xs.length len)) hall (by simp only [List.length_take]; omega) hv
          by_cases hl0 : lo < ct
          · rw [ho hl0]
            refine ⟨_, w', ?_, ⟨⟨_, rfl, q2, fun _ _ => rfl, gI_rep _, q3⟩, q4⟩⟩
            rw [run]
            simp only [Sem.run_bind, q1, Result.andThen_ok, Sem.run_pure]
          · have hlen0 : len = 0 := by omega
            subst hlen0
            have hz : Nat.min xs.length 0 = 0 := Nat.min_zero _
            rw [hz] at q1 q3 ⊢
            simp only [List.take_zero, flat, List.flatMap_nil, storeCells, Sem.run_pure, Result.ok.injEq, true_and] at q1
            subst q1
            refine ⟨goInt 0, M.w, ?_, ⟨⟨_, rfl, q2, fun _ _ => rfl, gI_rep _, q3⟩, q4⟩⟩
            rw [run, hz]
            simp [flat, storeCells]
        · cases h
      · cases h
    · cases h
  · cases h

theorem aclear_sound {C : Cx} (ok : TyOk C) {argTypes : List TypeId} {type : TypeId} {ver nv' : Nat} {x : AV} {H' : Tr Ent} {yx : Value} (h : aclear C H argTypes x = some H') (hx : Rep M x yx)
    (hs : SimH M base im0 nv H) (hv : VerOk M nv ver nv') : ∃ w', (Builtin.clear_ argTypes.toArray type #[yx]).run C.P M.w = .ok (.tuple #[]) w' ∧ Post M base im0 ver nv' (.v (.tuple #[])) H' (.tuple #[]) w' := by
  unfold aclear at h
  split at h
  · rename_i t
    cases hti : C.ty t with
    | none => simp [hti] at h
    | some ti =>
    have hu := ty_und ok hti M.w
    simp only [hti] at h
    split at h
    · simp only [Option.some.injEq] at h; subst h
      unfold Rep at hx; subst hx
      refine ⟨M.w, ?_, Post.same hs hv.le Rep.v_self⟩
      simp only [Builtin.clear_, List.getElem?_toArray, List.getElem?_cons_zero, Sem.run_bind, hu, Result.andThen_ok, Sem.run_pure]
    · simp only [Option.some.injEq] at h; subst h
      unfold Rep at hx; subst hx
      refine ⟨M.w, ?_, Post.same hs hv.le Rep.v_self⟩
      simp only [Builtin.clear_, List.getElem?_toArray, List.getElem?_cons_zero, Sem.run_bind, hu, Result.andThen_ok, Sem.run_pure]
    · simp only [Option.some.injEq] at h; subst h
      unfold Rep at hx
      obtain ⟨ao, cap, l, rfl, _⟩ := hx
      refine ⟨M.w, ?_, Post.same hs hv.le Rep.v_self⟩
      cases ao <;> simp only [Builtin.clear_, List.getElem?_toArray, List.getElem?_cons_zero, Sem.run_bind, hu, Result.andThen_ok, Sem.run_pure, List.length_nil]
    · rename_i k rr
      split at h
      · rename_i ver' ks vs hl
        simp only [Option.some.injEq] at h; subst h
        obtain ⟨hk, hvv⟩ := live_some hl
        simp only at hvv; subst hvv
        obtain ⟨b, ct, hE⟩ := hs.ent _ _ hk
        obtain ⟨es, clock, hb, hks, hvs⟩ := hE.blk
        unfold Rep at hx
        obtain ⟨b', ct', hm, rfl⟩ := hx
        obtain ⟨rfl, rfl⟩ := mu_eq hE.mu hm
        have hg : (getObj b).run C.P M.w = .ok (.map es clock) M.w := by simp [getObj, Sem.run, hb]
        have hset : ∀ o', (setObj b o').run C.P M.w = .ok () { M.w with heap := M.w.heap.setIfInBounds b o' } := fun o' => by simp [setObj, Sem.run, hb]
        obtain ⟨s1, s2, s3⟩ := setObj_write (o' := .map #[] clock) hb
        have hW := hs.write hk hE rfl s1 rfl rfl rfl s2 (.map [] []) (fun hle => ⟨_, _, s3, by simp, by simp⟩)
        refine ⟨_, ?_, ⟨⟨_, rfl, hW.1, fun _ _ => rfl, Rep.v_self, hW.2.1.nv_le hv.le⟩, hW.2.2⟩⟩
        simp only [Builtin.clear_, List.getElem?_toArray, List.getElem?_cons_zero, Sem.run_bind, hu, Result.andThen_ok, Sem.run_pure, hg, hset]
      · cases h
    · rename_i k rr sz lo len
      split at h
      · rename_i desc sz1 agg by_ z ver' sz' es ex hel hl
        obtain ⟨e, ti', hst, hds, hte⟩ := elemTI_some ok hel
        have hu2 : (underlying t).run C.P M.w = .ok (.slice e) M.w := by have := ty_und ok hst M.w; rwa [hds] at this
        cases d1 : Nat.beq sz sz' with
        | false => simp [d1] at h
        | true =>
        cases d2 : Nat.beq sz sz1 with
        | false => simp [d1, d2] at h
        | true =>
        cases d3 : Nat.beq z.cells.size sz with
        | false => simp [d1, d2, d3] at h
        | true =>
        cases d4 : Nat.ble (lo + len) es.length with
        | false => simp [d1, d2, d3, d4] at h
        | true =>
        cases d5 : allSz sz (List.replicate len (ofV z)) with
        | false => simp [d1, d2, d3, d4, d5] at h
        | true =>
        simp only [d1, d2, d3, d4, d5, Bool.and_self, cond_true, Option.some.injEq] at h; subst h
        have e1 := Nat.eq_of_beq_eq_true d1; subst e1
        have e2 := Nat.eq_of_beq_eq_true d2; subst e2
        have e3 := Nat.eq_of_beq_eq_true d3
        have d4 := Nat.le_of_ble_eq_true d4
        obtain ⟨hk, hvv⟩ := live_some hl
        simp only at hvv; subst hvv
        obtain ⟨b, ct, hE⟩ := hs.ent _ _ hk
        unfold Rep at hx
        obtain ⟨b', ct', o, hm, hct, rfl, ho⟩ := hx
        obtain ⟨rfl, rfl⟩ := mu_eq hE.mu hm
        obtain ⟨w', q1, q2, q3, q4⟩ := lay_sound (C := C) (lo := lo) (o := 0) (len := 0) hs hk hE (RepL.replicate (ofV_rep z) len) d5 (by simp; omega) hv
        have hzc : (Builtin.zeroCells z.cells len).toList = flat (List.replicate len z) := by
          unfold Builtin.zeroCells; rw [zeros_flat]
        cases len with
        | zero =>
          simp only [List.replicate_zero, flat, List.flatMap_nil, storeCells, Sem.run_pure, Result.ok.injEq, true_and] at q1
          subst q1
          refine ⟨M.w, ?_, ⟨⟨_, rfl, q2, fun _ _ => rfl, Rep.v_self, q3⟩, q4⟩⟩
          simp only [Builtin.clear_, List.getElem?_toArray, List.getElem?_cons_zero, Sem.run_bind, hu2, Result.andThen_ok, Sem.run_pure]
        | succ len =>
          rw [ho (by omega)]
          refine ⟨w', ?_, ⟨⟨_, rfl, q2, fun _ _ => rfl, Rep.v_self, q3⟩, q4⟩⟩
          simp only [Builtin.clear_, List.getElem?_toArray, List.getElem?_cons_zero, Sem.run_bind, hu2, Result.andThen_ok, Sem.run_pure, ty_zero ok hte rfl, hzc, q1]
      · cases h
    · cases h
  · cases h

theorem amakeSlice_sound {C : Cx} (ok : TyOk C) {t : TypeId} {key ver nv' : Nat} {l c r : AV} {H' : Tr Ent} {yl yc : Value} (h : amakeSlice C H key ver t l c = some (r, H')) (hl : Rep M l yl) (hc : Rep M c yc)
    (hs : SimH M base im0 nv H) (hv : VerOk M nv ver nv') : ∃ y w', (Instr.makeSlice t yl yc).run C.P M.w = .ok y w' ∧ Post M base im0 ver nv' r H' y w' := by
  unfold amakeSlice at h
  split at h
  · rename_i desc sz agg by_ z ln cp hel hln hcp
    obtain ⟨e, ti, hst, hds, hte⟩ := elemTI_some ok hel
    have hu : ∀ w, (underlying t).run C.P w = .ok (.slice e) w := fun w => by have := ty_und ok hst w; rwa [hds] at this
    cases c1 : Nat.ble ln cp with
    | false => simp [c1] at h
    | true =>
    cases c2 : Nat.ble (cp * by_) 35184372088832 with
    | false => simp [c1, c2] at h
    | true =>
    cases c3 : Nat.ble cp 35184372088832 with
    | false => simp [c1, c2, c3] at h
    | true =>
    cases c4 : Nat.beq z.cells.size sz with
    | false => simp [c1, c2, c3, c4] at h
    | true =>
    cases c5 : Nat.beq sz 0 with
    | true => simp [c1, c2, c3, c4, c5] at h
    | false =>
    simp only [c1, c2, c3, c4, c5, Bool.and_self, Bool.not_false, cond_true, Option.some.injEq, Prod.mk.injEq] at h
    obtain ⟨rfl, rfl⟩ := h
    have c1 := Nat.le_of_ble_eq_true c1
    have c2 := Nat.le_of_ble_eq_true c2
    have c3 := Nat.le_of_ble_eq_true c3
    have c4 := Nat.eq_of_beq_eq_true c4
    have c5 : sz ≠ 0 := fun e0 => by rw [e0] at c5; cases c5
    subst c4
    obtain ⟨k1, rfl⟩ := asN_rep hln hl
    obtain ⟨k2, rfl⟩ := asN_rep hcp hc
    obtain ⟨i, hi, hib, his⟩ := ty_info ok hte M.w
    have w1 : IntKind.i64.wrap (ln : Int) = ln := by unfold IntKind.wrap IntKind.signed IntKind.bits; simp; omega
    have w2 : IntKind.i64.wrap (cp : Int) = cp := by unfold IntKind.wrap IntKind.signed IntKind.bits; simp; omega
    have hbytes : ¬ ((by_ : Int) * (cp : Int) > 2 ^ 48) := by
      have : ((by_ * cp : Nat) : Int) ≤ 35184372088832 := by rw [Nat.mul_comm]; omega
      push_cast at this; omega
    have hz := zeros_flat z cp
    refine ⟨.slice (some ⟨M.w.heap.size, 0, none⟩) ln cp, M.w.alloc (.cells ((Array.range (cp * z.cells.size)).map (fun i => z.cells[i % z.cells.size]!)) e), ?_, ?_⟩
    · simp only [Instr.makeSlice, Sem.run_bind, hu, Result.andThen_ok, asInt, asIntOf, Sem.run_pure, hi, hib, w1, w2]
      rw [if_neg (by
        simp only [Bool.or_eq_true, decide_eq_true_eq]
        omega)]
      simp only [Sem.run_pure, Result.andThen_ok, Sem.run_bind, run_askRoom, ty_size ok hte, Int.toNat_natCast]
      by_cases h0 : cp * z.cells.size = 0
      · simp only [h0, if_true, Sem.run_bind, Sem.run_pure, Result.andThen_ok, newRow, run_newObj, World.alloc_eq]
        have hempty : ∀ f g : Nat → Value, (Array.range 0).map f = (Array.range 0).map g := fun f g => by simp
        simp only [World.size_alloc, Int.toNat_natCast, hempty _ (fun i => z.cells[i % z.cells.size]!)]
      · simp only [h0, if_false, Sem.run_bind, ty_zero ok hte rfl, Sem.run_pure, Result.andThen_ok, newRow, run_newObj, World.alloc_eq]
    · refine post_alloc (ct := cp) hs hv _ _ _ _ (fun M' hle hb => ?_) (fun M' hle hmu => ?_)
      · refine ⟨_, e, List.replicate cp z, hb, RepL.replicate (ofV_rep z) cp, fun y hy => by rw [List.eq_of_mem_replicate hy], by simp, by simp, fun _ => by simp, ?_⟩
        rw [hz]
        apply List.take_of_length_le
        rw [flat_length (sz := z.cells.size) (fun y hy => by rw [List.eq_of_mem_replicate hy])]
        simp
      · unfold Rep
        exact ⟨_, cp, 0, hmu, by omega, by simp, fun _ => by simp⟩
  · cases h
end
end Go.Vm
