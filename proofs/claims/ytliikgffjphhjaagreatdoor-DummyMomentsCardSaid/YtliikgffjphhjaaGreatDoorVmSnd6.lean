/- A small evaluator over abstract values: stores into maps, ranges over strings, append, copy, clear, make are sound. -/
import Derived.Test.YtliikgffjphhjaaGreatDoorVmSnd5
namespace Go.Vm
open Go.RowKit (Below)

/-- A block of one's own is written and given up. -/
theorem SimH.dropWrite {M : Mem} {base : Nat} {im0 : Nat → Prop} {nv : Nat} {H : Tr Ent} (h : SimH M base im0 nv H) {k : Nat} {e : Ent} {b ct : Nat} (he : H.get k = some e) (hE : EntIs M base e b ct) (hf : e.fz = false)
    {w' : World} (hw : ∀ b', b' ≠ b → w'.heap[b']? = M.w.heap[b']?) (hos : w'.os = M.w.os) (htape : w'.tape = M.w.tape) (hout : w'.output = M.w.output) (hsz : w'.heap.size = M.w.heap.size) :
    M.le { M with w := w' } ∧ SimH { M with w := w' } base im0 nv (H.del k) ∧ Below base M.w w' ∧ ∀ k' e' ct', (H.del k).get k' = some e' → M.mu e'.ver = some (b, ct') → False := by
  have hle : M.le { M with w := w' } := Mem.mk3 (fun _ _ x => x) (fun _ x => x) (fun b' x => hw b' (fun hb => hE.own hf (hb ▸ x)))
  have hno : ∀ k' e' ct', (H.del k).get k' = some e' → M.mu e'.ver = some (b, ct') → False := fun k' e' ct' h' hm => by
    obtain ⟨hk, h'⟩ := Tr.get_del h'
    exact h.inj k' e' k e _ _ _ h' he hk hm hE.mu
  refine ⟨hle, ?_, ⟨hos, htape, hout, Nat.le_of_eq hsz.symm, fun b' hb => hw b' (by have := hE.base; omega)⟩, hno⟩
  have h2 := h.del k
  exact {
    ent := fun k' e' he' => by
      obtain ⟨b', ct', hE'⟩ := h2.ent k' e' he'
      have hne : b' ≠ b := fun hb => by subst hb; exact hno k' e' _ he' hE'.mu
      exact ⟨b', ct', hE'.mu, hE'.blk.mono hle (hw b' hne), hE'.base, fun x => ⟨(hE'.fz x).1, (hE'.fz x).2.mono (Mem.le_bare hle) (hw b' hne)⟩, hE'.own⟩
    inj := h2.inj
    fresh := h.fresh
    lt := fun b' x => by have := h.lt b' x; show b' < w'.heap.size; omega
    old := h.old
    lo := h.lo
    new := h.new
    size := by have := h.size; show base ≤ w'.heap.size; omega }

theorem setObj_write {w : World} {b : Nat} {o o' : Obj} (hb : w.heap[b]? = some o) :
    (∀ b', b' ≠ b → ({ w with heap := w.heap.setIfInBounds b o' } : World).heap[b']? = w.heap[b']?) ∧ ({ w with heap := w.heap.setIfInBounds b o' } : World).heap.size = w.heap.size ∧
      ({ w with heap := w.heap.setIfInBounds b o' } : World).heap[b]? = some o' := by
  have hlt := (Array.getElem?_eq_some_iff.1 hb).1
  refine ⟨fun b' h => ?_, by simp, ?_⟩
  · show (w.heap.setIfInBounds b o')[b']? = _
    rw [Array.getElem?_setIfInBounds_ne (Ne.symm h)]
  · show (w.heap.setIfInBounds b o')[b]? = _
    simp [hlt]

section
variable {M : Mem} {base : Nat} {im0 : Nat → Prop} {nv : Nat} {H : Tr Ent}

theorem keyStays {P : Program} {old key k : Value} (h : pureRun P (Instr.keyThatStays old key) = some k) : k = key := by
  unfold Instr.keyThatStays at h
  split at h
  · simp only [pure, pureRun, Option.some.injEq] at h; exact h.symm
  · simp [bind, Sem.bind, choose, pureRun] at h

theorem amapUpdate_sound {C : Cx} (ok : TyOk C) {t : TypeId} {x i v : AV} {H' : Tr Ent} {y vi vv : Value} (h : amapUpdate C H t x i v = some H') (hx : Rep M x y) (hi : Rep M i vi) (hv : Rep M v vv) (hs : SimH M base im0 nv H) :
    ∃ w', (Instr.mapUpdate t y vi vv).run C.P M.w = .ok () w' ∧ M.le { M with w := w' } ∧ SimH { M with w := w' } base im0 nv H' ∧ Below base M.w w' := by
  unfold amapUpdate at h
  split at h
  · rename_i kt et _ _ _ _ k r key ht hk
    have q1 := toV_rep hk hi
    subst q1
    have hu := ty_und ok ht M.w
    simp only at hu
    split at h
    · rename_i ver ks vs hl
      obtain ⟨hkk, hvv⟩ := live_some hl
      simp only at hvv; subst hvv
      obtain ⟨b, ct, hE⟩ := hs.ent _ _ hkk
      obtain ⟨es, clock, hb, hks, hvs⟩ := hE.blk
      unfold Rep at hx
      obtain ⟨b', ct', hm, rfl⟩ := hx
      obtain ⟨rfl, rfl⟩ := mu_eq hE.mu hm
      have hg : (getObj b).run C.P M.w = .ok (.map es clock) M.w := by simp [getObj, Sem.run, hb]
      have hset : ∀ o', (setObj b o').run C.P M.w = .ok () { M.w with heap := M.w.heap.setIfInBounds b o' } := fun o' => by simp [setObj, Sem.run, hb]
      split at h
      · rename_i j hka
        obtain ⟨q, g1, g2, g3, g4⟩ := keyAt_sound ok hka hks M.w
        obtain ⟨e, k1, rfl⟩ := g4 j rfl
        split at h
        · rename_i old hold
          split at h
          · rename_i kk hkst
            have := keyStays hkst
            subst this
            simp only [Option.some.injEq] at h; subst h
            have hst := pureRun_sound hkst M.w
            simp only [Option.bind_eq_some_iff] at hold
            obtain ⟨oa, ho1, ho2⟩ := hold
            obtain ⟨oy, ho3, ho4⟩ := hks.get ho1
            have hoy := toV_rep ho2 ho4
            subst hoy
            have hkey : ((es[j]?).map (·.key)).getD kk = oy := by
              simp only [List.getElem?_map, Array.getElem?_toList] at ho3
              rw [ho3]; rfl
            obtain ⟨s1, s2, s3⟩ := setObj_write (o' := .map (es.modify j fun e => { e with key := kk, val := vv }) clock) hb
            have hmod : ∀ {α : Type} (f : MapEntry → α) (a : α), (∀ e : MapEntry, f { e with key := kk, val := vv } = a) → (es.modify j fun e => { e with key := kk, val := vv }).toList.map f = (es.toList.map f).set j a := by
              intro α f a hf
              apply List.ext_getElem?
              intro n
              simp only [Array.toList_modify, List.getElem?_map, List.getElem?_modify, List.getElem?_set, List.length_map, Array.length_toList, Array.getElem?_toList]
              by_cases hn : j = n
              · subst hn
                cases hjn : es[j]? with
                | none =>
                  have : ¬ j < es.size := fun hlt => by simp [Array.getElem?_eq_getElem hlt] at hjn
                  simp [this]
                | some e =>
                  have : j < es.size := (Array.getElem?_eq_some_iff.1 hjn).1
                  simp [this, hf]
              · simp [hn]
            have hW := hs.write hkk hE rfl s1 rfl rfl rfl s2 (.map (ks.set j i) (vs.set j v)) (fun hle => ⟨_, clock, s3, by
                rw [hmod (·.key) kk (fun _ => rfl)]; exact (hks.mono hle).set j (hi.mono hle), by
                rw [hmod (·.val) vv (fun _ => rfl)]; exact (hvs.mono hle).set j (hv.mono hle)⟩)
            refine ⟨_, ?_, hW.1, hW.2.1, hW.2.2⟩
            simp only [Instr.mapUpdate, Sem.run_bind, hu, Result.andThen_ok, hg, g1, g2, hkey, hst, hset]
          · cases h
        · cases h
      · rename_i hka
        obtain ⟨q, g1, g2, g3, g4⟩ := keyAt_sound ok hka hks M.w
        have g3 := g3 rfl; subst g3
        simp only [Option.some.injEq] at h; subst h
        obtain ⟨s1, s2, s3⟩ := setObj_write (o' := .map (es.push { key := vi, val := vv, born := clock }) (clock + 1)) hb
        have hW := hs.write hkk hE rfl s1 rfl rfl rfl s2 (.map (ks ++ [i]) (vs ++ [v])) (fun hle => ⟨_, _, s3, by
            simp only [Array.toList_push, List.map_append, List.map_cons, List.map_nil]
            exact (hks.mono hle).append (by simp only [RepL.cons_iff]; exact ⟨_, _, rfl, hi.mono hle, by simp⟩), by
            simp only [Array.toList_push, List.map_append, List.map_cons, List.map_nil]
            exact (hvs.mono hle).append (by simp only [RepL.cons_iff]; exact ⟨_, _, rfl, hv.mono hle, by simp⟩)⟩)
        refine ⟨_, ?_, hW.1, hW.2.1, hW.2.2⟩
        simp only [Instr.mapUpdate, Sem.run_bind, hu, Result.andThen_ok, hg, g1, g2, hset]
      · cases h
    · cases h
  · cases h

/-! ### What is appended -/
theorem allSz_sized {sz : Nat} : ∀ {es : List AV} {ys : List Value}, allSz sz es = true → RepL M es ys → Sized sz ys
  | [], _, _, h => by rw [RepL.nil_iff] at h; subst h; intro y hy; simp at hy
  | e :: es, _, ha, h => by
    rw [RepL.cons_iff] at h
    obtain ⟨x, xs, rfl, h1, h2⟩ := h
    simp only [allSz, List.all_cons, Bool.and_eq_true] at ha
    rw [Sized.cons]
    refine ⟨?_, allSz_sized ha.2 h2⟩
    cases hc : cells? e with
    | none => simp [hc] at ha
    | some cs =>
      simp only [hc] at ha
      have := cells?_len hc h1
      have hl := this.length
      simp only [Array.length_toList] at hl
      rw [hl]; exact Nat.eq_of_beq_eq_true ha.1

theorem flat_one {sz : Nat} {es : List AV} {ys : List Value} (h : allSz sz es = true) (hr : RepL M es ys) : ∀ v ∈ flat ys, v.oneCell' = true := by
  induction es generalizing ys with
  | nil => rw [RepL.nil_iff] at hr; subst hr; intro v hv; simp [flat] at hv
  | cons e es ih =>
    rw [RepL.cons_iff] at hr
    obtain ⟨x, xs, rfl, h1, h2⟩ := hr
    simp only [allSz, List.all_cons, Bool.and_eq_true] at h
    intro v hv
    rw [flat_cons] at hv
    rcases List.mem_append.1 hv with hv | hv
    · cases hc : cells? e with
      | none => simp [hc] at h
      | some cs => exact all_single (cells?_single hc) (cells?_len hc h1) v hv
    · exact ih h.2 h2 v hv

theorem firstCells_row {P : Program} {w : World} {b o n sz : Nat} {ys : List Value} {len cap : Nat} (hs : Sized sz ys) (hn : n ≤ ys.length) (hrow : ∀ i x, (flat ys)[i]? = some x → w.cell? ⟨b, o + i, none⟩ = some x) :
    (Builtin.firstCells sz n (.slice (some ⟨b, o, none⟩) len cap)).run P w = .ok (flat (ys.take n)).toArray w := by
  have hl : (flat (ys.take n)).length = n * sz := by rw [flat_length (hs.sub fun x hx => List.mem_of_mem_take hx)]; simp [Nat.min_eq_left hn]
  have := run_loadCells_list (P := P) w ⟨b, o, none⟩ (flat (ys.take n)) (fun j v hj => by
    rw [add_lit]
    refine hrow j v ?_
    rw [← flat_take hs, List.getElem?_take] at hj
    split at hj
    · exact hj
    · cases hj)
  rw [hl] at this
  exact this

/-- The elements of what is appended or copied. -/
theorem elemsOf_sound {P : Program} {x : AV} {xs : List AV} {y : Value} {sz : Nat} (h : elemsOf H x = some xs) (ha : allSz sz xs = true) (hx : Rep M x y) (hs : SimH M base im0 nv H) :
    ∃ ys, RepL M xs ys ∧ Sized sz ys ∧ (∀ w, (Builtin.lenOf y).run P w = .ok xs.length w) ∧ (∀ n, n ≤ xs.length → ∀ w : World, w.heap = M.w.heap → (Builtin.firstCells sz n y).run P w = .ok (flat (ys.take n)).toArray w) := by
  unfold elemsOf at h
  split at h
  · rename_i c
    simp only [Option.some.injEq] at h; subst h
    unfold Rep at hx; subst hx
    refine ⟨[], by simp, fun y hy => by simp at hy, fun _ => rfl, fun n hn w hw => ?_⟩
    simp [Builtin.firstCells, flat]
  · rename_i sz0 es ex0
    simp only [Option.some.injEq] at h; subst h
    unfold Rep at hx
    obtain ⟨ao, cap, ys, rfl, hcap, hr, hsd, hrow, hex⟩ := hx
    have hsd' := allSz_sized ha (hr.mono (Mem.bare_le M))
    rcases hrow with ⟨b, o, rfl, hrow⟩ | e
    rotate_left
    · have hl := hr.length
      have h0 : es = [] := List.length_eq_zero_iff.1 (by omega)
      subst h0
      have h0 : ys = [] := List.length_eq_zero_iff.1 (by simpa using hl)
      subst h0
      refine ⟨[], by simp, fun y hy => by simp at hy, fun _ => rfl, fun n hn w hw => ?_⟩
      have : n = 0 := by simpa using hn
      subst this
      cases ao <;> simp [Builtin.firstCells, loadCells, loadCellsFrom, flat]
    exact ⟨ys, hr.mono (Mem.bare_le M), hsd', fun _ => rfl, fun n hn w hw => firstCells_row hsd' (by rw [hr.length]; exact hn) (fun i x hx => by rw [cell?_of_heap (w := M.w) (by rw [hw])]; exact (hrow i x hx).2)⟩
  · rename_i k r sz' lo len
    split at h
    · rename_i ver fz sz'' es ex hl
      cases hq : Nat.beq sz' sz'' with
      | false => simp [hq] at h
      | true =>
      cases hle : Nat.ble (lo + len) es.length with
      | false => simp [hq, hle] at h
      | true =>
      simp only [hq, hle, Bool.and_self, cond_true, Option.some.injEq] at h; subst h
      have hq := Nat.eq_of_beq_eq_true hq; subst hq
      have hle := Nat.le_of_ble_eq_true hle
      obtain ⟨hk, hv⟩ := live_some hl
      simp only at hv; subst hv
      obtain ⟨b, ct, hE⟩ := hs.ent _ _ hk
      obtain ⟨arr, ty, ys, hb, hrep, hsd, has, hlen, hex, htk⟩ := hE.blk
      unfold Rep at hx
      obtain ⟨b', ct', o, hm, hct, rfl, ho⟩ := hx
      obtain ⟨rfl, rfl⟩ := mu_eq hE.mu hm
      have hrs := (hrep.drop lo).take len
      have hsd' := allSz_sized ha hrs
      have hln : ((es.drop lo).take len).length = len := by simp; omega
      refine ⟨(ys.drop lo).take len, hrs, hsd', fun _ => by rw [hln]; rfl, fun n hn w hw => ?_⟩
      rw [hln] at hn
      by_cases hl0 : len = 0
      · subst hl0
        have : n = 0 := by omega
        subst this
        simp [Builtin.firstCells, loadCells, loadCellsFrom, flat]
      · have hszz : sz = sz' := by
          have hylen : ys.length = es.length := hrep.length
          obtain ⟨y0, hy0⟩ : ∃ y0, y0 ∈ (ys.drop lo).take len := by
            cases hz : (ys.drop lo).take len with
            | nil => have := hrs.length; rw [hz, hln] at this; simp at this; omega
            | cons a l => exact ⟨a, by simp⟩
          rw [← hsd' y0 hy0, ← hsd y0 (List.mem_of_mem_drop (List.mem_of_mem_take hy0))]
        subst hszz
        refine firstCells_row hsd' (by rw [hrs.length, hln]; exact hn) (fun i x hx => ?_)
        rw [ho (by omega), cell?_of_heap (w := M.w) (by rw [hw]), cell_of_heap hb]
        rw [← flat_take (hsd.sub fun x hx => List.mem_of_mem_drop hx), ← flat_drop hsd, ← htk, List.getElem?_take] at hx
        split at hx
        · rw [List.getElem?_drop, List.getElem?_take] at hx
          split at hx
          · exact hx
          · cases hx
        · cases hx
    · cases h
  · cases h

/-- Elements are laid into a row of elements. -/
theorem lay_flat {sz : Nat} {ys zs : List Value} (hs : Sized sz ys) (hz : Sized sz zs) {arr : List Value} (htk : arr.take (ys.length * sz) = flat ys) {j : Nat} (hj : j ≤ ys.length) (hsz : (j + zs.length) * sz ≤ arr.length) :
    ∀ n, n = max ys.length (j + zs.length) → (arr.take (j * sz) ++ flat zs ++ arr.drop (j * sz + (flat zs).length)).take (n * sz) = flat (ys.take j ++ zs ++ ys.drop (j + zs.length)) := by
  intro n hn
  have hzl := flat_length hz
  have h1 : arr.take (j * sz) = flat (ys.take j) := by
    rw [← flat_take hs, ← htk, List.take_take, Nat.min_eq_left (Nat.mul_le_mul_right _ hj)]
  have h1l : (flat (ys.take j)).length = j * sz := by rw [flat_length (hs.sub fun x hx => List.mem_of_mem_take hx)]; simp [Nat.min_eq_left hj]
  rw [h1, flat_append, flat_append]
  have hA : (flat (ys.take j) ++ flat zs).length = (j + zs.length) * sz := by rw [List.length_append, h1l, hzl, Nat.add_mul]
  have hle : (j + zs.length) * sz ≤ n * sz := Nat.mul_le_mul_right _ (by omega)
  rw [List.take_append, List.take_of_length_le (by rw [hA]; exact hle), hA]
  congr 1
  rw [← flat_drop hs, ← htk, hzl, ← Nat.add_mul]
  rw [List.drop_take]
  congr 1
  rw [hn]
  by_cases hc : ys.length ≤ j + zs.length
  · rw [Nat.max_eq_right hc]
    have := Nat.mul_le_mul_right sz hc
    omega
  · rw [Nat.max_eq_left (by omega)]

theorem growBy_le (newLen : Nat) : ∀ (r c : Nat), 256 ≤ c → Builtin.growBy newLen r c ≤ max c (2 * newLen)
  | 0, c, _ => by simp only [Builtin.growBy]; omega
  | r + 1, c, h => by
    simp only [Builtin.growBy]
    split
    · omega
    · have := growBy_le newLen r (c + (c + 768) / 4) (by omega)
      omega
theorem nextslicecap_le {need cap : Nat} (h : cap < need) : Builtin.nextslicecap need cap ≤ 2 * need := by
  unfold Builtin.nextslicecap
  split
  · omega
  · split
    · omega
    · have := growBy_le need 4 cap (by omega)
      omega
end
end Go.Vm
