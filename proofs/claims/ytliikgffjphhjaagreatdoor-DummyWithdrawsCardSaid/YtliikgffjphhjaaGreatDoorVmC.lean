/- A small evaluator over abstract values: stores into maps, ranges over strings, append, copy, clear, make are sound. -/
import Derived.Test.YtliikgffjphhjaaGreatDoorVmB
namespace Go.Vm
open Go.RowKit (Below)
theorem SimH.dropWrite {M : Mem} {base : Nat} {im0 : Nat → Prop} {nv : Nat} {H : Tr Ent} (h : SimH M base im0 nv H) {k : Nat} {e : Ent} {b ct : Nat} (he : H.get k = some e) (hE : EntIs M base e b ct) (hf : e.fz = false)
  {w' : World} (hw : ∀ b', b' ≠ b → w'.heap[b']? = M.w.heap[b']?) (hos : w'.os = M.w.os) (htape : w'.tape = M.w.tape) (hout : w'.output = M.w.output) (hsz : w'.heap.size = M.w.heap.size) :
  M.le { M with w := w' } ∧ SimH { M with w := w' } base im0 nv (H.del k) ∧ Below base M.w w' ∧ ∀ k' e' ct', (H.del k).get k' = some e' → M.mu e'.ver = some (b, ct') → False := by
 have hle : M.le { M with w := w' } := Mem.mk3 (fun _ _ x => x) (fun _ x => x) (fun b' x => hw b' (fun hb => hE.own hf (hb ▸ x)))
 have hno : ∀ k' e' ct', (H.del k).get k' = some e' → M.mu e'.ver = some (b, ct') → False := fun k' e' ct' h' hm => by
  obtain ⟨hk, h'⟩ := Tr.get_del h'
  exact h.inj k' e' k e _ _ _ h' he hk hm hE.mu
 refine ⟨hle, ?_, ⟨hos, htape, hout, Nat.le_of_eq hsz.symm, fun b' hb => hw b' (by have := hE.base; omega)⟩, hno⟩
 have h2 := h.del k
 exact {
  ent := fun k' e' he' => by
   obtain ⟨b', ct', hE'⟩ := h2.ent k' e' he'
   have hne : b' ≠ b := fun hb => by subst hb; exact hno k' e' _ he' hE'.mu
   exact ⟨b', ct', hE'.mu, hE'.blk.mono hle (hw b' hne), hE'.base, fun x => ⟨(hE'.fz x).1, (hE'.fz x).2.mono (Mem.le_bare hle) (hw b' hne)⟩, hE'.own⟩
  inj := h2.inj
  fresh := h.fresh
  lt := fun b' x => by have := h.lt b' x; show b' < w'.heap.size; omega
  old := h.old
  lo := h.lo
  new := h.new
  size := by have := h.size; show base ≤ w'.heap.size; omega }
theorem setObj_write {w : World} {b : Nat} {o o' : Obj} (hb : w.heap[b]? = some o) :
  (∀ b', b' ≠ b → ({ w with heap := w.heap.setIfInBounds b o' } : World).heap[b']? = w.heap[b']?) ∧ ({ w with heap := w.heap.setIfInBounds b o' } : World).heap.size = w.heap.size ∧
   ({ w with heap := w.heap.setIfInBounds b o' } : World).heap[b]? = some o' := by
 have hlt := (Array.getElem?_eq_some_iff.1 hb).1
 refine ⟨fun b' h => ?_, by simp, ?_⟩
 ·show (w.heap.setIfInBounds b o')[b']? = _
  rw [Array.getElem?_setIfInBounds_ne (Ne.symm h)]
 ·show (w.heap.setIfInBounds b o')[b]? = _
  simp [hlt]
section
variable {M : Mem} {base : Nat} {im0 : Nat → Prop} {nv : Nat} {H : Tr Ent}
theorem keyStays {P : Program} {old key k : Value} (h : pureRun P (Instr.keyThatStays old key) = some k) : k = key := by
 unfold Instr.keyThatStays at h
 split at h
 ·simp only [pure, pureRun, Option.some.injEq] at h; exact h.symm
 ·simp [bind, Sem.bind, choose, pureRun] at h
theorem amapUpdate_sound {C : Cx} (ok : TyOk C) {t : TypeId} {x i v : AV} {H' : Tr Ent} {y vi vv : Value} (h : amapUpdate C H t x i v = some H') (hx : Rep M x y) (hi : Rep M i vi) (hv : Rep M v vv) (hs : SimH M base im0 nv H) :
  ∃ w', (Instr.mapUpdate t y vi vv).run C.P M.w = .ok () w' ∧ M.le { M with w := w' } ∧ SimH { M with w := w' } base im0 nv H' ∧ Below base M.w w' := by
 unfold amapUpdate at h
 split at h
 ·rename_i kt et _ _ _ _ k r key ht hk
  have q1 := toV_rep hk hi
  subst q1
  have hu := ty_und ok ht M.w
  simp only at hu
  split at h
  ·rename_i ver ks vs hl
   obtain ⟨hkk, hvv⟩ := live_some hl
   simp only at hvv; subst hvv
   obtain ⟨b, ct, hE⟩ := hs.ent _ _ hkk
   obtain ⟨es, clock, hb, hks, hvs⟩ := hE.blk
   unfold Rep at hx
   obtain ⟨b', ct', hm, rfl⟩ := hx
   obtain ⟨rfl, rfl⟩ := mu_eq hE.mu hm
   have hg : (getObj b).run C.P M.w = .ok (.map es clock) M.w := by simp [getObj, Sem.run, hb]
   have hset : ∀ o', (setObj b o').run C.P M.w = .ok () { M.w with heap := M.w.heap.setIfInBounds b o' } := fun o' => by simp [setObj, Sem.run, hb]
   split at h
   ·rename_i j hka
    obtain ⟨q, g1, g2, g3, g4⟩ := keyAt_sound ok hka hks M.w
    obtain ⟨e, k1, rfl⟩ := g4 j rfl
    split at h
    ·rename_i old hold
     split at h
     ·rename_i kk hkst
      have := keyStays hkst
      subst this
      simp only [Option.some.injEq] at h; subst h
      have hst := pureRun_sound hkst M.w
      simp only [Option.bind_eq_some_iff] at hold
      obtain ⟨oa, ho1, ho2⟩ := hold
      obtain ⟨oy, ho3, ho4⟩ := hks.get ho1
      have hoy := toV_rep ho2 ho4
      subst hoy
      have hkey : ((es[j]?).map (·.key)).getD kk = oy := by
       simp only [List.getElem?_map, Array.getElem?_toList] at ho3
       rw [ho3]; rfl
      obtain ⟨s1, s2, s3⟩ := setObj_write (o' := .map (es.modify j fun e => { e with key := kk, val := vv }) clock) hb
      have hmod : ∀ {α : Type} (f : MapEntry → α) (a : α), (∀ e : MapEntry, f { e with key := kk, val := vv } = a) → (es.modify j fun e => { e with key := kk, val := vv }).toList.map f = (es.toList.map f).set j a := by
       intro α f a hf
       apply List.ext_getElem?
       intro n
       simp only [Array.toList_modify, List.getElem?_map, List.getElem?_modify, List.getElem?_set, List.length_map, Array.length_toList, Array.getElem?_toList]
       by_cases hn : j = n
       ·subst hn
        cases hjn : es[j]? with
        | none =>
         have : ¬ j < es.size := fun hlt => by simp [Array.getElem?_eq_getElem hlt] at hjn
         simp [this]
        | some e =>
         have : j < es.size := (Array.getElem?_eq_some_iff.1 hjn).1
         simp [this, hf]
       ·simp [hn]
      have hW := hs.write hkk hE rfl s1 rfl rfl rfl s2 (.map (ks.set j i) (vs.set j v)) (fun hle => ⟨_, clock, s3, by
        rw [hmod (·.key) kk (fun _ => rfl)]; exact (hks.mono hle).set j (hi.mono hle), by
        rw [hmod (·.val) vv (fun _ => rfl)]; exact (hvs.mono hle).set j (hv.mono hle)⟩)
      refine ⟨_, ?_, hW.1, hW.2.1, hW.2.2⟩
      simp only [Instr.mapUpdate, Sem.run_bind, hu, Result.andThen_ok, hg, g1, g2, hkey, hst, hset]
     ·cases h
    ·cases h
   ·rename_i hka
    obtain ⟨q, g1, g2, g3, g4⟩ := keyAt_sound ok hka hks M.w
    have g3 := g3 rfl; subst g3
    simp only [Option.some.injEq] at h; subst h
    obtain ⟨s1, s2, s3⟩ := setObj_write (o' := .map (es.push { key := vi, val := vv, born := clock }) (clock + 1)) hb
    have hW := hs.write hkk hE rfl s1 rfl rfl rfl s2 (.map (ks ++ [i]) (vs ++ [v])) (fun hle => ⟨_, _, s3, by
      simp only [Array.toList_push, List.map_append, List.map_cons, List.map_nil]
      exact (hks.mono hle).append (by simp only [RepL.cons_iff]; exact ⟨_, _, rfl, hi.mono hle, by simp⟩), by
      simp only [Array.toList_push, List.map_append, List.map_cons, List.map_nil]
      exact (hvs.mono hle).append (by simp only [RepL.cons_iff]; exact ⟨_, _, rfl, hv.mono hle, by simp⟩)⟩)
    refine ⟨_, ?_, hW.1, hW.2.1, hW.2.2⟩
    simp only [Instr.mapUpdate, Sem.run_bind, hu, Result.andThen_ok, hg, g1, g2, hset]
   ·cases h
  ·cases h
 ·cases h
theorem allSz_sized {sz : Nat} : ∀ {es : List AV} {ys : List Value}, allSz sz es = true → RepL M es ys → Sized sz ys
 | [], _, _, h => by rw [RepL.nil_iff] at h; subst h; intro y hy; simp at hy
 | e :: es, _, ha, h => by
  rw [RepL.cons_iff] at h
  obtain ⟨x, xs, rfl, h1, h2⟩ := h
  simp only [allSz, List.all_cons, Bool.and_eq_true] at ha
  rw [Sized.cons]
  refine ⟨?_, allSz_sized ha.2 h2⟩
  cases hc : cells? e with
  | none => simp [hc] at ha
  | some cs =>
   simp only [hc] at ha
   have := cells?_len hc h1
   have hl := this.length
   simp only [Array.length_toList] at hl
   rw [hl]; exact Nat.eq_of_beq_eq_true ha.1
theorem flat_one {sz : Nat} {es : List AV} {ys : List Value} (h : allSz sz es = true) (hr : RepL M es ys) : ∀ v ∈ flat ys, v.oneCell' = true := by
 induction es generalizing ys with
 | nil => rw [RepL.nil_iff] at hr; subst hr; intro v hv; simp [flat] at hv
 | cons e es ih =>
  rw [RepL.cons_iff] at hr
  obtain ⟨x, xs, rfl, h1, h2⟩ := hr
  simp only [allSz, List.all_cons, Bool.and_eq_true] at h
  intro v hv
  rw [flat_cons] at hv
  rcases List.mem_append.1 hv with hv | hv
  ·cases hc : cells? e with
   | none => simp [hc] at h
   | some cs => exact all_single (cells?_single hc) (cells?_len hc h1) v hv
  ·exact ih h.2 h2 v hv
theorem firstCells_row {P : Program} {w : World} {b o n sz : Nat} {ys : List Value} {len cap : Nat} (hs : Sized sz ys) (hn : n ≤ ys.length) (hrow : ∀ i x, (flat ys)[i]? = some x → w.cell? ⟨b, o + i, none⟩ = some x) :
  (Builtin.firstCells sz n (.slice (some ⟨b, o, none⟩) len cap)).run P w = .ok (flat (ys.take n)).toArray w := by
 have hl : (flat (ys.take n)).length = n * sz := by rw [flat_length (hs.sub fun x hx => List.mem_of_mem_take hx)]; simp [Nat.min_eq_left hn]
 have := run_loadCells_list (P := P) w ⟨b, o, none⟩ (flat (ys.take n)) (fun j v hj => by
  rw [add_lit]
  refine hrow j v ?_
  rw [← flat_take hs, List.getElem?_take] at hj
  split at hj
  ·exact hj
  ·cases hj)
 rw [hl] at this
 exact this
theorem elemsOf_sound {P : Program} {x : AV} {xs : List AV} {y : Value} {sz : Nat} (h : elemsOf H x = some xs) (ha : allSz sz xs = true) (hx : Rep M x y) (hs : SimH M base im0 nv H) :
  ∃ ys, RepL M xs ys ∧ Sized sz ys ∧ (∀ w, (Builtin.lenOf y).run P w = .ok xs.length w) ∧ (∀ n, n ≤ xs.length → ∀ w : World, w.heap = M.w.heap → (Builtin.firstCells sz n y).run P w = .ok (flat (ys.take n)).toArray w) := by
 unfold elemsOf at h
 split at h
 ·rename_i c
  simp only [Option.some.injEq] at h; subst h
  unfold Rep at hx; subst hx
  refine ⟨[], by simp, fun y hy => by simp at hy, fun _ => rfl, fun n hn w hw => ?_⟩
  simp [Builtin.firstCells, flat]
 ·simp only [Option.some.injEq] at h; subst h
  unfold Rep at hx; subst hx
  refine ⟨[], by simp, fun y hy => by simp at hy, fun _ => rfl, fun n hn w hw => ?_⟩
  have : n = 0 := by simpa using hn
  subst this
  simp [Builtin.firstCells, loadCells, loadCellsFrom, flat]
 ·rename_i sz0 es ex0
  simp only [Option.some.injEq] at h; subst h
  unfold Rep at hx
  obtain ⟨ao, cap, ys, rfl, hcap, hr, hsd, hrow, hex⟩ := hx
  have hsd' := allSz_sized ha (hr.mono (Mem.bare_le M))
  rcases hrow with ⟨b, o, rfl, hrow⟩ | e
  rotate_left
  ·have hl := hr.length
   have h0 : es = [] := List.length_eq_zero_iff.1 (by omega)
   subst h0
   have h0 : ys = [] := List.length_eq_zero_iff.1 (by simpa using hl)
   subst h0
   refine ⟨[], by simp, fun y hy => by simp at hy, fun _ => rfl, fun n hn w hw => ?_⟩
   have : n = 0 := by simpa using hn
   subst this
   cases ao <;> simp [Builtin.firstCells, loadCells, loadCellsFrom, flat]
  exact ⟨ys, hr.mono (Mem.bare_le M), hsd', fun _ => rfl, fun n hn w hw => firstCells_row hsd' (by rw [hr.length]; exact hn) (fun i x hx => by rw [cell?_of_heap (w := M.w) (by rw [hw])]; exact (hrow i x hx).2)⟩
 ·rename_i k r sz' lo len
  split at h
  ·rename_i ver fz sz'' es ex hl
   cases hq : Nat.beq sz' sz'' with
   | false => simp [hq] at h
   | true =>
   cases hle : Nat.ble (lo + len) es.length with
   | false => simp [hq, hle] at h
   | true =>
   simp only [hq, hle, Bool.and_self, cond_true, Option.some.injEq] at h; subst h
   have hq := Nat.eq_of_beq_eq_true hq; subst hq
   have hle := Nat.le_of_ble_eq_true hle
   obtain ⟨hk, hv⟩ := live_some hl
   simp only at hv; subst hv
   obtain ⟨b, ct, hE⟩ := hs.ent _ _ hk
   obtain ⟨arr, ty, ys, hb, hrep, hsd, has, hlen, hex, htk⟩ := hE.blk
   unfold Rep at hx
   obtain ⟨b', ct', o, hm, hct, rfl, ho⟩ := hx
   obtain ⟨rfl, rfl⟩ := mu_eq hE.mu hm
   have hrs := (hrep.drop lo).take len
   have hsd' := allSz_sized ha hrs
   have hln : ((es.drop lo).take len).length = len := by simp; omega
   refine ⟨(ys.drop lo).take len, hrs, hsd', fun _ => by rw [hln]; rfl, fun n hn w hw => ?_⟩
   rw [hln] at hn
   by_cases hl0 : len = 0
   ·subst hl0
    have : n = 0 := by omega
    subst this
    simp [Builtin.firstCells, loadCells, loadCellsFrom, flat]
   ·have hszz : sz = sz' := by
     have hylen : ys.length = es.length := hrep.length
     obtain ⟨y0, hy0⟩ : ∃ y0, y0 ∈ (ys.drop lo).take len := by
      cases hz : (ys.drop lo).take len with
      | nil => have := hrs.length; rw [hz, hln] at this; simp at this; omega
      | cons a l => exact ⟨a, by simp⟩
     rw [← hsd' y0 hy0, ← hsd y0 (List.mem_of_mem_drop (List.mem_of_mem_take hy0))]
    subst hszz
    refine firstCells_row hsd' (by rw [hrs.length, hln]; exact hn) (fun i x hx => ?_)
    rw [ho (by omega), cell?_of_heap (w := M.w) (by rw [hw]), cell_of_heap hb]
    rw [← flat_take (hsd.sub fun x hx => List.mem_of_mem_drop hx), ← flat_drop hsd, ← htk, List.getElem?_take] at hx
    split at hx
    ·rw [List.getElem?_drop, List.getElem?_take] at hx
     split at hx
     ·exact hx
     ·cases hx
    ·cases hx
  ·cases h
 ·cases h
theorem lay_flat {sz : Nat} {ys zs : List Value} (hs : Sized sz ys) (hz : Sized sz zs) {arr : List Value} (htk : arr.take (ys.length * sz) = flat ys) {j : Nat} (hj : j ≤ ys.length) (_hsz : (j + zs.length) * sz ≤ arr.length) :
  ∀ n, n = max ys.length (j + zs.length) → (arr.take (j * sz) ++ flat zs ++ arr.drop (j * sz + (flat zs).length)).take (n * sz) = flat (ys.take j ++ zs ++ ys.drop (j + zs.length)) := by
 intro n hn
 have hzl := flat_length hz
 have h1 : arr.take (j * sz) = flat (ys.take j) := by
  rw [← flat_take hs, ← htk, List.take_take, Nat.min_eq_left (Nat.mul_le_mul_right _ hj)]
 have h1l : (flat (ys.take j)).length = j * sz := by rw [flat_length (hs.sub fun x hx => List.mem_of_mem_take hx)]; simp [Nat.min_eq_left hj]
 rw [h1, flat_append, flat_append]
 have hA : (flat (ys.take j) ++ flat zs).length = (j + zs.length) * sz := by rw [List.length_append, h1l, hzl, Nat.add_mul]
 have hle : (j + zs.length) * sz ≤ n * sz := Nat.mul_le_mul_right _ (by omega)
 rw [List.take_append, List.take_of_length_le (by rw [hA]; exact hle), hA]
 congr 1
 rw [← flat_drop hs, ← htk, hzl, ← Nat.add_mul]
 rw [List.drop_take]
 congr 1
 rw [hn]
 by_cases hc : ys.length ≤ j + zs.length
 ·rw [Nat.max_eq_right hc]
  have := Nat.mul_le_mul_right sz hc
  omega
 ·rw [Nat.max_eq_left (by omega)]
theorem growBy_le (newLen : Nat) : ∀ (r c : Nat), 256 ≤ c → Builtin.growBy newLen r c ≤ max c (2 * newLen)
 | 0, c, _ => by simp only [Builtin.growBy]; omega
 | r + 1, c, h => by
  simp only [Builtin.growBy]
  split
  ·omega
  ·have := growBy_le newLen r (c + (c + 768) / 4) (by omega)
   omega
theorem nextslicecap_le {need cap : Nat} (h : cap < need) : Builtin.nextslicecap need cap ≤ 2 * need := by
 unfold Builtin.nextslicecap
 split
 ·omega
 ·split
  ·omega
  ·have := growBy_le need 4 cap (by omega)
   omega
end
end Go.Vm

namespace Go.Vm
open Go.RowKit (Below)
section
variable {M : Mem} {base : Nat} {im0 : Nat → Prop} {nv : Nat} {H : Tr Ent}
theorem notInt {C : Cx} (ok : TyOk C) {t : TypeId} {ti : TI} (ht : C.ty t = some ti) (hd : notSeq ti.desc = false) :
  (∃ e, ∀ w, (underlying t).run C.P w = .ok (.slice e) w) ∨ ∀ w, (underlying t).run C.P w = .ok .string w := by
 have h := fun w => ty_und ok ht w
 cases hc : ti.desc <;> rw [hc] at hd h <;> first | exact .inl ⟨_, h⟩ | exact .inr h | (cases hd)
theorem append_fits {C : Cx} (ok : TyOk C) {st xt e type : TypeId} {ti te tx : TI} (hst : C.ty st = some ti) (hd : ti.desc = .slice e) (hte : C.ty e = some te) (hxt : C.ty xt = some tx)
    (hxd : notSeq tx.desc = false) {a : Option Addr} {len cap n : Nat} {yx : Value} {w : World} {news : Array Value}
    (hn : (Builtin.lenOf yx).run C.P w = .ok n w) (hf : (Builtin.firstCells te.size n yx).run C.P w = .ok news w) (hle : len + n ≤ cap) :
    (Builtin.append_ #[st, xt] type #[.slice a len cap, yx]).run C.P w =
      (do (if let some a := a then storeCells (a.add (len * te.size)) news.toList else pure ()); pure (.slice a (len + n) cap) : Sem Value).run C.P w := by
  have hu := ty_und ok hst w
  rw [hd] at hu
  rcases notInt ok hxt hxd with ⟨e', hux⟩ | hux
  all_goals
    simp only [Builtin.append_, List.getElem?_toArray, List.getElem?_cons_zero, List.getElem?_cons_succ, Sem.run_bind, hu, Result.andThen_ok, ty_size ok hte, hux, Sem.run_pure, Bool.false_eq_true, if_false, hn, hle, if_true, Bool.not_false, hf]
    cases a <;> simp only [Sem.run_bind, Sem.run_pure, Result.andThen_ok]
theorem append_grows {C : Cx} (ok : TyOk C) {st xt e type : TypeId} {ti te tx : TI} {z : Value} (hst : C.ty st = some ti) (hd : ti.desc = .slice e) (hte : C.ty e = some te) (hz : te.zero = some z) (hxt : C.ty xt = some tx)
  (hxd : notSeq tx.desc = false) {a : Option Addr} {len cap n : Nat} {yx : Value} {w : World} {news olds : Array Value}
  (hn : (Builtin.lenOf yx).run C.P w = .ok n w) (hf : (Builtin.firstCells te.size n yx).run C.P w.drew = .ok news w.drew) (ho : (Builtin.firstCells te.size len (.slice a len cap)).run C.P w.drew = .ok olds w.drew)
  (hlt : cap < len + n) (hb : (len + n) * te.bytes ≤ 35184372088832) (_hb2 : len + n ≤ 35184372088832) (hb0 : te.bytes ≠ 0) :
  ∃ nc, len + n ≤ nc ∧ (Builtin.append_ #[st, xt] type #[.slice a len cap, yx]).run C.P w =
   .ok (.slice (some ⟨w.heap.size, 0, none⟩) (len + n) nc) (w.drew.alloc (.cells (olds ++ news ++ Builtin.zeroCells z.cells (nc - (len + n))) e)) := by
 have hu : ∀ w, (underlying st).run C.P w = .ok (.slice e) w := fun w => by have := ty_und ok hst w; rwa [hd] at this
 obtain ⟨i, hi, hib, his⟩ := ty_info ok hte w
 have hi' : ∀ w, (typeInfo e).run C.P w = .ok i w := by
  intro w'
  obtain ⟨_, _, j, hj, _, _, _⟩ := ok e te hte
  have h1 : ∀ w, (typeInfo e).run C.P w = .ok j w := fun w => by simp [typeInfo, hj]
  have := h1 w
  rw [hi] at this
  simp only [Result.ok.injEq, and_true] at this
  subst this; exact h1 w'
 have hnext := nextslicecap_le hlt
 have hmul : Builtin.nextslicecap (len + n) cap * te.bytes ≤ 2 ^ 48 := by
  have := Nat.mul_le_mul_right te.bytes hnext
  have e2 : 2 * (len + n) * te.bytes = 2 * ((len + n) * te.bytes) := by rw [Nat.mul_assoc]
  omega
 refine ⟨(Question.appendCap (len + n) cap e).cut (w.tape w.drawn (Question.appendCap (len + n) cap e)), by simp only [Question.cut]; omega, ?_⟩
 have hforced : (Question.appendCap (len + n) cap e).forced = false := rfl
 have hmax : ¬ ((((len + n : Nat) : Int) > IntKind.i64.max) ∧ (False ∨ te.bytes = 0)) := fun h => by rcases h.2 with h | h; exact h; exact hb0 h
 rcases notInt ok hxt hxd with ⟨e', hux⟩ | hux
 all_goals
  simp only [Builtin.append_, List.getElem?_toArray, List.getElem?_cons_zero, List.getElem?_cons_succ, Sem.run_bind, hu, Result.andThen_ok, ty_size ok hte, hux, Sem.run_pure, Bool.false_eq_true, if_false, hn,
   show ¬ (len + n ≤ cap) by omega, hi', hib, Bool.not_false]
  rw [if_neg hmax]
  simp only [Result.andThen_ok, Sem.run_bind, hi', hib]
  rw [if_neg (by omega)]
  simp only [Sem.run_bind, Sem.run_pure, Result.andThen_ok, run_choose, hforced, Bool.false_eq_true, if_false, World.drew_eq, run_askRoom, hi', ho, if_true, hf, ty_zero ok hte hz, newRow, run_newObj, World.alloc_eq, World.size_drew]
theorem Post.of_le {M M1 : Mem} {ver nv' : Nat} {r : AV} {H' : Tr Ent} {y : Value} {w' : World} (hle : M.le M1) (hmu : M1.mu = M.mu) (hb : Below base M.w M1.w) (h : Post M1 base im0 ver nv' r H' y w') : Post M base im0 ver nv' r H' y w' := by
 obtain ⟨⟨M', hw, hle', hm, hr, hs⟩, hb'⟩ := h
 exact ⟨⟨M', hw, Mem.le_trans hle hle', fun q hq => by rw [hm q hq, hmu], hr, hs⟩, hb.trans hb'⟩
theorem sim_drew (hs : SimH M base im0 nv H) : M.le { M with w := M.w.drew } ∧ SimH { M with w := M.w.drew } base im0 nv H ∧ Below base M.w M.w.drew :=
 ⟨(hs.other ((Below.refl _ _).drew)).1, (hs.other ((Below.refl _ _).drew)).2, (Below.refl _ _).drew⟩
theorem fresh_sound {ver key sz nc nv' : Nat} {e : TypeId} {z : Value} {es xs : List AV} {ys zs : List Value} (hs : SimH M base im0 nv H) (hv : VerOk M nv ver nv') (hes : RepL M es ys) (hxs : RepL M xs zs) (sy : Sized sz ys) (sz' : Sized sz zs)
  (hz : z.cells.size = sz) (hnc : es.length + xs.length ≤ nc) :
  Post M base im0 ver nv' (.sl key ver sz 0 (es ++ xs).length) (H.set key { ver := ver, fz := false, blk := .arr sz (es ++ xs) false }) (.slice (some ⟨M.w.heap.size, 0, none⟩) (es.length + xs.length) nc)
   (M.w.drew.alloc (.cells ((flat ys).toArray ++ (flat zs).toArray ++ Builtin.zeroCells z.cells (nc - (es.length + xs.length))) e)) := by
 obtain ⟨h1, h2, h3⟩ := sim_drew hs
 refine Post.of_le h1 rfl h3 ?_
 have hl1 := hes.length
 have hl2 := hxs.length
 refine post_alloc (M := { M with w := M.w.drew }) (ct := nc) h2 ⟨hv.free, hv.le, hv.lt⟩ _ _ _ _ (fun M' hle hb => ?_) (fun M' hle hmu => ?_)
 ·refine ⟨_, e, ys ++ zs, hb, (hes.mono (Mem.le_trans h1 hle)).append (hxs.mono (Mem.le_trans h1 hle)), Sized.append.2 ⟨sy, sz'⟩, ?_, ?_, fun hx => (by cases hx), ?_⟩
  ·have q1 := flat_length sy
   have q2 := flat_length sz'
   have q3 : (Builtin.zeroCells z.cells (nc - (es.length + xs.length))).size = (nc - (es.length + xs.length)) * sz := by simp [Builtin.zeroCells, hz]
   simp only [Array.size_append, List.size_toArray, q1, q2, q3, hl1, hl2]
   rw [← Nat.add_mul, ← Nat.add_mul]; congr 1; omega
  ·simpa using hnc
  ·have q : (flat (ys ++ zs)).length = (es ++ xs).length * sz := by rw [flat_length (Sized.append.2 ⟨sy, sz'⟩)]; simp [hl1, hl2]
   simp only [Array.toList_append, List.append_assoc]
   rw [← List.append_assoc, ← flat_append, ← q, List.take_left']
   rfl
 ·unfold Rep
  refine ⟨_, nc, 0, hmu, by simpa using hnc, ?_, fun _ => by simp⟩
  simp
theorem aappend_sound {C : Cx} (ok : TyOk C) {argTypes : List TypeId} {type : TypeId} {key ver nv' : Nat} {s x r : AV} {H' : Tr Ent} {ys yx : Value} (h : aappend C H key ver argTypes s x = some (r, H')) (hs0 : Rep M s ys) (hx : Rep M x yx)
  (hs : SimH M base im0 nv H) (hv : VerOk M nv ver nv') : ∃ y w', (Builtin.append_ argTypes.toArray type #[ys, yx]).run C.P M.w = .ok y w' ∧ Post M base im0 ver nv' r H' y w' := by
 unfold aappend at h
 split at h
 ·rename_i st xt
  split at h
  ·rename_i desc sz agg by_ z xd xs hel hxd hxs
   obtain ⟨e, ti, hst, hd, hte⟩ := elemTI_some ok hel
   obtain ⟨tx, hxt, hxd'⟩ : ∃ tx, C.ty xt = some tx ∧ tx.desc = xd := by
    unfold TI.dsc at hxd; simp only [Option.map_eq_some_iff] at hxd; exact hxd
   subst hxd'
   cases c1 : notSeq tx.desc with
   | true => simp [c1] at h
   | false =>
   cases c2 : allSz sz xs with
   | false => simp [c1, c2] at h
   | true =>
   cases c3 : Nat.beq z.cells.size sz with
   | false => simp [c1, c2, c3] at h
   | true =>
   simp only [c1, c2, c3, Bool.and_self, Bool.not_true, cond_false] at h
   have c3 := Nat.eq_of_beq_eq_true c3
   obtain ⟨zs, hzs, szz, hlen, hfc⟩ := elemsOf_sound (P := C.P) hxs c2 hx hs
   have hzl := hzs.length
   have hnews : ∀ w : World, w.heap = M.w.heap → (Builtin.firstCells sz xs.length yx).run C.P w = .ok (flat zs).toArray w := fun w hw => by
    have := hfc xs.length (Nat.le_refl _) w hw
    rwa [List.take_of_length_le (by omega)] at this
   have fits := fun {a : Option Addr} {len cap : Nat} (hle : len + xs.length ≤ cap) => append_fits (type := type) ok hst hd hte hxt c1 (a := a) (len := len) (cap := cap) (hlen M.w) (hnews M.w rfl) hle
   split at h
   ·-- nothing is appended
    have hz0 : zs = [] := by cases zs with | nil => rfl | cons a l => simp at hzl
    subst hz0
    have same : ∀ {a : Option Addr} {len cap : Nat}, ys = .slice a len cap → len ≤ cap → some (s, H) = some (r, H') → ∃ y w', (Builtin.append_ #[st, xt] type #[ys, yx]).run C.P M.w = .ok y w' ∧ Post M base im0 ver nv' r H' y w' := by
     intro a len cap hys hle he
     simp only [Option.some.injEq, Prod.mk.injEq] at he
     obtain ⟨rfl, rfl⟩ := he
     subst hys
     refine ⟨.slice a len cap, M.w, ?_, Post.same hs hv.le hs0⟩
     rw [fits (by simpa using hle)]
     cases a <;> simp [flat, storeCells]
    split at h
    ·unfold Rep at hs0; exact same hs0 (Nat.le_refl _) h
    ·have hs1 := hs0; unfold Rep at hs1; obtain ⟨ao, cap, l, hy, hc, _⟩ := hs1; exact same hy hc h
    ·have hs1 := hs0; unfold Rep at hs1; obtain ⟨b, ct, o, hm, hc, hy, _⟩ := hs1; exact same hy (by omega) h
    ·cases h
   ·rename_i x0 xs0
    -- a new row
    have fresh : ∀ {H0 : Tr Ent} {es : List AV} {l : List Value} {a : Option Addr} {cap : Nat}, SimH M base im0 nv H0 → RepL M es l → Sized sz l → ys = .slice a es.length cap → cap < es.length + (x0 :: xs0).length →
      (∀ w : World, w.heap = M.w.heap → (Builtin.firstCells sz es.length (.slice a es.length cap)).run C.P w = .ok (flat l).toArray w) →
      (bif Nat.ble ((es ++ x0 :: xs0).length * by_) 35184372088832 && Nat.ble (es ++ x0 :: xs0).length 35184372088832 && !Nat.beq by_ 0 then
       some (AV.sl key ver sz 0 (es ++ x0 :: xs0).length, H0.set key { ver := ver, fz := false, blk := .arr sz (es ++ x0 :: xs0) false }) else none) = some (r, H') →
      ∃ y w', (Builtin.append_ #[st, xt] type #[ys, yx]).run C.P M.w = .ok y w' ∧ Post M base im0 ver nv' r H' y w' := by
     intro H0 es l a cap hs1 hes hsl hys hcap hold he
     cases b1 : Nat.ble ((es ++ x0 :: xs0).length * by_) 35184372088832 with
     | false => rw [b1] at he; simp only [Bool.false_and, cond_false] at he; cases he
     | true =>
     cases b2 : Nat.ble (es ++ x0 :: xs0).length 35184372088832 with
     | false => rw [b1, b2] at he; simp only [Bool.and_false, Bool.false_and, cond_false] at he; cases he
     | true =>
     cases b3 : Nat.beq by_ 0 with
     | true => rw [b1, b2, b3] at he; simp only [Bool.not_true, Bool.and_false, cond_false] at he; cases he
     | false =>
     simp only [b1, b2, b3, Bool.and_self, Bool.not_false, cond_true, Option.some.injEq, Prod.mk.injEq] at he
     obtain ⟨rfl, rfl⟩ := he
     have b1 := Nat.le_of_ble_eq_true b1
     have b2 := Nat.le_of_ble_eq_true b2
     have b3 : by_ ≠ 0 := fun e0 => by rw [e0] at b3; cases b3
     rw [List.length_append] at b1 b2
     subst hys
     obtain ⟨nc, hnc, hrun⟩ := append_grows (type := type) ok hst hd hte rfl hxt c1 (hlen M.w) (hnews M.w.drew rfl) (hold M.w.drew rfl) hcap b1 b2 b3
     exact ⟨_, _, hrun, fresh_sound hs1 hv hes hzs hsl szz c3 hnc⟩
    split at h
    ·-- nil
     unfold Rep at hs0; subst hs0
     exact fresh (es := []) (l := []) hs (by simp) (fun y hy => by simp at hy) rfl (by simp) (fun w _ => by simp [Builtin.firstCells, flat]) (by simpa using h)
    ·-- a slice that is never written again
     rename_i sz' es
     cases d1 : Nat.beq sz sz' with
     | false => simp [d1] at h
     | true =>
     simp only [d1, cond_true] at h
     have d1 := Nat.eq_of_beq_eq_true d1; subst d1
     unfold Rep at hs0
     obtain ⟨ao, cap, l, rfl, hcap, hr, hsd, hrow, hex⟩ := hs0
     have hcap := hex rfl; subst hcap
     rcases hrow with ⟨b, o, rfl, hrow⟩ | e
     rotate_left
     ·have h0 : es = [] := List.length_eq_zero_iff.1 e
      subst h0
      rw [RepL.nil_iff] at hr; subst hr
      exact fresh (es := []) (l := []) hs (by simp) (fun y hy => by simp at hy) rfl (by simp) (fun w _ => by cases ao <;> simp [Builtin.firstCells, loadCells, loadCellsFrom, flat]) (by simpa using h)
     refine fresh (es := es) (l := l) hs (hr.mono (Mem.bare_le M)) hsd rfl (by simp) (fun w hw => ?_) h
     have := firstCells_row (P := C.P) (w := w) (n := es.length) (len := es.length) (cap := es.length) hsd (by rw [hr.length]; exact Nat.le_refl _) (fun i x hx => by rw [cell?_of_heap (w := M.w) (by rw [hw])]; exact (hrow i x hx).2)
     rwa [List.take_of_length_le (by rw [hr.length]; exact Nat.le_refl _)] at this
    ·-- a slice of one's own
     rename_i k rr sz' lo len
     split at h
     ·rename_i ver' fz sz'' es ex hl
      cases d1 : (Nat.beq sz sz' && Nat.beq sz sz'') with
      | false => simp [d1] at h
      | true =>
      simp only [d1, Bool.not_true, cond_false] at h
      simp only [Bool.and_eq_true] at d1
      have e1 := Nat.eq_of_beq_eq_true d1.1; subst e1
      have e2 := Nat.eq_of_beq_eq_true d1.2; subst e2
      obtain ⟨hk, hvv⟩ := live_some hl
      simp only at hvv; subst hvv
      obtain ⟨b, ct, hE⟩ := hs.ent _ _ hk
      obtain ⟨arr, ty, yl, hb, hrep, hsd, has, hlen2, hex, htk⟩ := hE.blk
      have hs1 := hs0
      unfold Rep at hs1
      obtain ⟨b', ct', o, hm, hct, rfl, ho⟩ := hs1
      obtain ⟨rfl, rfl⟩ := mu_eq hE.mu hm
      have hyl := hrep.length
      -- what is read of the old elements
      have hold : lo + len ≤ es.length → ∀ w : World, w.heap = M.w.heap → (Builtin.firstCells sz len (.slice (some ⟨b, o, none⟩) len (ct - lo))).run C.P w = .ok (flat ((yl.drop lo).take len)).toArray w := by
       intro hle w hw
       by_cases hl0 : len = 0
       ·subst hl0; simp [Builtin.firstCells, loadCells, loadCellsFrom, flat]
       ·have := firstCells_row (P := C.P) (w := w) (b := b) (o := o) (n := len) (len := len) (cap := ct - lo) (ys := yl.drop lo) (hsd.sub fun x hx => List.mem_of_mem_drop hx) (by simp; omega) (fun i x hx => by
         rw [ho (by omega), cell?_of_heap (w := M.w) (by rw [hw]), cell_of_heap hb]
         rw [← flat_drop hsd, ← htk, List.getElem?_drop, List.getElem?_take] at hx
         split at hx
         ·exact hx
         ·cases hx)
        exact this
      cases d2 : Nat.beq (lo + len) es.length with
      | true =>
       simp only [d2, cond_true] at h
       have d2 := Nat.eq_of_beq_eq_true d2
       cases ex with
       | true =>
        simp only [cond_true] at h
        have hexx := hex rfl
        have hdl : (es.drop lo).length = len := by simp; omega
        have hh := hold (by omega)
        have hdt : (yl.drop lo).take len = yl.drop lo := List.take_of_length_le (by simp; omega)
        rw [hdt] at hh
        exact fresh (es := es.drop lo) (l := yl.drop lo) (cap := ct - lo) (a := some ⟨b, o, none⟩) hs (hrep.drop lo) (hsd.sub fun x hx => List.mem_of_mem_drop hx) (by rw [hdl]) (by rw [hdl]; simp; omega) (by rw [hdl]; exact hh) h
       | false =>
        simp only [cond_false] at h
        cases fz with
        | true => simp at h
        | false =>
        simp only [cond_false] at h
        cases d3 : Nat.beq lo 0 with
        | false => simp [d3] at h
        | true =>
        simp only [d3, cond_true] at h
        have d3 := Nat.eq_of_beq_eq_true d3; subst d3
        simp only [Nat.zero_add] at d2
        subst d2
        simp only [Nat.sub_zero]
        by_cases hfit : es.length + (x0 :: xs0).length ≤ ct
        ·-- in place
         cases b1 : Nat.ble ((es ++ x0 :: xs0).length * by_) 35184372088832 with
         | false => rw [b1] at h; simp only [Bool.false_and, cond_false] at h; cases h
         | true =>
         cases b2 : Nat.ble (es ++ x0 :: xs0).length 35184372088832 with
         | false => rw [b1, b2] at h; simp only [Bool.and_false, Bool.false_and, cond_false] at h; cases h
         | true =>
         cases b3 : Nat.beq by_ 0 with
         | true => rw [b1, b2, b3] at h; simp only [Bool.not_true, Bool.and_false, cond_false] at h; cases h
         | false =>
         simp only [b1, b2, b3, Bool.and_self, Bool.not_false, cond_true, Option.some.injEq, Prod.mk.injEq] at h
         obtain ⟨rfl, rfl⟩ := h
         have ho0 : o = 0 := by rw [ho (by simp at hfit; omega)]; simp
         subst ho0
         have hone := flat_one c2 hzs
         have hfl := flat_length szz
         have hszl : (es.length + zs.length) * sz ≤ arr.size := by rw [has]; exact Nat.mul_le_mul_right _ (by rw [hzl]; exact hfit)
         have hrun := store_run (P := C.P) (o := es.length * sz) hb (m := flat zs) (by rw [hfl, ← Nat.add_mul]; exact hszl) hone
         obtain ⟨q1, q2, q3, q4, q5, q6⟩ := setRow_write (arr' := (arr.toList.take (es.length * sz) ++ flat zs ++ arr.toList.drop (es.length * sz + (flat zs).length)).toArray) hb
         obtain ⟨w1, w2, w3, w4⟩ := hs.dropWrite hk hE rfl q1 q2 q3 q4 q5
         have hlay := lay_flat hsd szz (arr := arr.toList) (by rw [hyl]; exact htk) (j := es.length) (by omega) (by simpa using hszl) (es.length + zs.length) (by omega)
         have htd : yl.take es.length ++ zs ++ yl.drop (es.length + zs.length) = yl ++ zs := by
          rw [List.take_of_length_le (by omega), List.drop_of_length_le (by omega), List.append_nil]
         rw [htd] at hlay
         obtain ⟨M2, r1, r2, r5, r3, r4⟩ := w2.rename (ver := ver) ⟨hv.free, hv.le, hv.lt⟩ (key := key) (b := b) (ct := ct) (bl := .arr sz (es ++ x0 :: xs0) false) (fun k' e' ct' h1 _ h2 => w4 k' e' ct' h1 h2)
          ⟨_, ty, yl ++ zs, q6, (hrep.mono w1).append (hzs.mono w1), Sized.append.2 ⟨hsd, szz⟩, by
           rw [← has]
           simp only [List.size_toArray, List.length_append, List.length_take, List.length_drop, Array.length_toList, hfl]
           rw [Nat.add_mul] at hszl
           omega, by simpa using hfit, fun hx => (by cases hx), by
           rw [List.length_append, ← hzl]; simpa using hlay⟩ hE.base (hE.own rfl)
         refine ⟨.slice (some ⟨b, 0, none⟩) (es.length + (x0 :: xs0).length) ct, _, ?_, ⟨⟨M2, r1, Mem.le_trans w1 r2, r5, ?_, r4⟩, w3⟩⟩
         ·rw [fits hfit]
          simp only [Sem.run_bind, add_lit, Nat.zero_add, hrun, Result.andThen_ok, Sem.run_pure]
         ·unfold Rep
          exact ⟨b, ct, 0, r3, by simpa using hfit, by simp, fun _ => by simp⟩
        ·refine fresh (es := es) (l := yl) (cap := ct) (a := some ⟨b, o, none⟩) (hs.del k) hrep hsd (by simp) (by omega) (fun w hw => ?_) h
         have := hold (by omega) w hw
         rwa [List.drop_zero, List.take_of_length_le (by omega), Nat.sub_zero] at this
      | false =>
       simp only [d2, cond_false] at h
       cases fz with
       | true => simp at h
       | false =>
       simp only [cond_false] at h
       cases d4 : Nat.ble (lo + len + (x0 :: xs0).length) es.length with
       | false => rw [d4] at h; simp only [cond_false] at h; cases h
       | true =>
       simp only [d4, cond_true, Option.some.injEq, Prod.mk.injEq] at h
       obtain ⟨rfl, rfl⟩ := h
       have d4 := Nat.le_of_ble_eq_true d4
       have hfit : len + (x0 :: xs0).length ≤ ct - lo := by omega
       have hpos : 0 < (x0 :: xs0).length := by simp
       have hoo := ho (by omega)
       subst hoo
       have hone := flat_one c2 hzs
       have hfl := flat_length szz
       have hszl : ((lo + len) + zs.length) * sz ≤ arr.size := by rw [has]; exact Nat.mul_le_mul_right _ (by omega)
       have hrun := store_run (P := C.P) (o := (lo + len) * sz) hb (m := flat zs) (by rw [hfl, ← Nat.add_mul]; exact hszl) hone
       obtain ⟨q1, q2, q3, q4, q5, q6⟩ := setRow_write (arr' := (arr.toList.take ((lo + len) * sz) ++ flat zs ++ arr.toList.drop ((lo + len) * sz + (flat zs).length)).toArray) hb
       have hlay := lay_flat hsd szz (arr := arr.toList) (by rw [hyl]; exact htk) (j := lo + len) (by omega) (by simpa using hszl) es.length (by omega)
       have hsplen : (splice es (lo + len) (x0 :: xs0)).length = es.length := by
        simp only [splice, List.length_append, List.length_take, List.length_drop]; omega
       have hW := hs.write hk hE rfl q1 q2 q3 q4 q5 (.arr sz (splice es (lo + len) (x0 :: xs0)) ex) (fun hle => ⟨_, ty, _, q6, (RepL.splice (lo + len) (hrep.mono hle) (hzs.mono hle)), by
         rw [Sized.append, Sized.append]
         exact ⟨⟨hsd.sub fun x hx => List.mem_of_mem_take hx, szz⟩, hsd.sub fun x hx => List.mem_of_mem_drop hx⟩, by
         rw [← has]
         simp only [List.size_toArray, List.length_append, List.length_take, List.length_drop, Array.length_toList, hfl]
         rw [Nat.add_mul] at hszl
         omega, by rw [hsplen]; exact hlen2, by rw [hsplen]; exact hex, by rw [hsplen]; simpa using hlay⟩)
       refine ⟨.slice (some ⟨b, lo * sz, none⟩) (len + (x0 :: xs0).length) (ct - lo), _, ?_, ⟨⟨_, rfl, hW.1, fun _ _ => rfl, ?_, hW.2.1.nv_le hv.le⟩, hW.2.2⟩⟩
       ·rw [fits hfit]
        simp only [Sem.run_bind, add_lit, ← Nat.add_mul, hrun, Result.andThen_ok, Sem.run_pure]
       ·unfold Rep
        exact ⟨b, ct, lo * sz, hm, by omega, rfl, fun _ => rfl⟩
     ·cases h
    ·cases h
  ·cases h
 ·cases h
end
end Go.Vm

namespace Go.Vm
open Go.RowKit (Below)
section
variable {M : Mem} {base : Nat} {im0 : Nat → Prop} {nv : Nat} {H : Tr Ent}
theorem lay_sound {C : Cx} {k sz lo _len b ct _o : Nat} {r ver nv' : Nat} {es xs : List AV} {ex : Bool} {zs : List Value} (hs : SimH M base im0 nv H) (hk : H.get k = some { ver := r, fz := false, blk := .arr sz es ex })
  (hE : EntIs M base { ver := r, fz := false, blk := .arr sz es ex } b ct) (hzs : RepL M xs zs) (ha : allSz sz xs = true) (hle : lo + xs.length ≤ es.length) (hv : VerOk M nv ver nv') :
  ∃ w', (storeCells ⟨b, lo * sz, none⟩ (flat zs)).run C.P M.w = .ok () w' ∧ M.le { M with w := w' } ∧ SimH { M with w := w' } base im0 nv' (H.set k { ver := r, fz := false, blk := .arr sz (splice es lo xs) ex }) ∧ Below base M.w w' := by
 obtain ⟨arr, ty, ys, hb, hrep, hsd, has, hlen, hex, htk⟩ := hE.blk
 have hyl := hrep.length
 have hzl := hzs.length
 have szz := allSz_sized ha hzs
 have hone := flat_one ha hzs
 have hfl := flat_length szz
 have hszl : (lo + zs.length) * sz ≤ arr.size := by rw [has]; exact Nat.mul_le_mul_right _ (by omega)
 have hrun := store_run (P := C.P) (o := lo * sz) hb (m := flat zs) (by rw [hfl, ← Nat.add_mul]; exact hszl) hone
 obtain ⟨q1, q2, q3, q4, q5, q6⟩ := setRow_write (arr' := (arr.toList.take (lo * sz) ++ flat zs ++ arr.toList.drop (lo * sz + (flat zs).length)).toArray) hb
 have hlay := lay_flat hsd szz (arr := arr.toList) (by rw [hyl]; exact htk) (j := lo) (by omega) (by simpa using hszl) es.length (by omega)
 have hsplen : (splice es lo xs).length = es.length := by
  simp only [splice, List.length_append, List.length_take, List.length_drop]; omega
 have hW := hs.write hk hE rfl q1 q2 q3 q4 q5 (.arr sz (splice es lo xs) ex) (fun hle => ⟨_, ty, _, q6, (RepL.splice lo (hrep.mono hle) (hzs.mono hle)), by
   rw [Sized.append, Sized.append]
   exact ⟨⟨hsd.sub fun x hx => List.mem_of_mem_take hx, szz⟩, hsd.sub fun x hx => List.mem_of_mem_drop hx⟩, by
   rw [← has]
   simp only [List.size_toArray, List.length_append, List.length_take, List.length_drop, Array.length_toList, hfl]
   rw [Nat.add_mul] at hszl
   omega, by rw [hsplen]; exact hlen, by rw [hsplen]; exact hex, by rw [hsplen]; simpa using hlay⟩)
 exact ⟨_, hrun, hW.1, hW.2.1.nv_le hv.le, hW.2.2⟩
theorem gI_rep (n : Nat) : Rep M (gI n) (goInt n) := Rep.v_self
theorem acopy_sound {C : Cx} (ok : TyOk C) {argTypes : List TypeId} {type : TypeId} {ver nv' : Nat} {d x r : AV} {H' : Tr Ent} {yd yx : Value} (h : acopy C H argTypes d x = some (r, H')) (hd : Rep M d yd) (hx : Rep M x yx)
    (hs : SimH M base im0 nv H) (hv : VerOk M nv ver nv') : ∃ y w', (Builtin.copy_ argTypes.toArray type #[yd, yx]).run C.P M.w = .ok y w' ∧ Post M base im0 ver nv' r H' y w' := by
  unfold acopy at h
  split at h
  · rename_i st rest
    split at h
    · rename_i desc sz agg by_ zero xs hel hxs
      obtain ⟨e, ti, hst, hds, hte⟩ := elemTI_some ok hel
      have hu : ∀ w, (underlying st).run C.P w = .ok (.slice e) w := fun w => by have := ty_und ok hst w; rwa [hds] at this
      cases c1 : allSz sz xs with
      | false => simp [c1] at h
      | true =>
      simp only [c1, Bool.not_true, cond_false] at h
      obtain ⟨zs, hzs, szz, hlen, hfc⟩ := elemsOf_sound (P := C.P) hxs c1 hx hs
      have run : ∀ {a : Option Addr} {len cap : Nat}, (Builtin.copy_ (st :: rest).toArray type #[.slice a len cap, yx]).run C.P M.w =
          (do (if let some a := a then storeCells a (flat (zs.take (Nat.min xs.length len))) else pure ()); pure (goInt (Nat.min xs.length len)) : Sem Value).run C.P M.w := by
        intro a len cap
        have hmin : Nat.min xs.length len ≤ xs.length := Nat.min_le_left _ _
        simp only [Builtin.copy_, List.getElem?_toArray, List.getElem?_cons_zero, List.getElem?_cons_succ, Sem.run_bind, hu, Result.andThen_ok, hlen, ty_size ok hte, hfc _ hmin M.w rfl]
        cases a <;> simp
      have nothing : ∀ {a : Option Addr} {cap : Nat}, yd = .slice a 0 cap → some (gI 0, H) = some (r, H') → ∃ y w', (Builtin.copy_ (st :: rest).toArray type #[yd, yx]).run C.P M.w = .ok y w' ∧ Post M base im0 ver nv' r H' y w' := by
        intro a cap hy he
        simp only [Option.some.injEq, Prod.mk.injEq] at he
        obtain ⟨rfl, rfl⟩ := he
        subst hy
        refine ⟨goInt 0, M.w, ?_, Post.same hs hv.le (gI_rep 0)⟩
        rw [run]
        have : Nat.min xs.length 0 = 0 := Nat.min_zero _
        rw [this]
        cases a <;> simp [flat, storeCells]
      split at h
      · unfold Rep at hd; exact nothing hd h
      · unfold Rep at hd; obtain ⟨ao, cap, l, hy, _⟩ := hd; exact nothing hy h
      · rename_i k rr sz' lo len
        split at h
        · rename_i ver' sz'' es ex hl
          cases d1 : Nat.beq sz sz' with
          | false => simp [d1] at h
          | true =>
          cases d2 : Nat.beq sz sz'' with
          | false => simp [d1, d2] at h
          | true =>
          cases d3 : Nat.ble (lo + len) es.length with
          | false => simp [d1, d2, d3] at h
          | true =>
          simp only [d1, d2, d3, Bool.and_self, cond_true, Option.some.injEq, Prod.mk.injEq] at h
          obtain ⟨rfl, rfl⟩ := h
          have e1 := Nat.eq_of_beq_eq_true d1; subst e1
          have e2 := Nat.eq_of_beq_eq_true d2; subst e2
          have d3 := Nat.le_of_ble_eq_true d3
          obtain ⟨hk, hvv⟩ := live_some hl
          simp only at hvv; subst hvv
          obtain ⟨b, ct, hE⟩ := hs.ent _ _ hk
          unfold Rep at hd
          obtain ⟨b', ct', o, hm, hct, rfl, ho⟩ := hd
          obtain ⟨rfl, rfl⟩ := mu_eq hE.mu hm
          have hmin : Nat.min xs.length len ≤ len := Nat.min_le_right _ _
          have hall : allSz sz (xs.take (Nat.min xs.length len)) = true := by
            unfold allSz at c1 ⊢
            rw [List.all_eq_true] at c1 ⊢
            exact fun a ha => c1 a (List.mem_of_mem_take ha)
          obtain ⟨w', q1, q2, q3, q4⟩ := lay_sound (C := C) (lo := lo) (_o := 0) (_len := 0) hs hk hE (hzs.take (Nat.min xs.length len)) hall (by simp only [List.length_take]; omega) hv
          by_cases hl0 : lo < ct
          · rw [ho hl0]
            refine ⟨_, w', ?_, ⟨⟨_, rfl, q2, fun _ _ => rfl, gI_rep _, q3⟩, q4⟩⟩
            rw [run]
            simp only [Sem.run_bind, q1, Result.andThen_ok, Sem.run_pure]
          · have hlen0 : len = 0 := by omega
            subst hlen0
            have hz : Nat.min xs.length 0 = 0 := Nat.min_zero _
            rw [hz] at q1 q3 ⊢
            simp only [List.take_zero, flat, List.flatMap_nil, storeCells, Sem.run_pure, Result.ok.injEq, true_and] at q1
            subst q1
            refine ⟨goInt 0, M.w, ?_, ⟨⟨_, rfl, q2, fun _ _ => rfl, gI_rep _, q3⟩, q4⟩⟩
            rw [run, hz]
            simp [flat, storeCells]
        · cases h
      · cases h
    · cases h
  · cases h
theorem aclear_sound {C : Cx} (ok : TyOk C) {argTypes : List TypeId} {type : TypeId} {ver nv' : Nat} {x : AV} {H' : Tr Ent} {yx : Value} (h : aclear C H argTypes x = some H') (hx : Rep M x yx)
  (hs : SimH M base im0 nv H) (hv : VerOk M nv ver nv') : ∃ w', (Builtin.clear_ argTypes.toArray type #[yx]).run C.P M.w = .ok (.tuple #[]) w' ∧ Post M base im0 ver nv' (.v (.tuple #[])) H' (.tuple #[]) w' := by
 unfold aclear at h
 split at h
 ·rename_i t
  cases hti : C.ty t with
  | none => simp [hti] at h
  | some ti =>
  have hu := ty_und ok hti M.w
  simp only [hti] at h
  split at h
  ·simp only [Option.some.injEq] at h; subst h
   unfold Rep at hx; subst hx
   refine ⟨M.w, ?_, Post.same hs hv.le Rep.v_self⟩
   simp only [Builtin.clear_, List.getElem?_toArray, List.getElem?_cons_zero, Sem.run_bind, hu, Result.andThen_ok, Sem.run_pure]
  ·simp only [Option.some.injEq] at h; subst h
   unfold Rep at hx; subst hx
   refine ⟨M.w, ?_, Post.same hs hv.le Rep.v_self⟩
   simp only [Builtin.clear_, List.getElem?_toArray, List.getElem?_cons_zero, Sem.run_bind, hu, Result.andThen_ok, Sem.run_pure]
  ·simp only [Option.some.injEq] at h; subst h
   unfold Rep at hx
   obtain ⟨ao, cap, l, rfl, _⟩ := hx
   refine ⟨M.w, ?_, Post.same hs hv.le Rep.v_self⟩
   cases ao <;> simp only [Builtin.clear_, List.getElem?_toArray, List.getElem?_cons_zero, Sem.run_bind, hu, Result.andThen_ok, Sem.run_pure, List.length_nil]
  ·rename_i k rr
   split at h
   ·rename_i ver' ks vs hl
    simp only [Option.some.injEq] at h; subst h
    obtain ⟨hk, hvv⟩ := live_some hl
    simp only at hvv; subst hvv
    obtain ⟨b, ct, hE⟩ := hs.ent _ _ hk
    obtain ⟨es, clock, hb, hks, hvs⟩ := hE.blk
    unfold Rep at hx
    obtain ⟨b', ct', hm, rfl⟩ := hx
    obtain ⟨rfl, rfl⟩ := mu_eq hE.mu hm
    have hg : (getObj b).run C.P M.w = .ok (.map es clock) M.w := by simp [getObj, Sem.run, hb]
    have hset : ∀ o', (setObj b o').run C.P M.w = .ok () { M.w with heap := M.w.heap.setIfInBounds b o' } := fun o' => by simp [setObj, Sem.run, hb]
    obtain ⟨s1, s2, s3⟩ := setObj_write (o' := .map #[] clock) hb
    have hW := hs.write hk hE rfl s1 rfl rfl rfl s2 (.map [] []) (fun hle => ⟨_, _, s3, by simp, by simp⟩)
    refine ⟨_, ?_, ⟨⟨_, rfl, hW.1, fun _ _ => rfl, Rep.v_self, hW.2.1.nv_le hv.le⟩, hW.2.2⟩⟩
    simp only [Builtin.clear_, List.getElem?_toArray, List.getElem?_cons_zero, Sem.run_bind, hu, Result.andThen_ok, Sem.run_pure, hg, hset]
   ·cases h
  ·rename_i k rr sz lo len
   split at h
   ·rename_i desc sz1 agg by_ z ver' sz' es ex hel hl
    obtain ⟨e, ti', hst, hds, hte⟩ := elemTI_some ok hel
    have hu2 : (underlying t).run C.P M.w = .ok (.slice e) M.w := by have := ty_und ok hst M.w; rwa [hds] at this
    cases d1 : Nat.beq sz sz' with
    | false => simp [d1] at h
    | true =>
    cases d2 : Nat.beq sz sz1 with
    | false => simp [d1, d2] at h
    | true =>
    cases d3 : Nat.beq z.cells.size sz with
    | false => simp [d1, d2, d3] at h
    | true =>
    cases d4 : Nat.ble (lo + len) es.length with
    | false => simp [d1, d2, d3, d4] at h
    | true =>
    cases d5 : allSz sz (List.replicate len (ofV z)) with
    | false => simp [d1, d2, d3, d4, d5] at h
    | true =>
    simp only [d1, d2, d3, d4, d5, Bool.and_self, cond_true, Option.some.injEq] at h; subst h
    have e1 := Nat.eq_of_beq_eq_true d1; subst e1
    have e2 := Nat.eq_of_beq_eq_true d2; subst e2
    have e3 := Nat.eq_of_beq_eq_true d3
    have d4 := Nat.le_of_ble_eq_true d4
    obtain ⟨hk, hvv⟩ := live_some hl
    simp only at hvv; subst hvv
    obtain ⟨b, ct, hE⟩ := hs.ent _ _ hk
    unfold Rep at hx
    obtain ⟨b', ct', o, hm, hct, rfl, ho⟩ := hx
    obtain ⟨rfl, rfl⟩ := mu_eq hE.mu hm
    obtain ⟨w', q1, q2, q3, q4⟩ := lay_sound (C := C) (lo := lo) (_o := 0) (_len := 0) hs hk hE (RepL.replicate (ofV_rep z) len) d5 (by simp; omega) hv
    have hzc : (Builtin.zeroCells z.cells len).toList = flat (List.replicate len z) := by
     unfold Builtin.zeroCells; rw [zeros_flat]
    cases len with
    | zero =>
     simp only [List.replicate_zero, flat, List.flatMap_nil, storeCells, Sem.run_pure, Result.ok.injEq, true_and] at q1
     subst q1
     refine ⟨M.w, ?_, ⟨⟨_, rfl, q2, fun _ _ => rfl, Rep.v_self, q3⟩, q4⟩⟩
     simp only [Builtin.clear_, List.getElem?_toArray, List.getElem?_cons_zero, Sem.run_bind, hu2, Result.andThen_ok, Sem.run_pure]
    | succ len =>
     rw [ho (by omega)]
     refine ⟨w', ?_, ⟨⟨_, rfl, q2, fun _ _ => rfl, Rep.v_self, q3⟩, q4⟩⟩
     simp only [Builtin.clear_, List.getElem?_toArray, List.getElem?_cons_zero, Sem.run_bind, hu2, Result.andThen_ok, Sem.run_pure, ty_zero ok hte rfl, hzc, q1]
   ·cases h
  ·cases h
 ·cases h
theorem amakeSlice_sound {C : Cx} (ok : TyOk C) {t : TypeId} {key ver nv' : Nat} {l c r : AV} {H' : Tr Ent} {yl yc : Value} (h : amakeSlice C H key ver t l c = some (r, H')) (hl : Rep M l yl) (hc : Rep M c yc)
  (hs : SimH M base im0 nv H) (hv : VerOk M nv ver nv') : ∃ y w', (Instr.makeSlice t yl yc).run C.P M.w = .ok y w' ∧ Post M base im0 ver nv' r H' y w' := by
 unfold amakeSlice at h
 split at h
 ·rename_i desc sz agg by_ z ln cp hel hln hcp
  obtain ⟨e, ti, hst, hds, hte⟩ := elemTI_some ok hel
  have hu : ∀ w, (underlying t).run C.P w = .ok (.slice e) w := fun w => by have := ty_und ok hst w; rwa [hds] at this
  cases c1 : Nat.ble ln cp with
  | false => simp [c1] at h
  | true =>
  cases c2 : Nat.ble (cp * by_) 35184372088832 with
  | false => simp [c1, c2] at h
  | true =>
  cases c3 : Nat.ble cp 35184372088832 with
  | false => simp [c1, c2, c3] at h
  | true =>
  cases c4 : Nat.beq z.cells.size sz with
  | false => simp [c1, c2, c3, c4] at h
  | true =>
  cases c5 : Nat.beq sz 0 with
  | true => simp [c1, c2, c3, c4, c5] at h
  | false =>
  simp only [c1, c2, c3, c4, c5, Bool.and_self, Bool.not_false, cond_true, Option.some.injEq, Prod.mk.injEq] at h
  obtain ⟨rfl, rfl⟩ := h
  have c1 := Nat.le_of_ble_eq_true c1
  have c2 := Nat.le_of_ble_eq_true c2
  have c3 := Nat.le_of_ble_eq_true c3
  have c4 := Nat.eq_of_beq_eq_true c4
  have c5 : sz ≠ 0 := fun e0 => by rw [e0] at c5; cases c5
  subst c4
  obtain ⟨k1, rfl⟩ := asN_rep hln hl
  obtain ⟨k2, rfl⟩ := asN_rep hcp hc
  obtain ⟨i, hi, hib, his⟩ := ty_info ok hte M.w
  have w1 : IntKind.i64.wrap (ln : Int) = ln := by unfold IntKind.wrap IntKind.signed IntKind.bits; simp; omega
  have w2 : IntKind.i64.wrap (cp : Int) = cp := by unfold IntKind.wrap IntKind.signed IntKind.bits; simp; omega
  have hbytes : ¬ ((by_ : Int) * (cp : Int) > 2 ^ 48) := by
   have : ((by_ * cp : Nat) : Int) ≤ 35184372088832 := by rw [Nat.mul_comm]; omega
   push_cast at this; omega
  have hz := zeros_flat z cp
  refine ⟨.slice (some ⟨M.w.heap.size, 0, none⟩) ln cp, M.w.alloc (.cells ((Array.range (cp * z.cells.size)).map (fun i => z.cells[i % z.cells.size]!)) e), ?_, ?_⟩
  ·simp only [Instr.makeSlice, Sem.run_bind, hu, Result.andThen_ok, asInt, asIntOf, Sem.run_pure, hi, hib, w1, w2]
   rw [if_neg (by
    simp only [Bool.or_eq_true, decide_eq_true_eq]
    omega)]
   simp only [Result.andThen_ok, Sem.run_bind, run_askRoom, ty_size ok hte, Int.toNat_natCast]
   by_cases h0 : cp * z.cells.size = 0
   ·simp only [h0, if_true, Sem.run_bind, Sem.run_pure, Result.andThen_ok, newRow, run_newObj, World.alloc_eq]
    have hempty : ∀ f g : Nat → Value, (Array.range 0).map f = (Array.range 0).map g := fun f g => by simp
    simp only [hempty _ (fun i => z.cells[i % z.cells.size]!)]
   ·simp only [h0, if_false, Sem.run_bind, ty_zero ok hte rfl, Sem.run_pure, Result.andThen_ok, newRow, run_newObj, World.alloc_eq]
  ·refine post_alloc (ct := cp) hs hv _ _ _ _ (fun M' hle hb => ?_) (fun M' hle hmu => ?_)
   ·refine ⟨_, e, List.replicate cp z, hb, RepL.replicate (ofV_rep z) cp, fun y hy => by rw [List.eq_of_mem_replicate hy], by simp, by simp, fun _ => by simp, ?_⟩
    rw [hz]
    apply List.take_of_length_le
    rw [flat_length (sz := z.cells.size) (fun y hy => by rw [List.eq_of_mem_replicate hy])]
    simp
   ·unfold Rep
    exact ⟨_, cp, 0, hmu, by omega, by simp, fun _ => by simp⟩
 ·cases h
end
end Go.Vm

namespace Go.Vm
open Go.RowKit (Below)
section
variable {M : Mem} {base : Nat} {im0 : Nat → Prop} {nv : Nat} {H : Tr Ent}
def Brings (P : Program) (s : Sem Next) (w : World) (y : Value) (w' : World) : Prop :=
 s.run P w = .ok (.value y) w' ∨ (y = undef ∧ s.run P w = .ok .skip w')
theorem brings_v {P : Program} {s : Sem Value} {w w' : World} {y : Value} (h : s.run P w = .ok y w') : Brings P (do pure (.value (← s))) w y w' :=
  .inl (by simp only [Sem.run_bind, h, Result.andThen_ok, Sem.run_pure])
theorem brings_u {P : Program} {s : Sem Unit} {w w' : World} (h : s.run P w = .ok () w') : Brings P (do s; pure .skip) w undef w' :=
  .inr ⟨rfl, by simp only [Sem.run_bind, h, Result.andThen_ok, Sem.run_pure]⟩
theorem alen_sound {C : Cx} (ok : TyOk C) {argTypes : List TypeId} {type : TypeId} {x r : AV} {y : Value} (h : alen C H argTypes x = some r) (hx : Rep M x y) (hs : SimH M base im0 nv H) :
  ∃ z, (Builtin.len_ argTypes.toArray type #[y]).run C.P M.w = .ok z M.w ∧ Rep M r z := by
 unfold alen at h
 split at h
 ·rename_i t
  have hu : ∀ d, TI.dsc (C.ty t) = some d → (underlying t).run C.P M.w = .ok d M.w := by
   intro d hd
   unfold TI.dsc at hd; simp only [Option.map_eq_some_iff] at hd
   obtain ⟨ti, h1, rfl⟩ := hd
   exact ty_und ok h1 M.w
  have fin : ∀ {n : Nat} {d : TypeDesc}, TI.dsc (C.ty t) = some d → (match d, y with
    | .string, .string s => s.size = n | .array m _, _ => m = n | .slice _, .slice _ m _ => m = n | .map _ _, .map none => n = 0 | _, _ => False) → some (gI n) = some r →
    ∃ z, (Builtin.len_ [t].toArray type #[y]).run C.P M.w = .ok z M.w ∧ Rep M r z := by
   intro n d hd hm hr
   simp only [Option.some.injEq] at hr; subst hr
   have hu := hu d hd
   refine ⟨goInt n, ?_, gI_rep n⟩
   simp only [Builtin.len_, List.getElem?_toArray, List.getElem?_cons_zero, Sem.run_bind, hu, Result.andThen_ok]
   split at hm
   ·subst hm; rfl
   ·subst hm; rfl
   ·subst hm; rfl
   ·subst hm; rfl
   ·exact hm.elim
  split at h
  ·rename_i hd; unfold Rep at hx; subst hx; exact fin hd rfl h
  ·rename_i hd; unfold Rep at hx; subst hx; exact fin hd rfl h
  ·rename_i hd; unfold Rep at hx; obtain ⟨_, _, _, rfl, _⟩ := hx; exact fin hd rfl h
  ·rename_i hd; unfold Rep at hx; obtain ⟨_, _, _, _, _, rfl, _⟩ := hx; exact fin hd rfl h
  ·rename_i hd; unfold Rep at hx; subst hx; exact fin hd rfl h
  ·rename_i ks vs k e hd
   simp only [Option.some.injEq] at h; subst h
   unfold Rep at hx; obtain ⟨b, es, clock, rfl, hi, hb, h1, h2⟩ := hx
   have hg : (getObj b).run C.P M.w = .ok (.map es clock) M.w := by simp [getObj, Sem.run, hb]
   refine ⟨goInt es.size, ?_, ?_⟩
   ·simp only [Builtin.len_, List.getElem?_toArray, List.getElem?_cons_zero, Sem.run_bind, hu _ hd, Result.andThen_ok, hg, Sem.run_pure]
   ·have := h1.length; simp at this; rw [this]; exact gI_rep _
  ·rename_i k rr kt et hd
   split at h
   ·rename_i ver fz ks vs hl
    simp only [Option.some.injEq] at h; subst h
    obtain ⟨hk, hvv⟩ := live_some hl
    simp only at hvv; subst hvv
    obtain ⟨b, ct, hE⟩ := hs.ent _ _ hk
    obtain ⟨es, clock, hb, h1, h2⟩ := hE.blk
    unfold Rep at hx
    obtain ⟨b', ct', hm, rfl⟩ := hx
    obtain ⟨rfl, rfl⟩ := mu_eq hE.mu hm
    have hg : (getObj b).run C.P M.w = .ok (.map es clock) M.w := by simp [getObj, Sem.run, hb]
    refine ⟨goInt es.size, ?_, ?_⟩
    ·simp only [Builtin.len_, List.getElem?_toArray, List.getElem?_cons_zero, Sem.run_bind, hu _ hd, Result.andThen_ok, hg, Sem.run_pure]
    ·have := h1.length; simp at this; rw [this]; exact gI_rep _
   ·cases h
  ·rename_i n e hd
   exact fin hd rfl h
  ·cases h
 ·cases h
theorem acap_sound {C : Cx} (ok : TyOk C) {argTypes : List TypeId} {type : TypeId} {x r : AV} {y : Value} (h : acap C H argTypes x = some r) (hx : Rep M x y) (hs : SimH M base im0 nv H) :
  ∃ z, (Builtin.cap_ argTypes.toArray type #[y]).run C.P M.w = .ok z M.w ∧ Rep M r z := by
 unfold acap at h
 split at h
 ·rename_i t
  have hu : ∀ d, TI.dsc (C.ty t) = some d → (underlying t).run C.P M.w = .ok d M.w := by
   intro d hd
   unfold TI.dsc at hd; simp only [Option.map_eq_some_iff] at hd
   obtain ⟨ti, h1, rfl⟩ := hd
   exact ty_und ok h1 M.w
  have fin : ∀ {n : Nat} {e : TypeId} {a : Option Addr} {l : Nat}, TI.dsc (C.ty t) = some (.slice e) → y = .slice a l n → some (gI n) = some r →
    ∃ z, (Builtin.cap_ [t].toArray type #[y]).run C.P M.w = .ok z M.w ∧ Rep M r z := by
   intro n e a l hd hm hr
   simp only [Option.some.injEq] at hr; subst hr; subst hm
   refine ⟨goInt n, ?_, gI_rep n⟩
   simp only [Builtin.cap_, List.getElem?_toArray, List.getElem?_cons_zero, Sem.run_bind, hu _ hd, Result.andThen_ok, Sem.run_pure]
  split at h
  ·rename_i hd; unfold Rep at hx; exact fin hd hx h
  ·rename_i hd; unfold Rep at hx; obtain ⟨_, cap, _, hy, _, _, _, _, hex⟩ := hx; rw [hex rfl] at hy; exact fin hd hy h
  ·rename_i k rr sz lo len e hd
   split at h
   ·rename_i ver fz sz' es hl
    obtain ⟨hk, hvv⟩ := live_some hl
    simp only at hvv; subst hvv
    obtain ⟨b, ct, hE⟩ := hs.ent _ _ hk
    obtain ⟨arr, ty, ys, hb, hrep, hsd, has, hlen, hex, htk⟩ := hE.blk
    unfold Rep at hx
    obtain ⟨b', ct', o, hm, hct, hy, ho⟩ := hx
    obtain ⟨rfl, rfl⟩ := mu_eq hE.mu hm
    rw [hex rfl] at h
    exact fin hd hy h
   ·cases h
  ·cases h
 ·cases h
def EvOk (M : Mem) (ev : Operand → AV) (ρ : Operand → Value) : Prop := ∀ x, Rep M (ev x) (ρ x)
theorem EvOk.list {ev : Operand → AV} {ρ : Operand → Value} (h : EvOk M ev ρ) : ∀ (l : List Operand), RepL M (l.map ev) (l.map ρ)
 | [] => by simp
 | x :: xs => by rw [List.map_cons, List.map_cons, RepL.cons_iff]; exact ⟨_, _, rfl, h x, h.list xs⟩
theorem EvOk.opt {ev : Operand → AV} {ρ : Operand → Value} (h : EvOk M ev ρ) : ∀ (o : Option Operand), RepO M (o.map ev) (o.map ρ)
 | none => trivial
 | some x => h x
theorem EvOk.parts {ev : Operand → AV} {ρ : Operand → Value} (h : EvOk M ev ρ) : ∀ (l : List (Nat × Operand)), RepP M (l.map fun (i, x) => (i, ev x)) (l.map fun (i, x) => (i, ρ x))
 | [] => .nil
 | (_i, x) :: xs => .cons (h x) (h.parts xs)
theorem abuiltin_sound {C : Cx} (ok : TyOk C) {b : Builtin} {argTypes : Array TypeId} {type : TypeId} {consts : Array Bool} {key ver nv' : Nat} {as : List AV} {ys : List Value} {r : AV} {H' : Tr Ent}
  (h : abuiltin C H key ver b argTypes.toList type as = some (r, H')) (ha : RepL M as ys) (hs : SimH M base im0 nv H) (hv : VerOk M nv ver nv') :
  ∃ y w', Brings C.P (builtin b argTypes type consts ys.toArray) M.w y w' ∧ Post M base im0 ver nv' r H' y w' ∧ (staysB b = true → H' = H ∧ w' = M.w ∧ Rep M r y) := by
 have one : ∀ {x : AV}, RepL M [x] ys → ∃ y, ys = [y] ∧ Rep M x y := by
  intro x hx
  rw [RepL.cons_iff] at hx
  obtain ⟨y, l, rfl, h1, h2⟩ := hx
  rw [RepL.nil_iff] at h2; subst h2
  exact ⟨y, rfl, h1⟩
 have two : ∀ {x u : AV}, RepL M [x, u] ys → ∃ y z, ys = [y, z] ∧ Rep M x y ∧ Rep M u z := by
  intro x u hx
  rw [RepL.cons_iff] at hx
  obtain ⟨y, l, rfl, h1, h2⟩ := hx
  rw [RepL.cons_iff] at h2
  obtain ⟨z, l, rfl, h2, h3⟩ := h2
  rw [RepL.nil_iff] at h3; subst h3
  exact ⟨y, z, rfl, h1, h2⟩
 have hat : argTypes.toList.toArray = argTypes := by simp
 unfold abuiltin at h
 split at h
 ·rename_i x
  obtain ⟨y, rfl, hx⟩ := one ha
  simp only [Option.map_eq_some_iff, Prod.mk.injEq] at h
  obtain ⟨r', hr, rfl, rfl⟩ := h
  obtain ⟨z, hz, hrz⟩ := alen_sound (type := type) ok hr hx hs
  rw [hat] at hz
  exact ⟨z, M.w, brings_v hz, Post.same hs hv.le hrz, fun _ => ⟨rfl, rfl, hrz⟩⟩
 ·rename_i x
  obtain ⟨y, rfl, hx⟩ := one ha
  simp only [Option.map_eq_some_iff, Prod.mk.injEq] at h
  obtain ⟨r', hr, rfl, rfl⟩ := h
  obtain ⟨z, hz, hrz⟩ := acap_sound (type := type) ok hr hx hs
  rw [hat] at hz
  exact ⟨z, M.w, brings_v hz, Post.same hs hv.le hrz, fun _ => ⟨rfl, rfl, hrz⟩⟩
 ·rename_i s x
  obtain ⟨y, z, rfl, h1, h2⟩ := two ha
  obtain ⟨q, w', h3, h4⟩ := aappend_sound (type := type) ok h h1 h2 hs hv
  rw [hat] at h3
  exact ⟨q, w', brings_v h3, h4, fun x => by cases x⟩
 ·rename_i s x
  obtain ⟨y, z, rfl, h1, h2⟩ := two ha
  obtain ⟨q, w', h3, h4⟩ := acopy_sound (type := type) ok h h1 h2 hs hv
  rw [hat] at h3
  exact ⟨q, w', brings_v h3, h4, fun x => by cases x⟩
 ·rename_i x
  obtain ⟨y, rfl, hx⟩ := one ha
  simp only [Option.map_eq_some_iff, Prod.mk.injEq] at h
  obtain ⟨H1, hr, rfl, rfl⟩ := h
  obtain ⟨w', h3, h4⟩ := aclear_sound (type := type) ok hr hx hs hv
  rw [hat] at h3
  exact ⟨_, w', brings_v h3, h4, fun x => by cases x⟩
 ·split at h
  ·rename_i vs hvs
   simp only [Option.map_eq_some_iff, Prod.mk.injEq] at h
   obtain ⟨r', hr, rfl, rfl⟩ := h
   have := toVL_rep hvs ha
   subst this
   obtain ⟨z, hz, hrz⟩ := pureOp_sound (M := M) hr M.w
   rw [hat] at hz
   exact ⟨z, M.w, brings_v hz, Post.same hs hv.le hrz, fun _ => ⟨rfl, rfl, hrz⟩⟩
  ·cases h
 ·split at h
  ·rename_i vs hvs
   simp only [Option.map_eq_some_iff, Prod.mk.injEq] at h
   obtain ⟨r', hr, rfl, rfl⟩ := h
   have := toVL_rep hvs ha
   subst this
   obtain ⟨z, hz, hrz⟩ := pureOp_sound (M := M) hr M.w
   rw [hat] at hz
   exact ⟨z, M.w, brings_v hz, Post.same hs hv.le hrz, fun _ => ⟨rfl, rfl, hrz⟩⟩
  ·cases h
 ·cases h
theorem nonNil_run {P : Program} {a : AV} {y : Value} (h : nonNil a = true) (hr : Rep M a y) (w : World) (o : Oper) (ρ : Operand → Value) (x : Operand) (ho : o.op = .nilCheck x) (hx : ρ x = y) : (execOp ρ o).run P w = .ok (.value y) w := by
 cases a <;> simp only [nonNil] at h <;> try (cases h; done)
 case ptr => unfold Rep at hr; obtain ⟨_, _, _, rfl⟩ := hr; simp [execOp, ho, hx]
 case eptr => unfold Rep at hr; obtain ⟨_, _, _, rfl⟩ := hr; simp [execOp, ho, hx]
 case sl => unfold Rep at hr; obtain ⟨_, _, _, _, _, rfl, _⟩ := hr; simp [execOp, ho, hx]
 case rptr => unfold Rep at hr; obtain ⟨_, _, _, rfl, _⟩ := hr; simp [execOp, ho, hx]
 case fn f a c =>
  cases f <;> simp only at h <;> try (cases h; done)
  unfold Rep at hr; obtain ⟨_, _, rfl, _⟩ := hr; simp [execOp, ho, hx]
theorem aop_sound {C : Cx} (ok : TyOk C) {o : Oper} {ev : Operand → AV} {ρ : Operand → Value} {key ver nv' : Nat} {r : AV} {H' : Tr Ent} (h : aop C ev H key ver o.type o.op = some (r, H')) (he : EvOk M ev ρ)
    (hs : SimH M base im0 nv H) (hv : VerOk M nv ver nv') : ∃ y w', Brings C.P (execOp ρ o) M.w y w' ∧ Post M base im0 ver nv' r H' y w' ∧ (stays o.op = true → H' = H ∧ w' = M.w ∧ Rep M r y) := by
  have same : ∀ {s : Sem Value} {r' : AV}, (∃ z, s.run C.P M.w = .ok z M.w ∧ Rep M r' z) → (execOp ρ o = do pure (.value (← s))) → (r', H) = (r, H') → ∃ y w', Brings C.P (execOp ρ o) M.w y w' ∧ Post M base im0 ver nv' r H' y w' ∧ (stays o.op = true → H' = H ∧ w' = M.w ∧ Rep M r y) := by
    intro s r' hz hex hrr
    simp only [Prod.mk.injEq] at hrr
    obtain ⟨rfl, rfl⟩ := hrr
    obtain ⟨z, hz, hr⟩ := hz
    exact ⟨z, M.w, by rw [hex]; exact brings_v hz, Post.same hs hv.le hr, fun _ => ⟨rfl, rfl, hr⟩⟩
  have pass : ∀ {s : Sem Value}, (∃ z w', s.run C.P M.w = .ok z w' ∧ Post M base im0 ver nv' r H' z w') → (execOp ρ o = do pure (.value (← s))) → stays o.op = false → ∃ y w', Brings C.P (execOp ρ o) M.w y w' ∧ Post M base im0 ver nv' r H' y w' ∧ (stays o.op = true → H' = H ∧ w' = M.w ∧ Rep M r y) := by
    intro s hz hex hns
    obtain ⟨z, w', hz, hp⟩ := hz
    exact ⟨z, w', by rw [hex]; exact brings_v hz, hp, fun x => by rw [hns] at x; cases x⟩
  unfold aop at h
  split at h
  · -- move, assign
    rename_i x ho
    simp only [Option.some.injEq, Prod.mk.injEq] at h
    obtain ⟨rfl, rfl⟩ := h
    exact ⟨ρ x, M.w, .inl (by unfold execOp; rw [ho]; rfl), Post.same hs hv.le (he x), fun _ => ⟨rfl, rfl, he x⟩⟩
  · rename_i x ho
    simp only [Option.some.injEq, Prod.mk.injEq] at h
    obtain ⟨rfl, rfl⟩ := h
    exact ⟨ρ x, M.w, .inl (by unfold execOp; rw [ho]; rfl), Post.same hs hv.le (he x), fun _ => ⟨rfl, rfl, he x⟩⟩
  · rename_i c a b ho
    simp only [Option.map_eq_some_iff, Prod.mk.injEq] at h
    obtain ⟨t, ht, rfl, rfl⟩ := h
    have := asB_rep ht (he c)
    have hrep : Rep M (bif t then ev a else ev b) (if t then ρ a else ρ b) := by cases t <;> simp [he a, he b]
    refine ⟨if t then ρ a else ρ b, M.w, .inl ?_, Post.same hs hv.le hrep, fun _ => ⟨rfl, rfl, hrep⟩⟩
    · unfold execOp; rw [ho]; simp only [this, asBool, Sem.run_bind, Sem.run_pure, Result.andThen_ok]
  · rename_i t ho
    split at h
    · rename_i desc size agg bytes z ht
      simp only [Option.some.injEq, Prod.mk.injEq] at h
      obtain ⟨rfl, rfl⟩ := h
      exact pass (alloc_sound ok ht rfl hs hv) (by unfold execOp; rw [ho]) (by rw [ho]; rfl)
    · cases h
  · rename_i t x ho
    simp only [Option.map_eq_some_iff, Prod.mk.injEq] at h
    obtain ⟨cs, hc, rfl, rfl⟩ := h
    exact pass (abox_sound hc (he x) hs hv) (by unfold execOp; rw [ho]) (by rw [ho]; rfl)
  · rename_i t parts ho
    simp only [Option.map_eq_some_iff] at h
    obtain ⟨r', hr, hh⟩ := h
    refine same (abuild_sound (qs := parts.map fun (i, x) => (i, ρ x)) ok hr (by simpa using he.parts parts.toList)) (by unfold execOp; rw [ho]) hh
  · rename_i t len parts ho
    refine pass (abuildSlice_sound (qs := parts.map fun (i, x) => (i, ρ x)) ok h (by simpa using he.parts parts.toList) hs hv) (by unfold execOp; rw [ho]) (by rw [ho]; rfl)
  · rename_i t a ho
    simp only [Option.map_eq_some_iff] at h
    obtain ⟨r', hr, hh⟩ := h
    exact same (aload_sound ok hr hs (he a)) (by unfold execOp; rw [ho]) hh
  · rename_i t a x ho
    simp only [Option.map_eq_some_iff, Prod.mk.injEq] at h
    obtain ⟨H1, hr, rfl, rfl⟩ := h
    obtain ⟨w', h1, h2, h3, h4⟩ := astore_sound ok hr hs (he a) (he x)
    exact ⟨undef, w', by unfold execOp; rw [ho]; exact brings_u h1, ⟨⟨_, rfl, h2, fun _ _ => rfl, Rep.v_self, h3.nv_le hv.le⟩, h4⟩, fun x => by rw [ho] at x; cases x⟩
  · rename_i x ho
    cases hn : nonNil (ev x) with
    | false => simp [hn] at h
    | true =>
    simp only [hn, cond_true, Option.some.injEq, Prod.mk.injEq] at h
    obtain ⟨rfl, rfl⟩ := h
    exact ⟨ρ x, M.w, .inl (nonNil_run hn (he x) M.w o ρ x ho rfl), Post.same hs hv.le (he x), fun _ => ⟨rfl, rfl, he x⟩⟩
  · rename_i bo t x y u ho
    simp only [Option.map_eq_some_iff] at h
    obtain ⟨r', hr, hh⟩ := h
    exact same (abin_sound ok hr (he x) (he y)) (by unfold execOp; rw [ho]) hh
  · rename_i u t x ho
    simp only [Option.bind_eq_some_iff, Option.map_eq_some_iff] at h
    obtain ⟨a, ha, r', hr, hh⟩ := h
    have := toV_rep ha (he x)
    subst this
    exact same (pureOp_sound hr M.w) (by unfold execOp; rw [ho]) hh
  · rename_i s d x ho
    simp only [Option.map_eq_some_iff] at h
    obtain ⟨r', hr, hh⟩ := h
    exact same (aconv_sound ok hr (he x)) (by unfold execOp; rw [ho]) hh
  · rename_i t x ho
    split at h
    · cases h
    · rename_i ti hni ht
      simp only [Option.some.injEq] at h
      refine same (s := Instr.makeInterface t (ρ x)) (r' := .ifc t (ev x)) ⟨.iface t (ρ x), ?_, by unfold Rep; exact ⟨_, rfl, he x⟩⟩ (by unfold execOp; rw [ho]) h
      have hu := ty_und ok ht M.w
      simp only [Instr.makeInterface, Sem.run_bind, hu, Result.andThen_ok]
      cases hd : ti.desc <;> first | rfl | skip
      obtain ⟨d, sz, ag, by_, ze⟩ := ti
      simp only at hd; subst hd; exact (hni _ _ _ _ _ rfl).elim
    · cases h
  · rename_i f first cap ho
    simp only [Option.some.injEq] at h
    refine same (s := Instr.makeFunc f (first.map ρ) (cap.map ρ)) (r' := .fn f (first.toList.map ev) (cap.toList.map ev)) ⟨.func f (first.map ρ) (cap.map ρ), rfl, ?_⟩ (by unfold execOp; rw [ho]) h
    unfold Rep
    refine ⟨first.toList.map ρ, cap.toList.map ρ, ?_, he.list _, he.list _⟩
    have e1 : first.map ρ = (first.toList.map ρ).toArray := Array.ext' (by simp)
    have e2 : cap.map ρ = (cap.toList.map ρ).toArray := Array.ext' (by simp)
    rw [e1, e2]
  · rename_i t ho
    simp only [Option.some.injEq, Prod.mk.injEq] at h
    obtain ⟨rfl, rfl⟩ := h
    refine pass (s := Instr.makeMap t none) ⟨.map (some M.w.heap.size), M.w.alloc (.map #[] 0), ?_, ?_⟩ (by unfold execOp; rw [ho]; rfl) (by rw [ho]; rfl)
    · simp only [Instr.makeMap, Sem.run_bind, run_newObj, Result.andThen_ok, Sem.run_pure, World.alloc_eq]
    · exact post_alloc (ct := 0) hs hv _ _ _ _ (fun M' hle hb => ⟨_, _, hb, by simp, by simp⟩) (fun M' hle hmu => by unfold Rep; exact ⟨_, _, hmu, rfl⟩)
  · rename_i t l c ho
    exact pass (amakeSlice_sound ok h (he l) (he c) hs hv) (by unfold execOp; rw [ho]) (by rw [ho]; rfl)
  · rename_i t x lo hi mx ho
    simp only [Option.map_eq_some_iff] at h
    obtain ⟨r', hr, hh⟩ := h
    exact same (aslice_sound ok hr (he x) (he.opt lo) (he.opt hi) (he.opt mx) hs) (by unfold execOp; rw [ho]) hh
  · rename_i t x f ho
    simp only [Option.map_eq_some_iff] at h
    obtain ⟨r', hr, hh⟩ := h
    exact same (afieldAddr_sound ok hr (he x)) (by unfold execOp; rw [ho]) hh
  · rename_i t x f ho
    simp only [Option.map_eq_some_iff] at h
    obtain ⟨r', hr, hh⟩ := h
    exact same (afield_sound ok hr (he x)) (by unfold execOp; rw [ho]) hh
  · rename_i t x i ho
    simp only [Option.map_eq_some_iff] at h
    obtain ⟨r', hr, hh⟩ := h
    exact same (aindexAddr_sound ok hr (he x) (he i) hs) (by unfold execOp; rw [ho]) hh
  · rename_i t x i ho
    simp only [Option.map_eq_some_iff] at h
    obtain ⟨r', hr, hh⟩ := h
    exact same (aindex_sound ok hr (he x) (he i)) (by unfold execOp; rw [ho]) hh
  · rename_i t x i b ho
    simp only [Option.map_eq_some_iff] at h
    obtain ⟨r', hr, hh⟩ := h
    exact same (alookup_sound ok hr (he x) (he i) hs) (by unfold execOp; rw [ho]) hh
  · rename_i t m k v ho
    simp only [Option.map_eq_some_iff, Prod.mk.injEq] at h
    obtain ⟨H1, hr, rfl, rfl⟩ := h
    obtain ⟨w', h1, h2, h3, h4⟩ := amapUpdate_sound ok hr (he m) (he k) (he v) hs
    exact ⟨undef, w', by unfold execOp; rw [ho]; exact brings_u h1, ⟨⟨_, rfl, h2, fun _ _ => rfl, Rep.v_self, h3.nv_le hv.le⟩, h4⟩, fun x => by rw [ho] at x; cases x⟩
  · rename_i t x ho
    split at h
    · rename_i s hx hd
      simp only [Option.some.injEq, Prod.mk.injEq] at h
      obtain ⟨rfl, rfl⟩ := h
      have hxx := he x
      rw [hx] at hxx
      unfold Rep at hxx
      unfold TI.dsc at hd; simp only [Option.map_eq_some_iff] at hd
      obtain ⟨ti, ht, hd⟩ := hd
      have hu := ty_und ok ht M.w
      rw [hd] at hu
      refine pass (s := Instr.range t (ρ x)) ⟨.pointer (some ⟨M.w.heap.size, 0, none⟩), M.w.alloc (.stringIter s 0), ?_, ?_⟩ (by unfold execOp; rw [ho]) (by rw [ho]; rfl)
      · rw [hxx]
        simp only [Instr.range, Sem.run_bind, hu, Result.andThen_ok, Sem.run_pure, run_newObj, World.alloc_eq]
      · exact post_alloc (ct := 0) hs hv _ _ _ _ (fun M' hle hb => hb) (fun M' hle hmu => by unfold Rep; exact ⟨_, _, hmu, rfl⟩)
    · cases h
  · rename_i it ho
    split at h
    · rename_i k rr hit
      split at h
      · rename_i ver' s pos hl
        obtain ⟨hk, hvv⟩ := live_some hl
        simp only at hvv; subst hvv
        obtain ⟨b, ct, hE⟩ := hs.ent _ _ hk
        have hb : M.w.heap[b]? = some (.stringIter s pos) := hE.blk
        have hi := he it
        rw [hit] at hi
        unfold Rep at hi
        obtain ⟨b', ct', hm, hp⟩ := hi
        obtain ⟨rfl, rfl⟩ := mu_eq hE.mu hm
        have hg : (getObj b).run C.P M.w = .ok (.stringIter s pos) M.w := by simp [getObj, Sem.run, hb]
        have hset : ∀ o', (setObj b o').run C.P M.w = .ok () { M.w with heap := M.w.heap.setIfInBounds b o' } := fun o' => by simp [setObj, Sem.run, hb]
        cases hp2 : Nat.blt pos s.size with
        | true =>
          simp only [hp2, cond_true, Option.some.injEq, Prod.mk.injEq] at h
          obtain ⟨rfl, rfl⟩ := h
          have hlt := blt_lt hp2
          obtain ⟨s1, s2, s3⟩ := setObj_write (o' := .stringIter s (pos + (Utf8.decode s pos).2)) hb
          have hW := hs.write hk hE rfl s1 rfl rfl rfl s2 (.siter s (pos + (Utf8.decode s pos).2)) (fun hle => s3)
          refine pass (s := Instr.next (ρ it) true o.type) ⟨.tuple #[.bool true, goInt pos, .int .i32 (Utf8.decode s pos).1], _, ?_, ⟨⟨_, rfl, hW.1, fun _ _ => rfl, ?_, hW.2.1.nv_le hv.le⟩, hW.2.2⟩⟩ (by unfold execOp; rw [ho]) (by rw [ho]; rfl)
          · rw [hp]
            simp only [Instr.next, Sem.run_bind, hg, Result.andThen_ok, hlt, if_true, hset, Sem.run_pure]
          · unfold Rep
            refine ⟨[.bool true, goInt pos, .int .i32 (Utf8.decode s pos).1], rfl, ?_⟩
            simp only [RepL.cons_iff]
            exact ⟨_, _, rfl, Rep.v_self, _, _, rfl, gI_rep pos, _, _, rfl, Rep.v_self, by simp⟩
        | false =>
          simp only [hp2, cond_false, Option.some.injEq] at h
          have hge : ¬ pos < s.size := fun hlt => by
            have : Nat.blt pos s.size = true := Nat.ble_eq_true_of_le hlt
            rw [hp2] at this; cases this
          refine same (s := Instr.next (ρ it) true o.type) (r' := .tup [gB false]) ⟨.tuple #[.bool false], ?_, ?_⟩ (by unfold execOp; rw [ho]) h
          · rw [hp]
            simp only [Instr.next, Sem.run_bind, hg, Result.andThen_ok, hge, if_false, Sem.run_pure]
          · unfold Rep
            refine ⟨[.bool false], rfl, ?_⟩
            simp only [RepL.cons_iff]
            exact ⟨_, _, rfl, Rep.v_self, by simp⟩
      · cases h
    · cases h
  · rename_i t i ho
    split at h
    · rename_i vs hvs
      simp only [Option.map_eq_some_iff] at h
      obtain ⟨r', hr, hh⟩ := h
      have ht := he t
      rw [hvs] at ht
      unfold Rep at ht
      obtain ⟨l, hl, hrep⟩ := ht
      obtain ⟨z, hz, hrz⟩ := hrep.get hr
      refine same (s := Instr.extract (ρ t) i) ⟨z, ?_, hrz⟩ (by unfold execOp; rw [ho]) hh
      rw [hl]
      simp [Instr.extract, hz]
    · cases h
  · rename_i b args argTypes ho
    have hl := he.list args.toList
    obtain ⟨y, w', h1, h2⟩ := abuiltin_sound (consts := args.map fun | .const _ => true | _ => false) ok h hl hs hv
    refine ⟨y, w', ?_, h2.1, fun hst => h2.2 (by rw [ho] at hst; exact hst)⟩
    have hre : execOp ρ o = builtin b argTypes o.type (args.map fun | .const _ => true | _ => false) (args.map ρ) := by
      unfold execOp; rw [ho]; rfl
    rw [hre]
    have harr : (args.toList.map ρ).toArray = args.map ρ := Array.ext' (by simp)
    rw [harr] at h1
    exact h1
  · cases h
end
end Go.Vm
