/- A small evaluator over abstract values: the operations on memory are sound. -/
import Derived.Test.YtliikgffjphhjaaGreatDoorVmA
import Derived.Laws.CopyRow
import Derived.Laws.Cells
namespace Go.Vm
open Go.RowKit (Below)
theorem pureRun_sound {α : Type} {P : Program} : ∀ {s : Sem α} {a : α}, pureRun P s = some a → ∀ w, s.run P w = .ok a w
 | .pure b, a, h, w => by simp only [pureRun, Option.some.injEq] at h; subst h; rfl
 | .program k, a, h, w => by
  simp only [pureRun] at h
  show (k P).run P w = _
  exact pureRun_sound h w
 | .mark m k, a, h, w => by
  simp only [pureRun] at h
  show k.run P w = _
  exact pureRun_sound h w
 | .load .., _, h, _ => by simp [pureRun] at h
 | .store .., _, h, _ => by simp [pureRun] at h
 | .new .., _, h, _ => by simp [pureRun] at h
 | .shape .., _, h, _ => by simp [pureRun] at h
 | .freeze .., _, h, _ => by simp [pureRun] at h
 | .frozen .., _, h, _ => by simp [pureRun] at h
 | .getObj .., _, h, _ => by simp [pureRun] at h
 | .setObj .., _, h, _ => by simp [pureRun] at h
 | .choose .., _, h, _ => by simp [pureRun] at h
 | .sys .., _, h, _ => by simp [pureRun] at h
 | .halt .., _, h, _ => by simp [pureRun] at h
def isAggD : TypeDesc → Bool
 | .struct _ | .array _ _ => true
 | _ => false
def TyOk (C : Cx) : Prop := ∀ t ti, C.ty t = some ti → C.P.underlying t = some ti.desc ∧ ti.agg = isAggD ti.desc ∧
 ∃ i, C.P.info? t = some i ∧ i.size = ti.size ∧ i.bytes = ti.bytes ∧ i.zero = ti.zero
section
variable {C : Cx} (ok : TyOk C)
include ok
theorem ty_und {t : TypeId} {ti : TI} (h : C.ty t = some ti) (w : World) : (underlying t).run C.P w = .ok ti.desc w := run_underlying (ok t ti h).1 w
theorem ty_size {t : TypeId} {ti : TI} (h : C.ty t = some ti) (w : World) : (sizeOf t).run C.P w = .ok ti.size w := by
 obtain ⟨_, _, i, hi, hs, _, _⟩ := ok t ti h
 simp [sizeOf, typeInfo, hi, hs]
theorem ty_info {t : TypeId} {ti : TI} (h : C.ty t = some ti) (w : World) : ∃ i, (typeInfo t).run C.P w = .ok i w ∧ i.bytes = ti.bytes ∧ i.size = ti.size := by
 obtain ⟨_, _, i, hi, hs, hb, _⟩ := ok t ti h
 exact ⟨i, by simp [typeInfo, hi], hb, hs⟩
theorem ty_zero {t : TypeId} {ti : TI} {z : Value} (h : C.ty t = some ti) (hz : ti.zero = some z) (w : World) : (zeroValue t).run C.P w = .ok z w := by
 obtain ⟨_, _, i, hi, hs, hb, hz'⟩ := ok t ti h
 simp [zeroValue, typeInfo, hi, hz', hz]
theorem ty_agg {t : TypeId} {ti : TI} (h : C.ty t = some ti) (w : World) : (isAgg t).run C.P w = .ok ti.agg w := by
 obtain ⟨_, ha, _⟩ := ok t ti h
 rw [ha]
 simp only [isAgg, Sem.run_bind, ty_und ok h, Result.andThen_ok]
 generalize ti.desc = d
 cases d <;> rfl
end
theorem add_lit {b o n : Nat} : (⟨b, o, none⟩ : Addr).add n = ⟨b, o + n, none⟩ := by unfold Addr.add; split <;> simp_all
section
variable {base : Nat} {im0 : Nat → Prop} {nv : Nat} {M : Mem} {H : Tr Ent}
def CellsAre (M : Mem) (cs : List AV) (y : Value) : Prop :=
 ∃ b o l, y = .pointer (some ⟨b, o, none⟩) ∧ RepL M cs l ∧ ∀ i x, l[i]? = some x → M.w.cell? ⟨b, o + i, none⟩ = some x
theorem cell_of_heap {w : World} {b i : Nat} {arr : Array Value} {ty : TypeId} {f : Nat × Nat} (h : w.heap[b]? = some (.cells arr ty f)) : w.cell? ⟨b, i, none⟩ = arr.toList[i]? := by
 simp [World.cell?, h]
theorem arr_cells {b ct sz : Nat} {es : List AV} {ex : Bool} (hb : BlkIs M b ct (.arr sz es ex)) {i : Nat} {e : AV} {cs : List AV} (he : es[i]? = some e) (hc : cells? e = some cs) :
  ∃ l, RepL M cs l ∧ ∀ j x, l[j]? = some x → M.w.cell? ⟨b, i * sz + j, none⟩ = some x := by
 obtain ⟨arr, ty, ys, hb, hrep, hsd, has, hlen, hex, htk⟩ := hb
 obtain ⟨ye, hye, hre⟩ := hrep.get he
 obtain ⟨e1, e2⟩ := flat_el hsd hye
 refine ⟨ye.cells.toList, cells?_len hc hre, fun j x hj => ?_⟩
 rw [cell_of_heap hb]
 have h1 : (flat ys)[i * sz + j]? = some x := by
  have hjl := (List.getElem?_eq_some_iff.1 hj).1
  rw [e1, List.append_assoc, List.getElem?_append_right (by omega), List.getElem?_append_left (by omega), e2]
  simpa using hj
 rw [← htk, List.getElem?_take] at h1
 split at h1
 ·exact h1
 ·cases h1
theorem cellsAt_sound {a : AV} {cs : List AV} {y : Value} (h : cellsAt H a = some cs) (hs : SimH M base im0 nv H) (hr : Rep M a y) : CellsAre M cs y := by
 cases a <;> simp only [cellsAt] at h <;> try (cases h; done)
 ·rename_i k r off
  cases hl : live H k r with
  | none => simp [hl] at h
  | some e =>
   obtain ⟨hk, hv⟩ := live_some hl
   obtain ⟨ver, fz, blk⟩ := e
   simp only at hv; subst hv
   cases blk <;> simp only [hl] at h <;> try (cases h; done)
   rename_i cs'
   simp only [Option.some.injEq] at h; subst h
   obtain ⟨b, ct, hE⟩ := hs.ent k _ hk
   obtain ⟨arr, ty, hb, hrep⟩ := hE.blk
   unfold Rep at hr
   obtain ⟨b2, ct2, hm, rfl⟩ := hr
   obtain ⟨rfl, rfl⟩ := mu_eq hE.mu hm
   refine ⟨b, off, _, rfl, hrep.drop off, fun i x hx => ?_⟩
   rw [cell_of_heap hb]; rwa [List.getElem?_drop] at hx
 ·rename_i k r sz i off
  cases hl : live H k r with
  | none => simp [hl] at h
  | some e =>
   obtain ⟨hk, hv⟩ := live_some hl
   obtain ⟨ver, fz, blk⟩ := e
   simp only at hv; subst hv
   cases blk <;> simp only [hl] at h <;> try (cases h; done)
   rename_i sz' es ex
   cases hsz : Nat.beq sz sz' with
   | false => simp [hsz] at h
   | true =>
   have hsz' := Nat.eq_of_beq_eq_true hsz; subst hsz'
   simp only [hsz, cond_true, Option.bind_eq_some_iff, Option.map_eq_some_iff] at h
   obtain ⟨e, he, c, hc, rfl⟩ := h
   obtain ⟨b, ct, hE⟩ := hs.ent k _ hk
   obtain ⟨l, hl1, hl2⟩ := arr_cells hE.blk he hc
   unfold Rep at hr
   obtain ⟨b2, ct2, hm, rfl⟩ := hr
   obtain ⟨rfl, rfl⟩ := mu_eq hE.mu hm
   refine ⟨b, _, _, rfl, hl1.drop off, fun j x hx => ?_⟩
   rw [List.getElem?_drop] at hx
   rw [Nat.add_assoc]; exact hl2 _ _ hx
 ·rename_i cs'
  simp only [Option.some.injEq] at h; subst h
  unfold Rep at hr
  obtain ⟨b, o, l, rfl, hrep, hrow⟩ := hr
  exact ⟨b, o, l, rfl, hrep.mono (Mem.bare_le M), fun i x hx => (hrow i x hx).2⟩
theorem partA_load {C : Cx} (ok : TyOk C) {t : TypeId} {cs : List AV} {r : AV} {y : Value} (h : partA C t cs 0 = some r) (hc : CellsAre M cs y) :
  ∃ z, (Instr.loadAt t y).run C.P M.w = .ok z M.w ∧ Rep M r z := by
 obtain ⟨b, o, l, rfl, hrep, hcell⟩ := hc
 simp only [partA] at h
 cases ht : C.ty t with
 | none => simp [ht] at h
 | some ti =>
  simp only [ht, Nat.zero_add, List.drop_zero] at h
  simp only [Instr.loadAt, Instr.sureAddr, loadVar, Sem.run_bind, Sem.run_pure, Result.andThen_ok, ty_agg ok ht]
  cases ha : ti.agg with
  | true =>
   simp only [ha, cond_true] at h
   cases hn : Nat.ble ti.size cs.length with
   | false => simp [hn] at h
   | true =>
    simp only [hn, cond_true, Option.some.injEq] at h; subst h
    have hn := Nat.le_of_ble_eq_true hn
    have hlen : (l.take ti.size).length = ti.size := by rw [List.length_take, hrep.length]; omega
    have := run_loadCells_list (P := C.P) M.w ⟨b, o, none⟩ (l.take ti.size) (fun j v hj => by
     rw [add_lit]; rw [List.getElem?_take] at hj; split at hj
     ·exact hcell j v hj
     ·cases hj)
    rw [hlen] at this
    refine ⟨.agg (l.take ti.size).toArray, ?_, ?_⟩
    ·simp only [if_true, ty_size ok ht, Sem.run_bind, this, Result.andThen_ok, Sem.run_pure]
    ·unfold Rep; exact ⟨_, rfl, hrep.take _⟩
  | false =>
   simp only [ha, cond_false] at h
   obtain ⟨x, hx, hr⟩ := hrep.get h
   refine ⟨x, ?_, hr⟩
   have := hcell 0 x hx
   simp only [Nat.add_zero] at this
   simp [this]
theorem aload_sound {C : Cx} (ok : TyOk C) {t : TypeId} {a r : AV} {y : Value} (h : aload C H t a = some r) (hs : SimH M base im0 nv H) (hr : Rep M a y) :
  ∃ z, (Instr.loadAt t y).run C.P M.w = .ok z M.w ∧ Rep M r z := by
 simp only [aload] at h
 cases hc : cellsAt H a with
 | none => simp [hc] at h
 | some cs => simp only [hc] at h; exact partA_load ok h (cellsAt_sound hc hs hr)
end
section
variable {base : Nat} {im0 : Nat → Prop} {nv : Nat} {M : Mem} {H : Tr Ent}
theorem single_rep {a : AV} {y : Value} (h : a.single = true) (hr : Rep M a y) : y.oneCell' = true := by
 cases a <;> simp only [AV.single] at h <;> try (cases h; done)
 ·unfold Rep at hr; subst hr; revert h; cases ‹Value› <;> simp [Value.single, Value.oneCell']
 ·unfold Rep at hr; obtain ⟨_, _, _, rfl⟩ := hr; rfl
 ·unfold Rep at hr; obtain ⟨_, _, _, rfl⟩ := hr; rfl
 ·unfold Rep at hr; obtain ⟨_, _, _, _, _, rfl, _⟩ := hr; rfl
 ·unfold Rep at hr; obtain ⟨_, _, _, rfl⟩ := hr; rfl
 ·unfold Rep at hr; obtain ⟨_, _, _, rfl⟩ := hr; rfl
 ·unfold Rep at hr; obtain ⟨_, _, _, rfl⟩ := hr; rfl
 ·unfold Rep at hr; obtain ⟨_, _, _, rfl, _⟩ := hr; rfl
 ·unfold Rep at hr; obtain ⟨_, _, _, rfl, _⟩ := hr; rfl
 ·unfold Rep at hr; obtain ⟨_, _, _, rfl, _⟩ := hr; rfl
 ·unfold Rep at hr; obtain ⟨_, _, rfl, _⟩ := hr; rfl
 ·unfold Rep at hr; obtain ⟨_, rfl, _⟩ := hr; rfl
theorem all_single : ∀ {cs : List AV} {l : List Value}, cs.all AV.single = true → RepL M cs l → ∀ v ∈ l, v.oneCell' = true
 | [], _, _, h, v, hv => by rw [RepL.nil_iff] at h; subst h; simp at hv
 | c :: cs, _, ha, h, v, hv => by
  rw [RepL.cons_iff] at h
  obtain ⟨x, xs, rfl, h1, h2⟩ := h
  simp only [List.all_cons, Bool.and_eq_true] at ha
  rcases List.mem_cons.1 hv with rfl | hv
  ·exact single_rep ha.1 h1
  ·exact all_single ha.2 h2 v hv
theorem cells?_single {a : AV} {cs : List AV} (h : cells? a = some cs) : cs.all AV.single = true := by
 have one : ∀ x : AV, (bif x.single then some [x] else none) = some cs → cs.all AV.single = true := by
  intro x hx
  cases hb : x.single with
  | false => simp [hb] at hx
  | true => simp only [hb, cond_true, Option.some.injEq] at hx; subst hx; simp [hb]
 cases a with
 | agg l =>
  simp only [cells?] at h
  cases hb : l.all AV.single with
  | false => simp [hb] at h
  | true => simp only [hb, cond_true, Option.some.injEq] at h; subst h; exact hb
 | _ => simp only [cells?] at h; exact one _ h
theorem RepL.splice {cs vs : List AV} {l m : List Value} (off : Nat) (h : RepL M cs l) (k : RepL M vs m) : RepL M (Vm.splice cs off vs) (l.take off ++ m ++ l.drop (off + m.length)) := by
 unfold Vm.splice
 rw [← k.length]
 exact ((h.take off).append k).append (h.drop _)
theorem store_run {P : Program} {w : World} {b o : Nat} {arr : Array Value} {ty : TypeId} {m : List Value} (hb : w.heap[b]? = some (.cells arr ty (0, 0))) (hle : o + m.length ≤ arr.size) (h1 : ∀ v ∈ m, v.oneCell' = true) :
  (storeCells ⟨b, o, none⟩ m).run P w = .ok () (w.setRow b (arr.toList.take o ++ m ++ arr.toList.drop (o + m.length)).toArray) := by
 have := run_storeCells_at (P := P) b o ty m 0 arr w hb (by omega) h1
 simpa using this
theorem setRow_write {w : World} {b : Nat} {arr arr' : Array Value} {ty : TypeId} (hb : w.heap[b]? = some (.cells arr ty (0, 0))) :
  (∀ b', b' ≠ b → (w.setRow b arr').heap[b']? = w.heap[b']?) ∧ (w.setRow b arr').os = w.os ∧ (w.setRow b arr').tape = w.tape ∧ (w.setRow b arr').output = w.output ∧ (w.setRow b arr').heap.size = w.heap.size ∧
   (w.setRow b arr').heap[b]? = some (.cells arr' ty (0, 0)) :=
 ⟨fun b' h => setRow_other w b b' arr' h, rfl, rfl, rfl, by simp, setRow_heap w b arr arr' ty (0, 0) hb⟩
theorem splice_el {sz : Nat} {ys : List Value} (hsd : Sized sz ys) {arr : List Value} (htk : arr.take (ys.length * sz) = flat ys) {i : Nat} {ye ye' : Value} (hi : ys[i]? = some ye) {off : Nat} {m : List Value}
  (hoff : off + m.length ≤ sz) (hye' : ye'.cells.toList = ye.cells.toList.take off ++ m ++ ye.cells.toList.drop (off + m.length)) :
  Sized sz (ys.set i ye') ∧ (arr.take (i * sz + off) ++ m ++ arr.drop (i * sz + off + m.length)).take ((ys.set i ye').length * sz) = flat (ys.set i ye') := by
 obtain ⟨hlt, hie⟩ := List.getElem?_eq_some_iff.1 hi
 have hsz : ye.cells.size = sz := hsd ye (hie ▸ List.getElem_mem hlt)
 have hsz' : ye'.cells.size = sz := by
  have := congrArg List.length hye'
  simp only [Array.length_toList, List.length_append, List.length_take, List.length_drop] at this
  omega
 obtain ⟨e1, e2⟩ := flat_el hsd hi
 have hset : ys.set i ye' = ys.take i ++ ye' :: ys.drop (i + 1) := by
  rw [List.set_eq_take_append_cons_drop, if_pos hlt]
 constructor
 ·rw [hset, Sized.append, Sized.cons]
  exact ⟨hsd.sub fun x hx => List.mem_of_mem_take hx, hsz', hsd.sub fun x hx => List.mem_of_mem_drop hx⟩
 ·have harr : arr = flat ys ++ arr.drop (ys.length * sz) := by rw [← htk, List.take_append_drop]
  have hfl : flat (ys.set i ye') = flat (ys.take i) ++ ye'.cells.toList ++ flat (ys.drop (i + 1)) := by
   rw [hset, flat_append, flat_cons, List.append_assoc]
  have hlen : (flat (ys.set i ye')).length = (ys.set i ye').length * sz := by
   rw [hfl]
   have := flat_length hsd
   rw [e1] at this
   simp only [List.length_append, Array.length_toList, hsz, hsz', List.length_set] at this ⊢
   omega
  generalize hD : arr.drop (ys.length * sz) = D at harr
  have key : arr.take (i * sz + off) ++ m ++ arr.drop (i * sz + off + m.length) = flat (ys.set i ye') ++ D := by
   rw [harr, hfl, e1, hye']
   generalize hA : flat (ys.take i) = A at *
   generalize hB : flat (ys.drop (i + 1)) = B at *
   generalize hY : ye.cells.toList = Y at *
   have hYl : Y.length = sz := by rw [← hY]; simp [hsz]
   rw [← e2]
   have t1 : (A ++ Y ++ B ++ D).take (A.length + off) = A ++ Y.take off := by
    rw [List.append_assoc, List.append_assoc, List.take_append, List.take_of_length_le (by omega)]
    congr 1
    rw [List.take_append_of_le_length (by omega)]
    congr 1; omega
   have t2 : (A ++ Y ++ B ++ D).drop (A.length + off + m.length) = Y.drop (off + m.length) ++ B ++ D := by
    rw [List.append_assoc, List.append_assoc, List.drop_append, List.drop_of_length_le (by omega)]
    rw [List.drop_append_of_le_length (by omega)]
    simp only [List.nil_append, List.append_assoc]
    congr 2; omega
   rw [t1, t2]
   simp only [List.append_assoc]
  rw [key, ← hlen, List.take_left']
  rfl
theorem mkEl_rep {e e' : AV} {cs cs' : List AV} {ye : Value} {m : List Value} (he : cells? e = some cs) (hm : mkEl e cs' = some e') (hr : Rep M e ye) (hcs : RepL M cs' m) (h1 : ∀ v ∈ m, v.oneCell' = true) :
  ∃ ye', Rep M e' ye' ∧ ye'.cells.toList = m := by
 have other : one? cs' = some e' → ∃ ye', Rep M e' ye' ∧ ye'.cells.toList = m := by
  intro h
  unfold one? at h
  split at h
  ·simp only [Option.some.injEq] at h; subst h
   rw [RepL.cons_iff] at hcs
   obtain ⟨x, xs, rfl, hx, hxs⟩ := hcs
   rw [RepL.nil_iff] at hxs; subst hxs
   refine ⟨x, hx, ?_⟩
   have := h1 x (by simp)
   cases x <;> first | rfl | (simp [Value.oneCell'] at this)
  ·cases h
 cases e with
 | agg l =>
  simp only [mkEl, Option.some.injEq] at hm; subst hm
  refine ⟨.agg m.toArray, by unfold Rep; exact ⟨m, rfl, hcs⟩, by simp [Value.cells]⟩
 | _ => simp only [mkEl] at hm; exact other hm
theorem astore_sound {C : Cx} (ok : TyOk C) {t : TypeId} {a x : AV} {H' : Tr Ent} {ya yx : Value} (h : astore C H t a x = some H') (hs : SimH M base im0 nv H) (ha : Rep M a ya) (hx : Rep M x yx) :
  ∃ w', (Instr.storeAt t ya yx).run C.P M.w = .ok () w' ∧ M.le { M with w := w' } ∧ SimH { M with w := w' } base im0 nv H' ∧ Below base M.w w' := by
 simp only [astore] at h
 cases ht : C.ty t with
 | none => simp [ht] at h
 | some ti =>
 cases hc : cells? x with
 | none => simp [ht, hc] at h
 | some vs =>
 simp only [ht, hc] at h
 cases hn : Nat.beq vs.length ti.size with
 | false => simp [hn] at h
 | true =>
 simp only [hn, Bool.not_true, cond_false] at h
 have hn := Nat.eq_of_beq_eq_true hn
 have hvs := cells?_len hc hx
 have h1 := all_single (cells?_single hc) hvs
 generalize hm : yx.cells.toList = m at *
 have hml : m.length = vs.length := hvs.length
 -- what is left: the cells are stored
 have go : ∀ (b o : Nat), ya = .pointer (some ⟨b, o, none⟩) → (Instr.storeAt t ya yx).run C.P M.w = (storeCells ⟨b, o, none⟩ m).run C.P M.w := by
  intro b o hya
  subst hya
  have hsz : yx.cells.size = ti.size := by rw [← Array.length_toList, hm]; omega
  simp only [Instr.storeAt, Instr.sureAddr, storeVar, Sem.run_bind, Sem.run_pure, Result.andThen_ok, ty_size ok ht, hsz, ne_eq, not_true_eq_false, if_false, hm]
 cases a <;> simp only at h <;> try (cases h; done)
 ·rename_i k r off
  cases hl : live H k r with
  | none => simp [hl] at h
  | some e =>
  obtain ⟨hk, hv⟩ := live_some hl
  obtain ⟨ver, fz, blk⟩ := e
  simp only at hv; subst hv
  cases blk <;> cases fz <;> simp only [hl] at h <;> try (cases h; done)
  rename_i cs
  cases hle : Nat.ble (off + vs.length) cs.length with
  | false => simp [hle] at h
  | true =>
  simp only [hle, cond_true, Option.some.injEq] at h; subst h
  have hle := Nat.le_of_ble_eq_true hle
  obtain ⟨b, ct, hE⟩ := hs.ent k _ hk
  obtain ⟨arr, ty, hb, hrep⟩ := hE.blk
  unfold Rep at ha
  obtain ⟨b2, ct2, hmu, rfl⟩ := ha
  obtain ⟨rfl, rfl⟩ := mu_eq hE.mu hmu
  have hsz : arr.size = cs.length := by rw [← Array.length_toList, hrep.length]
  have hrun := store_run (P := C.P) (o := off) hb (by omega) h1
  obtain ⟨g1, g2, g3, g4, g5, g6⟩ := setRow_write (arr' := (arr.toList.take off ++ m ++ arr.toList.drop (off + m.length)).toArray) hb
  have hW := hs.write hk hE rfl g1 g2 g3 g4 g5 (.box (Vm.splice cs off vs)) (fun hle => ⟨_, ty, g6, by
   simpa using (RepL.splice off (hrep.mono hle) (hvs.mono hle))⟩)
  exact ⟨_, (go _ _ rfl).trans hrun, hW.1, hW.2.1, hW.2.2⟩
 ·rename_i k r sz i off
  cases hl : live H k r with
  | none => simp [hl] at h
  | some e =>
  obtain ⟨hk, hv⟩ := live_some hl
  obtain ⟨ver, fz, blk⟩ := e
  simp only at hv; subst hv
  cases blk <;> cases fz <;> simp only [hl] at h <;> try (cases h; done)
  rename_i sz' es ex
  cases hsz : Nat.beq sz sz' with
  | false => simp [hsz] at h
  | true =>
  have hsz' := Nat.eq_of_beq_eq_true hsz; subst hsz'
  simp only [hsz, Bool.not_true, cond_false] at h
  cases he : es[i]? with
  | none => simp [he] at h
  | some e =>
  simp only [he] at h
  cases hce : cells? e with
  | none => simp [hce] at h
  | some cs =>
  simp only [hce] at h
  cases hle : Nat.ble (off + vs.length) cs.length with
  | false => simp [hle] at h
  | true =>
  simp only [hle, cond_true, Option.map_eq_some_iff] at h
  obtain ⟨e', hmk, rfl⟩ := h
  have hle := Nat.le_of_ble_eq_true hle
  obtain ⟨b, ct, hE⟩ := hs.ent k _ hk
  obtain ⟨arr, ty, ys, hb, hrep, hsd, has, hlen, hex, htk⟩ := hE.blk
  unfold Rep at ha
  obtain ⟨b2, ct2, hmu, rfl⟩ := ha
  obtain ⟨rfl, rfl⟩ := mu_eq hE.mu hmu
  obtain ⟨ye, hye, hre⟩ := hrep.get he
  have hcsl := cells?_len hce hre
  have hyes : ye.cells.size = sz := hsd ye (by obtain ⟨hlt, hie⟩ := List.getElem?_eq_some_iff.1 hye; exact hie ▸ List.getElem_mem hlt)
  have hcl : cs.length = sz := by rw [← hcsl.length]; simpa using hyes
  have hsp := RepL.splice off hcsl hvs
  obtain ⟨ye', hre', hye'⟩ := mkEl_rep hce hmk hre hsp (fun v hv => by
   have hces := all_single (cells?_single hce) hcsl
   rcases List.mem_append.1 hv with hv | hv
   ·rcases List.mem_append.1 hv with hv | hv
    ·exact hces v (List.mem_of_mem_take hv)
    ·exact h1 v hv
   ·exact hces v (List.mem_of_mem_drop hv))
  have hi : i < es.length := (List.getElem?_eq_some_iff.1 he).1
  have hle2 : i * sz + off + m.length ≤ arr.size := by
   rw [has]
   have : (i + 1) * sz ≤ ct * sz := Nat.mul_le_mul_right _ (by omega)
   rw [Nat.succ_mul] at this
   omega
  have hrun := store_run (P := C.P) (o := i * sz + off) hb hle2 h1
  obtain ⟨g1, g2, g3, g4, g5, g6⟩ := setRow_write (arr' := (arr.toList.take (i * sz + off) ++ m ++ arr.toList.drop (i * sz + off + m.length)).toArray) hb
  have hyl : ys.length = es.length := hrep.length
  obtain ⟨q1, q2⟩ := splice_el hsd (arr := arr.toList) (by rw [hyl]; exact htk) hye (off := off) (m := m) (by omega) hye'
  have hW := hs.write hk hE rfl g1 g2 g3 g4 g5 (.arr sz (es.set i e') ex) (fun hle => ⟨_, ty, ys.set i ye', g6, (hrep.mono hle).set i (hre'.mono hle), q1, by
    rw [← has]
    simp only [List.size_toArray, List.length_append, List.length_take, List.length_drop, Array.length_toList]
    omega, by simpa using hlen, by simpa using hex, by
    simp only [List.length_set] at q2 ⊢
    rw [hyl] at q2
    simpa using q2⟩)
  exact ⟨_, (go _ _ rfl).trans hrun, hW.1, hW.2.1, hW.2.2⟩
end
end Go.Vm

namespace Go.Vm
open Go.RowKit (Below)
section
variable {M : Mem}
theorem Rep.v_self {x : Value} : Rep M (.v x) x := by unfold Rep; rfl
theorem RepL.vs : ∀ (l : List Value), RepL M (l.map .v) l
 | [] => by simp
 | x :: xs => by rw [List.map_cons, RepL.cons_iff]; exact ⟨x, xs, rfl, Rep.v_self, RepL.vs xs⟩
theorem ofV_rep (x : Value) : Rep M (ofV x) x := by
 cases x <;> simp only [ofV] <;> try exact Rep.v_self
 rename_i cs
 unfold Rep; exact ⟨cs.toList, by simp, RepL.vs _⟩
theorem cellsV_rep : ∀ {cs : List AV} {l : List Value}, cellsV cs = some l → ∀ {m : List Value}, RepL M cs m → m = l
 | [], l, h, m, hm => by simp only [cellsV, Option.some.injEq] at h; subst h; simpa using hm
 | c :: cs, l, h, m, hm => by
  cases c <;> simp only [cellsV] at h <;> try (cases h; done)
  rename_i x
  simp only [Option.map_eq_some_iff] at h
  obtain ⟨l', h', rfl⟩ := h
  rw [RepL.cons_iff] at hm
  obtain ⟨y, ys, rfl, h1, h2⟩ := hm
  unfold Rep at h1; subst h1
  rw [cellsV_rep h' h2]
theorem toV_rep {a : AV} {x y : Value} (h : toV a = some x) (hr : Rep M a y) : y = x := by
 cases a <;> simp only [toV] at h <;> try (cases h; done)
 ·simp only [Option.some.injEq] at h; subst h; unfold Rep at hr; exact hr
 ·simp only [Option.map_eq_some_iff] at h
  obtain ⟨l, hl, rfl⟩ := h
  unfold Rep at hr
  obtain ⟨m, rfl, hm⟩ := hr
  rw [cellsV_rep hl hm]
 ·rename_i f a b
  cases a <;> cases b <;> simp only at h <;> try (cases h; done)
  simp only [Option.some.injEq] at h; subst h
  unfold Rep at hr
  obtain ⟨l, c, rfl, h1, h2⟩ := hr
  rw [RepL.nil_iff] at h1 h2; subst h1; subst h2; rfl
theorem toVL_rep : ∀ {as : List AV} {l : List Value}, toVL as = some l → ∀ {m : List Value}, RepL M as m → m = l
 | [], l, h, m, hm => by simp only [toVL, Option.some.injEq] at h; subst h; simpa using hm
 | a :: as, l, h, m, hm => by
  simp only [toVL] at h
  cases h1 : toV a with
  | none => simp [h1] at h
  | some x =>
  cases h2 : toVL as with
  | none => simp [h1, h2] at h
  | some xs =>
  simp only [h1, h2, Option.some.injEq] at h; subst h
  rw [RepL.cons_iff] at hm
  obtain ⟨y, ys, rfl, k1, k2⟩ := hm
  rw [toV_rep h1 k1, toVL_rep h2 k2]
theorem pureOp_sound {C : Cx} {s : Sem Value} {r : AV} (h : pureOp C s = some r) (w : World) : ∃ y, s.run C.P w = .ok y w ∧ Rep M r y := by
 simp only [pureOp, Option.bind_eq_some_iff] at h
 obtain ⟨x, hx, h⟩ := h
 cases hs : Value.single x with
 | false => simp [hs] at h
 | true => simp only [hs, cond_true, Option.some.injEq] at h; subst h; exact ⟨x, pureRun_sound hx w, Rep.v_self⟩
theorem asN_rep {a : AV} {n : Nat} {y : Value} (h : asN a = some n) (hr : Rep M a y) : ∃ k, y = .int k n := by
 unfold asN at h
 split at h
 ·simp only [Option.some.injEq] at h; subst h
  unfold Rep at hr; subst hr; exact ⟨_, rfl⟩
 ·cases h
theorem asB_rep {a : AV} {b : Bool} {y : Value} (h : asB a = some b) (hr : Rep M a y) : y = .bool b := by
 cases a <;> simp only [asB] at h <;> try (cases h; done)
 rename_i x
 cases x <;> simp only at h <;> try (cases h; done)
 simp only [Option.some.injEq] at h; subst h
 unfold Rep at hr; exact hr
section
variable {base : Nat} {im0 : Nat → Prop} {nv : Nat} {H : Tr Ent}
theorem post_alloc {ver key ct nv' : Nat} (hs : SimH M base im0 nv H) (hv : VerOk M nv ver nv') (o : Obj) (bl : Blk) (r : AV) (y : Value)
  (hbl : ∀ M' : Mem, M.le M' → M'.w.heap[M.w.heap.size]? = some o → BlkIs M' M.w.heap.size ct bl)
  (hr : ∀ M' : Mem, M.le M' → M'.mu ver = some (M.w.heap.size, ct) → Rep M' r y) :
  Post M base im0 ver nv' r (H.set key { ver := ver, fz := false, blk := bl }) y (M.w.alloc o) := by
 obtain ⟨M', hw, hle, hmo, hmu, hs'⟩ := hs.alloc hv o key ct bl hbl
 exact ⟨⟨M', hw, hle, hmo, hr M' hle hmu, hs'⟩, (Below.refl _ _).alloc hs.size o⟩
theorem box_post {ver key nv' : Nat} (hs : SimH M base im0 nv H) (hv : VerOk M nv ver nv') {cs : List AV} {arr : Array Value} {ty : TypeId} (hc : RepL M cs arr.toList) :
  Post M base im0 ver nv' (.ptr key ver 0) (H.set key { ver := ver, fz := false, blk := .box cs }) (.pointer (some ⟨M.w.heap.size, 0, none⟩)) (M.w.alloc (.cells arr ty)) :=
 post_alloc (ct := 0) hs hv _ _ _ _ (fun M' hle hb => ⟨arr, ty, hb, hc.mono hle⟩) (fun M' hle hmu => by unfold Rep; exact ⟨_, _, hmu, rfl⟩)
theorem alloc_sound {C : Cx} (ok : TyOk C) {t : TypeId} {ti : TI} {z : Value} {ver key nv' : Nat} (ht : C.ty t = some ti) (hz : ti.zero = some z) (hs : SimH M base im0 nv H) (hv : VerOk M nv ver nv') :
  ∃ y w', (Instr.alloc t true (.tuple #[])).run C.P M.w = .ok y w' ∧ Post M base im0 ver nv' (.ptr key ver 0) (H.set key { ver := ver, fz := false, blk := .box (z.cells.toList.map .v) }) y w' :=
 ⟨_, _, by simp only [Instr.alloc, Sem.run_bind, ty_zero ok ht hz, Result.andThen_ok, newVar, newRow, run_newObj, Sem.run_pure]; rfl, box_post hs hv (ty := t) (RepL.vs _)⟩
theorem abox_sound {C : Cx} {t : TypeId} {cs : List AV} {x : AV} {y : Value} {ver key nv' : Nat} (hc : cells? x = some cs) (hx : Rep M x y) (hs : SimH M base im0 nv H) (hv : VerOk M nv ver nv') :
  ∃ z w', (Instr.box t y).run C.P M.w = .ok z w' ∧ Post M base im0 ver nv' (.ptr key ver 0) (H.set key { ver := ver, fz := false, blk := .box cs }) z w' :=
 ⟨_, _, by simp only [Instr.box, Sem.run_bind, newVar, newRow, run_newObj, Result.andThen_ok, Sem.run_pure]; rfl, box_post hs hv (ty := t) (cells?_len hc hx)⟩
end
inductive RepP (M : Mem) : List (Nat × AV) → List (Nat × Value) → Prop where
 | nil : RepP M [] []
 | cons {i : Nat} {x : AV} {y : Value} {ps : List (Nat × AV)} {qs : List (Nat × Value)} (h : Rep M x y) (k : RepP M ps qs) : RepP M ((i, x) :: ps) ((i, y) :: qs)
theorem foldl_set (n off : Nat) : ∀ (vs : List Value) (j : Nat) (arr : Array Value), off + j + vs.length ≤ arr.size →
  ((vs.zipIdx j).foldl (fun cs (c, j) => cs.setIfInBounds (off + j) c) arr).toList = arr.toList.take (off + j) ++ vs ++ arr.toList.drop (off + j + vs.length)
 | [], j, arr, _ => by simp
 | v :: vs, j, arr, h => by
  simp only [List.zipIdx_cons, List.foldl_cons]
  have hlen : off + j < arr.size := by simp at h; omega
  rw [foldl_set n off vs (j + 1) _ (by simp at h ⊢; omega)]
  have e := list_seg_step arr.toList (off + j) v vs (by simp at h ⊢; omega)
  simpa [Array.toList_setIfInBounds, Nat.add_assoc] using e
theorem afill_sound {pl : Nat → Option (Nat × Nat)} : ∀ {ps : List (Nat × AV)} {qs : List (Nat × Value)} {cs cs' : List AV} {arr : Array Value}, RepP M ps qs → afill pl cs ps = some cs' → RepL M cs arr.toList →
  ∃ arr', Instr.fill pl arr qs = some arr' ∧ RepL M cs' arr'.toList
 | [], _, cs, cs', arr, hp, h, hc => by
  cases hp
  simp only [afill, Option.some.injEq] at h; subst h
  exact ⟨arr, rfl, hc⟩
 | (i, x) :: ps, _, cs, cs', arr, hp, h, hc => by
  cases hp with
  | cons hx hk =>
  rename_i y qs
  simp only [afill] at h
  cases hpl : pl i with
  | none => simp [hpl] at h
  | some p =>
  obtain ⟨off, size⟩ := p
  cases hcx : cells? x with
  | none => simp [hpl, hcx] at h
  | some vs =>
  simp only [hpl, hcx] at h
  cases h1 : Nat.beq vs.length size with
  | false => simp [h1] at h
  | true =>
  cases h2 : Nat.ble (off + vs.length) cs.length with
  | false => simp [h1, h2] at h
  | true =>
  simp only [h1, h2, Bool.and_self, cond_true] at h
  have h1 := Nat.eq_of_beq_eq_true h1
  have h2 := Nat.le_of_ble_eq_true h2
  have hv := cells?_len hcx hx
  have hl := hv.length
  have hal : arr.size = cs.length := by rw [← Array.length_toList, hc.length]
  simp only [Array.length_toList] at hl
  have hfold := foldl_set 0 off y.cells.toList 0 arr (by rw [Array.length_toList, hl, hal]; omega)
  have hzip : y.cells.zipIdx.foldl (fun cs (c, j) => cs.setIfInBounds (off + j) c) arr = (y.cells.toList.zipIdx 0).foldl (fun cs (c, j) => cs.setIfInBounds (off + j) c) arr := by
   rw [← Array.foldl_toList, Array.toList_zipIdx]
  rw [← hzip] at hfold
  obtain ⟨arr', ha, hr⟩ := afill_sound (pl := pl) (arr := y.cells.zipIdx.foldl (fun cs (c, j) => cs.setIfInBounds (off + j) c) arr) hk h (by
   rw [hfold]
   simpa using RepL.splice off hc hv)
  refine ⟨arr', ?_, hr⟩
  simp only [Instr.fill, hpl]
  rw [if_neg (by simp; omega)]
  exact ha
theorem fieldPl_run {C : Cx} (ok : TyOk C) (w : World) : ∀ (fs : List Field) (pl : List (Nat × Nat)), fieldPl C fs = some pl →
    (fs.mapM fun f => (do pure (f.offset, ← sizeOf f.type) : Sem (Nat × Nat))).run C.P w = .ok pl w
  | [], pl, h => by simp only [fieldPl, Option.some.injEq] at h; subst h; rfl
  | f :: fs, pl, h => by
    simp only [fieldPl] at h
    cases h1 : C.ty f.type with
    | none => simp [h1] at h
    | some ti =>
    cases h2 : fieldPl C fs with
    | none => simp [h1, h2] at h
    | some l =>
    simp only [h1, h2, Option.some.injEq] at h; subst h
    simp only [List.mapM_cons, Sem.run_bind, ty_size ok h1, Result.andThen_ok, Sem.run_pure, fieldPl_run ok w fs l h2]
theorem abuild_sound {C : Cx} (ok : TyOk C) {t : TypeId} {ps : List (Nat × AV)} {qs : Array (Nat × Value)} {r : AV} (h : abuild C t ps = some r) (hp : RepP M ps qs.toList) :
    ∃ y, (Instr.build t qs).run C.P M.w = .ok y M.w ∧ Rep M r y := by
  simp only [abuild] at h
  cases ht : C.ty t with
  | none => simp [ht] at h
  | some ti =>
  simp only [ht] at h
  have fin : ∀ {pl : Nat → Option (Nat × Nat)} {z : Array Value} {cs : List AV}, afill pl (z.toList.map .v) ps = some cs → ∃ cells, Instr.fill pl z qs.toList = some cells ∧ Rep M (.agg cs) (.agg cells) := by
    intro pl z cs hf
    obtain ⟨arr', ha, hr⟩ := afill_sound hp hf (RepL.vs (M := M) z.toList)
    exact ⟨arr', ha, by unfold Rep; exact ⟨arr'.toList, by simp, hr⟩⟩
  split at h
  · rename_i z fields hz hd
    cases hpl : fieldPl C fields.toList with
    | none => simp [hpl] at h
    | some pl =>
    simp only [hpl, Option.map_eq_some_iff] at h
    obtain ⟨cs, hf, rfl⟩ := h
    obtain ⟨cells, h1, h2⟩ := fin hf
    refine ⟨_, ?_, h2⟩
    have hm := fieldPl_run ok M.w fields.toList pl hpl
    have hu := ty_und ok ht M.w
    rw [hd] at hu
    have hm2 : (fields.mapM fun f => (do pure (f.offset, ← sizeOf f.type) : Sem (Nat × Nat))).run C.P M.w = .ok pl.toArray M.w := by
      rw [Array.mapM_eq_mapM_toList]
      simp only [Sem.run_map, hm, Result.andThen_ok]
    simp only [Instr.build, Sem.run_bind, ty_zero ok ht hz, Result.andThen_ok, hu, hm2]
    have hfun : (fun i : Nat => pl.toArray[i]?) = fun i => pl[i]? := by funext i; simp
    simp only [Value.cells, hfun, h1, Sem.run_pure]
  · rename_i z n elem hz hd
    cases hte : C.ty elem with
    | none => simp [hte] at h
    | some te =>
    simp only [hte, Option.map_eq_some_iff] at h
    obtain ⟨cs, hf, rfl⟩ := h
    obtain ⟨cells, h1, h2⟩ := fin hf
    refine ⟨_, ?_, h2⟩
    have hu := ty_und ok ht M.w
    rw [hd] at hu
    simp only [Instr.build, Sem.run_bind, ty_zero ok ht hz, Result.andThen_ok, hu, ty_size ok hte, Value.cells, h1, Sem.run_pure]
  · cases h
theorem partA_sound {C : Cx} (ok : TyOk C) {t : TypeId} {cs : List AV} {off : Nat} {r : AV} {l : List Value} (h : partA C t cs off = some r) (hc : RepL M cs l) :
  ∃ z, (part t l.toArray off).run C.P M.w = .ok z M.w ∧ Rep M r z := by
 simp only [partA] at h
 cases ht : C.ty t with
 | none => simp [ht] at h
 | some ti =>
  simp only [ht] at h
  simp only [part, Sem.run_bind, ty_agg ok ht, Result.andThen_ok]
  cases ha : ti.agg with
  | true =>
   simp only [ha, cond_true] at h
   cases hn : Nat.ble (off + ti.size) cs.length with
   | false => simp [hn] at h
   | true =>
    simp only [hn, cond_true, Option.some.injEq] at h; subst h
    refine ⟨.agg ((l.drop off).take ti.size).toArray, ?_, by unfold Rep; exact ⟨_, rfl, (hc.drop off).take _⟩⟩
    simp only [if_true, Sem.run_bind, ty_size ok ht, Result.andThen_ok, Sem.run_pure]
    congr 2
    apply Array.ext'
    simp [List.take_drop]
  | false =>
   simp only [ha, cond_false] at h
   obtain ⟨x, hx, hr⟩ := hc.get h
   refine ⟨x, ?_, hr⟩
   simp [hx]
end
end Go.Vm

namespace Go.Vm
open Go.RowKit (Below)
theorem SimH.born {M : Mem} {base : Nat} {im0 : Nat → Prop} {nv : Nat} {H : Tr Ent} (h : SimH M base im0 nv H) (o : Obj) :
  ∃ M', M'.w = M.w.alloc o ∧ M.le M' ∧ M'.mu = M.mu ∧ M'.imm M.w.heap.size ∧ SimH M' base im0 nv H := by
 have hold : ∀ b, b < M.w.heap.size → (M.w.alloc o).heap[b]? = M.w.heap[b]? := fun b hb => Below.heap_alloc M.w o b hb
 have hle : M.le { M with imm := fun x => M.imm x ∨ x = M.w.heap.size, w := M.w.alloc o } := Mem.mk3 (fun _ _ x => x) (fun _ x => .inl x) (fun b x => hold b (h.lt b x))
 refine ⟨{ M with imm := fun x => M.imm x ∨ x = M.w.heap.size, w := M.w.alloc o }, rfl, hle, rfl, .inr rfl, ?_⟩
 exact {
  ent := fun k e he => by
   obtain ⟨b, ct, hE⟩ := h.ent k e he
   refine ⟨b, ct, hE.mu, hE.blk.mono hle (hold b hE.lt), hE.base, fun x => ⟨.inl (hE.fz x).1, (hE.fz x).2.mono (Mem.le_bare hle) (hold b hE.lt)⟩, fun x hi => ?_⟩
   rcases hi with hi | rfl
   ·exact hE.own x hi
   ·exact Nat.lt_irrefl _ hE.lt
  inj := h.inj
  fresh := h.fresh
  lt := fun b x => by
   show b < (M.w.alloc o).heap.size
   rcases x with x | rfl
   ·have := h.lt b x; simp; omega
   ·simp
  old := fun b x => .inl (h.old b x)
  lo := h.lo
  new := fun b x => by rcases x with x | rfl; exact h.new b x; exact .inr h.size
  size := by have := h.size; show base ≤ (M.w.alloc o).heap.size; simp; omega }
section
variable {M : Mem} {base : Nat} {im0 : Nat → Prop} {nv : Nat} {H : Tr Ent}
theorem aels_sound {sz : Nat} : ∀ {es es' : List AV} {ps : List (Nat × AV)} {qs : List (Nat × Value)} {ys : List Value} {cells : Array Value}, aels sz es ps = some es' → RepP M ps qs → RepL M es ys → Sized sz ys → cells.toList = flat ys →
  ∃ ys' cells', Instr.fill (fun i => some (i * sz, sz)) cells qs = some cells' ∧ RepL M es' ys' ∧ Sized sz ys' ∧ cells'.toList = flat ys' ∧ es'.length = es.length
 | es, es', [], _, ys, cells, h, hp, hr, hs, hc => by
  cases hp
  simp only [aels, Option.some.injEq] at h; subst h
  exact ⟨ys, cells, rfl, hr, hs, hc, rfl⟩
 | es, es', (i, x) :: ps, _, ys, cells, h, hp, hr, hs, hc => by
  cases hp with
  | cons hx hk =>
  rename_i y qs
  simp only [aels] at h
  cases hcx : cells? x with
  | none => simp [hcx] at h
  | some vs =>
  simp only [hcx] at h
  cases h1 : Nat.beq vs.length sz with
  | false => simp [h1] at h
  | true =>
  cases h2 : Nat.blt i es.length with
  | false => simp [h1, h2] at h
  | true =>
  simp only [h1, h2, Bool.and_self, cond_true] at h
  have h1 := Nat.eq_of_beq_eq_true h1
  have h2 : i < es.length := Nat.lt_of_lt_of_le (Nat.lt_succ_self i) (Nat.le_of_ble_eq_true h2)
  have hv := cells?_len hcx hx
  have hl := hv.length
  simp only [Array.length_toList] at hl
  have hyl := hr.length
  obtain ⟨ye, hye⟩ : ∃ ye, ys[i]? = some ye := ⟨_, List.getElem?_eq_getElem (by omega)⟩
  have hsz : ye.cells.size = sz := hs ye (by obtain ⟨hlt, hie⟩ := List.getElem?_eq_some_iff.1 hye; exact hie ▸ List.getElem_mem hlt)
  obtain ⟨q1, q2⟩ := splice_el hs (arr := flat ys) (by rw [← flat_length hs, List.take_length]) hye (off := 0) (m := y.cells.toList) (ye' := y) (by simp; omega) (by
   rw [List.take_zero, List.nil_append, List.drop_of_length_le (by simp; omega), List.append_nil])
  have hcl : cells.size = ys.length * sz := by rw [← Array.length_toList, hc, flat_length hs]
  have hle : i * sz + y.cells.size ≤ cells.size := by
   rw [hcl]
   have : (i + 1) * sz ≤ ys.length * sz := Nat.mul_le_mul_right _ (by omega)
   rw [Nat.succ_mul] at this; omega
  have hfold := foldl_set 0 (i * sz) y.cells.toList 0 cells (by rw [Array.length_toList]; omega)
  have hzip : y.cells.zipIdx.foldl (fun cs (c, j) => cs.setIfInBounds (i * sz + j) c) cells = (y.cells.toList.zipIdx 0).foldl (fun cs (c, j) => cs.setIfInBounds (i * sz + j) c) cells := by
   rw [← Array.foldl_toList, Array.toList_zipIdx]
  rw [← hzip] at hfold
  obtain ⟨ys', cells', ha, r1, r2, r3, r4⟩ := aels_sound (cells := y.cells.zipIdx.foldl (fun cs (c, j) => cs.setIfInBounds (i * sz + j) c) cells) h hk (hr.set i hx) q1 (by
   rw [hfold, hc]
   simp only [Nat.add_zero] at q2 ⊢
   rw [← q2]
   symm
   apply List.take_of_length_le
   simp only [List.length_append, List.length_take, List.length_drop, List.length_set, Array.length_toList, flat_length hs]
   omega)
  refine ⟨ys', cells', ?_, r1, r2, r3, by simpa using r4⟩
  simp only [Instr.fill]
  rw [if_neg (by simp; omega)]
  exact ha
theorem RepP.of_zip : ∀ (ns : List Nat) {xs : List AV} {ys : List Value}, RepL M xs ys → RepP M (ns.zip xs) (ns.zip ys)
 | [], _, _, _ => by simp; exact .nil
 | n :: ns, [], _, h => by rw [RepL.nil_iff] at h; subst h; simp; exact .nil
 | n :: ns, x :: xs, _, h => by
  rw [RepL.cons_iff] at h
  obtain ⟨y, ys, rfl, h1, h2⟩ := h
  exact .cons h1 (RepP.of_zip ns h2)
theorem zip_split {α β : Type} : ∀ (l : List (α × β)), (l.map (·.1)).zip (l.map (·.2)) = l
 | [] => rfl
 | (a, b) :: l => by simp [zip_split l]
theorem RepP.snd : ∀ {ps : List (Nat × AV)} {qs : List (Nat × Value)}, RepP M ps qs → RepL M (ps.map (·.2)) (qs.map (·.2)) ∧ ps.map (·.1) = qs.map (·.1)
 | _, _, .nil => by simp
 | _, _, .cons h k => by
  obtain ⟨k1, k2⟩ := RepP.snd k
  refine ⟨?_, by simp [k2]⟩
  rw [List.map_cons, RepL.cons_iff]; exact ⟨_, _, rfl, h, k1⟩
theorem elemTI_sound {C : Cx} (ok : TyOk C) {t : TypeId} {ti : TI} (h : elemTI C t = some ti) : ∃ e, (∀ w, (underlying t).run C.P w = .ok (.slice e) w) ∧ C.ty e = some ti := by
 unfold elemTI at h
 split at h
 ·rename_i e _ _ _ _ ht
  exact ⟨e, fun w => ty_und ok ht w, h⟩
 ·cases h
theorem zeros_flat (z : Value) : ∀ (len : Nat), ((Array.range (len * z.cells.size)).map (fun i => z.cells[i % z.cells.size]!)).toList = flat (List.replicate len z)
 | 0 => by simp [flat]
 | n + 1 => by
  rw [List.replicate_succ', flat_append, ← zeros_flat z n]
  apply List.ext_getElem?
  intro i
  have hfl : flat [z] = z.cells.toList := by simp [flat]
  rw [hfl]
  simp only [Array.toList_map, Array.toList_range, List.getElem?_map]
  by_cases h1 : i < n * z.cells.size
  ·have h2 : i < (n + 1) * z.cells.size := by rw [Nat.succ_mul]; omega
   rw [List.getElem?_append_left (by simpa using h1)]
   simp [h1, h2]
  ·rw [List.getElem?_append_right (by simp; omega)]
   simp only [List.length_map, List.length_range]
   by_cases h2 : i < (n + 1) * z.cells.size
   ·have hlt : i - n * z.cells.size < z.cells.size := by rw [Nat.succ_mul] at h2; omega
    have hmod : i % z.cells.size = i - n * z.cells.size := by
     have e : i = (i - n * z.cells.size) + n * z.cells.size := by omega
     conv => lhs; rw [e]
     rw [Nat.add_mul_mod_self_right, Nat.mod_eq_of_lt hlt]
    simp [h2, hmod, hlt]
   ·have hge : ¬ i - n * z.cells.size < z.cells.size := by rw [Nat.succ_mul] at h2; omega
    simp [h2, hge]
theorem RepL.replicate {a : AV} {y : Value} (h : Rep M a y) : ∀ (n : Nat), RepL M (List.replicate n a) (List.replicate n y)
 | 0 => by simp
 | n + 1 => by rw [List.replicate_succ, List.replicate_succ, RepL.cons_iff]; exact ⟨y, _, rfl, h, RepL.replicate h n⟩
theorem abuildSlice_sound {C : Cx} (ok : TyOk C) {t : TypeId} {len : Nat} {ps : List (Nat × AV)} {qs : Array (Nat × Value)} {r : AV} {H' : Tr Ent} {ver nv' : Nat} (h : abuildSlice C H t len ps = some (r, H')) (hp : RepP M ps qs.toList)
  (hs : SimH M base im0 nv H) (hv : VerOk M nv ver nv') : ∃ y w', (Instr.buildSlice t len qs).run C.P M.w = .ok y w' ∧ Post M base im0 ver nv' r H' y w' := by
 unfold abuildSlice at h
 split at h
 ·rename_i desc sz agg bytes z he
  obtain ⟨e, hu, hte⟩ := elemTI_sound ok he
  cases h1 : Nat.ble (len * sz) 16777216 with
  | false => simp [h1] at h
  | true =>
  cases h2 : Nat.beq z.cells.size sz with
  | false => simp [h1, h2] at h
  | true =>
  simp only [h1, h2, Bool.and_self, cond_true] at h
  cases hf : frzL H (ps.map (·.2)) with
  | none => simp [hf] at h
  | some p =>
  obtain ⟨xs, H1⟩ := p
  simp only [hf, Option.map_eq_some_iff, Prod.mk.injEq] at h
  obtain ⟨es, hes, rfl, rfl⟩ := h
  have h1 := Nat.le_of_ble_eq_true h1
  have h2 := Nat.eq_of_beq_eq_true h2
  obtain ⟨hp1, hp2⟩ := hp.snd
  obtain ⟨M1, hw1, hle1, hmu1, hs1, hr1⟩ := frzL_sound hf hs
  have hxs := hr1 _ hp1
  have hpz := RepP.of_zip (ps.map (·.1)) hxs
  rw [hp2, zip_split, ← hp2] at hpz
  subst h2
  obtain ⟨ys', cells', g1, g2, g3, g4, g5⟩ := aels_sound (M := M1.bare) (ys := List.replicate len z) (cells := (Array.range (len * z.cells.size)).map (fun i => z.cells[i % z.cells.size]!)) hes hpz
   (RepL.replicate (ofV_rep z) len) (fun y hy => by rw [List.eq_of_mem_replicate hy]) (zeros_flat z len)
  obtain ⟨M2, hw2, hle2, hmu2, hi2, hs2⟩ := hs1.born (.cells cells' e)
  have hb : M2.w.heap[M1.w.heap.size]? = some (.cells cells' e (0, 0)) := by rw [hw2]; show (M1.w.heap.push _)[M1.w.heap.size]? = _; simp
  have hlen : es.length = len := by simpa using g5
  refine ⟨.slice (some ⟨M1.w.heap.size, 0, none⟩) len len, M1.w.alloc (.cells cells' e), ?_, ⟨⟨M2, hw2, Mem.le_trans hle1 hle2, fun q _ => by rw [hmu2, hmu1], ?_, hs2.nv_le hv.le⟩, ?_⟩⟩
  ·obtain ⟨_, _, i, hi, hsz, _, hz⟩ := ok e _ hte
   simp only [Instr.buildSlice, Sem.run_bind, hu, Result.andThen_ok, ty_size ok hte]
   rw [if_neg (by omega)]
   by_cases h0 : len * z.cells.size = 0
   ·have hc : cells' = cells' := rfl
    simp only [h0, if_true, Sem.run_bind, Sem.run_pure, Result.andThen_ok]
    have hcells : (Array.map (fun x => (#[] : Array Value)[x % (#[] : Array Value).size]!) (Array.range 0)) = (Array.range (len * z.cells.size)).map (fun i => z.cells[i % z.cells.size]!) := by
     rw [h0]; simp
    rw [hcells, g1]
    simp only [newRow, Sem.run_bind, run_newObj, Result.andThen_ok, Sem.run_pure, hw1]
    rfl
   ·simp only [h0, if_false, Sem.run_bind, ty_zero ok hte rfl, Sem.run_pure, Result.andThen_ok]
    rw [g1]
    simp only [newRow, Sem.run_bind, run_newObj, Result.andThen_ok, Sem.run_pure, hw1]
    rfl
  ·unfold Rep
   refine ⟨some ⟨M1.w.heap.size, 0, none⟩, len, ys', by rw [hlen], by omega, g2.mono (Mem.le_bare hle2), g3, .inl ⟨M1.w.heap.size, 0, rfl, ?_⟩, fun _ => hlen.symm⟩
   rw [← g4]
   have := Mem.row_of_cells (M := M2) (o := 0) hb hi2
   simpa using this
  ·rw [hw1]; exact (Below.refl _ _).alloc hs.size _
 ·cases h
end
end Go.Vm

namespace Go.Vm
open Go.RowKit (Below)
section
variable {M : Mem} {base : Nat} {im0 : Nat → Prop} {nv : Nat} {H : Tr Ent}
def RepO (M : Mem) : Option AV → Option Value → Prop
 | none, none => True
 | some a, some y => Rep M a y
 | _, _ => False
theorem bound_run {P : Program} {a : AV} {n y : Nat} {v : Value} {code : BoundsCode} (h : asN a = some n) (hr : Rep M a v) (hle : n ≤ y) (w : World) : (Instr.sliceBound v y code).run P w = .ok n w := by
 obtain ⟨k, rfl⟩ := asN_rep h hr
 simp only [Instr.sliceBound, asIntOf, Sem.run_bind, Sem.run_pure, Result.andThen_ok]
 rw [if_pos (by omega)]
 simp
theorem abounds_run {P : Program} {len cap : Nat} {lo hi mx : Option AV} {vlo vhi vmx : Option Value} {l h : Nat} {m : Option Nat} (hb : abounds len lo hi mx = some (l, h, m)) (h1 : RepO M lo vlo) (h2 : RepO M hi vhi) (h3 : RepO M mx vmx)
  (hcap : m.getD h ≤ cap) (isS : Bool) (hlc : len ≤ cap) (w : World) :
  (Instr.sliceBounds isS len cap vlo vhi vmx).run P w = .ok (l, h, m.getD cap) w ∧ l ≤ h ∧ h ≤ m.getD h ∧ (hi = none → m = none ∧ h = len) := by
 unfold abounds at hb
 split at hb
 ·rename_i l' h' e1 e2
  cases hle : Nat.ble l' h' with
  | false => simp [hle] at hb
  | true =>
  simp only [hle, Bool.not_true, cond_false] at hb
  have hle := Nat.le_of_ble_eq_true hle
  -- the low bound
  have hlo : (vlo = none ∧ l' = 0) ∨ ∃ v, vlo = some v ∧ ∀ code, (Instr.sliceBound v h' code).run P w = .ok l' w := by
   cases lo with
   | none =>
    cases vlo with
    | none => simp only [Option.some.injEq] at e1; exact .inl ⟨rfl, e1.symm⟩
    | some v => exact h1.elim
   | some a =>
    cases vlo with
    | none => exact h1.elim
    | some v => exact .inr ⟨v, rfl, fun code => bound_run e1 h1 hle w⟩
  cases mx with
  | none =>
   simp only [Option.some.injEq, Prod.mk.injEq] at hb
   obtain ⟨rfl, rfl, rfl⟩ := hb
   cases vmx with
   | some v => exact h3.elim
   | none =>
   refine ⟨?_, hle, Nat.le_refl _, fun hhi => ?_⟩
   ·have hhi : (vhi = none ∧ h' = len) ∨ ∃ v, vhi = some v ∧ ∀ code, (Instr.sliceBound v cap code).run P w = .ok h' w := by
     cases hi with
     | none =>
      cases vhi with
      | none => simp only [Option.some.injEq] at e2; exact .inl ⟨rfl, e2.symm⟩
      | some v => exact h2.elim
     | some a =>
      cases vhi with
      | none => exact h2.elim
      | some v => exact .inr ⟨v, rfl, fun code => bound_run e2 h2 (by simpa using hcap) w⟩
    rcases hlo with ⟨rfl, rfl⟩ | ⟨v, rfl, hv⟩ <;> rcases hhi with ⟨rfl, rfl⟩ | ⟨u, rfl, hu⟩ <;>
     simp only [Instr.sliceBounds, Sem.run_bind, Sem.run_pure, Result.andThen_ok, Option.getD_none] <;> (try simp only [hu, Result.andThen_ok]) <;> (try simp only [hv, Result.andThen_ok])
   ·subst hhi; simp only [Option.some.injEq] at e2; exact ⟨rfl, e2.symm⟩
  | some a =>
   simp only at hb
   cases hm : asN a with
   | none => simp [hm] at hb
   | some m' =>
   simp only [hm] at hb
   cases hb2 : (Nat.ble h' m' && hi.isSome) with
   | false => simp [hb2] at hb
   | true =>
   simp only [hb2, cond_true, Option.some.injEq, Prod.mk.injEq] at hb
   obtain ⟨rfl, rfl, rfl⟩ := hb
   simp only [Bool.and_eq_true] at hb2
   have hhm := Nat.le_of_ble_eq_true hb2.1
   cases vmx with
   | none => exact h3.elim
   | some v =>
   cases hi with
   | none => simp at hb2
   | some b =>
   cases vhi with
   | none => exact h2.elim
   | some vh =>
   refine ⟨?_, hle, hhm, fun hhi => by cases hhi⟩
   have r1 : ∀ code, (Instr.sliceBound v cap code).run P w = .ok m' w := fun code => bound_run hm h3 (by simpa using hcap) w
   have r2 : ∀ code, (Instr.sliceBound vh m' code).run P w = .ok h' w := fun code => bound_run e2 h2 hhm w
   rcases hlo with ⟨rfl, rfl⟩ | ⟨u, rfl, hu⟩ <;> simp only [Instr.sliceBounds, Sem.run_bind, r1, Result.andThen_ok, r2, Sem.run_pure, Option.getD_some] <;> (try simp only [hu, Result.andThen_ok])
 ·cases hb
theorem optV {o : Option AV} {v : Option Value} {l : Option Value} (h : (match o with | none => some none | some a => (toV a).map some) = some l) (hr : RepO M o v) : v = l := by
 cases o with
 | none =>
  cases v with
  | none => simpa using h
  | some x => exact hr.elim
 | some a =>
  cases v with
  | none => exact hr.elim
  | some x =>
   simp only [Option.map_eq_some_iff] at h
   obtain ⟨y, hy, rfl⟩ := h
   rw [toV_rep hy hr]
theorem slice_sl {M : Mem} {k r sz lo0 l h b ct o : Nat} (hm : M.mu r = some (b, ct)) (hlo : lo0 < ct → o = lo0 * sz) (hle : l ≤ h) (hh : lo0 + h ≤ ct) :
  Rep M (.sl k r sz (lo0 + l) (h - l)) (.slice (some (if ct - lo0 = l then ⟨b, o, none⟩ else (⟨b, o, none⟩ : Addr).add (l * sz))) (h - l) (ct - lo0 - l)) := by
 unfold Rep
 by_cases hc : ct - lo0 = l
 ·rw [if_pos hc]
  exact ⟨b, ct, o, hm, by omega, by congr 1; omega, fun hx => by omega⟩
 ·rw [if_neg hc, add_lit]
  refine ⟨b, ct, o + l * sz, hm, by omega, by congr 1; omega, fun hx => ?_⟩
  rw [hlo (by omega), Nat.add_mul]
theorem slice_rsl {M : Mem} {sz cap l h c : Nat} {ao : Option Addr} {es : List AV} {ys : List Value} {ex : Bool} (hc : es.length ≤ cap) (hr : RepL M.bare es ys) (hs : Sized sz ys) (hrow : M.rowAt ao cap (flat ys)) (hle : l ≤ h) (hh : h ≤ es.length) (hcc : c ≤ cap) (hhc : h ≤ c)
  (hex : ex = true → c = h) :
  Rep M (.rsl sz ((es.drop l).take (h - l)) ex) (.slice (if c = l then ao else ao.map (·.add (l * sz))) (h - l) (c - l)) := by
 have hlen : ((es.drop l).take (h - l)).length = h - l := by simp; omega
 unfold Rep
 by_cases hcl : c = l
 ·rw [if_pos hcl]
  have : h - l = 0 := by omega
  refine ⟨ao, c - l, [], by rw [hlen], by omega, ?_, fun y hy => by simp at hy, ?_, fun hx => by omega⟩
  ·rw [this]; simp
  ·rcases hrow with ⟨b, o, e, _⟩ | e
   ·exact .inl ⟨b, o, e, Mem.row_nil⟩
   ·exact .inr (by omega)
 ·rw [if_neg hcl]
  rcases hrow with ⟨b, o, rfl, hrow⟩ | e
  ·simp only [Option.map_some, add_lit]
   refine ⟨some ⟨b, o + l * sz, none⟩, c - l, (ys.drop l).take (h - l), by rw [hlen], by omega, (hr.drop l).take _, hs.sub fun x hx => List.mem_of_mem_drop (List.mem_of_mem_take hx), .inl ⟨b, o + l * sz, rfl, ?_⟩, fun hx => ?_⟩
   ·have h2 := Mem.row_drop (l * sz) hrow
    rw [flat_drop hs] at h2
    have h3 := Mem.row_take ((h - l) * sz) h2
    rwa [flat_take (hs.sub fun x hx => List.mem_of_mem_drop hx)] at h3
   ·rw [hlen, hex hx]
  ·omega
theorem sliceAt_slice {C : Cx} (ok : TyOk C) {t e : TypeId} {ti : TI} (ht : C.ty t = some ti) (hd : ti.desc = .slice e) (x : Value) (lo hi mx : Option Value) (w : World) :
  (Instr.sliceAt t x lo hi mx).run C.P w = (Instr.slice t x lo hi mx).run C.P w := by
 have hu := ty_und ok ht w
 rw [hd] at hu
 simp only [Instr.sliceAt, Sem.run_bind, hu, Result.andThen_ok]
theorem slice_run {C : Cx} (ok : TyOk C) {t e : TypeId} {ti te : TI} (ht : C.ty t = some ti) (hd : ti.desc = .slice e) (hte : C.ty e = some te) {a : Option Addr} {len cap l h m : Nat} {lo hi mx : Option Value} {w : World}
  (hb : (Instr.sliceBounds true len cap lo hi mx).run C.P w = .ok (l, h, m) w) :
  (Instr.sliceAt t (.slice a len cap) lo hi mx).run C.P w = .ok (.slice (if m = l then a else a.map (·.add (l * te.size))) (h - l) (m - l)) w := by
 rw [sliceAt_slice ok ht hd]
 have hu := ty_und ok ht w
 rw [hd] at hu
 simp only [Instr.slice, Sem.run_bind, hu, Result.andThen_ok, hb, ty_size ok hte, Sem.run_pure]
theorem blt_lt {a b : Nat} (h : Nat.blt a b = true) : a < b := Nat.lt_of_lt_of_le (Nat.lt_succ_self a) (Nat.le_of_ble_eq_true h)
theorem elemTI_some {C : Cx} (_ok : TyOk C) {t : TypeId} {te : TI} (h : elemTI C t = some te) : ∃ e ti, C.ty t = some ti ∧ ti.desc = .slice e ∧ C.ty e = some te := by
 unfold elemTI at h
 split at h
 ·rename_i e _ _ _ _ ht
  exact ⟨e, _, ht, rfl, h⟩
 ·cases h
theorem aslice_sound {C : Cx} (ok : TyOk C) {t : TypeId} {x r : AV} {lo hi mx : Option AV} {y : Value} {vlo vhi vmx : Option Value} (h : aslice C H t x lo hi mx = some r) (hx : Rep M x y) (h1 : RepO M lo vlo) (h2 : RepO M hi vhi) (h3 : RepO M mx vmx)
  (hs : SimH M base im0 nv H) : ∃ z, (Instr.sliceAt t y vlo vhi vmx).run C.P M.w = .ok z M.w ∧ Rep M r z := by
 unfold aslice at h
 split at h
 ·-- a string
  rename_i s
  split at h
  ·rename_i l hh e1 e2
   unfold Rep at hx; subst hx
   have q1 := optV e1 h1
   have q2 := optV e2 h2
   subst q1; subst q2
   cases vmx with
   | some v => exact h3.elim
   | none =>
   split at h
   ·rename_i ht
    obtain ⟨z, hz, hr⟩ := pureOp_sound (M := M) h M.w
    refine ⟨z, ?_, hr⟩
    rw [← hz]
    have hu := ty_und ok ht M.w
    simp only at hu
    simp only [Instr.sliceAt, Sem.run_bind, hu, Result.andThen_ok]
   ·cases h
  ·cases h
 ·-- nil
  split at h
  ·rename_i te hte hb
   obtain ⟨e, ti, ht, hd, hte⟩ := elemTI_some ok hte
   simp only [Option.some.injEq] at h; subst h
   unfold Rep at hx; subst hx
   obtain ⟨q1, q2, q3, q4⟩ := abounds_run (P := C.P) (cap := 0) hb h1 h2 h3 (by simp) true (Nat.le_refl _) M.w
   refine ⟨_, slice_run ok ht hd hte q1, ?_⟩
   unfold Rep; simp
  ·cases h
 ·-- a slice that is never written again
  rename_i sz es ex
  unfold Rep at hx
  obtain ⟨ao, cap, ys, rfl, hcap, hr, hsd, hrow, hex⟩ := hx
  split at h
  ·rename_i te l hh hte hb
   obtain ⟨e, ti, ht, hd, hte⟩ := elemTI_some ok hte
   cases c1 : Nat.beq te.size sz with
   | false => simp [c1] at h
   | true =>
   cases c2 : Nat.ble hh es.length with
   | false => simp [c1, c2] at h
   | true =>
   simp only [c1, c2, Bool.and_self, cond_true, Option.some.injEq] at h; subst h
   have c1 := Nat.eq_of_beq_eq_true c1; subst c1
   have c2 := Nat.le_of_ble_eq_true c2
   obtain ⟨q1, q2, q3, q4⟩ := abounds_run (P := C.P) (cap := cap) hb h1 h2 h3 (by simp; omega) true hcap M.w
   refine ⟨_, slice_run ok ht hd hte q1, ?_⟩
   have := slice_rsl (c := cap) hcap hr hsd hrow q2 c2 (Nat.le_refl _) (by omega) (ex := ex && Nat.beq hh es.length) (fun hx => by
    simp only [Bool.and_eq_true] at hx
    have := Nat.eq_of_beq_eq_true hx.2
    rw [hex hx.1]; omega)
   simpa only [Option.getD_none] using this
  ·rename_i te l hh m hte hb
   obtain ⟨e, ti, ht, hd, hte⟩ := elemTI_some ok hte
   cases c1 : Nat.beq te.size sz with
   | false => simp [c1] at h
   | true =>
   cases c2 : Nat.ble m es.length with
   | false => simp [c1, c2] at h
   | true =>
   simp only [c1, c2, Bool.and_self, cond_true] at h
   have c1 := Nat.eq_of_beq_eq_true c1; subst c1
   have c2 := Nat.le_of_ble_eq_true c2
   obtain ⟨q1, q2, q3, q4⟩ := abounds_run (P := C.P) (cap := cap) hb h1 h2 h3 (by simp; omega) true hcap M.w
   refine ⟨_, slice_run ok ht hd hte q1, ?_⟩
   simp only [Option.getD_some] at q3 ⊢
   cases c3 : Nat.beq m hh with
   | false => simp only [c3, cond_false, Option.some.injEq] at h; subst h; unfold Rep; trivial
   | true =>
    simp only [c3, cond_true, Option.some.injEq] at h; subst h
    have c3 := Nat.eq_of_beq_eq_true c3; subst c3
    have := slice_rsl (c := m) hcap hr hsd hrow q2 c2 (by omega) (Nat.le_refl _) (ex := true) (fun _ => rfl)
    exact this
  ·cases h
 ·-- a slice of one's own
  rename_i k r sz lo0 len
  unfold Rep at hx
  obtain ⟨b, ct, o, hm, hct, rfl, ho⟩ := hx
  split at h
  ·rename_i te l hh ver fz sz' es ex hte hb hl
   obtain ⟨e, ti, ht, hd, hte⟩ := elemTI_some ok hte
   obtain ⟨hk, hv⟩ := live_some hl
   simp only at hv; subst hv
   obtain ⟨b', ct', hE⟩ := hs.ent k _ hk
   obtain ⟨rfl, rfl⟩ := mu_eq hE.mu hm
   obtain ⟨arr, ty, ys, hbk, hrep, hsd, has, hlen, hex, htk⟩ := hE.blk
   cases c1 : Nat.beq te.size sz with
   | false => simp [c1] at h
   | true =>
   cases c2 : Nat.beq sz sz' with
   | false => simp [c1, c2] at h
   | true =>
   cases c3 : Nat.ble (lo0 + hh) es.length with
   | false => simp [c1, c2, c3] at h
   | true =>
   simp only [c1, c2, c3, Bool.and_self, cond_true, Option.some.injEq] at h; subst h
   have c1 := Nat.eq_of_beq_eq_true c1; subst c1
   have c3 := Nat.le_of_ble_eq_true c3
   obtain ⟨q1, q2, q3, q4⟩ := abounds_run (P := C.P) (cap := ct' - lo0) hb h1 h2 h3 (by simp; omega) true (by omega) M.w
   refine ⟨_, slice_run ok ht hd hte q1, ?_⟩
   have := slice_sl (M := M) (k := k) hm ho q2 (by omega : lo0 + hh ≤ ct')
   simp only [Option.getD_none]
   by_cases hcl : ct' - lo0 = l
   ·simpa [hcl] using this
   ·simpa [hcl] using this
  ·rename_i te l hh m ver fz sz' es ex hte hb hl
   obtain ⟨e, ti, ht, hd, hte⟩ := elemTI_some ok hte
   obtain ⟨hk, hv⟩ := live_some hl
   simp only at hv; subst hv
   obtain ⟨b', ct', hE⟩ := hs.ent k _ hk
   obtain ⟨rfl, rfl⟩ := mu_eq hE.mu hm
   obtain ⟨arr, ty, ys, hbk, hrep, hsd, has, hlen, hex, htk⟩ := hE.blk
   cases c1 : Nat.beq te.size sz with
   | false => simp [c1] at h
   | true =>
   cases c2 : Nat.beq sz sz' with
   | false => simp [c1, c2] at h
   | true =>
   cases c3 : Nat.ble (lo0 + m) es.length with
   | false => simp [c1, c2, c3] at h
   | true =>
   simp only [c1, c2, c3, Bool.and_self, cond_true] at h
   have c3 := Nat.le_of_ble_eq_true c3
   obtain ⟨q1, q2, q3, q4⟩ := abounds_run (P := C.P) (cap := ct' - lo0) hb h1 h2 h3 (by simp; omega) true (by omega) M.w
   refine ⟨_, slice_run ok ht hd hte q1, ?_⟩
   cases c4 : Nat.beq l m with
   | false => simp only [c4, cond_false, Option.some.injEq] at h; subst h; unfold Rep; trivial
   | true =>
    simp only [c4, cond_true, Option.some.injEq] at h; subst h
    have c4 := Nat.eq_of_beq_eq_true c4; subst c4
    simp only [Option.getD_some] at q3 ⊢
    unfold Rep
    have hl0 : hh - l = 0 := by omega
    refine ⟨some ⟨b', o, none⟩, 0, [], by simp [hl0], by simp, by simp, fun y hy => by simp at hy, .inl ⟨b', o, rfl, Mem.row_nil⟩, fun _ => rfl⟩
  ·cases h
 ·cases h
theorem asIntOf_nat {P : Program} {a : AV} {n : Nat} {v : Value} (h : asN a = some n) (hr : Rep M a v) (w : World) : ∃ k, (asIntOf v).run P w = .ok (k, (n : Int)) w := by
 obtain ⟨k, rfl⟩ := asN_rep h hr
 exact ⟨k, rfl⟩
theorem ptr_plus {M : Mem} {b o n : Nat} {l : List Value} {cs : List AV} (hr : RepL M.bare cs l) (hrow : M.row b o l) : Rep M (.rptr (cs.drop n)) (.pointer (some ⟨b, o + n, none⟩)) := by
 unfold Rep; exact ⟨b, o + n, l.drop n, rfl, hr.drop n, Mem.row_drop n hrow⟩
theorem plus_sound {x r : AV} {y : Value} {n : Nat} (h : (match x with | .ptr k r off => some (AV.ptr k r (off + n)) | .eptr k r sz j off => some (.eptr k r sz j (off + n)) | .rptr cs => some (.rptr (cs.drop n)) | _ => none) = some r) (hx : Rep M x y) :
  ∃ a, y = .pointer (some a) ∧ Rep M r (.pointer (some (a.add n))) := by
 split at h
 ·simp only [Option.some.injEq] at h; subst h
  unfold Rep at hx ⊢
  obtain ⟨b, ct, hm, rfl⟩ := hx
  exact ⟨_, rfl, b, ct, hm, by rw [add_lit]⟩
 ·simp only [Option.some.injEq] at h; subst h
  unfold Rep at hx ⊢
  obtain ⟨b, ct, hm, rfl⟩ := hx
  exact ⟨_, rfl, b, ct, hm, by rw [add_lit, Nat.add_assoc]⟩
 ·simp only [Option.some.injEq] at h; subst h
  unfold Rep at hx
  obtain ⟨b, o, l, rfl, hr, hrow⟩ := hx
  refine ⟨_, rfl, ?_⟩
  rw [add_lit]; exact ptr_plus hr hrow
 ·cases h
theorem afieldAddr_sound {C : Cx} (ok : TyOk C) {t : TypeId} {x r : AV} {i : Nat} {y : Value} (h : afieldAddr C t x i = some r) (hx : Rep M x y) :
  ∃ z, (Instr.fieldAt t y i).run C.P M.w = .ok z M.w ∧ Rep M r z := by
 unfold afieldAddr at h
 split at h
 ·rename_i fields _ _ _ _ ht
  cases hf : fields[i]? with
  | none => simp [hf] at h
  | some f =>
  simp only [hf] at h
  cases hft : C.ty f.type with
  | none => simp [hft] at h
  | some ti =>
  simp only [hft] at h
  cases h0 : Nat.beq ti.size 0 with
  | true => simp [h0] at h
  | false =>
  simp only [h0, cond_false] at h
  have h0 : ti.size ≠ 0 := fun e => by rw [e] at h0; cases h0
  obtain ⟨a, rfl, hr⟩ := plus_sound h hx
  refine ⟨_, ?_, hr⟩
  have hu := ty_und ok ht M.w
  simp only at hu
  simp only [Instr.fieldAt, Sem.run_bind, hu, Result.andThen_ok, hf, Instr.sureAddr, Sem.run_pure, fieldPlace, ty_size ok hft, h0, if_false]
 ·cases h
theorem aindexAddr_sound {C : Cx} (ok : TyOk C) {t : TypeId} {x r i : AV} {y vi : Value} (h : aindexAddr C H t x i = some r) (hx : Rep M x y) (hi : Rep M i vi) (_hs : SimH M base im0 nv H) :
  ∃ z, (Instr.indexAt t y vi).run C.P M.w = .ok z M.w ∧ Rep M r z := by
 unfold aindexAddr at h
 cases hn : asN i with
 | none => simp [hn] at h
 | some n =>
 simp only [hn] at h
 obtain ⟨k, hk⟩ := asIntOf_nat (P := C.P) hn hi M.w
 split at h
 ·rename_i sz es ex
  cases hte : elemTI C t with
  | none => simp [hte] at h
  | some te =>
  obtain ⟨e, ti, ht, hd, hte'⟩ := elemTI_some ok hte
  simp only [hte] at h
  cases c1 : Nat.beq te.size sz with
  | false => simp [c1] at h
  | true =>
  simp only [c1, cond_true, Option.bind_eq_some_iff, Option.map_eq_some_iff] at h
  obtain ⟨el, hel, cs, hcs, rfl⟩ := h
  have c1 := Nat.eq_of_beq_eq_true c1; subst c1
  unfold Rep at hx
  obtain ⟨ao, cap, ys, rfl, hcap, hr, hsd, hrow, hex⟩ := hx
  have hlt := (List.getElem?_eq_some_iff.1 hel).1
  have hrow2 : ∃ b o, ao = some ⟨b, o, none⟩ ∧ M.row b o (flat ys) := by
   rcases hrow with h | h
   ·exact h
   ·omega
  clear hrow
  obtain ⟨b, o, rfl, hrow⟩ := hrow2
  obtain ⟨ye, hye, hre⟩ := hr.get hel
  obtain ⟨e1, e2⟩ := flat_el hsd hye
  rw [e1] at hrow
  have hrow2 := Mem.row_sub hrow
  rw [e2] at hrow2
  have hu := ty_und ok ht M.w
  rw [hd] at hu
  refine ⟨.pointer (some ⟨b, o + n * te.size, none⟩), ?_, by unfold Rep; exact ⟨b, _, _, rfl, cells?_len hcs hre, hrow2⟩⟩
  simp only [Instr.indexAt, Sem.run_bind, hk, Result.andThen_ok, hu, Sem.run_pure]
  rw [if_pos ⟨by omega, by omega⟩]
  simp only [Sem.run_bind, ty_size ok hte', Result.andThen_ok, Sem.run_pure, Int.toNat_natCast, add_lit]
 ·rename_i kk rr sz lo len
  split at h
  ·rename_i te ver fz sz' es ex hte hl
   obtain ⟨e, ti, ht, hd, hte'⟩ := elemTI_some ok hte
   cases c1 : Nat.beq te.size sz with
   | false => simp [c1] at h
   | true =>
   cases c2 : Nat.blt n len with
   | false => simp [c1, c2] at h
   | true =>
   simp only [c1, c2, Bool.and_self, cond_true, Option.some.injEq] at h; subst h
   have c1 := Nat.eq_of_beq_eq_true c1; subst c1
   have c2 := blt_lt c2
   unfold Rep at hx
   obtain ⟨b, ct, o, hm, hct, rfl, ho⟩ := hx
   have hu := ty_und ok ht M.w
   rw [hd] at hu
   refine ⟨.pointer (some ⟨b, o + n * te.size, none⟩), ?_, by unfold Rep; exact ⟨b, ct, hm, by rw [ho (by omega), Nat.add_mul, Nat.add_zero]⟩⟩
   simp only [Instr.indexAt, Sem.run_bind, hk, Result.andThen_ok, hu, Sem.run_pure]
   rw [if_pos ⟨by omega, by omega⟩]
   simp only [Sem.run_bind, ty_size ok hte', Result.andThen_ok, Sem.run_pure, Int.toNat_natCast, add_lit]
  ·cases h
 ·split at h
  ·rename_i len elem _ _ _ _ ht
   cases hte : C.ty elem with
   | none => simp [hte] at h
   | some te =>
   simp only [hte] at h
   cases c2 : Nat.blt n len with
   | false => simp [c2] at h
   | true =>
   simp only [c2, cond_true] at h
   have c2 := blt_lt c2
   have hu := ty_und ok ht M.w
   simp only at hu
   obtain ⟨a, rfl, hr⟩ := plus_sound h hx
   refine ⟨_, ?_, hr⟩
   simp only [Instr.indexAt, Sem.run_bind, hk, Result.andThen_ok, hu, Sem.run_pure, Instr.sureAddr]
   rw [if_pos ⟨by omega, by omega⟩]
   simp only [Sem.run_bind, ty_size ok hte, Result.andThen_ok, Sem.run_pure, Int.toNat_natCast]
  ·cases h
theorem afield_sound {C : Cx} (ok : TyOk C) {t : TypeId} {x r : AV} {i : Nat} {y : Value} (h : afield C t x i = some r) (hx : Rep M x y) :
  ∃ z, (Instr.field t y i).run C.P M.w = .ok z M.w ∧ Rep M r z := by
 unfold afield at h
 split at h
 ·rename_i cs fields _ _ _ _ ht
  cases hf : fields[i]? with
  | none => simp [hf] at h
  | some f =>
  simp only [hf] at h
  unfold Rep at hx
  obtain ⟨l, rfl, hl⟩ := hx
  obtain ⟨z, hz, hr⟩ := partA_sound ok h hl
  refine ⟨z, ?_, hr⟩
  have hu := ty_und ok ht M.w
  simp only at hu
  simp only [Instr.field, Sem.run_bind, hu, Result.andThen_ok, hf, asAgg, Sem.run_pure, hz]
 ·cases h
theorem aindex_sound {C : Cx} (ok : TyOk C) {t : TypeId} {x r i : AV} {y vi : Value} (h : aindex C t x i = some r) (hx : Rep M x y) (hi : Rep M i vi) :
  ∃ z, (Instr.index t y vi).run C.P M.w = .ok z M.w ∧ Rep M r z := by
 unfold aindex at h
 split at h
 ·rename_i cs
  split at h
  ·rename_i len elem _ _ _ _ n ht hn
   cases hte : C.ty elem with
   | none => simp [hte] at h
   | some te =>
   simp only [hte] at h
   cases c2 : Nat.blt n len with
   | false => simp [c2] at h
   | true =>
   simp only [c2, cond_true] at h
   have c2 := blt_lt c2
   obtain ⟨k, hk⟩ := asIntOf_nat (P := C.P) hn hi M.w
   unfold Rep at hx
   obtain ⟨l, rfl, hl⟩ := hx
   obtain ⟨z, hz, hr⟩ := partA_sound ok h hl
   refine ⟨z, ?_, hr⟩
   have hu := ty_und ok ht M.w
   simp only at hu
   simp only [Instr.index, Sem.run_bind, hk, Result.andThen_ok, hu]
   rw [if_pos ⟨by omega, by omega⟩]
   simp only [Sem.run_bind, ty_size ok hte, Result.andThen_ok, Int.toNat_natCast, hz]
  ·cases h
 ·split at h
  ·rename_i a b ha hb
   have q1 := toV_rep ha hx
   have q2 := toV_rep hb hi
   subst q1; subst q2
   exact pureOp_sound h M.w
  ·cases h
theorem numsA_rep : ∀ {es : List AV} {ns : List Int} {M : Mem} {ys : List Value}, numsA es = some ns → RepL M es ys → ys = ns.map (Value.int .u8)
 | [], ns, M, ys, h, hr => by
  simp only [numsA, Option.some.injEq] at h; subst h
  rw [RepL.nil_iff] at hr; exact hr
 | e :: es, ns, M, ys, h, hr => by
  unfold numsA at h
  split at h
  ·rename_i h0; cases h0
  ·rename_i n r h0
   obtain ⟨rfl, rfl⟩ := List.cons.inj h0
   rw [Option.map_eq_some_iff] at h
   obtain ⟨ms, hm, rfl⟩ := h
   rw [RepL.cons_iff] at hr
   obtain ⟨z, zs, rfl, h1, h2⟩ := hr
   unfold Rep at h1
   rw [h1, numsA_rep hm h2]; rfl
  ·cases h
theorem flat_u8 : ∀ ns : List Int, flat (ns.map (Value.int .u8)) = ns.map (Value.int .u8)
 | [] => rfl
 | n :: ns => by show Value.int .u8 n :: flat (ns.map (Value.int .u8)) = _; rw [flat_u8 ns]; rfl
theorem aconv_sound {C : Cx} (ok : TyOk C) {s d : TypeId} {x r : AV} {y : Value} (h : aconv C s d x = some r) (hx : Rep M x y) :
  ∃ z, (convert s d y).run C.P M.w = .ok z M.w ∧ Rep M r z := by
 unfold aconv at h
 split at h
 ·rename_i a ha
  have := toV_rep ha hx
  subst this
  exact pureOp_sound h M.w
 ·split at h
  ·rename_i e es ex _
   split at h
   ·rename_i el _ _ _ _ _ _ _ _ ns hs hd hn
    split at h
    ·rename_i he
     simp only [Option.some.injEq] at h; subst h
     unfold Rep at hx
     obtain ⟨ao, cap, ys, rfl, hcap, hr, _, hrow, _⟩ := hx
     have hys := numsA_rep hn hr
     subst hys
     have hlen : ns.length = (e :: es).length := by have := hr.length; simpa using this
     rcases hrow with ⟨b, o, rfl, hrow⟩ | h0
     ·refine ⟨_, run_convert_bytes_arg (P := C.P) M.w s el (ok _ _ hs).1 (ok _ _ he).1 b o (e :: es).length cap ns hlen (fun i hi => ?_) d (ok _ _ hd).1, by unfold Rep; rfl⟩
      have hi' : i < ns.length := by omega
      rw [flat_u8] at hrow
      have := (hrow i (.int .u8 ns[i]) (by rw [List.getElem?_map, List.getElem?_eq_getElem hi']; rfl)).2
      rw [this, List.getD_eq_getElem?_getD, List.getElem?_eq_getElem hi']; rfl
     ·simp at hcap; omega
    ·cases h
   ·cases h
  ·cases h
end
end Go.Vm

namespace Go.Vm
open Go.RowKit (Below)
section
variable {M : Mem} {base : Nat} {im0 : Nat → Prop} {nv : Nat} {H : Tr Ent}
theorem isS_rep {a : AV} {y : Value} (h : isS a = true) (hr : Rep M a y) : ∃ x l c, y = .slice (some x) l c := by
 cases a <;> simp only [isS] at h <;> try (cases h; done)
 ·unfold Rep at hr; obtain ⟨_, _, _, _, _, rfl, _⟩ := hr; exact ⟨_, _, _, rfl⟩
 ·rename_i sz es ex
  cases es with
  | nil => simp at h
  | cons e es =>
   unfold Rep at hr; obtain ⟨ao, cap, ys, rfl, hc, _, _, hrow, _⟩ := hr
   rcases hrow with ⟨b, o, rfl, _⟩ | e
   ·exact ⟨_, _, _, rfl⟩
   ·simp at hc; omega
theorem isM_rep {a : AV} {y : Value} (h : isM a = true) (hr : Rep M a y) : ∃ b, y = .map (some b) := by
 cases a <;> simp only [isM] at h <;> try (cases h; done)
 ·unfold Rep at hr; obtain ⟨_, _, _, rfl⟩ := hr; exact ⟨_, rfl⟩
 ·unfold Rep at hr; obtain ⟨_, _, _, rfl, _⟩ := hr; exact ⟨_, rfl⟩
theorem isF_rep {a : AV} {y : Value} (h : isF a = true) (hr : Rep M a y) : ∃ f l c, y = .func f l c := by
 cases a <;> simp only [isF] at h <;> try (cases h; done)
 unfold Rep at hr; obtain ⟨_, _, rfl, _⟩ := hr; exact ⟨_, _, _, rfl⟩
theorem eqIn_slice {P : Program} {t e : TypeId} (n : Nat) {w : World} (hu : (underlying t).run P w = .ok (.slice e) w) {x : Addr} {l c l' c' : Nat} :
  (Op.equalIn (n + 1) t (.slice none l' c') (.slice (some x) l c)).run P w = .ok false w ∧ (Op.equalIn (n + 1) t (.slice (some x) l c) (.slice none l' c')).run P w = .ok false w := by
 constructor <;> (unfold Op.equalIn; simp only [Sem.run_bind, hu, Result.andThen_ok, Sem.run_pure]; try rfl)
theorem eqIn_map {P : Program} {t k e : TypeId} (n : Nat) {w : World} (hu : (underlying t).run P w = .ok (.map k e) w) {x : Nat} :
  (Op.equalIn (n + 1) t (.map none) (.map (some x))).run P w = .ok false w ∧ (Op.equalIn (n + 1) t (.map (some x)) (.map none)).run P w = .ok false w := by
 constructor <;> (unfold Op.equalIn; simp only [Sem.run_bind, hu, Result.andThen_ok, Sem.run_pure]; try rfl)
theorem eqIn_func {P : Program} {t : TypeId} {p r : Array TypeId} {b : Bool} (n : Nat) {w : World} (hu : (underlying t).run P w = .ok (.func p r b) w) {f : Fn} {l c : Array Value} :
  (Op.equalIn (n + 1) t .nilFunc (.func f l c)).run P w = .ok false w ∧ (Op.equalIn (n + 1) t (.func f l c) .nilFunc).run P w = .ok false w := by
 constructor <;> (unfold Op.equalIn; simp only [Sem.run_bind, hu, Result.andThen_ok, Sem.run_pure])
theorem nilCmp_sound {P : Program} {t : TypeId} {d : TypeDesc} {x y : AV} {vx vy : Value} (h : nilCmp d x y = true) (hx : Rep M x vx) (hy : Rep M y vy) (w : World) (hu : (underlying t).run P w = .ok d w) :
    (Op.equal t vx vy).run P w = .ok false w ∧ (∀ o xo yo, (eqGuard o t xo yo vx vy).run P w = .ok () w) ∧
      (binOp .eql t vx vy = do pure (.bool (← Op.equal t vx vy))) ∧ (binOp .neq t vx vy = do pure (.bool (!(← Op.equal t vx vy)))) := by
  unfold nilCmp at h
  split at h
  · split at h
    · obtain ⟨p, l, c, rfl⟩ := isS_rep h hy
      unfold Rep at hx; subst hx
      refine ⟨?_, fun o _ _ => by cases o <;> rfl, rfl, rfl⟩
      exact (eqIn_slice 9999 hu).1
    · obtain ⟨p, l, c, rfl⟩ := isS_rep h hx
      unfold Rep at hy; subst hy
      refine ⟨?_, fun o _ _ => by cases o <;> rfl, rfl, rfl⟩
      exact (eqIn_slice 9999 hu).2
    · cases h
  · split at h
    · obtain ⟨p, rfl⟩ := isM_rep h hy
      unfold Rep at hx; subst hx
      refine ⟨?_, fun o _ _ => by cases o <;> rfl, rfl, rfl⟩
      exact (eqIn_map 9999 hu).1
    · obtain ⟨p, rfl⟩ := isM_rep h hx
      unfold Rep at hy; subst hy
      refine ⟨?_, fun o _ _ => by cases o <;> rfl, rfl, rfl⟩
      exact (eqIn_map 9999 hu).2
    · cases h
  · split at h
    · obtain ⟨p, l, c, rfl⟩ := isF_rep h hy
      unfold Rep at hx; subst hx
      refine ⟨?_, fun o _ _ => by cases o <;> rfl, rfl, rfl⟩
      exact (eqIn_func 9999 hu).1
    · obtain ⟨p, l, c, rfl⟩ := isF_rep h hx
      unfold Rep at hy; subst hy
      refine ⟨?_, fun o _ _ => by cases o <;> rfl, rfl, rfl⟩
      exact (eqIn_func 9999 hu).2
    · cases h
  · cases h
theorem abin_sound {C : Cx} (ok : TyOk C) {o : BinOp} {t : TypeId} {xo yo : Operand} {x y r : AV} {vx vy : Value} (h : abin C o t xo yo x y = some r) (hx : Rep M x vx) (hy : Rep M y vy) :
    ∃ z, (do eqGuard o t xo yo vx vy; binOp o t vx vy : Sem Value).run C.P M.w = .ok z M.w ∧ Rep M r z := by
  unfold abin at h
  split at h
  · rename_i a b ha hb
    have q1 := toV_rep ha hx
    have q2 := toV_rep hb hy
    subst q1; subst q2
    exact pureOp_sound (C := C) h M.w
  · split at h
    · rename_i ti ht
      cases hn : nilCmp ti.desc x y with
      | false => simp [hn] at h
      | true =>
      simp only [hn, cond_true, Option.some.injEq] at h; subst h
      obtain ⟨h1, h2, h3, h4⟩ := nilCmp_sound hn hx hy M.w (ty_und ok ht M.w)
      refine ⟨.bool false, ?_, Rep.v_self⟩
      rw [h3]
      simp only [Sem.run_bind, h2, Result.andThen_ok, h1, Sem.run_pure]
    · rename_i ti ht
      cases hn : nilCmp ti.desc x y with
      | false => simp [hn] at h
      | true =>
      simp only [hn, cond_true, Option.some.injEq] at h; subst h
      obtain ⟨h1, h2, h3, h4⟩ := nilCmp_sound hn hx hy M.w (ty_und ok ht M.w)
      refine ⟨.bool true, ?_, Rep.v_self⟩
      rw [h4]
      simp only [Sem.run_bind, h2, Result.andThen_ok, h1, Sem.run_pure, Bool.not_false]
    · cases h
theorem mapOf_sound {x : AV} {ks vs : List AV} {y : Value} (h : mapOf H x = some (ks, vs)) (hx : Rep M x y) (hs : SimH M base im0 nv H) :
  (y = .map none ∧ ks = [] ∧ vs = []) ∨ ∃ b es clock, y = .map (some b) ∧ M.w.heap[b]? = some (.map es clock) ∧ RepL M ks (es.toList.map (·.key)) ∧ RepL M vs (es.toList.map (·.val)) := by
 unfold mapOf at h
 split at h
 ·simp only [Option.some.injEq, Prod.mk.injEq] at h
  obtain ⟨rfl, rfl⟩ := h
  unfold Rep at hx; exact .inl ⟨hx, rfl, rfl⟩
 ·simp only [Option.some.injEq, Prod.mk.injEq] at h
  obtain ⟨rfl, rfl⟩ := h
  unfold Rep at hx
  obtain ⟨b, es, clock, rfl, hi, hb, h1, h2⟩ := hx
  exact .inr ⟨b, es, clock, rfl, hb, h1.mono (Mem.bare_le M), h2.mono (Mem.bare_le M)⟩
 ·split at h
  ·rename_i k r ver fz ks' vs' hl
   simp only [Option.some.injEq, Prod.mk.injEq] at h
   obtain ⟨rfl, rfl⟩ := h
   obtain ⟨hk, hv⟩ := live_some hl
   simp only at hv; subst hv
   obtain ⟨b, ct, hE⟩ := hs.ent _ _ hk
   obtain ⟨es, clock, hb, h1, h2⟩ := hE.blk
   unfold Rep at hx
   obtain ⟨b', ct', hm, rfl⟩ := hx
   obtain ⟨rfl, rfl⟩ := mu_eq hE.mu hm
   exact .inr ⟨_, es, clock, rfl, hb, h1, h2⟩
  ·cases h
 ·cases h
theorem keyEq_now {kd : TypeDesc} {k e : Value} {b : Bool} (hk : keyKind kd k = true) (h : keyEq k e = some b) : Instr.sameNow kd k e = some b := by
 unfold keyKind at hk
 split at hk
 ·unfold keyEq at h
  split at h
  ·rename_i k' a k2 b2 hh
   simp only [Value.int.injEq] at hh
   by_cases hkk : k' = k2
   ·simp only [hkk, decide_true, cond_true, Option.some.injEq] at h
    simp [Instr.sameNow, hh, hkk, h]
   ·simp [hkk] at h
  ·simp_all
  ·simp_all
  ·cases h
 ·unfold keyEq at h
  split at h <;> simp_all [Instr.sameNow]
 ·unfold keyEq at h
  split at h <;> simp_all [Instr.sameNow]
 ·cases hk
theorem findK_now {kd : TypeDesc} {key : Value} (hk : keyKind kd key = true) : ∀ {ks : List AV} {es : List MapEntry} {i : Nat} {r : Option Nat}, findK (fun e => keyEq key e) ks i = some r → RepL M ks (es.map (·.key)) →
  ∃ q, Instr.findNow kd key es i = some q ∧ (r = none → q = none) ∧ (∀ j, r = some j → i ≤ j ∧ ∃ e, es[j - i]? = some e ∧ q = some (j, e.val))
 | [], es, i, r, h, hr => by
  simp only [findK, Option.some.injEq] at h; subst h
  cases es with
  | nil => exact ⟨none, rfl, fun _ => rfl, fun j hj => (by cases hj)⟩
  | cons e es => simp at hr
 | a :: ks, es, i, r, h, hr => by
  cases es with
  | nil => simp at hr
  | cons e es =>
  simp only [findK] at h
  cases ha : toV a with
  | none => simp [ha] at h
  | some ev =>
  simp only [ha] at h
  rw [List.map_cons, RepL.cons_iff] at hr
  obtain ⟨x, xs, hxs, h1, h2⟩ := hr
  simp only [List.cons.injEq] at hxs
  obtain ⟨rfl, rfl⟩ := hxs
  have hev := toV_rep ha h1
  cases hq : keyEq key ev with
  | none => simp [hq] at h
  | some b =>
  simp only [hq] at h
  have hnow := keyEq_now hk hq
  rw [← hev] at hnow
  cases b with
  | true =>
   simp only [Option.some.injEq] at h; subst h
   refine ⟨some (i, e.val), by simp only [Instr.findNow, hnow], fun hh => (by cases hh), fun j hj => ?_⟩
   simp only [Option.some.injEq] at hj; subst hj
   exact ⟨Nat.le_refl _, e, by simp, rfl⟩
  | false =>
   obtain ⟨q, g1, g2, g3⟩ := findK_now hk h h2
   refine ⟨q, by simp only [Instr.findNow, hnow]; exact g1, g2, fun j hj => ?_⟩
   obtain ⟨k1, e', k2, k3⟩ := g3 j hj
   refine ⟨by omega, e', ?_, k3⟩
   rw [show j - i = (j - (i + 1)) + 1 by omega]; simpa using k2
theorem findK_asks {P : Program} {kt : TypeId} {key : Value} (w : World) : ∀ {ks : List AV} {es : List MapEntry} {i : Nat} {r : Option Nat}, findK (fun e => pureRun P (Op.equal kt key e)) ks i = some r → RepL M ks (es.map (·.key)) →
  ∃ q, (Instr.findAsking kt key es i).run P w = .ok q w ∧ (r = none → q = none) ∧ (∀ j, r = some j → i ≤ j ∧ ∃ e, es[j - i]? = some e ∧ q = some (j, e.val))
 | [], es, i, r, h, hr => by
  simp only [findK, Option.some.injEq] at h; subst h
  cases es with
  | nil => exact ⟨none, rfl, fun _ => rfl, fun j hj => (by cases hj)⟩
  | cons e es => simp at hr
 | a :: ks, es, i, r, h, hr => by
  cases es with
  | nil => simp at hr
  | cons e es =>
  simp only [findK] at h
  cases ha : toV a with
  | none => simp [ha] at h
  | some ev =>
  simp only [ha] at h
  rw [List.map_cons, RepL.cons_iff] at hr
  obtain ⟨x, xs, hxs, h1, h2⟩ := hr
  simp only [List.cons.injEq] at hxs
  obtain ⟨rfl, rfl⟩ := hxs
  have hev := toV_rep ha h1
  cases hq : pureRun P (Op.equal kt key ev) with
  | none => simp [hq] at h
  | some b =>
  simp only [hq] at h
  have hrun := pureRun_sound hq w
  rw [← hev] at hrun
  cases b with
  | true =>
   simp only [Option.some.injEq] at h; subst h
   refine ⟨some (i, e.val), by simp only [Instr.findAsking, Sem.run_bind, hrun, Result.andThen_ok, if_true, Sem.run_pure], fun hh => (by cases hh), fun j hj => ?_⟩
   simp only [Option.some.injEq] at hj; subst hj
   exact ⟨Nat.le_refl _, e, by simp, rfl⟩
  | false =>
   obtain ⟨q, g1, g2, g3⟩ := findK_asks w h h2
   refine ⟨q, by simp only [Instr.findAsking, Sem.run_bind, hrun, Result.andThen_ok, Bool.false_eq_true, if_false]; exact g1, g2, fun j hj => ?_⟩
   obtain ⟨k1, e', k2, k3⟩ := g3 j hj
   refine ⟨by omega, e', ?_, k3⟩
   rw [show j - i = (j - (i + 1)) + 1 by omega]; simpa using k2
theorem checkKey_plain {P : Program} {kt : TypeId} {kd : TypeDesc} {key : Value} {em : Bool} (hk : keyKind kd key = true) (w : World) (hu : (underlying kt).run P w = .ok kd w) : (Instr.checkKey em 10000 kt key).run P w = .ok () w := by
 have go : ∀ n, (Instr.checkKey em (n + 1) kt key).run P w = .ok () w := by
  intro n
  unfold keyKind at hk
  split at hk
  ·unfold Instr.checkKey; simp only [Sem.run_bind, hu, Result.andThen_ok, Sem.run_pure]
  ·unfold Instr.checkKey; simp only [Sem.run_bind, hu, Result.andThen_ok, Sem.run_pure]
  ·unfold Instr.checkKey; simp only [Sem.run_bind, hu, Result.andThen_ok, Sem.run_pure]
  ·cases hk
 exact go 9999
theorem keyAt_sound {C : Cx} (ok : TyOk C) {kt : TypeId} {ks : List AV} {em : Bool} {key : Value} {r : Option Nat} {es : List MapEntry} (h : keyAt C kt ks em key = some r) (hr : RepL M ks (es.map (·.key))) (w : World) :
  ∃ q, (Instr.checkKey em 10000 kt key).run C.P w = .ok () w ∧ (Instr.findKey kt key es).run C.P w = .ok q w ∧ (r = none → q = none) ∧ (∀ j, r = some j → ∃ e, es[j]? = some e ∧ q = some (j, e.val)) := by
 unfold keyAt at h
 cases ht : C.ty kt with
 | none => simp [ht] at h
 | some kti =>
 simp only [ht] at h
 have hu := ty_und ok ht w
 cases hk : keyKind kti.desc key with
 | true =>
  simp only [hk, cond_true] at h
  have hfun : eqK C kt kti.desc key = fun e => keyEq key e := by funext e; simp [eqK, hk]
  rw [hfun] at h
  obtain ⟨q, g1, g2, g3⟩ := findK_now (kd := kti.desc) hk h hr
  refine ⟨q, checkKey_plain hk w hu, by simp only [Instr.findKey, Sem.run_bind, hu, Result.andThen_ok, g1, Sem.run_pure], g2, fun j hj => ?_⟩
  obtain ⟨_, e, k2, k3⟩ := g3 j hj
  exact ⟨e, by simpa using k2, k3⟩
 | false =>
  simp only [hk, cond_false] at h
  split at h
  ·rename_i fields cs hd hc
   have hfun : eqK C kt kti.desc (.agg cs) = fun e => pureRun C.P (Op.equal kt (.agg cs) e) := by funext e; simp [eqK, hk]
   rw [hfun] at h
   obtain ⟨q, g1, g2, g3⟩ := findK_asks w h hr
   have hnone : ∀ (es : List MapEntry) (i : Nat), es ≠ [] → Instr.findNow kti.desc (.agg cs) es i = none := by
    intro es i hes
    cases es with
    | nil => exact absurd rfl hes
    | cons e es => rw [hd]; simp [Instr.findNow, Instr.sameNow]
   refine ⟨q, pureRun_sound hc w, ?_, g2, fun j hj => ?_⟩
   ·simp only [Instr.findKey, Sem.run_bind, hu, Result.andThen_ok]
    cases es with
    | nil =>
     simp only [Instr.findNow, Sem.run_pure]
     simp only [Instr.findAsking, Sem.run_pure] at g1
     exact g1
    | cons e es => rw [hnone _ _ (by simp)]; exact g1
   ·obtain ⟨_, e, k2, k3⟩ := g3 j hj
    exact ⟨e, by simpa using k2, k3⟩
  ·cases h
theorem andThen_assoc {α β γ : Type} (r : Result α) (f : α → World → Result β) (g : β → World → Result γ) : (r.andThen f).andThen g = r.andThen fun a w => (f a w).andThen g := by
 cases r <;> rfl
theorem alookup_sound {C : Cx} (ok : TyOk C) {t : TypeId} {x i r : AV} {b : Bool} {y vi : Value} (h : alookup C H t x i b = some r) (hx : Rep M x y) (hi : Rep M i vi) (hs : SimH M base im0 nv H) :
    ∃ z, (Instr.lookup t y vi b).run C.P M.w = .ok z M.w ∧ Rep M r z := by
  unfold alookup at h
  split at h
  · rename_i kt et _ _ _ _ ks vs key ht hm hk
    have q1 := toV_rep hk hi
    subst q1
    have hu := ty_und ok ht M.w
    simp only at hu
    -- what is left, the entries known
    have fin : ∀ (es : Array MapEntry), RepL M ks (es.toList.map (·.key)) → RepL M vs (es.toList.map (·.val)) →
        ∃ z, (do Instr.checkKey es.isEmpty 10000 kt vi
                 let (v, ok) ← (do match ← Instr.findKey kt vi es.toList with
                    | some (_, v) => pure (v, true)
                    | none => pure (← zeroValue et, false) : Sem (Value × Bool))
                 pure (if b then .tuple #[v, .bool ok] else v) : Sem Value).run C.P M.w = .ok z M.w ∧ Rep M r z := by
      intro es hks hvs
      have hem : ks.isEmpty = es.isEmpty := by
        have := hks.length
        cases ks with
        | nil => simp at this; simp [this]
        | cons a l => simp at this; cases hz : es.isEmpty with
          | false => rfl
          | true => simp at hz; subst hz; simp at this
      rw [hem] at h
      split at h
      · rename_i te j hte hka
        simp only [Option.map_eq_some_iff] at h
        obtain ⟨v, hv, rfl⟩ := h
        obtain ⟨q, g1, g2, g3, g4⟩ := keyAt_sound ok hka hks M.w
        obtain ⟨e, k1, rfl⟩ := g4 j rfl
        obtain ⟨z, hz, hrz⟩ := hvs.get hv
        simp only [List.getElem?_map, k1, Option.map_some, Option.some.injEq] at hz
        subst hz
        cases b with
        | true =>
          refine ⟨.tuple #[e.val, .bool true], ?_, ?_⟩
          · simp only [Sem.run_bind, g1, Result.andThen_ok, g2, Sem.run_pure, if_true]
          · simp only [cond_true]; unfold Rep; exact ⟨[e.val, .bool true], rfl, by simp only [RepL.cons_iff]; exact ⟨_, _, rfl, hrz, _, _, rfl, Rep.v_self, by simp⟩⟩
        | false =>
          refine ⟨e.val, ?_, hrz⟩
          simp only [Sem.run_bind, g1, Result.andThen_ok, g2, Sem.run_pure, Bool.false_eq_true, if_false]
      · rename_i z hte hka
        simp only [Option.some.injEq] at h
        obtain ⟨q, g1, g2, g3, g4⟩ := keyAt_sound ok hka hks M.w
        have g3 := g3 rfl; subst g3
        have hz := ty_zero ok hte rfl M.w
        cases b with
        | true =>
          simp only [cond_true] at h; subst h
          refine ⟨.tuple #[z, .bool false], ?_, ?_⟩
          · simp only [Sem.run_bind, g1, Result.andThen_ok, g2, hz, Sem.run_pure, if_true]
          · unfold Rep; exact ⟨[z, .bool false], rfl, by simp only [RepL.cons_iff]; exact ⟨_, _, rfl, ofV_rep z, _, _, rfl, Rep.v_self, by simp⟩⟩
        | false =>
          simp only [cond_false] at h; subst h
          refine ⟨z, ?_, ofV_rep z⟩
          simp only [Sem.run_bind, g1, Result.andThen_ok, g2, hz, Sem.run_pure, Bool.false_eq_true, if_false]
      · cases h
    rcases mapOf_sound hm hx hs with ⟨rfl, rfl, rfl⟩ | ⟨bb, es, clock, rfl, hb, h1, h2⟩
    · obtain ⟨z, hz, hr⟩ := fin #[] (by simp) (by simp)
      refine ⟨z, ?_, hr⟩
      rw [← hz]
      simp only [Instr.lookup, Sem.run_bind, hu, Result.andThen_ok, Sem.run_pure]
      congr 1; funext _ w
      rw [andThen_assoc]
      congr 1; funext q w
      cases q <;> simp [andThen_assoc]
    · obtain ⟨z, hz, hr⟩ := fin es h1 h2
      refine ⟨z, ?_, hr⟩
      rw [← hz]
      have hg : (getObj bb).run C.P M.w = .ok (.map es clock) M.w := by simp [getObj, Sem.run, hb]
      simp only [Instr.lookup, Sem.run_bind, hu, Result.andThen_ok, Sem.run_pure, hg]
      congr 1; funext _ w
      rw [andThen_assoc]
      congr 1; funext q w
      cases q <;> simp [andThen_assoc]
  · cases h
end
end Go.Vm
