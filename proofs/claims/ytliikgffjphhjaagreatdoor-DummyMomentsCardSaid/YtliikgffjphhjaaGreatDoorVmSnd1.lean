/- A small evaluator over abstract values: the operations on memory are sound. -/
import Derived.Test.YtliikgffjphhjaaGreatDoorVmFz
import Derived.Laws.CopyRow
import Derived.Laws.Cells
namespace Go.Vm
open Go.RowKit (Below)

theorem pureRun_sound {α : Type} {P : Program} : ∀ {s : Sem α} {a : α}, pureRun P s = some a → ∀ w, s.run P w = .ok a w
  | .pure b, a, h, w => by simp only [pureRun, Option.some.injEq] at h; subst h; rfl
  | .program k, a, h, w => by
    simp only [pureRun] at h
    show (k P).run P w = _
    exact pureRun_sound h w
  | .mark m k, a, h, w => by
    simp only [pureRun] at h
    show k.run P w = _
    exact pureRun_sound h w
  | .load .., _, h, _ => by simp [pureRun] at h
  | .store .., _, h, _ => by simp [pureRun] at h
  | .new .., _, h, _ => by simp [pureRun] at h
  | .shape .., _, h, _ => by simp [pureRun] at h
  | .freeze .., _, h, _ => by simp [pureRun] at h
  | .frozen .., _, h, _ => by simp [pureRun] at h
  | .getObj .., _, h, _ => by simp [pureRun] at h
  | .setObj .., _, h, _ => by simp [pureRun] at h
  | .choose .., _, h, _ => by simp [pureRun] at h
  | .sys .., _, h, _ => by simp [pureRun] at h
  | .halt .., _, h, _ => by simp [pureRun] at h

def isAggD : TypeDesc → Bool
  | .struct _ | .array _ _ => true
  | _ => false

/-- The table of types says what the program says. -/
def TyOk (C : Cx) : Prop := ∀ t ti, C.ty t = some ti → C.P.underlying t = some ti.desc ∧ ti.agg = isAggD ti.desc ∧
  ∃ i, C.P.info? t = some i ∧ i.size = ti.size ∧ i.bytes = ti.bytes ∧ i.zero = ti.zero

section
variable {C : Cx} (ok : TyOk C)
include ok

theorem ty_und {t : TypeId} {ti : TI} (h : C.ty t = some ti) (w : World) : (underlying t).run C.P w = .ok ti.desc w := run_underlying (ok t ti h).1 w
theorem ty_size {t : TypeId} {ti : TI} (h : C.ty t = some ti) (w : World) : (sizeOf t).run C.P w = .ok ti.size w := by
  obtain ⟨_, _, i, hi, hs, _, _⟩ := ok t ti h
  simp [sizeOf, typeInfo, hi, hs]
theorem ty_info {t : TypeId} {ti : TI} (h : C.ty t = some ti) (w : World) : ∃ i, (typeInfo t).run C.P w = .ok i w ∧ i.bytes = ti.bytes ∧ i.size = ti.size := by
  obtain ⟨_, _, i, hi, hs, hb, _⟩ := ok t ti h
  exact ⟨i, by simp [typeInfo, hi], hb, hs⟩
theorem ty_zero {t : TypeId} {ti : TI} {z : Value} (h : C.ty t = some ti) (hz : ti.zero = some z) (w : World) : (zeroValue t).run C.P w = .ok z w := by
  obtain ⟨_, _, i, hi, hs, hb, hz'⟩ := ok t ti h
  simp [zeroValue, typeInfo, hi, hz', hz]
theorem ty_agg {t : TypeId} {ti : TI} (h : C.ty t = some ti) (w : World) : (isAgg t).run C.P w = .ok ti.agg w := by
  obtain ⟨_, ha, _⟩ := ok t ti h
  rw [ha]
  simp only [isAgg, Sem.run_bind, ty_und ok h, Result.andThen_ok]
  generalize ti.desc = d
  cases d <;> rfl
end

theorem add_lit {b o n : Nat} : (⟨b, o, none⟩ : Addr).add n = ⟨b, o + n, none⟩ := by unfold Addr.add; split <;> simp_all

/-! ### Reading -/
section
variable {base : Nat} {im0 : Nat → Prop} {nv : Nat} {M : Mem} {H : Tr Ent}

/-- What a pointer leads to, as cells. -/
def CellsAre (M : Mem) (cs : List AV) (y : Value) : Prop :=
  ∃ b o l, y = .pointer (some ⟨b, o, none⟩) ∧ RepL M cs l ∧ ∀ i x, l[i]? = some x → M.w.cell? ⟨b, o + i, none⟩ = some x

theorem cell_of_heap {w : World} {b i : Nat} {arr : Array Value} {ty : TypeId} {f : Nat × Nat} (h : w.heap[b]? = some (.cells arr ty f)) : w.cell? ⟨b, i, none⟩ = arr.toList[i]? := by
  simp [World.cell?, h]

theorem arr_cells {b ct sz : Nat} {es : List AV} {ex : Bool} (hb : BlkIs M b ct (.arr sz es ex)) {i : Nat} {e : AV} {cs : List AV} (he : es[i]? = some e) (hc : cells? e = some cs) :
    ∃ l, RepL M cs l ∧ ∀ j x, l[j]? = some x → M.w.cell? ⟨b, i * sz + j, none⟩ = some x := by
  obtain ⟨arr, ty, ys, hb, hrep, hsd, has, hlen, hex, htk⟩ := hb
  obtain ⟨ye, hye, hre⟩ := hrep.get he
  obtain ⟨e1, e2⟩ := flat_el hsd hye
  refine ⟨ye.cells.toList, cells?_len hc hre, fun j x hj => ?_⟩
  rw [cell_of_heap hb]
  have h1 : (flat ys)[i * sz + j]? = some x := by
    have hjl := (List.getElem?_eq_some_iff.1 hj).1
    rw [e1, List.append_assoc, List.getElem?_append_right (by omega), List.getElem?_append_left (by omega), e2]
    simpa using hj
  rw [← htk, List.getElem?_take] at h1
  split at h1
  · exact h1
  · cases h1

theorem cellsAt_sound {a : AV} {cs : List AV} {y : Value} (h : cellsAt H a = some cs) (hs : SimH M base im0 nv H) (hr : Rep M a y) : CellsAre M cs y := by
  cases a <;> simp only [cellsAt] at h <;> try (cases h; done)
  · rename_i k r off
    cases hl : live H k r with
    | none => simp [hl] at h
    | some e =>
      obtain ⟨hk, hv⟩ := live_some hl
      obtain ⟨ver, fz, blk⟩ := e
      simp only at hv; subst hv
      cases blk <;> simp only [hl] at h <;> try (cases h; done)
      rename_i cs'
      simp only [Option.some.injEq] at h; subst h
      obtain ⟨b, ct, hE⟩ := hs.ent k _ hk
      obtain ⟨arr, ty, hb, hrep⟩ := hE.blk
      unfold Rep at hr
      obtain ⟨b2, ct2, hm, rfl⟩ := hr
      obtain ⟨rfl, rfl⟩ := mu_eq hE.mu hm
      refine ⟨b, off, _, rfl, hrep.drop off, fun i x hx => ?_⟩
      rw [cell_of_heap hb]; rwa [List.getElem?_drop] at hx
  · rename_i k r sz i off
    cases hl : live H k r with
    | none => simp [hl] at h
    | some e =>
      obtain ⟨hk, hv⟩ := live_some hl
      obtain ⟨ver, fz, blk⟩ := e
      simp only at hv; subst hv
      cases blk <;> simp only [hl] at h <;> try (cases h; done)
      rename_i sz' es ex
      cases hsz : Nat.beq sz sz' with
      | false => simp [hsz] at h
      | true =>
      have hsz' := Nat.eq_of_beq_eq_true hsz; subst hsz'
      simp only [hsz, cond_true, Option.bind_eq_some_iff, Option.map_eq_some_iff] at h
      obtain ⟨e, he, c, hc, rfl⟩ := h
      obtain ⟨b, ct, hE⟩ := hs.ent k _ hk
      obtain ⟨l, hl1, hl2⟩ := arr_cells hE.blk he hc
      unfold Rep at hr
      obtain ⟨b2, ct2, hm, rfl⟩ := hr
      obtain ⟨rfl, rfl⟩ := mu_eq hE.mu hm
      refine ⟨b, _, _, rfl, hl1.drop off, fun j x hx => ?_⟩
      rw [List.getElem?_drop] at hx
      rw [Nat.add_assoc]; exact hl2 _ _ hx
  · rename_i cs'
    simp only [Option.some.injEq] at h; subst h
    unfold Rep at hr
    obtain ⟨b, o, l, rfl, hrep, hrow⟩ := hr
    exact ⟨b, o, l, rfl, hrep.mono (Mem.bare_le M), fun i x hx => (hrow i x hx).2⟩

theorem partA_load {C : Cx} (ok : TyOk C) {t : TypeId} {cs : List AV} {r : AV} {y : Value} (h : partA C t cs 0 = some r) (hc : CellsAre M cs y) :
    ∃ z, (Instr.loadAt t y).run C.P M.w = .ok z M.w ∧ Rep M r z := by
  obtain ⟨b, o, l, rfl, hrep, hcell⟩ := hc
  simp only [partA] at h
  cases ht : C.ty t with
  | none => simp [ht] at h
  | some ti =>
    simp only [ht, Nat.zero_add, List.drop_zero] at h
    simp only [Instr.loadAt, Instr.sureAddr, loadVar, Sem.run_bind, Sem.run_pure, Result.andThen_ok, ty_agg ok ht]
    cases ha : ti.agg with
    | true =>
      simp only [ha, cond_true] at h
      cases hn : Nat.ble ti.size cs.length with
      | false => simp [hn] at h
      | true =>
        simp only [hn, cond_true, Option.some.injEq] at h; subst h
        have hn := Nat.le_of_ble_eq_true hn
        have hlen : (l.take ti.size).length = ti.size := by rw [List.length_take, hrep.length]; omega
        have := run_loadCells_list (P := C.P) M.w ⟨b, o, none⟩ (l.take ti.size) (fun j v hj => by
          rw [add_lit]; rw [List.getElem?_take] at hj; split at hj
          · exact hcell j v hj
          · cases hj)
        rw [hlen] at this
        refine ⟨.agg (l.take ti.size).toArray, ?_, ?_⟩
        · simp only [if_true, ty_size ok ht, Sem.run_bind, this, Result.andThen_ok, Sem.run_pure]
        · unfold Rep; exact ⟨_, rfl, hrep.take _⟩
    | false =>
      simp only [ha, cond_false] at h
      obtain ⟨x, hx, hr⟩ := hrep.get h
      refine ⟨x, ?_, hr⟩
      have := hcell 0 x hx
      simp only [Nat.add_zero] at this
      simp [this]

theorem aload_sound {C : Cx} (ok : TyOk C) {t : TypeId} {a r : AV} {y : Value} (h : aload C H t a = some r) (hs : SimH M base im0 nv H) (hr : Rep M a y) :
    ∃ z, (Instr.loadAt t y).run C.P M.w = .ok z M.w ∧ Rep M r z := by
  simp only [aload] at h
  cases hc : cellsAt H a with
  | none => simp [hc] at h
  | some cs => simp only [hc] at h; exact partA_load ok h (cellsAt_sound hc hs hr)
end

/-! ### Writing -/
section
variable {base : Nat} {im0 : Nat → Prop} {nv : Nat} {M : Mem} {H : Tr Ent}

theorem single_rep {a : AV} {y : Value} (h : a.single = true) (hr : Rep M a y) : y.oneCell' = true := by
  cases a <;> simp only [AV.single] at h <;> try (cases h; done)
  · unfold Rep at hr; subst hr; revert h; cases ‹Value› <;> simp [Value.single, Value.oneCell']
  · unfold Rep at hr; obtain ⟨_, _, _, rfl⟩ := hr; rfl
  · unfold Rep at hr; obtain ⟨_, _, _, rfl⟩ := hr; rfl
  · unfold Rep at hr; obtain ⟨_, _, _, _, _, rfl, _⟩ := hr; rfl
  · unfold Rep at hr; obtain ⟨_, _, _, rfl⟩ := hr; rfl
  · unfold Rep at hr; obtain ⟨_, _, _, rfl⟩ := hr; rfl
  · unfold Rep at hr; obtain ⟨_, _, _, rfl⟩ := hr; rfl
  · unfold Rep at hr; obtain ⟨_, _, _, rfl, _⟩ := hr; rfl
  · unfold Rep at hr; obtain ⟨_, _, _, rfl, _⟩ := hr; rfl
  · unfold Rep at hr; obtain ⟨_, _, _, rfl, _⟩ := hr; rfl
  · unfold Rep at hr; obtain ⟨_, _, rfl, _⟩ := hr; rfl
  · unfold Rep at hr; obtain ⟨_, rfl, _⟩ := hr; rfl

theorem all_single : ∀ {cs : List AV} {l : List Value}, cs.all AV.single = true → RepL M cs l → ∀ v ∈ l, v.oneCell' = true
  | [], _, _, h, v, hv => by rw [RepL.nil_iff] at h; subst h; simp at hv
  | c :: cs, _, ha, h, v, hv => by
    rw [RepL.cons_iff] at h
    obtain ⟨x, xs, rfl, h1, h2⟩ := h
    simp only [List.all_cons, Bool.and_eq_true] at ha
    rcases List.mem_cons.1 hv with rfl | hv
    · exact single_rep ha.1 h1
    · exact all_single ha.2 h2 v hv

theorem cells?_single {a : AV} {cs : List AV} (h : cells? a = some cs) : cs.all AV.single = true := by
  have one : ∀ x : AV, (bif x.single then some [x] else none) = some cs → cs.all AV.single = true := by
    intro x hx
    cases hb : x.single with
    | false => simp [hb] at hx
    | true => simp only [hb, cond_true, Option.some.injEq] at hx; subst hx; simp [hb]
  cases a with
  | agg l =>
    simp only [cells?] at h
    cases hb : l.all AV.single with
    | false => simp [hb] at h
    | true => simp only [hb, cond_true, Option.some.injEq] at h; subst h; exact hb
  | _ => simp only [cells?] at h; exact one _ h

theorem RepL.splice {cs vs : List AV} {l m : List Value} (off : Nat) (h : RepL M cs l) (k : RepL M vs m) : RepL M (Vm.splice cs off vs) (l.take off ++ m ++ l.drop (off + m.length)) := by
  unfold Vm.splice
  rw [← k.length]
  exact ((h.take off).append k).append (h.drop _)

/-- Cells are stored into a block of one's own: the world behind it. -/
theorem store_run {P : Program} {w : World} {b o : Nat} {arr : Array Value} {ty : TypeId} {m : List Value} (hb : w.heap[b]? = some (.cells arr ty (0, 0))) (hle : o + m.length ≤ arr.size) (h1 : ∀ v ∈ m, v.oneCell' = true) :
    (storeCells ⟨b, o, none⟩ m).run P w = .ok () (w.setRow b (arr.toList.take o ++ m ++ arr.toList.drop (o + m.length)).toArray) := by
  have := run_storeCells_at (P := P) b o ty m 0 arr w hb (by omega) h1
  simpa using this

theorem setRow_write {w : World} {b : Nat} {arr arr' : Array Value} {ty : TypeId} (hb : w.heap[b]? = some (.cells arr ty (0, 0))) :
    (∀ b', b' ≠ b → (w.setRow b arr').heap[b']? = w.heap[b']?) ∧ (w.setRow b arr').os = w.os ∧ (w.setRow b arr').tape = w.tape ∧ (w.setRow b arr').output = w.output ∧ (w.setRow b arr').heap.size = w.heap.size ∧
      (w.setRow b arr').heap[b]? = some (.cells arr' ty (0, 0)) :=
  ⟨fun b' h => setRow_other w b b' arr' h, rfl, rfl, rfl, by simp, setRow_heap w b arr arr' ty (0, 0) hb⟩

theorem splice_el {sz : Nat} {ys : List Value} (hsd : Sized sz ys) {arr : List Value} (htk : arr.take (ys.length * sz) = flat ys) {i : Nat} {ye ye' : Value} (hi : ys[i]? = some ye) {off : Nat} {m : List Value}
    (hoff : off + m.length ≤ sz) (hye' : ye'.cells.toList = ye.cells.toList.take off ++ m ++ ye.cells.toList.drop (off + m.length)) :
    Sized sz (ys.set i ye') ∧ (arr.take (i * sz + off) ++ m ++ arr.drop (i * sz + off + m.length)).take ((ys.set i ye').length * sz) = flat (ys.set i ye') := by
  obtain ⟨hlt, hie⟩ := List.getElem?_eq_some_iff.1 hi
  have hsz : ye.cells.size = sz := hsd ye (hie ▸ List.getElem_mem hlt)
  have hsz' : ye'.cells.size = sz := by
    have := congrArg List.length hye'
    simp only [Array.length_toList, List.length_append, List.length_take, List.length_drop] at this
    omega
  obtain ⟨e1, e2⟩ := flat_el hsd hi
  have hset : ys.set i ye' = ys.take i ++ ye' :: ys.drop (i + 1) := by
    rw [List.set_eq_take_append_cons_drop, if_pos hlt]
  constructor
  · rw [hset, Sized.append, Sized.cons]
    exact ⟨hsd.sub fun x hx => List.mem_of_mem_take hx, hsz', hsd.sub fun x hx => List.mem_of_mem_drop hx⟩
  · have harr : arr = flat ys ++ arr.drop (ys.length * sz) := by rw [← htk, List.take_append_drop]
    have hfl : flat (ys.set i ye') = flat (ys.take i) ++ ye'.cells.toList ++ flat (ys.drop (i + 1)) := by
      rw [hset, flat_append, flat_cons, List.append_assoc]
    have hlen : (flat (ys.set i ye')).length = (ys.set i ye').length * sz := by
      rw [hfl]
      have := flat_length hsd
      rw [e1] at this
      simp only [List.length_append, Array.length_toList, hsz, hsz', List.length_set] at this ⊢
      omega
    generalize hD : arr.drop (ys.length * sz) = D at harr
    have key : arr.take (i * sz + off) ++ m ++ arr.drop (i * sz + off + m.length) = flat (ys.set i ye') ++ D := by
      rw [harr, hfl, e1, hye']
      generalize hA : flat (ys.take i) = A at *
      generalize hB : flat (ys.drop (i + 1)) = B at *
      generalize hY : ye.cells.toList = Y at *
      have hYl : Y.length = sz := by rw [← hY]; simp [hsz]
      rw [← e2]
      have t1 : (A ++ Y ++ B ++ D).take (A.length + off) = A ++ Y.take off := by
        rw [List.append_assoc, List.append_assoc, List.take_append, List.take_of_length_le (by omega)]
        congr 1
        rw [List.take_append_of_le_length (by omega)]
        congr 1; omega
      have t2 : (A ++ Y ++ B ++ D).drop (A.length + off + m.length) = Y.drop (off + m.length) ++ B ++ D := by
        rw [List.append_assoc, List.append_assoc, List.drop_append, List.drop_of_length_le (by omega)]
        rw [List.drop_append_of_le_length (by omega)]
        simp only [List.nil_append, List.append_assoc]
        congr 2; omega
      rw [t1, t2]
      simp only [List.append_assoc]
    rw [key, ← hlen, List.take_left']
    rfl

theorem mkEl_rep {e e' : AV} {cs cs' : List AV} {ye : Value} {m : List Value} (he : cells? e = some cs) (hm : mkEl e cs' = some e') (hr : Rep M e ye) (hcs : RepL M cs' m) (h1 : ∀ v ∈ m, v.oneCell' = true) :
    ∃ ye', Rep M e' ye' ∧ ye'.cells.toList = m := by
  have other : one? cs' = some e' → ∃ ye', Rep M e' ye' ∧ ye'.cells.toList = m := by
    intro h
    unfold one? at h
    split at h
    · simp only [Option.some.injEq] at h; subst h
      rw [RepL.cons_iff] at hcs
      obtain ⟨x, xs, rfl, hx, hxs⟩ := hcs
      rw [RepL.nil_iff] at hxs; subst hxs
      refine ⟨x, hx, ?_⟩
      have := h1 x (by simp)
      cases x <;> first | rfl | (simp [Value.oneCell'] at this)
    · cases h
  cases e with
  | agg l =>
    simp only [mkEl, Option.some.injEq] at hm; subst hm
    refine ⟨.agg m.toArray, by unfold Rep; exact ⟨m, rfl, hcs⟩, by simp [Value.cells]⟩
  | _ => simp only [mkEl] at hm; exact other hm

theorem astore_sound {C : Cx} (ok : TyOk C) {t : TypeId} {a x : AV} {H' : Tr Ent} {ya yx : Value} (h : astore C H t a x = some H') (hs : SimH M base im0 nv H) (ha : Rep M a ya) (hx : Rep M x yx) :
    ∃ w', (Instr.storeAt t ya yx).run C.P M.w = .ok () w' ∧ M.le { M with w := w' } ∧ SimH { M with w := w' } base im0 nv H' ∧ Below base M.w w' := by
  simp only [astore] at h
  cases ht : C.ty t with
  | none => simp [ht] at h
  | some ti =>
  cases hc : cells? x with
  | none => simp [ht, hc] at h
  | some vs =>
  simp only [ht, hc] at h
  cases hn : Nat.beq vs.length ti.size with
  | false => simp [hn] at h
  | true =>
  simp only [hn, Bool.not_true, cond_false] at h
  have hn := Nat.eq_of_beq_eq_true hn
  have hvs := cells?_len hc hx
  have h1 := all_single (cells?_single hc) hvs
  generalize hm : yx.cells.toList = m at *
  have hml : m.length = vs.length := hvs.length
  -- what is left: the cells are stored
  have go : ∀ (b o : Nat), ya = .pointer (some ⟨b, o, none⟩) → (Instr.storeAt t ya yx).run C.P M.w = (storeCells ⟨b, o, none⟩ m).run C.P M.w := by
    intro b o hya
    subst hya
    have hsz : yx.cells.size = ti.size := by rw [← Array.length_toList, hm]; omega
    simp only [Instr.storeAt, Instr.sureAddr, storeVar, Sem.run_bind, Sem.run_pure, Result.andThen_ok, ty_size ok ht, hsz, ne_eq, not_true_eq_false, if_false, hm]
  cases a <;> simp only at h <;> try (cases h; done)
  · rename_i k r off
    cases hl : live H k r with
    | none => simp [hl] at h
    | some e =>
    obtain ⟨hk, hv⟩ := live_some hl
    obtain ⟨ver, fz, blk⟩ := e
    simp only at hv; subst hv
    cases blk <;> cases fz <;> simp only [hl] at h <;> try (cases h; done)
    rename_i cs
    cases hle : Nat.ble (off + vs.length) cs.length with
    | false => simp [hle] at h
    | true =>
    simp only [hle, cond_true, Option.some.injEq] at h; subst h
    have hle := Nat.le_of_ble_eq_true hle
    obtain ⟨b, ct, hE⟩ := hs.ent k _ hk
    obtain ⟨arr, ty, hb, hrep⟩ := hE.blk
    unfold Rep at ha
    obtain ⟨b2, ct2, hmu, rfl⟩ := ha
    obtain ⟨rfl, rfl⟩ := mu_eq hE.mu hmu
    have hsz : arr.size = cs.length := by rw [← Array.length_toList, hrep.length]
    have hrun := store_run (P := C.P) (o := off) hb (by omega) h1
    obtain ⟨g1, g2, g3, g4, g5, g6⟩ := setRow_write (arr' := (arr.toList.take off ++ m ++ arr.toList.drop (off + m.length)).toArray) hb
    have hW := hs.write hk hE rfl g1 g2 g3 g4 g5 (.box (Vm.splice cs off vs)) (fun hle => ⟨_, ty, g6, by
      simpa using (RepL.splice off (hrep.mono hle) (hvs.mono hle))⟩)
    exact ⟨_, (go _ _ rfl).trans hrun, hW.1, hW.2.1, hW.2.2⟩
  · rename_i k r sz i off
    cases hl : live H k r with
    | none => simp [hl] at h
    | some e =>
    obtain ⟨hk, hv⟩ := live_some hl
    obtain ⟨ver, fz, blk⟩ := e
    simp only at hv; subst hv
    cases blk <;> cases fz <;> simp only [hl] at h <;> try (cases h; done)
    rename_i sz' es ex
    cases hsz : Nat.beq sz sz' with
    | false => simp [hsz] at h
    | true =>
    have hsz' := Nat.eq_of_beq_eq_true hsz; subst hsz'
    simp only [hsz, Bool.not_true, cond_false] at h
    cases he : es[i]? with
    | none => simp [he] at h
    | some e =>
    simp only [he] at h
    cases hce : cells? e with
    | none => simp [hce] at h
    | some cs =>
    simp only [hce] at h
    cases hle : Nat.ble (off + vs.length) cs.length with
    | false => simp [hle] at h
    | true =>
    simp only [hle, cond_true, Option.map_eq_some_iff] at h
    obtain ⟨e', hmk, rfl⟩ := h
    have hle := Nat.le_of_ble_eq_true hle
    obtain ⟨b, ct, hE⟩ := hs.ent k _ hk
    obtain ⟨arr, ty, ys, hb, hrep, hsd, has, hlen, hex, htk⟩ := hE.blk
    unfold Rep at ha
    obtain ⟨b2, ct2, hmu, rfl⟩ := ha
    obtain ⟨rfl, rfl⟩ := mu_eq hE.mu hmu
    obtain ⟨ye, hye, hre⟩ := hrep.get he
    have hcsl := cells?_len hce hre
    have hyes : ye.cells.size = sz := hsd ye (by obtain ⟨hlt, hie⟩ := List.getElem?_eq_some_iff.1 hye; exact hie ▸ List.getElem_mem hlt)
    have hcl : cs.length = sz := by rw [← hcsl.length]; simpa using hyes
    have hsp := RepL.splice off hcsl hvs
    obtain ⟨ye', hre', hye'⟩ := mkEl_rep hce hmk hre hsp (fun v hv => by
      have hces := all_single (cells?_single hce) hcsl
      rcases List.mem_append.1 hv with hv | hv
      · rcases List.mem_append.1 hv with hv | hv
        · exact hces v (List.mem_of_mem_take hv)
        · exact h1 v hv
      · exact hces v (List.mem_of_mem_drop hv))
    have hi : i < es.length := (List.getElem?_eq_some_iff.1 he).1
    have hle2 : i * sz + off + m.length ≤ arr.size := by
      rw [has]
      have : (i + 1) * sz ≤ ct * sz := Nat.mul_le_mul_right _ (by omega)
      rw [Nat.succ_mul] at this
      omega
    have hrun := store_run (P := C.P) (o := i * sz + off) hb hle2 h1
    obtain ⟨g1, g2, g3, g4, g5, g6⟩ := setRow_write (arr' := (arr.toList.take (i * sz + off) ++ m ++ arr.toList.drop (i * sz + off + m.length)).toArray) hb
    have hyl : ys.length = es.length := hrep.length
    obtain ⟨q1, q2⟩ := splice_el hsd (arr := arr.toList) (by rw [hyl]; exact htk) hye (off := off) (m := m) (by omega) hye'
    have hW := hs.write hk hE rfl g1 g2 g3 g4 g5 (.arr sz (es.set i e') ex) (fun hle => ⟨_, ty, ys.set i ye', g6, (hrep.mono hle).set i (hre'.mono hle), q1, by
        rw [← has]
        simp only [List.size_toArray, List.length_append, List.length_take, List.length_drop, Array.length_toList]
        omega, by simpa using hlen, by simpa using hex, by
        simp only [List.length_set] at q2 ⊢
        rw [hyl] at q2
        simpa using q2⟩)
    exact ⟨_, (go _ _ rfl).trans hrun, hW.1, hW.2.1, hW.2.2⟩
end

end Go.Vm
