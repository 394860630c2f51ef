/- A small evaluator over abstract values: freezing is sound. -/
import Derived.Test.YtliikgffjphhjaaGreatDoorVmSim
namespace Go.Vm
open Go.RowKit (Below)

theorem Mem.row_of_cells {M : Mem} {b o : Nat} {arr : Array Value} {ty : TypeId} {f : Nat × Nat} (hb : M.w.heap[b]? = some (.cells arr ty f)) (hi : M.imm b) : M.row b o (arr.toList.drop o) :=
  fun i x hx => ⟨hi, by
    simp only [World.cell?, hb]
    have : arr.toList[o + i]? = some x := by rw [List.getElem?_drop] at hx; exact hx
    simpa using this⟩

theorem Mem.row_sub {M : Mem} {b o : Nat} {l1 l2 l3 : List Value} (h : M.row b o (l1 ++ l2 ++ l3)) : M.row b (o + l1.length) l2 := fun i x hx => by
  have := h (l1.length + i) x (by
    rw [List.append_assoc, List.getElem?_append_right (by omega), List.getElem?_append_left (by
      have := (List.getElem?_eq_some_iff.1 hx).1; omega)]
    simpa using hx)
  rw [Nat.add_assoc]; exact this
theorem Mem.row_take {M : Mem} {b o : Nat} {l : List Value} (n : Nat) (h : M.row b o l) : M.row b o (l.take n) := fun i x hx => by
  rw [List.getElem?_take] at hx
  split at hx
  · exact h i x hx
  · cases hx
theorem Mem.row_drop {M : Mem} {b o : Nat} {l : List Value} (n : Nat) (h : M.row b o l) : M.row b (o + n) (l.drop n) := fun i x hx => by
  rw [List.getElem?_drop] at hx; rw [Nat.add_assoc]; exact h _ x hx
theorem Mem.row_nil {M : Mem} {b o : Nat} : M.row b o [] := fun i x hx => by simp at hx

theorem flat_cons (y : Value) (ys : List Value) : flat (y :: ys) = y.cells.toList ++ flat ys := rfl
theorem flat_append (xs ys : List Value) : flat (xs ++ ys) = flat xs ++ flat ys := by simp [flat]
theorem Sized.cons {sz : Nat} {y : Value} {ys : List Value} : Sized sz (y :: ys) ↔ y.cells.size = sz ∧ Sized sz ys := by simp [Sized]
theorem Sized.append {sz : Nat} {xs ys : List Value} : Sized sz (xs ++ ys) ↔ Sized sz xs ∧ Sized sz ys := by
  simp only [Sized, List.mem_append]
  exact ⟨fun h => ⟨fun y hy => h y (.inl hy), fun y hy => h y (.inr hy)⟩, fun h y hy => hy.elim (h.1 y) (h.2 y)⟩
theorem Sized.sub {sz : Nat} {xs ys : List Value} (h : Sized sz ys) (hs : ∀ x ∈ xs, x ∈ ys) : Sized sz xs := fun x hx => h x (hs x hx)
theorem flat_length {sz : Nat} : ∀ {ys : List Value}, Sized sz ys → (flat ys).length = ys.length * sz
  | [], _ => by simp [flat]
  | y :: ys, h => by
    obtain ⟨h1, h2⟩ := Sized.cons.1 h
    rw [flat_cons, List.length_append, flat_length h2, List.length_cons, Nat.succ_mul]; simp [h1]; omega
theorem flat_drop {sz : Nat} {ys : List Value} (h : Sized sz ys) (n : Nat) : (flat ys).drop (n * sz) = flat (ys.drop n) := by
  by_cases hn : n ≤ ys.length
  · have e : ys = ys.take n ++ ys.drop n := (List.take_append_drop n ys).symm
    have hs : Sized sz (ys.take n) := h.sub fun x hx => List.mem_of_mem_take hx
    conv => lhs; rw [e, flat_append]
    rw [List.drop_append_of_le_length (by rw [flat_length hs]; simp [Nat.min_eq_left hn])]
    rw [List.drop_of_length_le (by rw [flat_length hs]; simp [Nat.min_eq_left hn])]; simp
  · rw [List.drop_of_length_le (l := ys) (by omega), List.drop_of_length_le (by rw [flat_length h]; exact Nat.mul_le_mul_right _ (by omega))]; rfl
theorem flat_take {sz : Nat} {ys : List Value} (h : Sized sz ys) (n : Nat) : (flat ys).take (n * sz) = flat (ys.take n) := by
  by_cases hn : n ≤ ys.length
  · have e : ys = ys.take n ++ ys.drop n := (List.take_append_drop n ys).symm
    have hs : Sized sz (ys.take n) := h.sub fun x hx => List.mem_of_mem_take hx
    conv => lhs; rw [e, flat_append]
    rw [List.take_append_of_le_length (by rw [flat_length hs]; simp [Nat.min_eq_left hn])]
    rw [List.take_of_length_le (by rw [flat_length hs]; simp [Nat.min_eq_left hn])]
  · rw [List.take_of_length_le (l := ys) (by omega), List.take_of_length_le (by rw [flat_length h]; exact Nat.mul_le_mul_right _ (by omega))]

theorem cells?_len {a : AV} {cs : List AV} (h : cells? a = some cs) {M : Mem} {y : Value} (hr : Rep M a y) : RepL M cs y.cells.toList := by
  have one : ∀ {a : AV}, Rep M a y → (∀ c, y ≠ .agg c) → RepL M [a] y.cells.toList := by
    intro a h hy
    have : y.cells = #[y] := by cases y <;> first | rfl | exact absurd rfl (hy _)
    rw [this]; simp only [RepL.cons_iff]; exact ⟨y, [], rfl, h, by simp⟩
  cases a with
  | agg l =>
    simp only [cells?] at h
    cases hb : l.all AV.single with
    | false => simp [hb] at h
    | true => simp only [hb, cond_true, Option.some.injEq] at h; subst h; unfold Rep at hr; obtain ⟨m, rfl, hr⟩ := hr; simpa [Value.cells] using hr
  | bad => simp [cells?, AV.single] at h
  | tup => simp [cells?, AV.single] at h
  | v x =>
    simp only [cells?, AV.single] at h
    cases hb : Value.single x with
    | false => simp [hb] at h
    | true =>
      simp only [hb, cond_true, Option.some.injEq] at h; subst h
      refine one hr ?_; unfold Rep at hr; subst hr; intro c hc; subst hc; simp [Value.single] at hb
  | ptr => simp only [cells?, AV.single, cond_true, Option.some.injEq] at h; subst h; refine one hr ?_; unfold Rep at hr; obtain ⟨_, _, _, rfl⟩ := hr; simp
  | eptr => simp only [cells?, AV.single, cond_true, Option.some.injEq] at h; subst h; refine one hr ?_; unfold Rep at hr; obtain ⟨_, _, _, rfl⟩ := hr; simp
  | sl => simp only [cells?, AV.single, cond_true, Option.some.injEq] at h; subst h; refine one hr ?_; unfold Rep at hr; obtain ⟨_, _, _, _, _, rfl, _⟩ := hr; simp
  | mp => simp only [cells?, AV.single, cond_true, Option.some.injEq] at h; subst h; refine one hr ?_; unfold Rep at hr; obtain ⟨_, _, _, rfl⟩ := hr; simp
  | itr => simp only [cells?, AV.single, cond_true, Option.some.injEq] at h; subst h; refine one hr ?_; unfold Rep at hr; obtain ⟨_, _, _, rfl⟩ := hr; simp
  | yld => simp only [cells?, AV.single, cond_true, Option.some.injEq] at h; subst h; refine one hr ?_; unfold Rep at hr; obtain ⟨_, _, _, rfl⟩ := hr; simp
  | rptr => simp only [cells?, AV.single, cond_true, Option.some.injEq] at h; subst h; refine one hr ?_; unfold Rep at hr; obtain ⟨_, _, _, rfl, _⟩ := hr; simp
  | rsl => simp only [cells?, AV.single, cond_true, Option.some.injEq] at h; subst h; refine one hr ?_; unfold Rep at hr; obtain ⟨_, _, _, rfl, _⟩ := hr; simp
  | rmp => simp only [cells?, AV.single, cond_true, Option.some.injEq] at h; subst h; refine one hr ?_; unfold Rep at hr; obtain ⟨_, _, _, rfl, _⟩ := hr; simp
  | fn => simp only [cells?, AV.single, cond_true, Option.some.injEq] at h; subst h; refine one hr ?_; unfold Rep at hr; obtain ⟨_, _, rfl, _⟩ := hr; simp
  | ifc => simp only [cells?, AV.single, cond_true, Option.some.injEq] at h; subst h; refine one hr ?_; unfold Rep at hr; obtain ⟨_, rfl, _⟩ := hr; simp

/-- An element's cells, in the middle of a row of elements. -/
theorem flat_el {sz : Nat} {ys : List Value} (h : Sized sz ys) {i : Nat} {y : Value} (hi : ys[i]? = some y) : flat ys = flat (ys.take i) ++ y.cells.toList ++ flat (ys.drop (i + 1)) ∧ (flat (ys.take i)).length = i * sz := by
  obtain ⟨hlt, he⟩ := List.getElem?_eq_some_iff.1 hi
  have e : ys = ys.take i ++ y :: ys.drop (i + 1) := by
    rw [← he, List.getElem_cons_drop, List.take_append_drop]
  constructor
  · conv => lhs; rw [e, flat_append, flat_cons]
    rw [List.append_assoc]
  · rw [flat_length (h.sub fun x hx => List.mem_of_mem_take hx)]; simp [Nat.min_eq_left (Nat.le_of_lt hlt)]

section
variable {base : Nat} {im0 : Nat → Prop} {nv : Nat}

/-- What freezing comes to. -/
def FzOk (base : Nat) (im0 : Nat → Prop) (nv : Nat) (M : Mem) (H' : Tr Ent) (P : Mem → Prop) : Prop :=
  ∃ M', M'.w = M.w ∧ M.le M' ∧ M'.mu = M.mu ∧ SimH M' base im0 nv H' ∧ P M'

theorem freezeL_sound {fz : Tr Ent → AV → Option (AV × Tr Ent)}
    (hz : ∀ a M H a' H', fz H a = some (a', H') → SimH M base im0 nv H → FzOk base im0 nv M H' fun M' => ∀ y, Rep M a y → Rep M'.bare a' y) :
    ∀ (as : List AV) (M : Mem) (H : Tr Ent) (as' : List AV) (H' : Tr Ent), freezeL fz H as = some (as', H') → SimH M base im0 nv H →
      FzOk base im0 nv M H' fun M' => ∀ l, RepL M as l → RepL M'.bare as' l
  | [], M, H, as', H', h, hs => by
    simp only [freezeL, Option.some.injEq, Prod.mk.injEq] at h
    obtain ⟨rfl, rfl⟩ := h
    exact ⟨M, rfl, Mem.le_refl M, rfl, hs, fun l hl => by rw [RepL.nil_iff] at hl ⊢; exact hl⟩
  | a :: as, M, H, as', H', h, hs => by
    simp only [freezeL] at h
    cases h1 : fz H a with
    | none => simp [h1] at h
    | some p =>
      obtain ⟨a', H1⟩ := p
      simp only [h1] at h
      cases h2 : freezeL fz H1 as with
      | none => simp [h2] at h
      | some p2 =>
        obtain ⟨as2, H2⟩ := p2
        simp only [h2, Option.some.injEq, Prod.mk.injEq] at h
        obtain ⟨rfl, rfl⟩ := h
        obtain ⟨M1, hw1, hl1, hm1, hs1, hr1⟩ := hz a M H a' H1 h1 hs
        obtain ⟨M2, hw2, hl2, hm2, hs2, hr2⟩ := freezeL_sound hz as M1 H1 as2 H2 h2 hs1
        refine ⟨M2, hw2.trans hw1, Mem.le_trans hl1 hl2, hm2.trans hm1, hs2, fun l hl => ?_⟩
        rw [RepL.cons_iff] at hl ⊢
        obtain ⟨x, xs, rfl, hx, hxs⟩ := hl
        exact ⟨x, xs, rfl, (hr1 x hx).mono (Mem.le_bare hl2), hr2 xs (hxs.mono hl1)⟩

theorem mu_eq {M : Mem} {r b ct b' ct' : Nat} (h : M.mu r = some (b, ct)) (h' : M.mu r = some (b', ct')) : b = b' ∧ ct = ct' := by
  rw [h] at h'; simpa using h'

theorem freeze_sound : ∀ (n : Nat) (a : AV) (M : Mem) (H : Tr Ent) (a' : AV) (H' : Tr Ent), freeze n H a = some (a', H') → SimH M base im0 nv H →
    FzOk base im0 nv M H' fun M' => ∀ y, Rep M a y → Rep M'.bare a' y
  | 0, a, M, H, a', H', h, _ => by simp [freeze] at h
  | n + 1, a, M, H, a', H', h, hs => by
    have ih := freezeL_sound (freeze_sound n)
    have self : ∀ {x : AV}, (∀ y, Rep M x y → Rep M.bare x y) → some (x, H) = some (a', H') → a = x → FzOk base im0 nv M H' fun M' => ∀ y, Rep M a y → Rep M'.bare a' y := by
      intro x hx he hax
      simp only [Option.some.injEq, Prod.mk.injEq] at he
      obtain ⟨rfl, rfl⟩ := he
      subst hax
      exact ⟨M, rfl, Mem.le_refl M, rfl, hs, hx⟩
    cases a with
    | bad => simp [freeze] at h
    | itr => simp [freeze] at h
    | yld => simp [freeze] at h
    | v x => exact self (fun y hy => by unfold Rep at hy ⊢; exact hy) (by simpa [freeze] using h) rfl
    | rptr cs => exact self (fun y hy => by unfold Rep at hy ⊢; exact hy) (by simpa [freeze] using h) rfl
    | rsl sz es x => exact self (fun y hy => by unfold Rep at hy ⊢; exact hy) (by simpa [freeze] using h) rfl
    | rmp ks vs => exact self (fun y hy => by unfold Rep at hy ⊢; exact hy) (by simpa [freeze] using h) rfl
    | agg cs =>
      simp only [freeze, Option.map_eq_some_iff] at h
      obtain ⟨⟨cs', H1⟩, h1, he⟩ := h
      simp only [Prod.mk.injEq] at he; obtain ⟨rfl, rfl⟩ := he
      obtain ⟨M1, hw, hl, hmm, hs1, hr⟩ := ih cs M H cs' H1 h1 hs
      exact ⟨M1, hw, hl, hmm, hs1, fun y hy => by unfold Rep at hy ⊢; obtain ⟨l, rfl, hy⟩ := hy; exact ⟨l, rfl, hr l hy⟩⟩
    | tup cs =>
      simp only [freeze, Option.map_eq_some_iff] at h
      obtain ⟨⟨cs', H1⟩, h1, he⟩ := h
      simp only [Prod.mk.injEq] at he; obtain ⟨rfl, rfl⟩ := he
      obtain ⟨M1, hw, hl, hmm, hs1, hr⟩ := ih cs M H cs' H1 h1 hs
      exact ⟨M1, hw, hl, hmm, hs1, fun y hy => by unfold Rep at hy ⊢; obtain ⟨l, rfl, hy⟩ := hy; exact ⟨l, rfl, hr l hy⟩⟩
    | ifc t x =>
      simp only [freeze, Option.map_eq_some_iff] at h
      obtain ⟨⟨x', H1⟩, h1, he⟩ := h
      simp only [Prod.mk.injEq] at he; obtain ⟨rfl, rfl⟩ := he
      obtain ⟨M1, hw, hl, hmm, hs1, hr⟩ := freeze_sound n x M H x' H1 h1 hs
      exact ⟨M1, hw, hl, hmm, hs1, fun y hy => by unfold Rep at hy ⊢; obtain ⟨z, rfl, hy⟩ := hy; exact ⟨z, rfl, hr z hy⟩⟩
    | fn f as bs =>
      simp only [freeze] at h
      cases h1 : freezeL (freeze n) H as with
      | none => simp [h1] at h
      | some p =>
        obtain ⟨as', H1⟩ := p
        simp only [h1, Option.map_eq_some_iff] at h
        obtain ⟨⟨bs', H2⟩, h2, he⟩ := h
        simp only [Prod.mk.injEq] at he; obtain ⟨rfl, rfl⟩ := he
        obtain ⟨M1, hw1, hl1, hm1, hs1, hr1⟩ := ih as M H as' H1 h1 hs
        obtain ⟨M2, hw2, hl2, hm2, hs2, hr2⟩ := ih bs M1 H1 bs' H2 h2 hs1
        refine ⟨M2, hw2.trans hw1, Mem.le_trans hl1 hl2, hm2.trans hm1, hs2, fun y hy => ?_⟩
        unfold Rep at hy ⊢
        obtain ⟨l, c, rfl, k1, k2⟩ := hy
        exact ⟨l, c, rfl, (hr1 l k1).mono (Mem.le_bare hl2), hr2 c (k2.mono hl1)⟩
    | ptr k r off =>
      simp only [freeze] at h
      cases hl : live H k r with
      | none => simp [hl] at h
      | some e =>
        obtain ⟨hk, hv⟩ := live_some hl
        obtain ⟨ver, fz, blk⟩ := e
        simp only at hv; subst hv
        obtain ⟨b, ct, hE⟩ := hs.ent k _ hk
        cases blk <;> cases fz <;> simp only [hl] at h <;> try (cases h; done)
        · rename_i cs
          cases h1 : freezeL (freeze n) H cs with
          | none => simp [h1] at h
          | some p =>
            obtain ⟨cs', H1⟩ := p
            simp only [h1] at h
            cases hl1 : live H1 k ver with
            | none => simp [hl1] at h
            | some e1 =>
              simp only [hl1, Option.isSome_some, cond_true, Option.some.injEq, Prod.mk.injEq] at h
              obtain ⟨rfl, rfl⟩ := h
              obtain ⟨hk1, hv1⟩ := live_some hl1
              obtain ⟨M1, hw1, hle1, hm1, hs1, hr1⟩ := ih cs M H cs' H1 h1 hs
              obtain ⟨arr, ty, hb, hrep⟩ := hE.blk
              obtain ⟨b1, ct1, hE1⟩ := hs1.ent k e1 hk1
              have hmu := mu_eq (hle1.mu _ _ hE.mu) (hv1 ▸ hE1.mu)
              obtain ⟨rfl, rfl⟩ := hmu
              have hblk : BlkIs M1.bare b ct (.box cs') := ⟨arr, ty, by show M1.w.heap[b]? = _; rw [hw1]; exact hb, hr1 _ hrep⟩
              obtain ⟨hle2, hs2⟩ := hs1.freeze hk1 hE1 (.box cs') hblk
              rw [hv1] at hs2
              refine ⟨{ M1 with imm := fun x => M1.imm x ∨ x = b }, hw1, Mem.le_trans hle1 hle2, hm1, hs2, fun y hy => ?_⟩
              unfold Rep at hy ⊢
              obtain ⟨b2, ct2, hm, rfl⟩ := hy
              obtain ⟨rfl, rfl⟩ := mu_eq hE.mu hm
              refine ⟨b, off, arr.toList.drop off, rfl, ((hr1 _ hrep).mono (Mem.le_bare hle2)).drop off, ?_⟩
              exact Mem.row_of_cells (M := Mem.bare { M1 with imm := fun x => M1.imm x ∨ x = b }) (by show M1.w.heap[b]? = _; rw [hw1]; exact hb) (.inr rfl)
        · rename_i cs
          simp only [Option.some.injEq, Prod.mk.injEq] at h
          obtain ⟨rfl, rfl⟩ := h
          refine ⟨M, rfl, Mem.le_refl M, rfl, hs, fun y hy => ?_⟩
          unfold Rep at hy ⊢
          obtain ⟨b2, ct2, hm, rfl⟩ := hy
          obtain ⟨rfl, rfl⟩ := mu_eq hE.mu hm
          obtain ⟨hi, arr, ty, hb, hrep⟩ := hE.fz rfl
          exact ⟨b, off, arr.toList.drop off, rfl, hrep.drop off, Mem.row_of_cells (M := M.bare) hb hi⟩
    | eptr k r sz i off =>
      simp only [freeze] at h
      cases hl : live H k r with
      | none => simp [hl] at h
      | some e =>
        obtain ⟨hk, hv⟩ := live_some hl
        obtain ⟨ver, fz, blk⟩ := e
        simp only at hv; subst hv
        obtain ⟨b, ct, hE⟩ := hs.ent k _ hk
        have close : ∀ {N : Mem} {es : List AV} {el : AV} {cs : List AV} {arr : Array Value} {ty : TypeId} {ys : List Value} (hbn : N.w.heap[b]? = some (.cells arr ty (0, 0))) (hi : N.imm b) (hrep : RepL N.bare es ys)
            (hsz : Sized sz ys) (htk : arr.toList.take (es.length * sz) = flat ys) (hel : es[i]? = some el) (hcs : cells? el = some cs) (y : Value), Rep M (.eptr k ver sz i off) y → Rep N.bare (.rptr (cs.drop off)) y := by
          intro N es el cs arr ty ys hbn hi hrep hsz htk hel hcs y hy
          unfold Rep at hy ⊢
          obtain ⟨b2, ct2, hm, rfl⟩ := hy
          obtain ⟨rfl, rfl⟩ := mu_eq hE.mu hm
          obtain ⟨ye, hye, hre⟩ := hrep.get hel
          obtain ⟨e1, e2⟩ := flat_el hsz hye
          have hrow : N.bare.row b 0 (flat ys) := by rw [← htk]; exact Mem.row_take _ (Mem.row_of_cells (M := N.bare) (o := 0) hbn hi)
          rw [e1] at hrow
          have := Mem.row_drop off (Mem.row_sub hrow)
          rw [e2, Nat.zero_add] at this
          exact ⟨b, _, _, rfl, (cells?_len hcs hre).drop off, this⟩
        cases blk <;> cases fz <;> simp only [hl] at h <;> try (cases h; done)
        · rename_i sz' es x
          cases h1 : freezeL (freeze n) H es with
          | none => simp [h1] at h
          | some p =>
            obtain ⟨es', H1⟩ := p
            simp only [h1] at h
            cases hsz : Nat.beq sz sz' with
            | false => simp [hsz] at h
            | true =>
            have hsz' := Nat.eq_of_beq_eq_true hsz; subst hsz'
            cases hl1 : live H1 k ver with
            | none => simp [hl1] at h
            | some e1 =>
              simp only [hl1, hsz, Option.isSome_some, Bool.and_self, cond_true, Option.bind_eq_some_iff, Option.map_eq_some_iff] at h
              obtain ⟨el, hel, cs, hcs, he⟩ := h
              simp only [Prod.mk.injEq] at he
              obtain ⟨rfl, rfl⟩ := he
              obtain ⟨hk1, hv1⟩ := live_some hl1
              obtain ⟨M1, hw1, hle1, hm1, hs1, hr1⟩ := ih es M H es' H1 h1 hs
              obtain ⟨arr, ty, ys, hb, hrep, hsd, has, hlen, hex, htk⟩ := hE.blk
              obtain ⟨b1, ct1, hE1⟩ := hs1.ent k e1 hk1
              have hmu := mu_eq (hle1.mu _ _ hE.mu) (hv1 ▸ hE1.mu)
              obtain ⟨rfl, rfl⟩ := hmu
              have hlen' : es'.length = es.length := by rw [← (hr1 _ hrep).length, hrep.length]
              have hb1 : M1.w.heap[b]? = some (.cells arr ty (0, 0)) := by rw [hw1]; exact hb
              have hblk : BlkIs M1.bare b ct (.arr sz es' x) := ⟨arr, ty, ys, hb1, hr1 _ hrep, hsd, has, by omega, fun hx => by rw [hlen']; exact hex hx, by rw [hlen']; exact htk⟩
              obtain ⟨hle2, hs2⟩ := hs1.freeze hk1 hE1 (.arr sz es' x) hblk
              rw [hv1] at hs2
              refine ⟨{ M1 with imm := fun x => M1.imm x ∨ x = b }, hw1, Mem.le_trans hle1 hle2, hm1, hs2, fun y hy => ?_⟩
              exact close (N := { M1 with imm := fun x => M1.imm x ∨ x = b }) hb1 (.inr rfl) ((hr1 _ hrep).mono (Mem.le_bare hle2)) hsd (by rw [hlen']; exact htk) hel hcs y hy
        · rename_i sz' es x
          cases hsz : Nat.beq sz sz' with
          | false => simp [hsz] at h
          | true =>
          have hsz' := Nat.eq_of_beq_eq_true hsz; subst hsz'
          simp only [hsz, cond_true, Option.bind_eq_some_iff, Option.map_eq_some_iff] at h
          obtain ⟨el, hel, cs, hcs, he⟩ := h
          simp only [Prod.mk.injEq] at he
          obtain ⟨rfl, rfl⟩ := he
          refine ⟨M, rfl, Mem.le_refl M, rfl, hs, fun y hy => ?_⟩
          obtain ⟨hi, arr, ty, ys, hb, hrep, hsd, has, hlen, hex, htk⟩ := hE.fz rfl
          exact close hb hi hrep hsd htk hel hcs y hy
    | sl k r sz lo len =>
      simp only [freeze] at h
      cases hl : live H k r with
      | none => simp [hl] at h
      | some e =>
        obtain ⟨hk, hv⟩ := live_some hl
        obtain ⟨ver, fz, blk⟩ := e
        simp only at hv; subst hv
        obtain ⟨b, ct, hE⟩ := hs.ent k _ hk
        have close : ∀ {N : Mem} {es : List AV} {x : Bool} {arr : Array Value} {ty : TypeId} {ys : List Value} (hbn : N.w.heap[b]? = some (.cells arr ty (0, 0))) (hi : N.imm b) (hrep : RepL N.bare es ys)
            (hsz : Sized sz ys) (hlen : lo + len ≤ es.length) (hex : x = true → es.length = ct) (htk : arr.toList.take (es.length * sz) = flat ys) (y : Value), Rep M (.sl k ver sz lo len) y →
            Rep N.bare (.rsl sz ((es.drop lo).take len) (x && Nat.beq (lo + len) es.length)) y := by
          intro N es x arr ty ys hbn hi hrep hsz hlen hex htk y hy
          unfold Rep at hy ⊢
          obtain ⟨b2, ct2, o, hm, hct, rfl, ho⟩ := hy
          obtain ⟨rfl, rfl⟩ := mu_eq hE.mu hm
          have hlen2 : ((es.drop lo).take len).length = len := by simp; omega
          refine ⟨some ⟨b, o, none⟩, ct - lo, (ys.drop lo).take len, by rw [hlen2], by rw [hlen2]; omega, (hrep.drop lo).take len, hsz.sub fun x hx => List.mem_of_mem_drop (List.mem_of_mem_take hx), .inl ⟨b, o, rfl, ?_⟩, fun hx => ?_⟩
          · by_cases hlo : lo < ct
            · rw [ho hlo]
              have hrow : N.bare.row b 0 (flat ys) := by rw [← htk]; exact Mem.row_take _ (Mem.row_of_cells (M := N.bare) (o := 0) hbn hi)
              have h2 := Mem.row_drop (lo * sz) hrow
              rw [flat_drop hsz, Nat.zero_add] at h2
              have h3 := Mem.row_take (len * sz) h2
              rwa [flat_take (hsz.sub fun x hx => List.mem_of_mem_drop hx)] at h3
            · have : len = 0 := by omega
              subst this; simp [flat, Mem.row_nil]
          · rw [hlen2]
            simp only [Bool.and_eq_true] at hx
            have := Nat.eq_of_beq_eq_true hx.2
            have := hex hx.1
            omega
        cases blk <;> cases fz <;> simp only [hl] at h <;> try (cases h; done)
        · rename_i sz' es x
          cases h1 : freezeL (freeze n) H es with
          | none => simp [h1] at h
          | some p =>
            obtain ⟨es', H1⟩ := p
            simp only [h1] at h
            cases hsz : Nat.beq sz sz' with
            | false => simp [hsz] at h
            | true =>
            have hsz' := Nat.eq_of_beq_eq_true hsz; subst hsz'
            cases hle : Nat.ble (lo + len) es'.length with
            | false => simp [hle] at h
            | true =>
            cases hl1 : live H1 k ver with
            | none => simp [hl1] at h
            | some e1 =>
              simp only [hl1, hsz, hle, Option.isSome_some, Bool.and_self, cond_true, Option.some.injEq, Prod.mk.injEq] at h
              obtain ⟨rfl, rfl⟩ := h
              obtain ⟨hk1, hv1⟩ := live_some hl1
              obtain ⟨M1, hw1, hle1, hm1, hs1, hr1⟩ := ih es M H es' H1 h1 hs
              obtain ⟨arr, ty, ys, hb, hrep, hsd, has, hlen, hex, htk⟩ := hE.blk
              obtain ⟨b1, ct1, hE1⟩ := hs1.ent k e1 hk1
              have hmu := mu_eq (hle1.mu _ _ hE.mu) (hv1 ▸ hE1.mu)
              obtain ⟨rfl, rfl⟩ := hmu
              have hlen' : es'.length = es.length := by rw [← (hr1 _ hrep).length, hrep.length]
              have hb1 : M1.w.heap[b]? = some (.cells arr ty (0, 0)) := by rw [hw1]; exact hb
              have hblk : BlkIs M1.bare b ct (.arr sz es' x) := ⟨arr, ty, ys, hb1, hr1 _ hrep, hsd, has, by omega, fun hx => by rw [hlen']; exact hex hx, by rw [hlen']; exact htk⟩
              obtain ⟨hle2, hs2⟩ := hs1.freeze hk1 hE1 (.arr sz es' x) hblk
              rw [hv1] at hs2
              refine ⟨{ M1 with imm := fun x => M1.imm x ∨ x = b }, hw1, Mem.le_trans hle1 hle2, hm1, hs2, fun y hy => ?_⟩
              exact close (N := { M1 with imm := fun x => M1.imm x ∨ x = b }) hb1 (.inr rfl) ((hr1 _ hrep).mono (Mem.le_bare hle2)) hsd (Nat.le_of_ble_eq_true hle) (fun hx => by rw [hlen']; exact hex hx) (by rw [hlen']; exact htk) y hy
        · rename_i sz' es x
          cases hsz : Nat.beq sz sz' with
          | false => simp [hsz] at h
          | true =>
          have hsz' := Nat.eq_of_beq_eq_true hsz; subst hsz'
          cases hle : Nat.ble (lo + len) es.length with
          | false => simp [hle] at h
          | true =>
          simp only [hsz, hle, Bool.and_self, cond_true, Option.some.injEq, Prod.mk.injEq] at h
          obtain ⟨rfl, rfl⟩ := h
          refine ⟨M, rfl, Mem.le_refl M, rfl, hs, fun y hy => ?_⟩
          obtain ⟨hi, arr, ty, ys, hb, hrep, hsd, has, hlen, hex, htk⟩ := hE.fz rfl
          exact close hb hi hrep hsd (Nat.le_of_ble_eq_true hle) hex htk y hy
    | mp k r =>
      simp only [freeze] at h
      cases hl : live H k r with
      | none => simp [hl] at h
      | some e =>
        obtain ⟨hk, hv⟩ := live_some hl
        obtain ⟨ver, fz, blk⟩ := e
        simp only at hv; subst hv
        obtain ⟨b, ct, hE⟩ := hs.ent k _ hk
        cases blk <;> cases fz <;> simp only [hl] at h <;> try (cases h; done)
        · rename_i ks vs
          cases h0 : freezeL (freeze n) H ks with
          | none => simp [h0] at h
          | some p0 =>
          obtain ⟨ks', H0⟩ := p0
          simp only [h0] at h
          cases h1 : freezeL (freeze n) H0 vs with
          | none => simp [h1] at h
          | some p =>
            obtain ⟨vs', H1⟩ := p
            simp only [h1] at h
            cases hl1 : live H1 k ver with
            | none => simp [hl1] at h
            | some e1 =>
              simp only [hl1, Option.isSome_some, cond_true, Option.some.injEq, Prod.mk.injEq] at h
              obtain ⟨rfl, rfl⟩ := h
              obtain ⟨hk1, hv1⟩ := live_some hl1
              obtain ⟨M0, hw0, hle0, hm0, hs0, hr0⟩ := ih ks M H ks' H0 h0 hs
              obtain ⟨M1, hw1, hle1, hm1, hs1, hr1⟩ := ih vs M0 H0 vs' H1 h1 hs0
              obtain ⟨es, clock, hb, hrk, hrv⟩ := hE.blk
              obtain ⟨b1, ct1, hE1⟩ := hs1.ent k e1 hk1
              have hmu := mu_eq (hle1.mu _ _ (hle0.mu _ _ hE.mu)) (hv1 ▸ hE1.mu)
              obtain ⟨rfl, rfl⟩ := hmu
              have hb1 : M1.w.heap[b]? = some (.map es clock) := by rw [hw1, hw0]; exact hb
              have hblk : BlkIs M1.bare b ct (.map ks' vs') := ⟨es, clock, hb1, (hr0 _ hrk).mono (Mem.le_bare hle1), hr1 _ (hrv.mono hle0)⟩
              obtain ⟨hle2, hs2⟩ := hs1.freeze hk1 hE1 (.map ks' vs') hblk
              rw [hv1] at hs2
              refine ⟨{ M1 with imm := fun x => M1.imm x ∨ x = b }, hw1.trans hw0, Mem.le_trans hle0 (Mem.le_trans hle1 hle2), hm1.trans hm0, hs2, fun y hy => ?_⟩
              unfold Rep at hy ⊢
              obtain ⟨b2, ct2, hm, rfl⟩ := hy
              obtain ⟨rfl, rfl⟩ := mu_eq hE.mu hm
              exact ⟨b, es, clock, rfl, .inr rfl, hb1, ((hr0 _ hrk).mono (Mem.le_bare hle1)).mono (Mem.le_bare hle2), (hr1 _ (hrv.mono hle0)).mono (Mem.le_bare hle2)⟩
        · rename_i ks vs
          simp only [Option.some.injEq, Prod.mk.injEq] at h
          obtain ⟨rfl, rfl⟩ := h
          refine ⟨M, rfl, Mem.le_refl M, rfl, hs, fun y hy => ?_⟩
          unfold Rep at hy ⊢
          obtain ⟨b2, ct2, hm, rfl⟩ := hy
          obtain ⟨rfl, rfl⟩ := mu_eq hE.mu hm
          obtain ⟨hi, es, clock, hb, hrk, hrv⟩ := hE.fz rfl
          exact ⟨b, es, clock, rfl, hi, hb, hrk, hrv⟩

theorem frz_sound {a a' : AV} {M : Mem} {H H' : Tr Ent} (h : frz H a = some (a', H')) (hs : SimH M base im0 nv H) : FzOk base im0 nv M H' fun M' => ∀ y, Rep M a y → Rep M'.bare a' y :=
  freeze_sound 20 a M H a' H' h hs
theorem frzL_sound {as as' : List AV} {M : Mem} {H H' : Tr Ent} (h : frzL H as = some (as', H')) (hs : SimH M base im0 nv H) : FzOk base im0 nv M H' fun M' => ∀ l, RepL M as l → RepL M'.bare as' l :=
  freezeL_sound (freeze_sound 20) as M H as' H' h hs
end

end Go.Vm
