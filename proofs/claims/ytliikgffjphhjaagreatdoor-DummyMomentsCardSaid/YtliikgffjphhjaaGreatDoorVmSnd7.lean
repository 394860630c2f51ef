/- A small evaluator over abstract values: append is sound. -/
import Derived.Test.YtliikgffjphhjaaGreatDoorVmSnd6
namespace Go.Vm
open Go.RowKit (Below)

section
variable {M : Mem} {base : Nat} {im0 : Nat → Prop} {nv : Nat} {H : Tr Ent}

theorem notInt {C : Cx} (ok : TyOk C) {t : TypeId} {ti : TI} (ht : C.ty t = some ti) (hd : notSeq ti.desc = false) :
    (∃ e, ∀ w, (underlying t).run C.P w = .ok (.slice e) w) ∨ ∀ w, (underlying t).run C.P w = .ok .string w := by
  have h := fun w => ty_und ok ht w
  cases hc : ti.desc <;> rw [hc] at hd h <;> first | exact .inl ⟨_, h⟩ | exact .inr h | (cases hd)

/-- append, where the elements fit. -/
theorem append_fits {C : Cx} (ok : TyOk C) {st xt e type : TypeId} {ti te tx : TI} (hst : C.ty st = some ti) (hd : ti.desc = .slice e) (hte : C.ty e = some te) (hxt : C.ty xt = some tx)
    (hxd : notSeq tx.desc = false) {a : Option Addr} {len cap n : Nat} {yx : Value} {w : World} {news : Array Value}
    (hn : (Builtin.lenOf yx).run C.P w = .ok n w) (hf : (Builtin.firstCells te.size n yx).run C.P w = .ok news w) (hle : len + n ≤ cap) :
    (Builtin.append_ #[st, xt] type #[.slice a len cap, yx]).run C.P w =
      (do (if let some a := a then storeCells (a.add (len * te.size)) news.toList else pure ()); pure (.slice a (len + n) cap) : Sem Value).run C.P w := by
  have hu := ty_und ok hst w
  rw [hd] at hu
  rcases notInt ok hxt hxd with ⟨e', hux⟩ | hux
  all_goals
    simp only [Builtin.append_, List.getElem?_toArray, List.getElem?_cons_zero, List.getElem?_cons_succ, Sem.run_bind, hu, Result.andThen_ok, ty_size ok hte, hux, Sem.run_pure, Bool.false_eq_true, if_false, hn, hle, if_true, Bool.not_false, hf]
    cases a <;> simp only [Sem.run_bind, Sem.run_pure, Result.andThen_ok]

theorem append_grows {C : Cx} (ok : TyOk C) {st xt e type : TypeId} {ti te tx : TI} {z : Value} (hst : C.ty st = some ti) (hd : ti.desc = .slice e) (hte : C.ty e = some te) (hz : te.zero = some z) (hxt : C.ty xt = some tx)
    (hxd : notSeq tx.desc = false) {a : Option Addr} {len cap n : Nat} {yx : Value} {w : World} {news olds : Array Value}
    (hn : (Builtin.lenOf yx).run C.P w = .ok n w) (hf : (Builtin.firstCells te.size n yx).run C.P w.drew = .ok news w.drew) (ho : (Builtin.firstCells te.size len (.slice a len cap)).run C.P w.drew = .ok olds w.drew)
    (hlt : cap < len + n) (hb : (len + n) * te.bytes ≤ 35184372088832) (hb2 : len + n ≤ 35184372088832) (hb0 : te.bytes ≠ 0) :
    ∃ nc, len + n ≤ nc ∧ (Builtin.append_ #[st, xt] type #[.slice a len cap, yx]).run C.P w =
      .ok (.slice (some ⟨w.heap.size, 0, none⟩) (len + n) nc) (w.drew.alloc (.cells (olds ++ news ++ Builtin.zeroCells z.cells (nc - (len + n))) e)) := by
  have hu : ∀ w, (underlying st).run C.P w = .ok (.slice e) w := fun w => by have := ty_und ok hst w; rwa [hd] at this
  obtain ⟨i, hi, hib, his⟩ := ty_info ok hte w
  have hi' : ∀ w, (typeInfo e).run C.P w = .ok i w := by
    intro w'
    obtain ⟨_, _, j, hj, _, _, _⟩ := ok e te hte
    have h1 : ∀ w, (typeInfo e).run C.P w = .ok j w := fun w => by simp [typeInfo, hj]
    have := h1 w
    rw [hi] at this
    simp only [Result.ok.injEq, and_true] at this
    subst this; exact h1 w'
  have hnext := nextslicecap_le hlt
  have hmul : Builtin.nextslicecap (len + n) cap * te.bytes ≤ 2 ^ 48 := by
    have := Nat.mul_le_mul_right te.bytes hnext
    have e2 : 2 * (len + n) * te.bytes = 2 * ((len + n) * te.bytes) := by rw [Nat.mul_assoc]
    omega
  refine ⟨(Question.appendCap (len + n) cap e).cut (w.tape w.drawn (Question.appendCap (len + n) cap e)), by simp only [Question.cut]; omega, ?_⟩
  have hforced : (Question.appendCap (len + n) cap e).forced = false := rfl
  have hmax : ¬ ((((len + n : Nat) : Int) > IntKind.i64.max) ∧ (False ∨ te.bytes = 0)) := fun h => by rcases h.2 with h | h; exact h; exact hb0 h
  rcases notInt ok hxt hxd with ⟨e', hux⟩ | hux
  all_goals
    simp only [Builtin.append_, List.getElem?_toArray, List.getElem?_cons_zero, List.getElem?_cons_succ, Sem.run_bind, hu, Result.andThen_ok, ty_size ok hte, hux, Sem.run_pure, Bool.false_eq_true, if_false, hn,
      show ¬ (len + n ≤ cap) by omega, hi', hib, Bool.not_false]
    rw [if_neg hmax]
    simp only [Sem.run_pure, Result.andThen_ok, Sem.run_bind, hi', hib]
    rw [if_neg (by omega)]
    simp only [Sem.run_bind, Sem.run_pure, Result.andThen_ok, run_choose, hforced, Bool.false_eq_true, if_false, World.drew_eq, run_askRoom, hi', hib, ho, if_true, hf, ty_zero ok hte hz, newRow, run_newObj, World.alloc_eq, World.size_drew]

theorem Post.of_le {M M1 : Mem} {ver nv' : Nat} {r : AV} {H' : Tr Ent} {y : Value} {w' : World} (hle : M.le M1) (hmu : M1.mu = M.mu) (hb : Below base M.w M1.w) (h : Post M1 base im0 ver nv' r H' y w') : Post M base im0 ver nv' r H' y w' := by
  obtain ⟨⟨M', hw, hle', hm, hr, hs⟩, hb'⟩ := h
  exact ⟨⟨M', hw, Mem.le_trans hle hle', fun q hq => by rw [hm q hq, hmu], hr, hs⟩, hb.trans hb'⟩

theorem sim_drew (hs : SimH M base im0 nv H) : M.le { M with w := M.w.drew } ∧ SimH { M with w := M.w.drew } base im0 nv H ∧ Below base M.w M.w.drew :=
  ⟨(hs.other ((Below.refl _ _).drew)).1, (hs.other ((Below.refl _ _).drew)).2, (Below.refl _ _).drew⟩

/-- A new row of elements, with room behind them that nothing is known of. -/
theorem fresh_sound {ver key sz nc nv' : Nat} {e : TypeId} {z : Value} {es xs : List AV} {ys zs : List Value} (hs : SimH M base im0 nv H) (hv : VerOk M nv ver nv') (hes : RepL M es ys) (hxs : RepL M xs zs) (sy : Sized sz ys) (sz' : Sized sz zs)
    (hz : z.cells.size = sz) (hnc : es.length + xs.length ≤ nc) :
    Post M base im0 ver nv' (.sl key ver sz 0 (es ++ xs).length) (H.set key { ver := ver, fz := false, blk := .arr sz (es ++ xs) false }) (.slice (some ⟨M.w.heap.size, 0, none⟩) (es.length + xs.length) nc)
      (M.w.drew.alloc (.cells ((flat ys).toArray ++ (flat zs).toArray ++ Builtin.zeroCells z.cells (nc - (es.length + xs.length))) e)) := by
  obtain ⟨h1, h2, h3⟩ := sim_drew hs
  refine Post.of_le h1 rfl h3 ?_
  have hl1 := hes.length
  have hl2 := hxs.length
  refine post_alloc (M := { M with w := M.w.drew }) (ct := nc) h2 ⟨hv.free, hv.le, hv.lt⟩ _ _ _ _ (fun M' hle hb => ?_) (fun M' hle hmu => ?_)
  · refine ⟨_, e, ys ++ zs, hb, (hes.mono (Mem.le_trans h1 hle)).append (hxs.mono (Mem.le_trans h1 hle)), Sized.append.2 ⟨sy, sz'⟩, ?_, ?_, fun hx => (by cases hx), ?_⟩
    · have q1 := flat_length sy
      have q2 := flat_length sz'
      have q3 : (Builtin.zeroCells z.cells (nc - (es.length + xs.length))).size = (nc - (es.length + xs.length)) * sz := by simp [Builtin.zeroCells, hz]
      simp only [Array.size_append, List.size_toArray, q1, q2, q3, hl1, hl2]
      rw [← Nat.add_mul, ← Nat.add_mul]; congr 1; omega
    · simpa using hnc
    · have q : (flat (ys ++ zs)).length = (es ++ xs).length * sz := by rw [flat_length (Sized.append.2 ⟨sy, sz'⟩)]; simp [hl1, hl2]
      simp only [Array.toList_append, List.append_assoc]
      rw [← List.append_assoc, ← flat_append, ← q, List.take_left']
      rfl
  · unfold Rep
    refine ⟨_, nc, 0, hmu, by simpa using hnc, ?_, fun _ => by simp⟩
    simp

theorem len_run_slice {P : Program} {a : Option Addr} {n c : Nat} (w : World) : (Builtin.lenOf (.slice a n c)).run P w = .ok n w := rfl

theorem aappend_sound {C : Cx} (ok : TyOk C) {argTypes : List TypeId} {type : TypeId} {key ver nv' : Nat} {s x r : AV} {H' : Tr Ent} {ys yx : Value} (h : aappend C H key ver argTypes s x = some (r, H')) (hs0 : Rep M s ys) (hx : Rep M x yx)
    (hs : SimH M base im0 nv H) (hv : VerOk M nv ver nv') : ∃ y w', (Builtin.append_ argTypes.toArray type #[ys, yx]).run C.P M.w = .ok y w' ∧ Post M base im0 ver nv' r H' y w' := by
  unfold aappend at h
  split at h
  · rename_i st xt
    split at h
    · rename_i desc sz agg by_ z xd xs hel hxd hxs
      obtain ⟨e, ti, hst, hd, hte⟩ := elemTI_some ok hel
      obtain ⟨tx, hxt, hxd'⟩ : ∃ tx, C.ty xt = some tx ∧ tx.desc = xd := by
        unfold TI.dsc at hxd; simp only [Option.map_eq_some_iff] at hxd; exact hxd
      subst hxd'
      cases c1 : notSeq tx.desc with
      | true => simp [c1] at h
      | false =>
      cases c2 : allSz sz xs with
      | false => simp [c1, c2] at h
      | true =>
      cases c3 : Nat.beq z.cells.size sz with
      | false => simp [c1, c2, c3] at h
      | true =>
      simp only [c1, c2, c3, Bool.and_self, Bool.not_true, cond_false] at h
      have c3 := Nat.eq_of_beq_eq_true c3
      obtain ⟨zs, hzs, szz, hlen, hfc⟩ := elemsOf_sound (P := C.P) hxs c2 hx hs
      have hzl := hzs.length
      have hnews : ∀ w : World, w.heap = M.w.heap → (Builtin.firstCells sz xs.length yx).run C.P w = .ok (flat zs).toArray w := fun w hw => by
        have := hfc xs.length (Nat.le_refl _) w hw
        rwa [List.take_of_length_le (by omega)] at this
      have fits := fun {a : Option Addr} {len cap : Nat} (hle : len + xs.length ≤ cap) => append_fits (type := type) ok hst hd hte hxt c1 (a := a) (len := len) (cap := cap) (hlen M.w) (hnews M.w rfl) hle
      split at h
      · -- nothing is appended
        have hz0 : zs = [] := by cases zs with | nil => rfl | cons a l => simp at hzl
        subst hz0
        have same : ∀ {a : Option Addr} {len cap : Nat}, ys = .slice a len cap → len ≤ cap → some (s, H) = some (r, H') → ∃ y w', (Builtin.append_ #[st, xt] type #[ys, yx]).run C.P M.w = .ok y w' ∧ Post M base im0 ver nv' r H' y w' := by
          intro a len cap hys hle he
          simp only [Option.some.injEq, Prod.mk.injEq] at he
          obtain ⟨rfl, rfl⟩ := he
          subst hys
          refine ⟨.slice a len cap, M.w, ?_, Post.same hs hv.le hs0⟩
          rw [fits (by simpa using hle)]
          cases a <;> simp [flat, storeCells]
        split at h
        · unfold Rep at hs0; exact same hs0 (Nat.le_refl _) h
        · have hs1 := hs0; unfold Rep at hs1; obtain ⟨ao, cap, l, hy, hc, _⟩ := hs1; exact same hy hc h
        · have hs1 := hs0; unfold Rep at hs1; obtain ⟨b, ct, o, hm, hc, hy, _⟩ := hs1; exact same hy (by omega) h
        · cases h
      · rename_i x0 xs0
        -- a new row
        have fresh : ∀ {H0 : Tr Ent} {es : List AV} {l : List Value} {a : Option Addr} {cap : Nat}, SimH M base im0 nv H0 → RepL M es l → Sized sz l → ys = .slice a es.length cap → cap < es.length + (x0 :: xs0).length →
            (∀ w : World, w.heap = M.w.heap → (Builtin.firstCells sz es.length (.slice a es.length cap)).run C.P w = .ok (flat l).toArray w) →
            (bif Nat.ble ((es ++ x0 :: xs0).length * by_) 35184372088832 && Nat.ble (es ++ x0 :: xs0).length 35184372088832 && !Nat.beq by_ 0 then
              some (AV.sl key ver sz 0 (es ++ x0 :: xs0).length, H0.set key { ver := ver, fz := false, blk := .arr sz (es ++ x0 :: xs0) false }) else none) = some (r, H') →
            ∃ y w', (Builtin.append_ #[st, xt] type #[ys, yx]).run C.P M.w = .ok y w' ∧ Post M base im0 ver nv' r H' y w' := by
          intro H0 es l a cap hs1 hes hsl hys hcap hold he
          cases b1 : Nat.ble ((es ++ x0 :: xs0).length * by_) 35184372088832 with
          | false => rw [b1] at he; simp only [Bool.false_and, cond_false] at he; cases he
          | true =>
          cases b2 : Nat.ble (es ++ x0 :: xs0).length 35184372088832 with
          | false => rw [b1, b2] at he; simp only [Bool.and_false, Bool.false_and, cond_false] at he; cases he
          | true =>
          cases b3 : Nat.beq by_ 0 with
          | true => rw [b1, b2, b3] at he; simp only [Bool.not_true, Bool.and_false, cond_false] at he; cases he
          | false =>
          simp only [b1, b2, b3, Bool.and_self, Bool.not_false, cond_true, Option.some.injEq, Prod.mk.injEq] at he
          obtain ⟨rfl, rfl⟩ := he
          have b1 := Nat.le_of_ble_eq_true b1
          have b2 := Nat.le_of_ble_eq_true b2
          have b3 : by_ ≠ 0 := fun e0 => by rw [e0] at b3; cases b3
          rw [List.length_append] at b1 b2
          subst hys
          obtain ⟨nc, hnc, hrun⟩ := append_grows (type := type) ok hst hd hte rfl hxt c1 (hlen M.w) (hnews M.w.drew rfl) (hold M.w.drew rfl) hcap b1 b2 b3
          exact ⟨_, _, hrun, fresh_sound hs1 hv hes hzs hsl szz c3 hnc⟩
        split at h
        · -- nil
          unfold Rep at hs0; subst hs0
          exact fresh (es := []) (l := []) hs (by simp) (fun y hy => by simp at hy) rfl (by simp) (fun w _ => by simp [Builtin.firstCells, flat]) (by simpa using h)
        · -- a slice that is never written again
          rename_i sz' es
          cases d1 : Nat.beq sz sz' with
          | false => simp [d1] at h
          | true =>
          simp only [d1, cond_true] at h
          have d1 := Nat.eq_of_beq_eq_true d1; subst d1
          unfold Rep at hs0
          obtain ⟨ao, cap, l, rfl, hcap, hr, hsd, hrow, hex⟩ := hs0
          have hcap := hex rfl; subst hcap
          rcases hrow with ⟨b, o, rfl, hrow⟩ | e
          rotate_left
          · have h0 : es = [] := List.length_eq_zero_iff.1 e
            subst h0
            rw [RepL.nil_iff] at hr; subst hr
            exact fresh (es := []) (l := []) hs (by simp) (fun y hy => by simp at hy) rfl (by simp) (fun w _ => by cases ao <;> simp [Builtin.firstCells, loadCells, loadCellsFrom, flat]) (by simpa using h)
          refine fresh (es := es) (l := l) hs (hr.mono (Mem.bare_le M)) hsd rfl (by simp) (fun w hw => ?_) h
          have := firstCells_row (P := C.P) (w := w) (n := es.length) (len := es.length) (cap := es.length) hsd (by rw [hr.length]; exact Nat.le_refl _) (fun i x hx => by rw [cell?_of_heap (w := M.w) (by rw [hw])]; exact (hrow i x hx).2)
          rwa [List.take_of_length_le (by rw [hr.length]; exact Nat.le_refl _)] at this
        · -- a slice of one's own
          rename_i k rr sz' lo len
          split at h
          · rename_i ver' fz sz'' es ex hl
            cases d1 : (Nat.beq sz sz' && Nat.beq sz sz'') with
            | false => simp [d1] at h
            | true =>
            simp only [d1, Bool.not_true, cond_false] at h
            simp only [Bool.and_eq_true] at d1
            have e1 := Nat.eq_of_beq_eq_true d1.1; subst e1
            have e2 := Nat.eq_of_beq_eq_true d1.2; subst e2
            obtain ⟨hk, hvv⟩ := live_some hl
            simp only at hvv; subst hvv
            obtain ⟨b, ct, hE⟩ := hs.ent _ _ hk
            obtain ⟨arr, ty, yl, hb, hrep, hsd, has, hlen2, hex, htk⟩ := hE.blk
            have hs1 := hs0
            unfold Rep at hs1
            obtain ⟨b', ct', o, hm, hct, rfl, ho⟩ := hs1
            obtain ⟨rfl, rfl⟩ := mu_eq hE.mu hm
            have hyl := hrep.length
            -- what is read of the old elements
            have hold : lo + len ≤ es.length → ∀ w : World, w.heap = M.w.heap → (Builtin.firstCells sz len (.slice (some ⟨b, o, none⟩) len (ct - lo))).run C.P w = .ok (flat ((yl.drop lo).take len)).toArray w := by
              intro hle w hw
              by_cases hl0 : len = 0
              · subst hl0; simp [Builtin.firstCells, loadCells, loadCellsFrom, flat]
              · have := firstCells_row (P := C.P) (w := w) (b := b) (o := o) (n := len) (len := len) (cap := ct - lo) (ys := yl.drop lo) (hsd.sub fun x hx => List.mem_of_mem_drop hx) (by simp; omega) (fun i x hx => by
                  rw [ho (by omega), cell?_of_heap (w := M.w) (by rw [hw]), cell_of_heap hb]
                  rw [← flat_drop hsd, ← htk, List.getElem?_drop, List.getElem?_take] at hx
                  split at hx
                  · exact hx
                  · cases hx)
                exact this
            cases d2 : Nat.beq (lo + len) es.length with
            | true =>
              simp only [d2, cond_true] at h
              have d2 := Nat.eq_of_beq_eq_true d2
              cases ex with
              | true =>
                simp only [cond_true] at h
                have hexx := hex rfl
                have hdl : (es.drop lo).length = len := by simp; omega
                have hh := hold (by omega)
                have hdt : (yl.drop lo).take len = yl.drop lo := List.take_of_length_le (by simp; omega)
                rw [hdt] at hh
                exact fresh (es := es.drop lo) (l := yl.drop lo) (cap := ct - lo) (a := some ⟨b, o, none⟩) hs (hrep.drop lo) (hsd.sub fun x hx => List.mem_of_mem_drop hx) (by rw [hdl]) (by rw [hdl]; simp; omega) (by rw [hdl]; exact hh) h
              | false =>
                simp only [cond_false] at h
                cases fz with
                | true => simp at h
                | false =>
                simp only [cond_false] at h
                cases d3 : Nat.beq lo 0 with
                | false => simp [d3] at h
                | true =>
                simp only [d3, cond_true] at h
                have d3 := Nat.eq_of_beq_eq_true d3; subst d3
                simp only [Nat.zero_add] at d2
                subst d2
                simp only [Nat.sub_zero]
                by_cases hfit : es.length + (x0 :: xs0).length ≤ ct
                · -- in place
                  cases b1 : Nat.ble ((es ++ x0 :: xs0).length * by_) 35184372088832 with
                  | false => rw [b1] at h; simp only [Bool.false_and, cond_false] at h; cases h
                  | true =>
                  cases b2 : Nat.ble (es ++ x0 :: xs0).length 35184372088832 with
                  | false => rw [b1, b2] at h; simp only [Bool.and_false, Bool.false_and, cond_false] at h; cases h
                  | true =>
                  cases b3 : Nat.beq by_ 0 with
                  | true => rw [b1, b2, b3] at h; simp only [Bool.not_true, Bool.and_false, cond_false] at h; cases h
                  | false =>
                  simp only [b1, b2, b3, Bool.and_self, Bool.not_false, cond_true, Option.some.injEq, Prod.mk.injEq] at h
                  obtain ⟨rfl, rfl⟩ := h
                  have ho0 : o = 0 := by rw [ho (by simp at hfit; omega)]; simp
                  subst ho0
                  have hone := flat_one c2 hzs
                  have hfl := flat_length szz
                  have hszl : (es.length + zs.length) * sz ≤ arr.size := by rw [has]; exact Nat.mul_le_mul_right _ (by rw [hzl]; exact hfit)
                  have hrun := store_run (P := C.P) (o := es.length * sz) hb (m := flat zs) (by rw [hfl, ← Nat.add_mul]; exact hszl) hone
                  obtain ⟨q1, q2, q3, q4, q5, q6⟩ := setRow_write (arr' := (arr.toList.take (es.length * sz) ++ flat zs ++ arr.toList.drop (es.length * sz + (flat zs).length)).toArray) hb
                  obtain ⟨w1, w2, w3, w4⟩ := hs.dropWrite hk hE rfl q1 q2 q3 q4 q5
                  have hlay := lay_flat hsd szz (arr := arr.toList) (by rw [hyl]; exact htk) (j := es.length) (by omega) (by simpa using hszl) (es.length + zs.length) (by omega)
                  have htd : yl.take es.length ++ zs ++ yl.drop (es.length + zs.length) = yl ++ zs := by
                    rw [List.take_of_length_le (by omega), List.drop_of_length_le (by omega), List.append_nil]
                  rw [htd] at hlay
                  obtain ⟨M2, r1, r2, r5, r3, r4⟩ := w2.rename (ver := ver) ⟨hv.free, hv.le, hv.lt⟩ (key := key) (b := b) (ct := ct) (bl := .arr sz (es ++ x0 :: xs0) false) (fun k' e' ct' h1 _ h2 => w4 k' e' ct' h1 h2)
                    ⟨_, ty, yl ++ zs, q6, (hrep.mono w1).append (hzs.mono w1), Sized.append.2 ⟨hsd, szz⟩, by
                      rw [← has]
                      simp only [List.size_toArray, List.length_append, List.length_take, List.length_drop, Array.length_toList, hfl]
                      rw [Nat.add_mul] at hszl
                      omega, by simpa using hfit, fun hx => (by cases hx), by
                      rw [List.length_append, ← hzl]; simpa using hlay⟩ hE.base (hE.own rfl)
                  refine ⟨.slice (some ⟨b, 0, none⟩) (es.length + (x0 :: xs0).length) ct, _, ?_, ⟨⟨M2, r1, Mem.le_trans w1 r2, r5, ?_, r4⟩, w3⟩⟩
                  · rw [fits hfit]
                    simp only [Sem.run_bind, add_lit, Nat.zero_add, hrun, Result.andThen_ok, Sem.run_pure]
                  · unfold Rep
                    exact ⟨b, ct, 0, r3, by simpa using hfit, by simp, fun _ => by simp⟩
                · refine fresh (es := es) (l := yl) (cap := ct) (a := some ⟨b, o, none⟩) (hs.del k) hrep hsd (by simp) (by omega) (fun w hw => ?_) h
                  have := hold (by omega) w hw
                  rwa [List.drop_zero, List.take_of_length_le (by omega), Nat.sub_zero] at this
            | false =>
              simp only [d2, cond_false] at h
              cases fz with
              | true => simp at h
              | false =>
              simp only [cond_false] at h
              cases d4 : Nat.ble (lo + len + (x0 :: xs0).length) es.length with
              | false => rw [d4] at h; simp only [cond_false] at h; cases h
              | true =>
              simp only [d4, cond_true, Option.some.injEq, Prod.mk.injEq] at h
              obtain ⟨rfl, rfl⟩ := h
              have d4 := Nat.le_of_ble_eq_true d4
              have hfit : len + (x0 :: xs0).length ≤ ct - lo := by omega
              have hpos : 0 < (x0 :: xs0).length := by simp
              have hoo := ho (by omega)
              subst hoo
              have hone := flat_one c2 hzs
              have hfl := flat_length szz
              have hszl : ((lo + len) + zs.length) * sz ≤ arr.size := by rw [has]; exact Nat.mul_le_mul_right _ (by omega)
              have hrun := store_run (P := C.P) (o := (lo + len) * sz) hb (m := flat zs) (by rw [hfl, ← Nat.add_mul]; exact hszl) hone
              obtain ⟨q1, q2, q3, q4, q5, q6⟩ := setRow_write (arr' := (arr.toList.take ((lo + len) * sz) ++ flat zs ++ arr.toList.drop ((lo + len) * sz + (flat zs).length)).toArray) hb
              have hlay := lay_flat hsd szz (arr := arr.toList) (by rw [hyl]; exact htk) (j := lo + len) (by omega) (by simpa using hszl) es.length (by omega)
              have hsplen : (splice es (lo + len) (x0 :: xs0)).length = es.length := by
                simp only [splice, List.length_append, List.length_take, List.length_drop]; omega
              have hW := hs.write hk hE rfl q1 q2 q3 q4 q5 (.arr sz (splice es (lo + len) (x0 :: xs0)) ex) (fun hle => ⟨_, ty, _, q6, (RepL.splice (lo + len) (hrep.mono hle) (hzs.mono hle)), by
                  rw [Sized.append, Sized.append]
                  exact ⟨⟨hsd.sub fun x hx => List.mem_of_mem_take hx, szz⟩, hsd.sub fun x hx => List.mem_of_mem_drop hx⟩, by
                  rw [← has]
                  simp only [List.size_toArray, List.length_append, List.length_take, List.length_drop, Array.length_toList, hfl]
                  rw [Nat.add_mul] at hszl
                  omega, by rw [hsplen]; exact hlen2, by rw [hsplen]; exact hex, by rw [hsplen]; simpa using hlay⟩)
              refine ⟨.slice (some ⟨b, lo * sz, none⟩) (len + (x0 :: xs0).length) (ct - lo), _, ?_, ⟨⟨_, rfl, hW.1, fun _ _ => rfl, ?_, hW.2.1.nv_le hv.le⟩, hW.2.2⟩⟩
              · rw [fits hfit]
                simp only [Sem.run_bind, add_lit, ← Nat.add_mul, hrun, Result.andThen_ok, Sem.run_pure]
              · unfold Rep
                exact ⟨b, ct, lo * sz, hm, by omega, rfl, fun _ => rfl⟩
          · cases h
        · cases h
    · cases h
  · cases h
end
end Go.Vm
