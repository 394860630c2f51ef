/- A small evaluator over abstract values: slicing, addresses, indexes are sound. -/
import Derived.Test.YtliikgffjphhjaaGreatDoorVmSnd3
namespace Go.Vm
open Go.RowKit (Below)

section
variable {M : Mem} {base : Nat} {im0 : Nat → Prop} {nv : Nat} {H : Tr Ent}

def RepO (M : Mem) : Option AV → Option Value → Prop
  | none, none => True
  | some a, some y => Rep M a y
  | _, _ => False

theorem bound_run {P : Program} {a : AV} {n y : Nat} {v : Value} {code : BoundsCode} (h : asN a = some n) (hr : Rep M a v) (hle : n ≤ y) (w : World) : (Instr.sliceBound v y code).run P w = .ok n w := by
  obtain ⟨k, rfl⟩ := asN_rep h hr
  simp only [Instr.sliceBound, asIntOf, Sem.run_bind, Sem.run_pure, Result.andThen_ok]
  rw [if_pos (by omega)]
  simp

/-- What 'abounds' says of the model's 'sliceBounds', where the high bound and the third index do not pass the capacity. -/
theorem abounds_run {P : Program} {len cap : Nat} {lo hi mx : Option AV} {vlo vhi vmx : Option Value} {l h : Nat} {m : Option Nat} (hb : abounds len lo hi mx = some (l, h, m)) (h1 : RepO M lo vlo) (h2 : RepO M hi vhi) (h3 : RepO M mx vmx)
    (hcap : m.getD h ≤ cap) (isS : Bool) (hlc : len ≤ cap) (w : World) :
    (Instr.sliceBounds isS len cap vlo vhi vmx).run P w = .ok (l, h, m.getD cap) w ∧ l ≤ h ∧ h ≤ m.getD h ∧ (hi = none → m = none ∧ h = len) := by
  unfold abounds at hb
  split at hb
  · rename_i l' h' e1 e2
    cases hle : Nat.ble l' h' with
    | false => simp [hle] at hb
    | true =>
    simp only [hle, Bool.not_true, cond_false] at hb
    have hle := Nat.le_of_ble_eq_true hle
    -- the low bound
    have hlo : (vlo = none ∧ l' = 0) ∨ ∃ v, vlo = some v ∧ ∀ code, (Instr.sliceBound v h' code).run P w = .ok l' w := by
      cases lo with
      | none =>
        cases vlo with
        | none => simp only [Option.some.injEq] at e1; exact .inl ⟨rfl, e1.symm⟩
        | some v => exact h1.elim
      | some a =>
        cases vlo with
        | none => exact h1.elim
        | some v => exact .inr ⟨v, rfl, fun code => bound_run e1 h1 hle w⟩
    cases mx with
    | none =>
      simp only [Option.some.injEq, Prod.mk.injEq] at hb
      obtain ⟨rfl, rfl, rfl⟩ := hb
      cases vmx with
      | some v => exact h3.elim
      | none =>
      refine ⟨?_, hle, Nat.le_refl _, fun hhi => ?_⟩
      · have hhi : (vhi = none ∧ h' = len) ∨ ∃ v, vhi = some v ∧ ∀ code, (Instr.sliceBound v cap code).run P w = .ok h' w := by
          cases hi with
          | none =>
            cases vhi with
            | none => simp only [Option.some.injEq] at e2; exact .inl ⟨rfl, e2.symm⟩
            | some v => exact h2.elim
          | some a =>
            cases vhi with
            | none => exact h2.elim
            | some v => exact .inr ⟨v, rfl, fun code => bound_run e2 h2 (by simpa using hcap) w⟩
        rcases hlo with ⟨rfl, rfl⟩ | ⟨v, rfl, hv⟩ <;> rcases hhi with ⟨rfl, rfl⟩ | ⟨u, rfl, hu⟩ <;>
          simp only [Instr.sliceBounds, Sem.run_bind, Sem.run_pure, Result.andThen_ok, Option.getD_none] <;> (try simp only [hu, Result.andThen_ok]) <;> (try simp only [Sem.run_bind, hv, Result.andThen_ok, Sem.run_pure])
      · subst hhi; simp only [Option.some.injEq] at e2; exact ⟨rfl, e2.symm⟩
    | some a =>
      simp only at hb
      cases hm : asN a with
      | none => simp [hm] at hb
      | some m' =>
      simp only [hm] at hb
      cases hb2 : (Nat.ble h' m' && hi.isSome) with
      | false => simp [hb2] at hb
      | true =>
      simp only [hb2, cond_true, Option.some.injEq, Prod.mk.injEq] at hb
      obtain ⟨rfl, rfl, rfl⟩ := hb
      simp only [Bool.and_eq_true] at hb2
      have hhm := Nat.le_of_ble_eq_true hb2.1
      cases vmx with
      | none => exact h3.elim
      | some v =>
      cases hi with
      | none => simp at hb2
      | some b =>
      cases vhi with
      | none => exact h2.elim
      | some vh =>
      refine ⟨?_, hle, hhm, fun hhi => by cases hhi⟩
      have r1 : ∀ code, (Instr.sliceBound v cap code).run P w = .ok m' w := fun code => bound_run hm h3 (by simpa using hcap) w
      have r2 : ∀ code, (Instr.sliceBound vh m' code).run P w = .ok h' w := fun code => bound_run e2 h2 hhm w
      rcases hlo with ⟨rfl, rfl⟩ | ⟨u, rfl, hu⟩ <;> simp only [Instr.sliceBounds, Sem.run_bind, r1, Result.andThen_ok, r2, Sem.run_pure, Option.getD_some] <;> (try simp only [hu, Result.andThen_ok, Sem.run_bind, Sem.run_pure])
  · cases hb

theorem optV {o : Option AV} {v : Option Value} {l : Option Value} (h : (match o with | none => some none | some a => (toV a).map some) = some l) (hr : RepO M o v) : v = l := by
  cases o with
  | none =>
    cases v with
    | none => simpa using h
    | some x => exact hr.elim
  | some a =>
    cases v with
    | none => exact hr.elim
    | some x =>
      simp only [Option.map_eq_some_iff] at h
      obtain ⟨y, hy, rfl⟩ := h
      rw [toV_rep hy hr]

theorem slice_sl {M : Mem} {k r sz lo0 l h b ct o : Nat} (hm : M.mu r = some (b, ct)) (hlo : lo0 < ct → o = lo0 * sz) (hle : l ≤ h) (hh : lo0 + h ≤ ct) :
    Rep M (.sl k r sz (lo0 + l) (h - l)) (.slice (some (if ct - lo0 = l then ⟨b, o, none⟩ else (⟨b, o, none⟩ : Addr).add (l * sz))) (h - l) (ct - lo0 - l)) := by
  unfold Rep
  by_cases hc : ct - lo0 = l
  · rw [if_pos hc]
    exact ⟨b, ct, o, hm, by omega, by congr 1; omega, fun hx => by omega⟩
  · rw [if_neg hc, add_lit]
    refine ⟨b, ct, o + l * sz, hm, by omega, by congr 1; omega, fun hx => ?_⟩
    rw [hlo (by omega), Nat.add_mul]

theorem slice_rsl {M : Mem} {sz cap l h c : Nat} {ao : Option Addr} {es : List AV} {ys : List Value} {ex : Bool} (hc : es.length ≤ cap) (hr : RepL M.bare es ys) (hs : Sized sz ys) (hrow : M.rowAt ao cap (flat ys)) (hle : l ≤ h) (hh : h ≤ es.length) (hcc : c ≤ cap) (hhc : h ≤ c)
    (hex : ex = true → c = h) :
    Rep M (.rsl sz ((es.drop l).take (h - l)) ex) (.slice (if c = l then ao else ao.map (·.add (l * sz))) (h - l) (c - l)) := by
  have hlen : ((es.drop l).take (h - l)).length = h - l := by simp; omega
  unfold Rep
  by_cases hcl : c = l
  · rw [if_pos hcl]
    have : h - l = 0 := by omega
    refine ⟨ao, c - l, [], by rw [hlen], by omega, ?_, fun y hy => by simp at hy, ?_, fun hx => by omega⟩
    · rw [this]; simp
    · rcases hrow with ⟨b, o, e, _⟩ | e
      · exact .inl ⟨b, o, e, Mem.row_nil⟩
      · exact .inr (by omega)
  · rw [if_neg hcl]
    rcases hrow with ⟨b, o, rfl, hrow⟩ | e
    · simp only [Option.map_some, add_lit]
      refine ⟨some ⟨b, o + l * sz, none⟩, c - l, (ys.drop l).take (h - l), by rw [hlen], by omega, (hr.drop l).take _, hs.sub fun x hx => List.mem_of_mem_drop (List.mem_of_mem_take hx), .inl ⟨b, o + l * sz, rfl, ?_⟩, fun hx => ?_⟩
      · have h2 := Mem.row_drop (l * sz) hrow
        rw [flat_drop hs] at h2
        have h3 := Mem.row_take ((h - l) * sz) h2
        rwa [flat_take (hs.sub fun x hx => List.mem_of_mem_drop hx)] at h3
      · rw [hlen, hex hx]
    · omega

theorem sliceAt_slice {C : Cx} (ok : TyOk C) {t e : TypeId} {ti : TI} (ht : C.ty t = some ti) (hd : ti.desc = .slice e) (x : Value) (lo hi mx : Option Value) (w : World) :
    (Instr.sliceAt t x lo hi mx).run C.P w = (Instr.slice t x lo hi mx).run C.P w := by
  have hu := ty_und ok ht w
  rw [hd] at hu
  simp only [Instr.sliceAt, Sem.run_bind, hu, Result.andThen_ok]

theorem slice_run {C : Cx} (ok : TyOk C) {t e : TypeId} {ti te : TI} (ht : C.ty t = some ti) (hd : ti.desc = .slice e) (hte : C.ty e = some te) {a : Option Addr} {len cap l h m : Nat} {lo hi mx : Option Value} {w : World}
    (hb : (Instr.sliceBounds true len cap lo hi mx).run C.P w = .ok (l, h, m) w) :
    (Instr.sliceAt t (.slice a len cap) lo hi mx).run C.P w = .ok (.slice (if m = l then a else a.map (·.add (l * te.size))) (h - l) (m - l)) w := by
  rw [sliceAt_slice ok ht hd]
  have hu := ty_und ok ht w
  rw [hd] at hu
  simp only [Instr.slice, Sem.run_bind, hu, Result.andThen_ok, hb, ty_size ok hte, Sem.run_pure]

theorem elemTI_of {C : Cx} {t e : TypeId} {ti : TI} (ht : C.ty t = some ti) (hd : ti.desc = .slice e) : elemTI C t = C.ty e := by
  unfold elemTI; rw [ht]; cases ti; simp only at hd; subst hd; rfl

theorem blt_lt {a b : Nat} (h : Nat.blt a b = true) : a < b := Nat.lt_of_lt_of_le (Nat.lt_succ_self a) (Nat.le_of_ble_eq_true h)

theorem elemTI_some {C : Cx} (ok : TyOk C) {t : TypeId} {te : TI} (h : elemTI C t = some te) : ∃ e ti, C.ty t = some ti ∧ ti.desc = .slice e ∧ C.ty e = some te := by
  unfold elemTI at h
  split at h
  · rename_i e _ _ _ _ ht
    exact ⟨e, _, ht, rfl, h⟩
  · cases h

theorem aslice_sound {C : Cx} (ok : TyOk C) {t : TypeId} {x r : AV} {lo hi mx : Option AV} {y : Value} {vlo vhi vmx : Option Value} (h : aslice C H t x lo hi mx = some r) (hx : Rep M x y) (h1 : RepO M lo vlo) (h2 : RepO M hi vhi) (h3 : RepO M mx vmx)
    (hs : SimH M base im0 nv H) : ∃ z, (Instr.sliceAt t y vlo vhi vmx).run C.P M.w = .ok z M.w ∧ Rep M r z := by
  unfold aslice at h
  split at h
  · -- a string
    rename_i s
    split at h
    · rename_i l hh e1 e2
      unfold Rep at hx; subst hx
      have q1 := optV e1 h1
      have q2 := optV e2 h2
      subst q1; subst q2
      cases vmx with
      | some v => exact h3.elim
      | none =>
      split at h
      · rename_i ht
        obtain ⟨z, hz, hr⟩ := pureOp_sound (M := M) h M.w
        refine ⟨z, ?_, hr⟩
        rw [← hz]
        have hu := ty_und ok ht M.w
        simp only at hu
        simp only [Instr.sliceAt, Sem.run_bind, hu, Result.andThen_ok]
      · cases h
    · cases h
  · -- nil
    split at h
    · rename_i te hte hb
      obtain ⟨e, ti, ht, hd, hte⟩ := elemTI_some ok hte
      simp only [Option.some.injEq] at h; subst h
      unfold Rep at hx; subst hx
      obtain ⟨q1, q2, q3, q4⟩ := abounds_run (P := C.P) (cap := 0) hb h1 h2 h3 (by simp) true (Nat.le_refl _) M.w
      refine ⟨_, slice_run ok ht hd hte q1, ?_⟩
      unfold Rep; simp
    · cases h
  · -- a slice that is never written again
    rename_i sz es ex
    unfold Rep at hx
    obtain ⟨ao, cap, ys, rfl, hcap, hr, hsd, hrow, hex⟩ := hx
    split at h
    · rename_i te l hh hte hb
      obtain ⟨e, ti, ht, hd, hte⟩ := elemTI_some ok hte
      cases c1 : Nat.beq te.size sz with
      | false => simp [c1] at h
      | true =>
      cases c2 : Nat.ble hh es.length with
      | false => simp [c1, c2] at h
      | true =>
      simp only [c1, c2, Bool.and_self, cond_true, Option.some.injEq] at h; subst h
      have c1 := Nat.eq_of_beq_eq_true c1; subst c1
      have c2 := Nat.le_of_ble_eq_true c2
      obtain ⟨q1, q2, q3, q4⟩ := abounds_run (P := C.P) (cap := cap) hb h1 h2 h3 (by simp; omega) true hcap M.w
      refine ⟨_, slice_run ok ht hd hte q1, ?_⟩
      have := slice_rsl (c := cap) hcap hr hsd hrow q2 c2 (Nat.le_refl _) (by omega) (ex := ex && Nat.beq hh es.length) (fun hx => by
        simp only [Bool.and_eq_true] at hx
        have := Nat.eq_of_beq_eq_true hx.2
        rw [hex hx.1]; omega)
      simpa only [Option.getD_none] using this
    · rename_i te l hh m hte hb
      obtain ⟨e, ti, ht, hd, hte⟩ := elemTI_some ok hte
      cases c1 : Nat.beq te.size sz with
      | false => simp [c1] at h
      | true =>
      cases c2 : Nat.ble m es.length with
      | false => simp [c1, c2] at h
      | true =>
      simp only [c1, c2, Bool.and_self, cond_true] at h
      have c1 := Nat.eq_of_beq_eq_true c1; subst c1
      have c2 := Nat.le_of_ble_eq_true c2
      obtain ⟨q1, q2, q3, q4⟩ := abounds_run (P := C.P) (cap := cap) hb h1 h2 h3 (by simp; omega) true hcap M.w
      refine ⟨_, slice_run ok ht hd hte q1, ?_⟩
      simp only [Option.getD_some] at q3 ⊢
      cases c3 : Nat.beq m hh with
      | false => simp only [c3, cond_false, Option.some.injEq] at h; subst h; unfold Rep; trivial
      | true =>
        simp only [c3, cond_true, Option.some.injEq] at h; subst h
        have c3 := Nat.eq_of_beq_eq_true c3; subst c3
        have := slice_rsl (c := m) hcap hr hsd hrow q2 c2 (by omega) (Nat.le_refl _) (ex := true) (fun _ => rfl)
        exact this
    · cases h
  · -- a slice of one's own
    rename_i k r sz lo0 len
    unfold Rep at hx
    obtain ⟨b, ct, o, hm, hct, rfl, ho⟩ := hx
    split at h
    · rename_i te l hh ver fz sz' es ex hte hb hl
      obtain ⟨e, ti, ht, hd, hte⟩ := elemTI_some ok hte
      obtain ⟨hk, hv⟩ := live_some hl
      simp only at hv; subst hv
      obtain ⟨b', ct', hE⟩ := hs.ent k _ hk
      obtain ⟨rfl, rfl⟩ := mu_eq hE.mu hm
      obtain ⟨arr, ty, ys, hbk, hrep, hsd, has, hlen, hex, htk⟩ := hE.blk
      cases c1 : Nat.beq te.size sz with
      | false => simp [c1] at h
      | true =>
      cases c2 : Nat.beq sz sz' with
      | false => simp [c1, c2] at h
      | true =>
      cases c3 : Nat.ble (lo0 + hh) es.length with
      | false => simp [c1, c2, c3] at h
      | true =>
      simp only [c1, c2, c3, Bool.and_self, cond_true, Option.some.injEq] at h; subst h
      have c1 := Nat.eq_of_beq_eq_true c1; subst c1
      have c3 := Nat.le_of_ble_eq_true c3
      obtain ⟨q1, q2, q3, q4⟩ := abounds_run (P := C.P) (cap := ct' - lo0) hb h1 h2 h3 (by simp; omega) true (by omega) M.w
      refine ⟨_, slice_run ok ht hd hte q1, ?_⟩
      have := slice_sl (M := M) (k := k) hm ho q2 (by omega : lo0 + hh ≤ ct')
      simp only [Option.getD_none]
      by_cases hcl : ct' - lo0 = l
      · simpa [hcl] using this
      · simpa [hcl] using this
    · rename_i te l hh m ver fz sz' es ex hte hb hl
      obtain ⟨e, ti, ht, hd, hte⟩ := elemTI_some ok hte
      obtain ⟨hk, hv⟩ := live_some hl
      simp only at hv; subst hv
      obtain ⟨b', ct', hE⟩ := hs.ent k _ hk
      obtain ⟨rfl, rfl⟩ := mu_eq hE.mu hm
      obtain ⟨arr, ty, ys, hbk, hrep, hsd, has, hlen, hex, htk⟩ := hE.blk
      cases c1 : Nat.beq te.size sz with
      | false => simp [c1] at h
      | true =>
      cases c2 : Nat.beq sz sz' with
      | false => simp [c1, c2] at h
      | true =>
      cases c3 : Nat.ble (lo0 + m) es.length with
      | false => simp [c1, c2, c3] at h
      | true =>
      simp only [c1, c2, c3, Bool.and_self, cond_true] at h
      have c3 := Nat.le_of_ble_eq_true c3
      obtain ⟨q1, q2, q3, q4⟩ := abounds_run (P := C.P) (cap := ct' - lo0) hb h1 h2 h3 (by simp; omega) true (by omega) M.w
      refine ⟨_, slice_run ok ht hd hte q1, ?_⟩
      cases c4 : Nat.beq l m with
      | false => simp only [c4, cond_false, Option.some.injEq] at h; subst h; unfold Rep; trivial
      | true =>
        simp only [c4, cond_true, Option.some.injEq] at h; subst h
        have c4 := Nat.eq_of_beq_eq_true c4; subst c4
        simp only [Option.getD_some] at q3 ⊢
        unfold Rep
        have hl0 : hh - l = 0 := by omega
        refine ⟨some ⟨b', o, none⟩, 0, [], by simp [hl0], by simp, by simp, fun y hy => by simp at hy, .inl ⟨b', o, rfl, Mem.row_nil⟩, fun _ => rfl⟩
    · cases h
  · cases h

theorem asIntOf_nat {P : Program} {a : AV} {n : Nat} {v : Value} (h : asN a = some n) (hr : Rep M a v) (w : World) : ∃ k, (asIntOf v).run P w = .ok (k, (n : Int)) w := by
  obtain ⟨k, rfl⟩ := asN_rep h hr
  exact ⟨k, rfl⟩

theorem ptr_plus {M : Mem} {b o n : Nat} {l : List Value} {cs : List AV} (hr : RepL M.bare cs l) (hrow : M.row b o l) : Rep M (.rptr (cs.drop n)) (.pointer (some ⟨b, o + n, none⟩)) := by
  unfold Rep; exact ⟨b, o + n, l.drop n, rfl, hr.drop n, Mem.row_drop n hrow⟩

/-- An address some cells further on. -/
theorem plus_sound {x r : AV} {y : Value} {n : Nat} (h : (match x with | .ptr k r off => some (AV.ptr k r (off + n)) | .eptr k r sz j off => some (.eptr k r sz j (off + n)) | .rptr cs => some (.rptr (cs.drop n)) | _ => none) = some r) (hx : Rep M x y) :
    ∃ a, y = .pointer (some a) ∧ Rep M r (.pointer (some (a.add n))) := by
  split at h
  · simp only [Option.some.injEq] at h; subst h
    unfold Rep at hx ⊢
    obtain ⟨b, ct, hm, rfl⟩ := hx
    exact ⟨_, rfl, b, ct, hm, by rw [add_lit]⟩
  · simp only [Option.some.injEq] at h; subst h
    unfold Rep at hx ⊢
    obtain ⟨b, ct, hm, rfl⟩ := hx
    exact ⟨_, rfl, b, ct, hm, by rw [add_lit, Nat.add_assoc]⟩
  · simp only [Option.some.injEq] at h; subst h
    unfold Rep at hx
    obtain ⟨b, o, l, rfl, hr, hrow⟩ := hx
    refine ⟨_, rfl, ?_⟩
    rw [add_lit]; exact ptr_plus hr hrow
  · cases h

theorem afieldAddr_sound {C : Cx} (ok : TyOk C) {t : TypeId} {x r : AV} {i : Nat} {y : Value} (h : afieldAddr C t x i = some r) (hx : Rep M x y) :
    ∃ z, (Instr.fieldAt t y i).run C.P M.w = .ok z M.w ∧ Rep M r z := by
  unfold afieldAddr at h
  split at h
  · rename_i fields _ _ _ _ ht
    cases hf : fields[i]? with
    | none => simp [hf] at h
    | some f =>
    simp only [hf] at h
    cases hft : C.ty f.type with
    | none => simp [hft] at h
    | some ti =>
    simp only [hft] at h
    cases h0 : Nat.beq ti.size 0 with
    | true => simp [h0] at h
    | false =>
    simp only [h0, cond_false] at h
    have h0 : ti.size ≠ 0 := fun e => by rw [e] at h0; cases h0
    obtain ⟨a, rfl, hr⟩ := plus_sound h hx
    refine ⟨_, ?_, hr⟩
    have hu := ty_und ok ht M.w
    simp only at hu
    simp only [Instr.fieldAt, Sem.run_bind, hu, Result.andThen_ok, hf, Instr.sureAddr, Sem.run_pure, fieldPlace, ty_size ok hft, h0, if_false]
  · cases h

theorem aindexAddr_sound {C : Cx} (ok : TyOk C) {t : TypeId} {x r i : AV} {y vi : Value} (h : aindexAddr C H t x i = some r) (hx : Rep M x y) (hi : Rep M i vi) (hs : SimH M base im0 nv H) :
    ∃ z, (Instr.indexAt t y vi).run C.P M.w = .ok z M.w ∧ Rep M r z := by
  unfold aindexAddr at h
  cases hn : asN i with
  | none => simp [hn] at h
  | some n =>
  simp only [hn] at h
  obtain ⟨k, hk⟩ := asIntOf_nat (P := C.P) hn hi M.w
  split at h
  · rename_i sz es ex
    cases hte : elemTI C t with
    | none => simp [hte] at h
    | some te =>
    obtain ⟨e, ti, ht, hd, hte'⟩ := elemTI_some ok hte
    simp only [hte] at h
    cases c1 : Nat.beq te.size sz with
    | false => simp [c1] at h
    | true =>
    simp only [c1, cond_true, Option.bind_eq_some_iff, Option.map_eq_some_iff] at h
    obtain ⟨el, hel, cs, hcs, rfl⟩ := h
    have c1 := Nat.eq_of_beq_eq_true c1; subst c1
    unfold Rep at hx
    obtain ⟨ao, cap, ys, rfl, hcap, hr, hsd, hrow, hex⟩ := hx
    have hlt := (List.getElem?_eq_some_iff.1 hel).1
    have hrow2 : ∃ b o, ao = some ⟨b, o, none⟩ ∧ M.row b o (flat ys) := by
      rcases hrow with h | h
      · exact h
      · omega
    clear hrow
    obtain ⟨b, o, rfl, hrow⟩ := hrow2
    obtain ⟨ye, hye, hre⟩ := hr.get hel
    obtain ⟨e1, e2⟩ := flat_el hsd hye
    rw [e1] at hrow
    have hrow2 := Mem.row_sub hrow
    rw [e2] at hrow2
    have hu := ty_und ok ht M.w
    rw [hd] at hu
    refine ⟨.pointer (some ⟨b, o + n * te.size, none⟩), ?_, by unfold Rep; exact ⟨b, _, _, rfl, cells?_len hcs hre, hrow2⟩⟩
    simp only [Instr.indexAt, Sem.run_bind, hk, Result.andThen_ok, hu, Sem.run_pure]
    rw [if_pos ⟨by omega, by omega⟩]
    simp only [Sem.run_bind, ty_size ok hte', Result.andThen_ok, Sem.run_pure, Int.toNat_natCast, add_lit]
  · rename_i kk rr sz lo len
    split at h
    · rename_i te ver fz sz' es ex hte hl
      obtain ⟨e, ti, ht, hd, hte'⟩ := elemTI_some ok hte
      cases c1 : Nat.beq te.size sz with
      | false => simp [c1] at h
      | true =>
      cases c2 : Nat.blt n len with
      | false => simp [c1, c2] at h
      | true =>
      simp only [c1, c2, Bool.and_self, cond_true, Option.some.injEq] at h; subst h
      have c1 := Nat.eq_of_beq_eq_true c1; subst c1
      have c2 := blt_lt c2
      unfold Rep at hx
      obtain ⟨b, ct, o, hm, hct, rfl, ho⟩ := hx
      have hu := ty_und ok ht M.w
      rw [hd] at hu
      refine ⟨.pointer (some ⟨b, o + n * te.size, none⟩), ?_, by unfold Rep; exact ⟨b, ct, hm, by rw [ho (by omega), Nat.add_mul, Nat.add_zero]⟩⟩
      simp only [Instr.indexAt, Sem.run_bind, hk, Result.andThen_ok, hu, Sem.run_pure]
      rw [if_pos ⟨by omega, by omega⟩]
      simp only [Sem.run_bind, ty_size ok hte', Result.andThen_ok, Sem.run_pure, Int.toNat_natCast, add_lit]
    · cases h
  · split at h
    · rename_i len elem _ _ _ _ ht
      cases hte : C.ty elem with
      | none => simp [hte] at h
      | some te =>
      simp only [hte] at h
      cases c2 : Nat.blt n len with
      | false => simp [c2] at h
      | true =>
      simp only [c2, cond_true] at h
      have c2 := blt_lt c2
      have hu := ty_und ok ht M.w
      simp only at hu
      obtain ⟨a, rfl, hr⟩ := plus_sound h hx
      refine ⟨_, ?_, hr⟩
      simp only [Instr.indexAt, Sem.run_bind, hk, Result.andThen_ok, hu, Sem.run_pure, Instr.sureAddr]
      rw [if_pos ⟨by omega, by omega⟩]
      simp only [Sem.run_bind, ty_size ok hte, Result.andThen_ok, Sem.run_pure, Int.toNat_natCast]
    · cases h

theorem afield_sound {C : Cx} (ok : TyOk C) {t : TypeId} {x r : AV} {i : Nat} {y : Value} (h : afield C t x i = some r) (hx : Rep M x y) :
    ∃ z, (Instr.field t y i).run C.P M.w = .ok z M.w ∧ Rep M r z := by
  unfold afield at h
  split at h
  · rename_i cs fields _ _ _ _ ht
    cases hf : fields[i]? with
    | none => simp [hf] at h
    | some f =>
    simp only [hf] at h
    unfold Rep at hx
    obtain ⟨l, rfl, hl⟩ := hx
    obtain ⟨z, hz, hr⟩ := partA_sound ok h hl
    refine ⟨z, ?_, hr⟩
    have hu := ty_und ok ht M.w
    simp only at hu
    simp only [Instr.field, Sem.run_bind, hu, Result.andThen_ok, hf, asAgg, Sem.run_pure, hz]
  · cases h

theorem aindex_sound {C : Cx} (ok : TyOk C) {t : TypeId} {x r i : AV} {y vi : Value} (h : aindex C t x i = some r) (hx : Rep M x y) (hi : Rep M i vi) :
    ∃ z, (Instr.index t y vi).run C.P M.w = .ok z M.w ∧ Rep M r z := by
  unfold aindex at h
  split at h
  · rename_i cs
    split at h
    · rename_i len elem _ _ _ _ n ht hn
      cases hte : C.ty elem with
      | none => simp [hte] at h
      | some te =>
      simp only [hte] at h
      cases c2 : Nat.blt n len with
      | false => simp [c2] at h
      | true =>
      simp only [c2, cond_true] at h
      have c2 := blt_lt c2
      obtain ⟨k, hk⟩ := asIntOf_nat (P := C.P) hn hi M.w
      unfold Rep at hx
      obtain ⟨l, rfl, hl⟩ := hx
      obtain ⟨z, hz, hr⟩ := partA_sound ok h hl
      refine ⟨z, ?_, hr⟩
      have hu := ty_und ok ht M.w
      simp only at hu
      simp only [Instr.index, Sem.run_bind, hk, Result.andThen_ok, hu]
      rw [if_pos ⟨by omega, by omega⟩]
      simp only [Sem.run_bind, ty_size ok hte, Result.andThen_ok, Int.toNat_natCast, hz]
    · cases h
  · split at h
    · rename_i a b ha hb
      have q1 := toV_rep ha hx
      have q2 := toV_rep hb hi
      subst q1; subst q2
      exact pureOp_sound h M.w
    · cases h
end
end Go.Vm
