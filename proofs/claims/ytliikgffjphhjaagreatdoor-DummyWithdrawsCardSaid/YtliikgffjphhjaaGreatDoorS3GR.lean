/- Withdraws: names of calibrations and tests; the calibration that counts, without one of them. -/
import Derived.Test.YtliikgffjphhjaaGreatDoorS3GQ
import Derived.Test.YtliikgffjphhjaaGreatDoorS3GO
namespace Go.Vm.S3
open Go.Proofs Go.RowKit
set_option maxRecDepth 20000
theorem seq_eq {a b : ByteArray} (h : seq a b = true) : a = b := bseq_eq (by unfold seq at h; unfold bseq; simpa using h)
theorem findIx_fst {s : ByteArray} : ∀ (l : List ByteArray) (i k : Nat), l[k]? = some s → (∀ j : Nat, j < k → l[j]? ≠ some s) → findIx s l i = some (i + k)
 | [], i, k, h, _ => by simp at h
 | a :: l, i, 0, h, _ => by
  simp only [List.getElem?_cons_zero, Option.some.injEq] at h
  subst h
  rw [findIx, bseq_self]; rfl
 | a :: l, i, k + 1, h, hn => by
  rw [findIx]
  cases hb : bseq s a with
  | true => exact absurd (by rw [bseq_eq hb]; rfl) (hn 0 (Nat.succ_pos _))
  | false =>
   rw [cond_false, findIx_fst l (i + 1) k (by simpa using h) (fun j hj => by have := hn (j + 1) (Nat.succ_lt_succ hj); simpa using this)]
   congr 1; omega
theorem findIx_hit {s : ByteArray} {l : List ByteArray} {k : Nat} (h : findIx s l 0 = some k) : l[k]? = some s := by
 have := findIx_name h
 rwa [Nat.sub_zero] at this
theorem findIx_miss {s : ByteArray} {l : List ByteArray} {i : Nat} (h : findIx s l i = none) : ∀ j : Nat, l[j]? ≠ some s := fun j hj => by
 exact findIx_no h s (List.mem_of_getElem? hj) rfl
theorem oI_lt {o : Option Nat} (h : decide (oI o ≥ 0) = false) : o = none := by
 cases o with
 | none => rfl
 | some k => exact absurd (of_decide_eq_false h) (by unfold oI; simp)
theorem cb_name {x : Lb} (hz : labM x = 0) {k : Nat} {c : Cb} (h : x.2.2.1[k]? = some c) : nameErr c.1 = 0 ∧ findIx c.1 (nmc x.2.2.1) 0 = some k := by
 have G := labM_zero hz
 obtain ⟨e1, _, _⟩ := calM_zero (G.cs _ _ h)
 obtain ⟨h1, h2, _, _, _⟩ := calE_zero e1
 refine ⟨h1, ?_⟩
 have hno := findIx_miss (oI_lt (show decide (oI (findIx c.1 (nmc (x.2.2.1.take k)) 0) ≥ 0) = false from h2))
 rw [findIx_fst (nmc x.2.2.1) 0 k (by rw [List.getElem?_map, h]; rfl), Nat.zero_add]
 intro j hj hc
 refine hno j ?_
 rw [List.getElem?_map] at hc ⊢
 rw [List.getElem?_take, if_pos hj]; exact hc
theorem ts_name {x : Lb} (hz : labM x = 0) {k : Nat} {t : Ts} (h : x.2.2.2.1[k]? = some t) : findIx t.1 (nmt x.2.2.2.1) 0 = some k := by
 have G := labM_zero hz
 have e := G.ts _ _ h
 unfold testM at e
 rw [firstM_app] at e
 cases he : firstM (tE (x.2.2.2.1.take k) t) != 0 with
 | true => rw [he, cond_true] at e; rw [e] at he; cases he
 | false =>
  obtain ⟨_, h2, _, _, _⟩ := tE_zero (show firstM (tE (x.2.2.2.1.take k) t) = 0 by simpa using he)
  have hno := findIx_miss (oI_lt (show decide (oI (findIx t.1 (nmt (x.2.2.2.1.take k)) 0) ≥ 0) = false from h2))
  rw [findIx_fst (nmt x.2.2.2.1) 0 k (by rw [List.getElem?_map, h]; rfl), Nat.zero_add]
  intro j hj hc
  refine hno j ?_
  rw [List.getElem?_map] at hc ⊢
  rw [List.getElem?_take, if_pos hj]; exact hc
theorem cb_ne {x : Lb} (hz : labM x = 0) {j k : Nat} {c d : Cb} (hj : x.2.2.1[j]? = some c) (hk : x.2.2.1[k]? = some d) (h : c.1 = d.1) : j = k := by
 have h1 := (cb_name hz hj).2
 have h2 := (cb_name hz hk).2
 rw [h, h2, Option.some.injEq] at h1; exact h1.symm
theorem ts_ne {x : Lb} (hz : labM x = 0) {j k : Nat} {c d : Ts} (hj : x.2.2.2.1[j]? = some c) (hk : x.2.2.2.1[k]? = some d) (h : c.1 = d.1) : j = k := by
 have h1 := ts_name hz hj
 have h2 := ts_name hz hk
 rw [h, h2, Option.some.injEq] at h1; exact h1.symm
theorem nameE_ne {s : ByteArray} (h : nameErr s = 0) : s ≠ ⟨#[]⟩ := fun e => by
 subst e; revert h; decide +kernel
def cntO (x : Lb) (s : ByteArray) (day : Int) : Option Cb := (x.2.2.1.filter (calS (specM x.2.1 s day) s day)).getLast?
theorem calI_last (w s : ByteArray) (day : Int) : ∀ (n : Nat) (l : List Cb), l.length = n → (calI w s day l = -1 ∧ (l.filter (calS w s day)).getLast? = none) ∨ ∃ k c, l[k]? = some c ∧ calI w s day l = Int.ofNat k ∧ (l.filter (calS w s day)).getLast? = some c
 | 0, l, h => by
  have : l = [] := List.eq_nil_of_length_eq_zero h
  subst this
  exact .inl ⟨rfl, rfl⟩
 | n + 1, l, h => by
  obtain ⟨l', c, rfl⟩ : ∃ l' c, l = l' ++ [c] := ⟨l.dropLast, l.getLast (by intro e; rw [e] at h; cases h), (List.dropLast_concat_getLast _).symm⟩
  have hn : l'.length = n := by rw [List.length_append, List.length_singleton] at h; omega
  have hc : calI w s day (l' ++ [c]) = bif calS w s day c then Int.ofNat (0 + l'.length) else calI w s day l' := goL_snoc (fun i (c : Cb) (o : Int) => bif calS w s day c then Int.ofNat i else o) c l' 0 (-1)
  rw [hc, List.filter_append]
  cases hq : calS w s day c with
  | true =>
   refine .inr ⟨l'.length, c, by simp, by rw [cond_true, Nat.zero_add], ?_⟩
   simp [hq]
  | false =>
   have : [c].filter (calS w s day) = [] := by simp [hq]
   rw [this, List.append_nil, cond_false]
   rcases calI_last w s day n l' hn with h1 | ⟨k, c', h1, h2, h3⟩
   ·exact .inl h1
   ·exact .inr ⟨k, c', by rw [List.getElem?_append_left (lt_len h1)]; exact h1, h2, h3⟩
theorem cnt_O (x : Lb) (s : ByteArray) (day : Int) : (cntM x s day = -1 ∧ cntO x s day = none) ∨ ∃ k, k < x.2.2.1.length ∧ cntM x s day = Int.ofNat k ∧ cntO x s day = some (cbAt x k) := by
 rcases calI_last (specM x.2.1 s day) s day _ x.2.2.1 rfl with h | ⟨k, c, h1, h2, h3⟩
 ·exact .inl h
 ·have hk := lt_len h1
  have := cbAt_get hk
  rw [h1, Option.some.injEq] at this
  exact .inr ⟨k, hk, h2, by rw [← this]; exact h3⟩
theorem rst_O (x : Lb) (day : Int) (p : ByteArray) : rstM1 x day p = match cntO x p day with | none => ⟨#[]⟩ | some c => c.1 := by
 unfold rstM1
 rcases cnt_O x p day with ⟨h1, h2⟩ | ⟨k, _, h1, h2⟩
 ·rw [h1, h2]; rfl
 ·rw [h1, h2, show decide (Int.ofNat k < 0) = false from decide_eq_false (by simp)]; rfl
theorem st_O (x : Lb) (p : ByteArray) (day : Int) (l : List Ts) : stM x p day l = bif nilB (specM x.2.1 p day) then sMissing else match cntO x p day with | none => sUncal | some c => wrongM x (specM x.2.1 p day) day c l := by
 unfold stM
 rcases cnt_O x p day with ⟨h1, h2⟩ | ⟨k, _, h1, h2⟩
 ·rw [h1, h2]; rfl
 ·rw [h1, h2, show decide (Int.ofNat k < 0) = false from decide_eq_false (by simp)]; rfl
theorem cntO_mem {x : Lb} {p : ByteArray} {day : Int} {c : Cb} (h : cntO x p day = some c) : c ∈ x.2.2.1 ∧ calS (specM x.2.1 p day) p day c = true := by
 have := List.mem_of_getLast? h
 exact List.mem_filter.1 this
theorem wo_O {x : Lb} {k : Nat} {ck : Cb} (hk : x.2.2.1[k]? = some ck) (p : ByteArray) (day : Int) : cntO (woM x k) p day = cntO x p day ∨ cntO x p day = some ck := by
 have hl : x.2.2.1 = x.2.2.1.take k ++ ck :: x.2.2.1.drop (k + 1) := by
  have hlt := lt_len hk
  have he : x.2.2.1[k] = ck := by rw [List.getElem?_eq_getElem hlt, Option.some.injEq] at hk; exact hk
  rw [← he, ← List.drop_eq_getElem_cons hlt]
  exact (List.take_append_drop k _).symm
 have e1 : cntO x p day = ((x.2.2.1.take k).filter (calS (specM x.2.1 p day) p day) ++ (ck :: x.2.2.1.drop (k + 1)).filter (calS (specM x.2.1 p day) p day)).getLast? := by
  unfold cntO; rw [← List.filter_append, ← hl]
 have e2 : cntO (woM x k) p day = ((x.2.2.1.take k).filter (calS (specM x.2.1 p day) p day) ++ (x.2.2.1.drop (k + 1)).filter (calS (specM x.2.1 p day) p day)).getLast? := by
  unfold cntO woM; rw [← List.filter_append]
 rw [e1, e2, List.filter_cons]
 generalize (x.2.2.1.take k).filter (calS (specM x.2.1 p day) p day) = A
 generalize (x.2.2.1.drop (k + 1)).filter (calS (specM x.2.1 p day) p day) = B
 cases calS (specM x.2.1 p day) p day ck with
 | false => exact .inl rfl
 | true =>
  cases B with
  | nil => right; simp
  | cons b B =>
   left
   simp only [if_true]
   rw [List.getLast?_append, List.getLast?_append, List.getLast?_cons_cons]
end Go.Vm.S3

namespace Go.Vm.S3
open Go.Proofs Go.RowKit
set_option maxRecDepth 20000
theorem srchE_of {α : Type} {F : Nat → α → Int} {l : List α} (h : ∀ i x, l[i]? = some x → F i x = 0) : srchE F l = 0 := by
 unfold srchE
 cases hq : srch (fun i x => bif F i x != 0 then some (F i x) else none) 0 l with
 | none => rfl
 | some t =>
  exfalso
  have key : ∀ (m : List α) (i : Nat), (∀ j x, m[j]? = some x → F (i + j) x = 0) → srch (fun i x => bif F i x != 0 then some (F i x) else none) i m = none := by
   intro m
   induction m with
   | nil => intro i _; rfl
   | cons a m ih =>
    intro i hm
    unfold srch
    have h0 := hm 0 a rfl
    rw [Nat.add_zero] at h0
    rw [h0]
    exact ih (i + 1) fun j x hx => by have := hm (j + 1) x (by simpa using hx); rwa [show i + (j + 1) = i + 1 + j by omega] at this
  rw [key l 0 fun j x hx => by rw [Nat.zero_add]; exact h j x hx] at hq
  cases hq
theorem whenM_z {b : Bool} {e : Int} (he : e ≠ 0) : whenM b e = 0 ↔ b = false := by
 unfold whenM
 cases b with
 | true => simp [he]
 | false => simp
theorem firstM_app0 (a b : List Int) : firstM (a ++ b) = 0 ↔ firstM a = 0 ∧ firstM b = 0 := by
 rw [firstM_app]
 cases he : firstM a != 0 with
 | true =>
  have : firstM a ≠ 0 := by simpa using he
  rw [cond_true]
  exact ⟨fun h => absurd h this, fun h => h.1⟩
 | false =>
  have : firstM a = 0 := by simpa using he
  rw [cond_false]
  exact ⟨fun h => ⟨this, h⟩, fun h => h.2⟩
theorem calM_iff (x : Lb) (i : Nat) (c : Cb) : calM x i c = 0 ↔ firstM (calE x i c) = 0 ∧ shapeM x c = 0 ∧ firstM (c.2.2.2.2.map valM) = 0 ∧ ¬ c.2.2.2.1 < prevD dayC x.2.2.1 i := by
 unfold calM
 rw [firstM_app0, firstM_c0, firstM_c0, firstM_c0, whenM_z (by decide), decide_eq_false_iff_not]
 exact ⟨fun h => ⟨h.1, h.2.1, h.2.2.1, h.2.2.2.1⟩, fun h => ⟨h.1, h.2.1, h.2.2.1, h.2.2.2, rfl⟩⟩
theorem calE_iff (x : Lb) (i : Nat) (c : Cb) : firstM (calE x i c) = 0 ↔ nameErr c.1 = 0 ∧ hasC (x.2.2.1.take i) c.1 = false ∧ hasP x.1 c.2.1 = true ∧ nameErr c.2.2.1 = 0 ∧ dayM c.2.2.2.1 = 0 := by
 unfold calE
 rw [firstM_c0, firstM_c0, firstM_c0, firstM_c0, firstM_c0, whenM_z (by decide), whenM_z (by decide)]
 constructor
 ·intro h; exact ⟨h.1, h.2.1, by simpa using h.2.2.1, h.2.2.2.1, h.2.2.2.2.1⟩
 ·intro h; exact ⟨h.1, h.2.1, by simpa using h.2.2.1, h.2.2.2.1, h.2.2.2.2, rfl⟩
theorem hasC_no {l : List Cb} {s : ByteArray} : hasC l s = false ↔ ∀ c ∈ l, c.1 ≠ s := by
 constructor
 ·intro h c hc e
  have hno := findIx_miss (oI_lt (show decide (oI (findIx s (nmc l) 0) ≥ 0) = false from h))
  obtain ⟨j, hj, rfl⟩ := List.mem_iff_getElem.1 hc
  exact hno j (by rw [List.getElem?_map, List.getElem?_eq_getElem hj, ← e]; rfl)
 ·intro h
  cases hq : findIx s (nmc l) 0 with
  | none => unfold hasC findC; rw [hq]; rfl
  | some k =>
   have := findIx_hit hq
   rw [List.getElem?_map] at this
   cases hk : l[k]? with
   | none => rw [hk] at this; cases this
   | some c => rw [hk] at this; simp only [Option.map_some, Option.some.injEq] at this; exact absurd this (h c (List.mem_of_getElem? hk))
theorem cals_sorted {x : Lb} (hz : labM x = 0) : ∀ (n i : Nat) (a b : Cb), x.2.2.1[i]? = some a → x.2.2.1[i + n]? = some b → a.2.2.2.1 ≤ b.2.2.2.1
 | 0, i, a, b, ha, hb => by rw [Nat.add_zero, ha, Option.some.injEq] at hb; rw [hb]; exact Int.le_refl _
 | n + 1, i, a, b, ha, hb => by
  have hlt : i + n < x.2.2.1.length := by have := lt_len hb; omega
  have hm := List.getElem?_eq_getElem hlt
  have h1 := cals_sorted hz n i a _ ha hm
  have h2 := ((calM_iff x (i + n + 1) b).1 ((labM_zero hz).cs _ _ hb)).2.2.2
  rw [prevD_at (f := dayC) hm] at h2
  exact Int.le_trans h1 (Int.not_lt.1 h2)
theorem wo_at {α : Type} {l : List α} {k i : Nat} {c : α} (hk : k < l.length) (h : (l.take k ++ l.drop (k + 1))[i]? = some c) : (i < k ∧ l[i]? = some c) ∨ (k ≤ i ∧ l[i + 1]? = some c) := by
 have hlen : (l.take k).length = k := by rw [List.length_take]; omega
 by_cases hi : i < k
 ·rw [List.getElem?_append_left (by rw [hlen]; exact hi), List.getElem?_take, if_pos hi] at h
  exact .inl ⟨hi, h⟩
 ·rw [List.getElem?_append_right (by rw [hlen]; omega), hlen, List.getElem?_drop] at h
  exact .inr ⟨by omega, by rw [show i + 1 = k + 1 + (i - k) by omega]; exact h⟩
theorem lab_wo {x : Lb} (hz : labM x = 0) {k : Nat} (hk : k < x.2.2.1.length) : labM (woM x k) = 0 := by
 have G := labM_zero hz
 have hc : calsM (woM x k) = 0 := by
  unfold calsM
  have hlen : (woM x k).2.2.1.length ≤ 64 := by
   have := G.cn
   show (x.2.2.1.take k ++ x.2.2.1.drop (k + 1)).length ≤ 64
   rw [List.length_append, List.length_take, List.length_drop]; omega
  rw [show decide (Int.ofNat (woM x k).2.2.1.length > 64) = false from decide_eq_false (by simp only [Int.ofNat_eq_natCast]; omega), cond_false]
  refine srchE_of fun i c hi => ?_
  have h0 := hi
  obtain ⟨j, hj, hji⟩ : ∃ j, x.2.2.1[j]? = some c ∧ i ≤ j := by
   rcases wo_at hk hi with ⟨_, h⟩ | ⟨_, h⟩
   ·exact ⟨i, h, Nat.le_refl _⟩
   ·exact ⟨i + 1, h, Nat.le_succ _⟩
  obtain ⟨e1, e2, e3, e4⟩ := (calM_iff x j c).1 (G.cs j c hj)
  obtain ⟨f1, f2, f3, f4, f5⟩ := (calE_iff x j c).1 e1
  refine (calM_iff (woM x k) i c).2 ⟨(calE_iff (woM x k) i c).2 ⟨f1, hasC_no.2 fun d hd e => ?_, f3, f4, f5⟩, e2, e3, ?_⟩
  ·-- an earlier one of the same name
   obtain ⟨n, hn, rfl⟩ := List.mem_iff_getElem.1 hd
   obtain ⟨hni, hn'⟩ := take_at (List.getElem?_eq_getElem hn)
   have hlt : ∃ m, x.2.2.1[m]? = some ((woM x k).2.2.1.take i)[n] ∧ m < j := by
    rcases wo_at hk hn' with ⟨h1, h2⟩ | ⟨h1, h2⟩
    ·exact ⟨n, h2, Nat.lt_of_lt_of_le hni hji⟩
    ·refine ⟨n + 1, h2, ?_⟩
     rcases wo_at hk hi with ⟨h3, _⟩ | ⟨h3, h4⟩
     ·omega
     ·have := cb_ne hz hj h4 rfl
      omega
   obtain ⟨m, hm, hmj⟩ := hlt
   have := cb_ne hz hm hj e
   omega
  ·cases i with
   | zero =>
    have := dayM_zero f5
    show ¬ c.2.2.2.1 < 0
    omega
   | succ i =>
    have hlt : i < (woM x k).2.2.1.length := by have := lt_len h0; omega
    have hm := List.getElem?_eq_getElem hlt
    rw [prevD_at (f := dayC) hm]
    have hmem : ∃ m, x.2.2.1[m]? = some (woM x k).2.2.1[i] ∧ m ≤ j := by
     rcases wo_at hk hm with ⟨h1, h2⟩ | ⟨h1, h2⟩
     ·exact ⟨i, h2, by omega⟩
     ·refine ⟨i + 1, h2, hji⟩
    obtain ⟨m, hm', hmj⟩ := hmem
    have := cals_sorted hz (j - m) m _ c hm' (by rw [show m + (j - m) = j by omega]; exact hj)
    exact Int.not_lt.2 this
 unfold labM at hz ⊢
 rw [firstM_c0, firstM_c0, firstM_c0, firstM_c0, firstM_c0, firstM_c0] at hz ⊢
 exact ⟨hz.1, hz.2.1, hc, hz.2.2.2.1, hz.2.2.2.2.1, hz.2.2.2.2.2.1, hz.2.2.2.2.2.2⟩
end Go.Vm.S3

namespace Go.Vm.S3
open Go.Proofs Go.RowKit
set_option maxRecDepth 20000
theorem any_map' {α : Type} (f : α → ByteArray) (s : ByteArray) (l : List α) : hasWordM (l.map f) s = l.any fun p => seq (f p) s := by
 unfold hasWordM; rw [List.any_map]; rfl
theorem same_eq {l m : List ByteArray} (h : sameM seq l m = true) : l = m := by
 unfold sameM at h
 rw [Bool.and_eq_true] at h
 obtain ⟨h1, h2⟩ := h
 have hlen : l.length = m.length := by simpa using h1
 rw [List.all_eq_true] at h2
 refine List.ext_getElem hlen fun i hi hm => ?_
 exact seq_eq (h2 (l[i], m[i]) (by
  have : (l.zip m)[i]? = some (l[i], m[i]) := by rw [List.getElem?_zip_eq_some]; exact ⟨List.getElem?_eq_getElem hi, List.getElem?_eq_getElem hm⟩
  exact List.mem_of_getElem? this))
section
variable {x : Lb} (hz : labM x = 0) {k : Nat} {ck : Cb} (hk : x.2.2.1[k]? = some ck)
include hz hk
theorem rst_ck (day : Int) (p : ByteArray) : seq (rstM1 x day p) ck.1 = true ↔ cntO x p day = some ck := by
 rw [rst_O]
 have hn := nameE_ne (cb_name hz hk).1
 cases h : cntO x p day with
 | none => simp only; exact ⟨fun e => absurd (seq_eq e).symm hn, fun e => by cases e⟩
 | some c =>
  simp only [Option.some.injEq]
  constructor
  ·intro e
   have e := seq_eq e
   obtain ⟨j, hj, rfl⟩ := List.mem_iff_getElem.1 (cntO_mem h).1
   have hj' := List.getElem?_eq_getElem hj
   have := cb_ne hz hj' hk e
   subst this
   rw [hj', Option.some.injEq] at hk; exact hk
  ·intro e; subst e; exact seq_self _
theorem rst_wo (day : Int) (p : ByteArray) : seq (rstM1 (woM x k) day p) ck.1 = false := by
 cases hq : seq (rstM1 (woM x k) day p) ck.1 with
 | false => rfl
 | true =>
  exfalso
  have e := seq_eq hq
  rw [rst_O] at e
  cases h : cntO (woM x k) p day with
  | none => rw [h] at e; exact nameE_ne (cb_name hz hk).1 e.symm
  | some c =>
   rw [h] at e
   obtain ⟨j, hj, rfl⟩ := List.mem_iff_getElem.1 (cntO_mem h).1
   have hj' := List.getElem?_eq_getElem hj
   rcases wo_at (lt_len hk) hj' with ⟨h1, h2⟩ | ⟨h1, h2⟩
   ·have := cb_ne hz h2 hk e; omega
   ·have := cb_ne hz h2 hk e; omega
theorem rst_keep {day : Int} {p : ByteArray} (h : seq (rstM1 x day p) ck.1 = false) : cntO (woM x k) p day = cntO x p day := by
 rcases wo_O hk p day with h1 | h1
 ·exact h1
 ·rw [(rst_ck hz hk day p).2 h1] at h; cases h
theorem rst_keep1 {day : Int} {p : ByteArray} (h : seq (rstM1 x day p) ck.1 = false) : rstM1 (woM x k) day p = rstM1 x day p := by
 rw [rst_O, rst_O, rst_keep hz hk h]
theorem st_keep {day : Int} {p : ByteArray} (l : List Ts) (h : seq (rstM1 x day p) ck.1 = false) : stM (woM x k) p day l = stM x p day l := by
 rw [st_O, st_O, rst_keep hz hk h]; rfl
theorem rst_after (i : Nat) : hasWordM (rstM (woM x k) i) ck.1 = false := by
 unfold rstM
 rw [any_map', List.any_eq_false]
 intro p _
 rw [rst_wo hz hk]; decide
theorem rst_same {i : Nat} (h : hasWordM (rstM x i) ck.1 = false) : rstM (woM x k) i = rstM x i ∧ wrgM (woM x k) i = wrgM x i := by
 unfold rstM at h
 rw [any_map', List.any_eq_false] at h
 constructor
 ·unfold rstM
  refine List.map_congr_left fun p hp => rst_keep1 hz hk ?_
  have := h p hp
  exact (Bool.not_eq_true _).mp this
 ·unfold wrgM
  refine List.map_congr_left fun p hp => st_keep hz hk _ ?_
  have := h p hp
  exact (Bool.not_eq_true _).mp this
theorem rst_differ {i : Nat} (h : hasWordM (rstM x i) ck.1 = true) : sameM seq (rstM x i) (rstM (woM x k) i) = false := by
 cases hq : sameM seq (rstM x i) (rstM (woM x k) i) with
 | false => rfl
 | true =>
  rw [same_eq hq, rst_after hz hk] at h; cases h
theorem rst_cmp (i : Nat) : sameM seq (rstM x i) (rstM (woM x k) i) = !hasWordM (rstM x i) ck.1 := by
 cases h : hasWordM (rstM x i) ck.1 with
 | true => rw [rst_differ hz hk h]; rfl
 | false => rw [(rst_same hz hk h).1, same_refl]; rfl
end
theorem gath_mem {α β : Type} (g : Nat → α → List β) (y : β) : ∀ (l : List α) (i0 : Nat), y ∈ gath g i0 l ↔ ∃ j a, l[j]? = some a ∧ y ∈ g (i0 + j) a
 | [], i0 => by simp [gath]
 | a :: l, i0 => by
  unfold gath
  rw [List.mem_append, gath_mem g y l (i0 + 1)]
  constructor
  ·rintro (h | ⟨j, b, h1, h2⟩)
   ·exact ⟨0, a, rfl, h⟩
   ·exact ⟨j + 1, b, by simpa using h1, by rwa [show i0 + (j + 1) = i0 + 1 + j by omega]⟩
  ·rintro ⟨j, b, h1, h2⟩
   cases j with
   | zero =>
    simp only [List.getElem?_cons_zero, Option.some.injEq] at h1
    subst h1; exact .inl h2
   | succ j => exact .inr ⟨j, b, by simpa using h1, by rwa [show i0 + (j + 1) = i0 + 1 + j by omega] at h2⟩
theorem has_iff {l : List ByteArray} {s : ByteArray} : hasWordM l s = true ↔ s ∈ l := by
 unfold hasWordM
 rw [List.any_eq_true]
 exact ⟨fun ⟨a, h1, h2⟩ => by rw [← seq_eq h2]; exact h1, fun h => ⟨s, h, seq_self s⟩⟩
theorem ch_has {x : Lb} (hz : labM x = 0) (g : Nat → Bool) {i : Nat} {t : Ts} (h : x.2.2.2.1[i]? = some t) : hasWordM (chM x g) t.1 = g i := by
 have key : hasWordM (chM x g) t.1 = true ↔ g i = true := by
  rw [has_iff]
  unfold chM
  rw [gath_mem]
  constructor
  ·rintro ⟨j, a, h1, h2⟩
   rw [Nat.zero_add] at h2
   unfold chG at h2
   cases hg : g j with
   | false => rw [hg] at h2; simp at h2
   | true =>
    rw [hg] at h2
    simp only [cond_true, List.mem_singleton] at h2
    have := ts_ne hz h h1 h2
    rw [this]; exact hg
  ·intro hg
   exact ⟨i, t, h, by rw [Nat.zero_add]; unfold chG; rw [hg]; simp⟩
 cases h1 : hasWordM (chM x g) t.1 with
 | true => exact (key.1 h1).symm
 | false =>
  cases h2 : g i with
  | false => rfl
  | true => rw [key.2 h2] at h1; cases h1
theorem part_of {x : Lb} (hz : labM x = 0) (day : Int) (p : ByteArray) (l : List Ts) :
  (rstM1 x day p = ⟨#[]⟩ ∧ (stM x p day l = sMissing ∨ stM x p day l = sUncal)) ∨
  ∃ m, m < x.2.2.1.length ∧ findC x.2.2.1 (rstM1 x day p) = Int.ofNat m ∧ (cbAt x m).1 = rstM1 x day p ∧ nilB (rstM1 x day p) = false ∧ seq (cbAt x m).2.1 p = true ∧ seq (cbAt x m).2.2.1 (specM x.2.1 p day) = true ∧ (cbAt x m).2.2.2.1 ≤ day ∧ nilB (specM x.2.1 p day) = false ∧
   stM x p day l = wrongM x (specM x.2.1 p day) day (cbAt x m) l := by
 rw [rst_O, st_O]
 cases h : cntO x p day with
 | none =>
  refine .inl ⟨rfl, ?_⟩
  cases nilB (specM x.2.1 p day) with
  | true => exact .inl rfl
  | false => exact .inr rfl
 | some c =>
  obtain ⟨hc, hs⟩ := cntO_mem h
  obtain ⟨m, hm, rfl⟩ := List.mem_iff_getElem.1 hc
  have hm' := List.getElem?_eq_getElem hm
  have e : cbAt x m = x.2.2.1[m] := by
   have := cbAt_get hm
   rw [hm', Option.some.injEq] at this; exact this.symm
  obtain ⟨h1, h2⟩ := cb_name hz hm'
  have hne := nameE_ne h1
  unfold calS at hs
  cases q1 : nilB (specM x.2.1 p day) with
  | true => rw [q1] at hs; cases hs
  | false =>
   rw [q1, cond_false] at hs
   cases q2 : seq x.2.2.1[m].2.1 p with
   | false => rw [q2] at hs; cases hs
   | true =>
    rw [q2, cond_true] at hs
    cases q3 : seq x.2.2.1[m].2.2.1 (specM x.2.1 p day) with
    | false => rw [q3] at hs; cases hs
    | true =>
     rw [q3, cond_true] at hs
     refine .inr ⟨m, hm, by unfold findC; rw [h2]; rfl, by rw [e], ?_, by rw [e]; exact q2, by rw [e]; exact q3, by rw [e]; exact of_decide_eq_true hs, rfl, by rw [cond_false, e]⟩
     cases q4 : nilB x.2.2.1[m].1 with
     | false => rfl
     | true => exact absurd (nil_eq q4) hne
end Go.Vm.S3

namespace Go.Vm.S3
open Go.Proofs Go.RowKit
set_option maxRecDepth 100000
variable (ps fs cs ts : List AV) (d u : Int)
set_option maxRecDepth 20000
theorem t76a : L D4 76 [lbE ps fs cs ts d u] [.as 7 false] [.b (decide (Int.ofNat ps.length ≤ 6))] (bA false) := kR (by kernel_rfl)
theorem t76b : L D4 76 [lbE ps fs cs ts d u] [.as 7 true, .as 13 false] [.b (decide (Int.ofNat ps.length ≤ 6)), .b (decide (Int.ofNat fs.length ≤ 8))] (bA false) := kR (by kernel_rfl)
abbrev cW3_18 (ps fs cs ts : List AV) (d u : Int) (h9 : List Hn) (a9 : List An) (r9 : AV) : Prop := L D4 76 [lbE ps fs cs ts d u] ([.as 7 true, .as 13 true] ++ h9) ([.b (decide (Int.ofNat ps.length ≤ 6)), .b (decide (Int.ofNat fs.length ≤ 8))] ++ a9) r9
theorem t76c : cW3_18 ps fs cs ts d u [.as 19 false] [.b (decide (Int.ofNat cs.length ≤ 8))] (bA false) := kR (by kernel_rfl)
theorem t76d : cW3_18 ps fs cs ts d u [.as 19 true, .as 25 false] [.b (decide (Int.ofNat cs.length ≤ 8)), .b (decide (Int.ofNat ts.length ≤ 8))] (bA false) := kR (by kernel_rfl)
theorem t76e : cW3_18 ps fs cs ts d u [.as 19 true, .as 25 true, .sp [lbE ps fs cs ts d u] (bA false)] [.b (decide (Int.ofNat cs.length ≤ 8)), .b (decide (Int.ofNat ts.length ≤ 8)), .f 37] (bA false) := kR (by kernel_rfl)
theorem t76f (e : Int) : cW3_18 ps fs cs ts d u [.as 19 true, .as 25 true, .sp [lbE ps fs cs ts d u] (bA true), .sp [lbE ps fs cs ts d u] (iA e)] [.b (decide (Int.ofNat cs.length ≤ 8)), .b (decide (Int.ofNat ts.length ≤ 8)), .f 37, .f 42] (bA (e == 0)) := kR (by kernel_rfl)
def smallM (x : Lb) : Bool := decide (Int.ofNat x.1.length ≤ 6) && (decide (Int.ofNat x.2.1.length ≤ 8) && (decide (Int.ofNat x.2.2.1.length ≤ 8) && (decide (Int.ofNat x.2.2.2.1.length ≤ 8) && (shortL x && labM x == 0))))
def small76G : List AV → Option AV := sp1 labC fun x => some (bA (smallM x))
theorem h76 : Holds 76 small76G := holds1 fun x r hr => by
 simp only [Option.some.injEq] at hr; subst hr
 have e1 : Int.ofNat (x.1.map ptC.enc).length = Int.ofNat x.1.length := e_pt _
 have e2 := e_ft x.2.1
 have e3 := e_cb x.2.2.1
 have e4 := e_ts x.2.2.2.1
 have f37 : shortLG [lbA x] = some (bA (shortL x)) := sp1_at (A := labC) (F := fun x => some (bA (shortL x))) x
 unfold smallM
 cases h1 : decide (Int.ofNat x.1.length ≤ 6) with
 | false => exact D4_ok.tr ((lx x t76a)) ⟨by rw [e1]; exact h1, rfl⟩
 | true =>
  cases h2 : decide (Int.ofNat x.2.1.length ≤ 8) with
  | false => exact D4_ok.tr ((lx x t76b)) ⟨by rw [e1]; exact h1, by rw [e2]; exact h2, rfl⟩
  | true =>
   cases h3 : decide (Int.ofNat x.2.2.1.length ≤ 8) with
   | false => exact D4_ok.tr ((lx x t76c)) ⟨by rw [e1]; exact h1, by rw [e2]; exact h2, by rw [e3]; exact h3, rfl⟩
   | true =>
    cases h4 : decide (Int.ofNat x.2.2.2.1.length ≤ 8) with
    | false => exact D4_ok.tr ((lx x t76d)) ⟨by rw [e1]; exact h1, by rw [e2]; exact h2, by rw [e3]; exact h3, by rw [e4]; exact h4, rfl⟩
    | true =>
     cases h5 : shortL x with
     | false =>
      rw [h5] at f37
      exact D4_ok.tr ((lx x t76e)) ⟨by rw [e1]; exact h1, by rw [e2]; exact h2, by rw [e3]; exact h3, by rw [e4]; exact h4, ⟨rfl, f37⟩, rfl⟩
     | true =>
      rw [h5] at f37
      have f42 := spLab (okLb_short h5)
      exact D4_ok.tr ((lx x t76f) (labM x)) ⟨by rw [e1]; exact h1, by rw [e2]; exact h2, by rw [e3]; exact h3, by rw [e4]; exact h4, ⟨rfl, f37⟩, ⟨rfl, f42⟩, rfl⟩
noncomputable def W3 : Specs := (D4.set 76 small76G)
theorem W3_ok : Ok W3 := (D4_ok.set h76)
end Go.Vm.S3
