/- A small evaluator over abstract values: all orders of a region; the evaluator's word on a call. -/
import Derived.Test.YtliikgffjphhjaaGreatDoorVmDraw4
namespace Go.Vm
open Go.RowKit (Below)

section
variable {cok : FuncId → Code → Prop} {clK : CallK} {C : Cx} {fb nt : Nat} {ops : Array Oper} {T0 : Tr AV} {H0 : Tr Ent} {is : List DI} {nv : Nat} {x : Nat → Eff}
variable {base : Nat} {im0 : Nat → Prop} {lo : Nat} {M0 : Mem}

def setOf (listed : Array Bool) : Nat → Bool := fun i => listed.getD i true

theorem ready_mem {listed : Array Bool} {i : Nat} : i ∈ Region.ready .any ops listed ↔ i < ops.size ∧ setOf listed i = false ∧ ∀ e ∈ (opAt ops i).after, Region.binds .any e = true → listed.getD e.on false = true := by
  unfold Region.ready
  rw [List.mem_filter, List.mem_range]
  constructor
  · rintro ⟨hi, hx⟩
    rw [opAt_some hi] at hx
    simp only [Bool.and_eq_true, Bool.not_eq_true', Option.map_some, Option.getD_some] at hx
    refine ⟨hi, hx.1, fun e he hb => ?_⟩
    have := (Array.all_eq_true'.1 hx.2) e he
    rw [hb] at this
    simpa using this
  · rintro ⟨hi, h1, h2⟩
    refine ⟨hi, ?_⟩
    rw [opAt_some hi]
    simp only [Bool.and_eq_true, Bool.not_eq_true', Option.map_some, Option.getD_some]
    refine ⟨h1, Array.all_eq_true'.2 fun e he => ?_⟩
    cases hb : Region.binds .any e with
    | false => rfl
    | true => simpa using h2 e he hb

theorem getD_lt {listed : Array Bool} {i : Nat} (hi : i < listed.size) (a b : Bool) : listed.getD i a = listed.getD i b := by simp [Array.getD, hi]

theorem setOf_set {listed : Array Bool} {i : Nat} (hi : i < listed.size) : setOf (listed.setIfInBounds i true) = add (setOf listed) i := by
  funext p
  unfold setOf add
  by_cases hp : p = i
  · subst hp; simp
  · rw [if_neg hp]
    simp only [Array.getD_eq_getD_getElem?]
    rw [Array.getElem?_setIfInBounds_ne (Ne.symm hp)]

def left (n : Nat) (S : Nat → Bool) : Nat := ((List.range n).filter fun i => !S i).length

theorem left_add {n i : Nat} {S : Nat → Bool} (hi : i < n) (hs : S i = false) : left n (add S i) < left n S := by
  unfold left
  have key : ∀ m, ((List.range m).filter fun j => !(add S i) j).length + (if i < m then 1 else 0) = ((List.range m).filter fun j => !S j).length := by
    intro m
    induction m with
    | zero => simp
    | succ m ih =>
      rw [List.range_succ, List.filter_append, List.filter_append, List.length_append, List.length_append]
      by_cases hm : m = i
      · subst hm
        have h1 : add S m m = true := if_pos rfl
        simp only [List.filter_cons, List.filter_nil, h1, hs, Bool.not_true, Bool.not_false]
        simp only [Nat.lt_irrefl, if_false, Nat.lt_succ_self, if_true] at ih ⊢
        simp at ih ⊢; omega
      · have h1 : add S i m = S m := if_neg hm
        simp only [List.filter_cons, List.filter_nil, h1]
        have h2 : (i < m + 1) ↔ (i < m) := by omega
        simp only [h2]; omega
  have := key n
  rw [if_pos hi] at this
  omega

theorem all_of_ready (hc : Chk ops is) {listed : Array Bool} (hl : listed.size = ops.size) (h : Region.ready .any ops listed = []) : ∀ i, i < ops.size → setOf listed i = true := by
  intro i
  induction i using Nat.strongRecOn with
  | _ i ih =>
    intro hi
    cases hs : setOf listed i with
    | true => rfl
    | false =>
      have : i ∈ Region.ready .any ops listed := ready_mem.2 ⟨hi, hs, fun e he hb => by
        have hlt := hc.edge i hi e he hb
        have := ih e.on hlt (by omega)
        unfold setOf at this
        rw [getD_lt (by omega) false true]; exact this⟩
      rw [h] at this; cases this

theorem left_zero {n : Nat} {S : Nat → Bool} (h : left n S = 0) : ∀ i, i < n → S i = true := by
  intro i hi
  unfold left at h
  rw [List.length_eq_zero_iff, List.filter_eq_nil_iff] at h
  have := h i (List.mem_range.2 hi)
  simpa using this

theorem ET_all {S : Nat → Bool} {T : Tr AV} : ∀ {n : Nat}, (∀ i, i < n → S i = true) → ET S x T n = ET (fun _ => true) x T n
  | 0, _ => rfl
  | n + 1, h => by simp only [ET, if_true, h n (Nat.lt_succ_self n)]; rw [ET_all (fun i hi => h i (Nat.lt_succ_of_lt hi))]
theorem EH_all {S : Nat → Bool} {H : Tr Ent} : ∀ {n : Nat}, (∀ i, i < n → S i = true) → EH S x H n = EH (fun _ => true) x H n
  | 0, _ => rfl
  | n + 1, h => by simp only [EH, if_true, h n (Nat.lt_succ_self n)]; rw [EH_all (fun i hi => h i (Nat.lt_succ_of_lt hi))]

/-- All orders. -/
theorem sched (ok : TyOk C) (hclK : CallKOk C cok clK) (hcok : M0.cok = cok) (hg0 : GlobOk C M0) (h : Rg clK C fb nt ops T0 H0 is nv x) {ro : Option Nat} {Q : Exit → Act → World → Prop}
    (hQ : ∀ a w, Mid base im0 nt lo M0 ops T0 H0 nv x (fun _ => true) a w → Q .normal a w) :
    ∀ (fuel : Nat) (listed : Array Bool) (a : Act) (w : World), listed.size = ops.size → left ops.size (setOf listed) ≤ fuel → Down ops is (setOf listed) → Mid base im0 nt lo M0 ops T0 H0 nv x (setOf listed) a w →
      wpAnyIn (Fo ro) 0 C.P .any ops Q fuel listed a w := by
  have done : ∀ (S : Nat → Bool) a w, (∀ i, i < ops.size → S i = true) → Mid base im0 nt lo M0 ops T0 H0 nv x S a w → Q .normal a w := by
    intro S a w hall ⟨M, hw, h1, h2, hT, hs, hm, _⟩
    refine hQ a w ⟨M, hw, h1, h2, ?_, ?_, hm, fun i hi hx => by cases hx⟩
    · rw [ET_all hall] at hT; exact hT
    · rw [EH_all hall] at hs; exact hs
  intro fuel
  induction fuel with
  | zero =>
    intro listed a w hl hf hd hm
    have hall := left_zero (Nat.le_zero.1 hf)
    refine ⟨?_, done _ a w hall hm⟩
    rw [List.eq_nil_iff_forall_not_mem]
    intro i hi
    obtain ⟨h1, h2, _⟩ := ready_mem.1 hi
    rw [hall i h1] at h2; cases h2
  | succ fuel ih =>
    intro listed a w hl hf hd hm
    refine ⟨fun hr => done _ a w (all_of_ready h.chk hl hr) hm, fun i hi => ?_⟩
    obtain ⟨h1, h2, h3⟩ := ready_mem.1 hi
    have hanc : ∀ j ∈ (diAt is i).anc, setOf listed j = true := by
      intro j hj
      obtain ⟨hji, e, he, hb, hx⟩ := h.chk.anc i h1 j hj
      have hlt := h.chk.edge i h1 e he hb
      have hse : setOf listed e.on = true := by
        have := h3 e he hb
        unfold setOf
        rw [getD_lt (by omega) true false]; exact this
      rcases hx with rfl | hx
      · exact hse
      · exact hd e.on (by omega) hse j hx
    refine op_step ok hclK hcok hg0 h hd ⟨h1, h2, hanc⟩ hm fun a' w' hm' => ?_
    have hset := setOf_set (listed := listed) (by omega : i < listed.size)
    refine ih _ a' w' (by simp [hl]) ?_ ?_ (by rw [hset]; exact hm')
    · rw [hset]; have := left_add h1 h2; omega
    · rw [hset]
      intro k hk hks j hj
      unfold add at hks ⊢
      by_cases hki : k = i
      · subst hki
        by_cases hjk : j = k
        · rw [if_pos hjk]
        · rw [if_neg hjk]; exact hanc j hj
      · rw [if_neg hki] at hks
        by_cases hjk : j = i
        · rw [if_pos hjk]
        · rw [if_neg hjk]; exact hd k hk hks j hj

/-- A region that draws its order is sound. -/
theorem draw_sound (ok : TyOk C) (hmix : C.P.follows .mixedOrders = true) (hclK : CallKOk C cok clK) : DrawOk C cok drawOk clK := by
  intro fb nt ops is T0 nv H0 T H hok hev base im0 lo M0 nf ro id a w Q hcok hg hnow hQ
  obtain ⟨hlen, x, hx, hT, hH⟩ := evDs_stp _ _ _ _ _ _ _ hev
  rw [Array.length_toList] at hT hH
  have hrg : Rg clK C fb nt ops T0 H0 is nv x := ⟨chk_of hok, fun i hi => hx i _ (by rw [Array.getElem?_toList, opAt_some hi])⟩
  refine wpIn_region_any hmix ?_
  obtain ⟨M, rfl, hle0, hb0, hT0, hs, hm⟩ := hnow
  obtain ⟨hle, hsd, hbd⟩ := sim_drew hs
  have hsz : (Array.replicate ops.size false).size = ops.size := by simp
  have hnone : ∀ i, i < ops.size → setOf (Array.replicate ops.size false) i = false := fun i hi => by simp [setOf, Array.getD, hi]
  have hE : ∀ m, m ≤ ops.size → ET (setOf (Array.replicate ops.size false)) x T0 m = T0 ∧ EH (setOf (Array.replicate ops.size false)) x H0 m = H0 := by
    intro m
    induction m with
    | zero => intro _; exact ⟨rfl, rfl⟩
    | succ m ih =>
      intro hm
      obtain ⟨h1, h2⟩ := ih (by omega)
      constructor
      · simp only [ET, hnone m (by omega)]; exact h1
      · simp only [EH, hnone m (by omega)]; exact h2
  refine sched ok hclK hcok hg hrg (base := base) (im0 := im0) (lo := lo) (M0 := M0) ?_ ops.size _ a _ hsz ?_ ?_ ?_
  · intro a' w' ⟨M', hw', h1, h2, h3, h4, h5, _⟩
    refine hQ a' w' ⟨M', hw', h1, h2, ?_, ?_, h5⟩
    · rw [hT] at h3; exact h3
    · rw [hH] at h4; exact h4
  · unfold left
    exact Nat.le_trans (List.length_filter_le _ _) (by simp)
  · intro k hk hks
    rw [hnone k hk] at hks; cases hks
  · refine ⟨{ M with w := M.w.drew }, rfl, Mem.le_trans hle0 hle, hb0.trans hbd, ?_, ?_, hm.mono hle, fun i hi _ => ?_⟩
    · rw [(hE _ (Nat.le_refl _)).1]; exact hT0.mono hle
    · rw [(hE _ (Nat.le_refl _)).2]; exact hsd.nv_le (Nat.le_add_right _ _)
    · show M.mu (nv + i) = none
      cases hq : M.mu (nv + i) with
      | none => rfl
      | some z => have : nv + i < nv := hs.fresh _ _ hq
                  omega

/-- THE EVALUATOR'S WORD: what it says of a call from trees holds of the model. -/
theorem ev_sound (ok : TyOk C) (hfn : FnOk C drawOk) (hsp : SpecOk C) (hmix : C.P.follows .mixedOrders = true) {d : Nat} {f : FuncId} {as : List AV} {r : AV} (h : evTree C d f as = some r) : Enters C.P f ∧ Computes C f as r :=
  evTree_sound ok hfn hsp (fun _ hk => draw_sound ok hmix hk) h
end
end Go.Vm
