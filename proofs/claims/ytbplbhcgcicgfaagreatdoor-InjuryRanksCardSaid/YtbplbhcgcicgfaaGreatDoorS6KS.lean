/- Ranks: the library's sort. -/
import Derived.Test.YtbplbhcgcicgfaaGreatDoorS6K3
import Derived.Test.YtbplbhcgcicgfaaGreatDoorVmSort
import Derived.Laws.StructEq
namespace Go.Vm.S6
open Go.Proofs Go.RowKit Go.Sort Go.Shelf Go.Lib
set_option maxHeartbeats 2000000 in
theorem cmp_kit (x y : P2) (W : World) : Calls Tryz.prog 119 #[.agg #[.int .i64 x.1, .int .i64 x.2], .agg #[.int .i64 y.1, .int .i64 y.2]] W fun e w' =>
    e = .returned (.int .i64 (bif x.1 == y.1 && x.2 == y.2 then 0 else compareInt (wrap64 (x.1 * y.2)) (wrap64 (y.1 * x.2)))) ∧ ∃ q os', w' = grow (W.drewN q) os' := by
  have hcon := fun a b W' => AnyG.cmp_Compare_int Tryz.cmpI a b W'
  change ∀ a b W', Calls Tryz.prog 162 _ _ _ at hcon
  go_enter Tryz.func119, Tryz.ntmps119
  go_wp2_with (go_at_call 162; refine (hcon _ _ _).mono ?_; rintro e w' ⟨rfl, rfl⟩)
  · rename_i h1 h2
    go_ret
    refine ⟨?_, 0, _, by rw [alloc_eq_grow, alloc_eq_grow, grow_grow]; rfl⟩
    rw [h1, h2, beq_self_eq_true, beq_self_eq_true]; rfl
  · rename_i h1 h2
    go_ret
    refine ⟨?_, 0, _, by rw [alloc_eq_grow, alloc_eq_grow, grow_grow]; rfl⟩
    have : (x.2 == y.2) = false := by simpa using h2
    rw [this, Bool.and_false, cond_false, h1]
    rfl
  · rename_i h1
    go_ret
    refine ⟨?_, 0, _, by rw [alloc_eq_grow, alloc_eq_grow, grow_grow]; rfl⟩
    have : (x.1 == y.1) = false := by simpa using h1
    rw [this, Bool.false_and, cond_false]
    rfl
/-! ### Ratios that are valid -/
abbrev Rt : Type := { x : P2 // ratErr x = 0 }
instance : Inhabited Rt := ⟨⟨(0, 1), rfl⟩⟩
def cfR (x y : Rt) : Int := cmpM x.1 y.1
def encR (x : Rt) : List Value := [.int .i64 x.1.1, .int .i64 x.1.2]
theorem cfR_lt {x y : Rt} : ltOf cfR x y = true ↔ ltR x.1 y.1 := by
  unfold ltOf cfR
  rw [decide_eq_true_eq, cmpM_lt]
theorem cfR_nlt {x y : Rt} : ltOf cfR x y = false ↔ leR y.1 x.1 := by
  rw [← not_ltR, ← cfR_lt]; simp
theorem posR (x : Rt) : PosR x.1 := (ratAll x.2).1.2
theorem swoRt : SWO (ltOf cfR) where
  irrefl _ := cfR_nlt.2 (leR_rfl _)
  trans x y z h1 h2 := cfR_lt.2 (ltR_of_lt_le (posR x) (posR y) (posR z) (cfR_lt.1 h1) (cfR_lt.1 h2).le)
  ntrans x y z h1 h2 := cfR_nlt.2 (leR_trans (posR z) (posR y) (posR x) (cfR_nlt.1 h2) (cfR_nlt.1 h1))
theorem mulB {a b : Int} (ha : 0 ≤ a ∧ a ≤ 5000000000000) (hb : 0 ≤ b ∧ b ≤ 1000000) : wrap64 (a * b) = a * b := by
  have h1 := Int.mul_nonneg ha.1 hb.1
  have h2 := Int.mul_le_mul ha.2 hb.2 hb.1 (by omega)
  unfold wrap64; omega
theorem ratC {x : P2} (h : ratErr x = 0) : (0 ≤ x.1 ∧ x.1 ≤ 5000000000000) ∧ (0 ≤ x.2 ∧ x.2 ≤ 1000000) := by
  unfold ratErr at h
  cases hs : sizeErr x != 0 with
  | true => rw [hs, cond_true] at h; rw [h] at hs; cases hs
  | false =>
    obtain ⟨h1, h2⟩ := size_zero.1 (show sizeErr x = 0 by simpa using hs)
    exact ⟨h1, by omega, h2.2⟩
theorem cmp_cf (x y : Rt) : (bif x.1.1 == y.1.1 && x.1.2 == y.1.2 then 0 else compareInt (wrap64 (x.1.1 * y.1.2)) (wrap64 (y.1.1 * x.1.2))) = cfR x y := by
  have hx := ratC x.2
  have hy := ratC y.2
  rw [mulB hx.1 hy.2, mulB hy.1 hx.2]
  unfold cfR compareInt
  cases h : x.1.1 == y.1.1 && x.1.2 == y.1.2 with
  | true =>
    rw [Bool.and_eq_true, beq_iff_eq, beq_iff_eq] at h
    rw [cond_true]
    exact (cmpM_zero.2 (by rw [h.1, h.2])).symm
  | false =>
    rw [cond_false]
    unfold cmpM
    by_cases h1 : x.1.1 * y.1.2 < y.1.1 * x.1.2
    · rw [if_pos h1, decide_eq_true h1]; rfl
    · rw [if_neg h1, decide_eq_false h1, cond_false]
      by_cases h2 : x.1.1 * y.1.2 > y.1.1 * x.1.2
      · rw [if_pos h2, decide_eq_true h2]; rfl
      · rw [if_neg h2, decide_eq_false h2]; rfl
theorem cmpLays (blk off size : Nat) (w : World) : CmpLays Tryz.prog 119 #[] encR 2 cfR blk off size w := fun m os dk _ x y => by
  have := cmp_kit x.1 y.1 (sortWorldK encR 2 w blk off m dk os)
  rw [cmp_cf] at this
  exact this
/-! ### The row -/
def encV (x : P2) : Value := .agg #[.int .i64 x.1, .int .i64 x.2]
theorem reps_p2 {M : Mem} : ∀ {l : List P2} {ys : List Value}, RepL M (l.map p2C.enc) ys ↔ ys = l.map encV
  | [], ys => by rw [List.map_nil, RepL.nil_iff]; rfl
  | x :: l, ys => by
    rw [List.map_cons, RepL.cons_iff, List.map_cons]
    have hx : ∀ z, Rep M (p2C.enc x) z ↔ z = encV x := fun z => by
      show Rep M (.agg [.v (.int .i64 x.1), .v (.int .i64 x.2)]) z ↔ _
      unfold Rep
      simp only [RepL.cons_iff, RepL.nil_iff, Rep]
      constructor
      · rintro ⟨_, rfl, _, _, rfl, rfl, _, _, rfl, rfl, rfl⟩; rfl
      · rintro rfl; exact ⟨_, rfl, _, _, rfl, rfl, _, _, rfl, rfl, rfl⟩
    constructor
    · rintro ⟨z, zs, rfl, h1, h2⟩; rw [(hx z).1 h1, reps_p2.1 h2]
    · rintro rfl; exact ⟨_, _, rfl, (hx _).2 rfl, reps_p2.2 rfl⟩
theorem flat_cons (x : P2) (l : List P2) : flat ((x :: l).map encV) = .int .i64 x.1 :: .int .i64 x.2 :: flat (l.map encV) := rfl
theorem flat_len : ∀ l : List P2, (flat (l.map encV)).length = l.length * 2
  | [] => rfl
  | x :: l => by rw [flat_cons, List.length_cons, List.length_cons, flat_len l, List.length_cons]; omega
theorem flat_at : ∀ (l : List Rt) (t : Nat), t < l.length * 2 → (flat ((l.map (·.1)).map encV))[t]? = some ((encR l.toArray[t / 2]!)[t % 2]!)
  | [], t, h => by simp at h
  | x :: l, 0, _ => by rw [List.map_cons, flat_cons]; simp [encR]
  | x :: l, 1, _ => by rw [List.map_cons, flat_cons]; simp [encR]
  | x :: l, t + 2, h => by
    have ih := flat_at l t (by simp only [List.length_cons] at h; omega)
    rw [List.map_cons, flat_cons, List.getElem?_cons_succ, List.getElem?_cons_succ, ih]
    have e1 : (t + 2) / 2 = t / 2 + 1 := by omega
    have e2 : (t + 2) % 2 = t % 2 := by omega
    rw [e1, e2]
    congr 2
    simp [Array.getElem!_eq_getD, Array.getD]
theorem flatK_eq (l : List Rt) : (flatK encR 2 l.toArray).toList = flat ((l.map (·.1)).map encV) := by
  refine List.ext_getElem? fun t => ?_
  by_cases h : t < l.length * 2
  · rw [flat_at l t h]
    have h2 : t < (flatK encR 2 l.toArray).size := by simp [h]
    rw [Array.getElem?_toList, Array.getElem?_eq_getElem h2, ← getElem!_pos _ t h2, get_flatK _ _ _ t (by simpa using h)]
  · have h1 := flat_len (l.map (·.1))
    rw [List.length_map] at h1
    rw [Array.getElem?_toList, Array.getElem?_eq_none (by simp; omega), List.getElem?_eq_none (by omega)]
theorem lift_rt : ∀ {l : List P2}, VaR l → ∃ d : List Rt, d.map (·.1) = l
  | [], _ => ⟨[], rfl⟩
  | x :: l, h => by
    obtain ⟨d, hd⟩ := lift_rt (l := l) (fun y hy => h y (by simp [hy]))
    exact ⟨⟨x, h x (by simp)⟩ :: d, by rw [List.map_cons, hd]⟩
/-- What slices.SortFunc leaves of a row of valid ratios. -/
theorem sort_wr {l : List P2} (hv : VaR l) (hn : 0 < l.length ∧ l.length ≤ 15) : WrOk (CS K2) 145 2 (l.map p2C.enc) [fnV 119] ((sortR l).map p2C.enc) := by
  have hlen : (sortR l).length = l.length := (sortR_perm hv).length_eq
  refine ⟨enters_of Tryz.func145 rfl (by decide), by rw [List.length_map]; exact hn.1, by rw [List.length_map, List.length_map, hlen], ?_⟩
  intro M b ct arr ty ys rs hlt _ _ hbs hb hr hsd hsz hct htk hrs
  rw [List.length_map] at htk hct ⊢
  rw [reps_p2] at hr
  subst hr
  rw [RepL.cons_iff] at hrs
  obtain ⟨z, zs, rfl, h1, h2⟩ := hrs
  rw [RepL.nil_iff] at h2
  subst h2
  have h1 : Rep M (.fn (.func 119) [] []) z := h1
  unfold Rep at h1
  obtain ⟨q1, q2, rfl, h3, h4⟩ := h1
  rw [RepL.nil_iff] at h3 h4
  subst h3; subst h4
  obtain ⟨d, rfl⟩ := lift_rt hv
  rw [List.length_map] at htk hct hn hlen ⊢
  rw [callsIn_one]
  have hfk := flatK_eq d
  have hfs : (flatK encR 2 d.toArray).size = d.length * 2 := by simp
  have harr : ∀ j, j < d.length * 2 → arr[j]? = some ((flatK encR 2 d.toArray)[j]!) := fun j hj => by
    have : (arr.toList.take (d.length * 2))[j]? = (flatK encR 2 d.toArray).toList[j]? := by rw [htk, hfk]
    rw [List.getElem?_take, if_pos hj, Array.getElem?_toList, Array.getElem?_toList, Array.getElem?_eq_getElem (xs := flatK encR 2 d.toArray) (by omega), ← getElem!_pos (flatK encR 2 d.toArray) j (by omega)] at this
    exact this
  have hH : HoldsK encR 2 M.w b 0 d.toArray := fun j hj => by
    rw [hfs] at hj
    rw [Nat.zero_add]
    constructor
    · unfold World.cell?
      simp only [hb]
      exact harr j hj
    · unfold World.frozen?
      simp only [hb]
      rfl
  have hcon := AnyQ.slices_SortFunc Tryz.sortR 2 Tryz.isAgg28 Tryz.sizeOf28 encR (fun _ => rfl) (fun x v hv => by simp [encR] at hv; rcases hv with rfl | rfl <;> rfl) cfR swoRt 119 #[] b 0 ct d.toArray M.w (enters_of Tryz.func119 rfl (by decide)) (cmpLays b 0 d.toArray.size M.w) hH hbs (by simp; omega)
  change Calls Tryz.prog 145 _ _ _ at hcon
  refine hcon.mono ?_
  rintro e w' ⟨rfl, d', n, os, hp, hs, rfl⟩
  obtain ⟨hsz', _, hperm⟩ := hp
  have e1 : d'.extract 0 d.toArray.size = d' := by rw [← hsz']; exact Array.extract_size
  rw [e1, Array.extract_size] at hperm
  have hm : d'.toList.map (·.1) = sortR (d.map (·.1)) := by
    refine sortR_unique hv (hperm.map _) ?_
    rw [List.pairwise_map, List.pairwise_iff_getElem]
    intro i j hi hj hij
    have hi' : i < d'.size := by simpa using hi
    have hj' : j < d'.size := by simpa using hj
    have := hs i j (Nat.zero_le _) hij (by rw [← hsz']; exact hj')
    rw [getElem!_pos d' i hi', getElem!_pos d' j hj', cfR_nlt] at this
    simpa using this
  rw [← hm]
  have hdl : d'.toList.length = d.length := by simpa using hsz'
  have hfk' := flatK_eq d'.toList
  rw [Array.toArray_toList] at hfk'
  have hfs' : (flatK encR 2 d').size = d.length * 2 := by rw [size_flatK, hsz']; simp
  have hcell : (sortWorldK encR 2 M.w b 0 n d' os).heap[b]? = some (.cells (putCells id 0 (flatK encR 2 d') arr) ty (0, 0)) := by
    show ((M.w.heap.modify b (onCells (putCells id 0 (flatK encR 2 d')))) ++ os)[b]? = _
    rw [Array.getElem?_append_left (by simpa using hbs), Array.getElem?_modify, if_pos rfl, hb]; rfl
  refine ⟨rfl, rfl, rfl, rfl, ?_, ?_, putCells id 0 (flatK encR 2 d') arr, (d'.toList.map (·.1)).map encV, hcell, reps_p2.2 rfl, ?_, ?_, ?_⟩
  · show M.w.heap.size ≤ ((M.w.heap.modify b (onCells (putCells id 0 (flatK encR 2 d')))) ++ os).size
    simp
  · intro k hk hks
    show ((M.w.heap.modify b (onCells (putCells id 0 (flatK encR 2 d')))) ++ os)[k]? = _
    rw [Array.getElem?_append_left (by simpa using hks), Array.getElem?_modify, if_neg (fun h => hk h.symm)]
  · intro y hy
    obtain ⟨x, _, rfl⟩ := List.mem_map.1 hy
    rfl
  · simp [putCells]
  · rw [← hfk']
    refine List.ext_getElem? fun j => ?_
    rw [List.getElem?_take]
    by_cases hj : j < d.length * 2
    · rw [if_pos hj, Array.getElem?_toList, Array.getElem?_toList, putCells, Array.getElem?_mapIdx, harr j hj, Option.map_some, if_pos ⟨Nat.zero_le _, by omega⟩, Array.getElem?_eq_getElem (xs := flatK encR 2 d') (by omega), ← getElem!_pos (flatK encR 2 d') j (by omega)]
      rfl
    · rw [if_neg hj, Array.getElem?_toList, Array.getElem?_eq_none (by omega)]
/-! ### The median -/
def medT (l : List P2) : AV := bif csErr l == 0 then .tup [p2A (atR l (midI l)), intA 0] else .tup [p2A (0, 0), intA (csErr l)]
def medG : List AV → Option AV := sp1 ratsC fun l => bif Nat.ble l.length lim then some (medT l) else none
theorem h73 : Holds 73 medG := holds1 fun l r hr => by
  cases hb : Nat.ble l.length lim with
  | false => simp [hb] at hr
  | true =>
    simp only [hb, cond_true, Option.some.injEq] at hr; subst hr
    have hs := spCs hb
    unfold medT
    cases hc : csErr l == 0 with
    | false => exact K2_ok.tr (t73e (l.map p2C.enc) (csErr l)) ⟨⟨rfl, hs⟩, by rw [bne, hc]; rfl, rfl⟩
    | true =>
      have h0 : csErr l = 0 := by simpa using hc
      obtain ⟨⟨h1, h2⟩, hv⟩ := csZ.1 h0
      obtain ⟨_, e2, e3⟩ := midI_at h0
      have hw := sort_wr hv ⟨h1, h2⟩
      obtain ⟨x0, r, rfl⟩ : ∃ x0 r, l = x0 :: r := by
        cases l with
        | nil => simp at h1
        | cons x r => exact ⟨x, r, rfl⟩
      rw [cond_true]
      have hlen : (p2C.enc x0 :: r.map p2C.enc).length = r.length + 1 := by simp
      simp only [List.length_cons] at h1 h2 e2 e3
      have hq : ((sortR (x0 :: r)).map p2C.enc)[0 + r.length / 2]? = some (p2C.enc (atR (x0 :: r) (midI (x0 :: r)))) := by
        rw [Nat.zero_add]
        refine get_map p2C.enc ?_
        rw [show r.length / 2 = (r.length + 1 - 1) / 2 by rfl]; exact e3
      refine K2_ok.tr (t73 x0 (r.map p2C.enc) ((sortR (x0 :: r)).map p2C.enc) r.length (r.length / 2) (csErr (x0 :: r)) (atR (x0 :: r) (midI (x0 :: r))).1 (atR (x0 :: r) (midI (x0 :: r))).2) ?_
      refine ⟨⟨rfl, hs⟩, by rw [bne, hc]; rfl, ⟨allSz_map (f := p2C.enc) (fun _ => rfl) (x0 :: r), rfl, ?_, ?_, by decide⟩, ⟨rfl, hw⟩, ?_, ?_, ?_, hq, rfl⟩
      · show (p2C.enc x0 :: r.map p2C.enc).length * 16 ≤ _
        omega
      · show (p2C.enc x0 :: r.map p2C.enc).length ≤ _
        omega
      · show abin (CS K2) BinOp.sub 3 (Operand.tmp 18) (Operand.const (Value.int IntKind.i64 1)) (AV.v (.int .i64 (Int.ofNat (p2C.enc x0 :: r.map p2C.enc).length))) (AV.v (.int .i64 1)) = _
        rw [hlen]
        exact abSub1 (by unfold two63; omega)
      · exact abHalf (by unfold two63; omega)
      · show r.length / 2 < (p2C.enc x0 :: r.map p2C.enc).length
        omega
def K3 : Specs := ((K2.set 75 rnkG).set 73 medG)
theorem K3_ok : Ok K3 := ((K2_ok.set h75).set h73)
end Go.Vm.S6
