/- Back: the law. -/
import Derived.Test.YtbplbhcgcicgfaaGreatDoorS6ZC2
namespace Go.Vm.S6
open Go.Proofs Go.RowKit Go.Lib
def law15G : List AV → Option AV := sp3 ratsC stepsC strC fun _ _ _ => some (boolA true)
theorem quoM (m : Int) (d : Tmp) {a : Nat} (h : a < two63) : abin (CSm m Z8) BinOp.quo 3 (Operand.tmp d) (Operand.const (Value.int IntKind.i64 2)) (AV.v (.int .i64 (Int.ofNat a))) (AV.v (.int .i64 2)) = some (AV.v (.int .i64 (Int.ofNat (a / 2)))) := by
  show some (AV.v (.int .i64 (IntKind.i64.wrap (Int.tdiv (Int.ofNat a) 2)))) = _
  rw [show Int.tdiv (Int.ofNat a) 2 = Int.ofNat (a / 2) from rfl, wrapN (a / 2) (by omega)]
set_option maxRecDepth 100000 in
theorem headM8 (m : Int) {s : ByteArray} {j : Nat} (h2 : j ≤ s.size) : aslice (CSm m Z8) Tr.leaf 9 (AV.v (.string s)) none (some (AV.v (.int .i64 (Int.ofNat j)))) none = some (AV.v (.string (s.extract 0 j))) := str_head Z8 h2
theorem prs_all {T : List St3} (h0 : tblM T = 0) (hl : T.length ≤ 17) : prsT (bA (allL T)) = .tup [slA stepC 3 T, intA 0, intA 0] := by
  have hok := (okTb_at (tbl_ok h0)).2
  have hlen := allL_len hok
  obtain ⟨h1, h2⟩ := rows87_all hok
  unfold prsT
  rw [h1, h2, bA_size, decide_eq_false (by simp only [gt_iff_lt, Int.ofNat_eq_natCast]; omega), cond_false]
  have hn : notNil (bA []) = false := by unfold notNil; rw [toList_nil]; rfl
  simp only
  rw [hn, cond_false, h0]
  rfl
theorem prs_cut {T : List St3} {v : St3} (hok : ∀ x ∈ T ++ [v], okSt x = true) (hl : T.length ≤ 16) : prsT (bA (allL T ++ bodyL v)) = .tup [nilS, intA (Int.ofNat T.length), intA 25] := by
  have hT : ∀ x ∈ T, okSt x = true := fun x hx => hok x (by simp [hx])
  have hv : okSt v = true := hok v (by simp)
  have hlen := allL_len hT
  have hb : (bodyL v).length + 1 ≤ 47 := by have := lineL_len hv; rw [line_body, List.length_append, List.length_singleton] at this; exact this
  obtain ⟨h1, h2⟩ := rows87_cut hT hv
  have hr := rows_len _ _ _ _ h1
  simp only [List.length_nil, Nat.zero_add] at hr
  unfold prsT
  rw [h1, h2, bA_size, decide_eq_false (by simp only [gt_iff_lt, Int.ofNat_eq_natCast, List.length_append]; omega), cond_false]
  have hn : notNil (bA (bodyL v)) = true := by
    unfold notNil
    rw [toList_nil, bA_size]
    have : 1 ≤ (bodyL v).length := by unfold bodyL; simp
    have : (Int.ofNat (bodyL v).length == 0) = false := by simp only [beq_eq_false_iff_ne, ne_eq, Int.ofNat_eq_natCast]; omega
    rw [this]; rfl
  simp only
  rw [hn, cond_true, hr]
theorem prs_two (s : ByteArray) : (∃ n e, prsT s = .tup [nilS, intA n, intA e] ∧ (e == 0) = false) ∨ ∃ rs, prsT s = .tup [slA stepC 3 rs, intA 0, intA 0] ∧ tblM rs = 0 ∧ s = bA (allL rs) := by
  unfold prsT
  cases decide (Int.ofNat s.size > 4096) with
  | true => exact .inl ⟨0, 26, rfl, rfl⟩
  | false =>
    rw [cond_false]
    cases hg : rows87 s with
    | inl i => exact .inl ⟨Int.ofNat i, 25, rfl, rfl⟩
    | inr rs =>
      simp only
      cases hn : notNil (lastB s) with
      | true => exact .inl ⟨_, 25, rfl, rfl⟩
      | false =>
        rw [cond_false]
        cases hc : tblM rs != 0 with
        | true =>
          refine .inl ⟨_, _, rfl, ?_⟩
          cases h : tblM rs == 0 with
          | false => rfl
          | true => rw [bne, h] at hc; cases hc
        | false => exact .inr ⟨rs, rfl, by simpa using hc, (string_back hg hn).1⟩
theorem h15 (m : Int) : HoldsM m 15 law15G := holds3 fun l T s r hr => by
  simp only [Option.some.injEq] at hr; subst hr
  have f16 : awakeG [] = some (boolA true) := rfl
  have e := e_len' p2C l
  by_cases h15 : l.length ≤ 15
  · have hA : decide (Int.ofNat (l.map p2C.enc).length > 15) = false := by rw [e]; simp only [gt_iff_lt, decide_eq_false_iff_not, Int.ofNat_eq_natCast]; omega
    have hlb : Nat.ble l.length lim = true := Nat.ble_eq_true_of_le (by unfold lim; omega)
    have f76 := spCs hlb
    cases hc : csErr l != 0 with
    | true => exact (Z8_ok m).tr (t15b m s (l.map p2C.enc) (T.map stepC.enc) (csErr l)) ⟨⟨rfl, f16⟩, hA, ⟨rfl, f76⟩, hc, ⟨rfl, f16⟩, rfl⟩
    | false =>
      have h0 : csErr l = 0 := by simpa using hc
      rw [h0] at f76
      have f62 : stTabG [slA stepC 3 T] = some (boolA (decide (Int.ofNat T.length ≤ 17))) := sp1_at (A := stepsC) (F := fun l => some (boolA (decide (Int.ofNat l.length ≤ 17)))) T
      cases hw : decide (Int.ofNat T.length ≤ 17) with
      | false =>
        rw [hw] at f62
        exact (Z8_ok m).tr (t15c m s (l.map p2C.enc) (T.map stepC.enc)) ⟨⟨rfl, f16⟩, hA, ⟨rfl, f76⟩, ⟨rfl, f62⟩, ⟨rfl, f16⟩, rfl⟩
      | true =>
        rw [hw] at f62
        have h17 : T.length ≤ 17 := by simp only [decide_eq_true_eq, Int.ofNat_eq_natCast] at hw; omega
        have hTb : Nat.ble T.length lim = true := Nat.ble_eq_true_of_le (by unfold lim; omega)
        have f68 := specTbl hTb
        cases ht : tblM T != 0 with
        | true => exact (Z8_ok m).tr (t15d m s (l.map p2C.enc) (T.map stepC.enc) (tblM T)) ⟨⟨rfl, f16⟩, hA, ⟨rfl, f76⟩, ⟨rfl, f62⟩, ⟨rfl, f68⟩, ht, ⟨rfl, f16⟩, rfl⟩
        | false =>
          have t0 : tblM T = 0 := by simpa using ht
          rw [t0] at f68
          cases h4 : decide (Int.ofNat s.size > 400) with
          | true => exact (Z8_ok m).tr (t15e m s (l.map p2C.enc) (T.map stepC.enc)) ⟨⟨rfl, f16⟩, hA, ⟨rfl, f76⟩, ⟨rfl, f62⟩, ⟨rfl, f68⟩, h4, ⟨rfl, f16⟩, rfl⟩
          | false =>
            have hs4 : s.size ≤ 400 := by simp only [gt_iff_lt, decide_eq_false_iff_not, Int.ofNat_eq_natCast] at h4; omega
            -- the median and the rank
            have f74 : ownRG [slA p2C 2 l] = some (slA p2C 2 l) := by
              have := sp1_at (A := ratsC) (F := fun l => bif Nat.ble l.length lim then some (slA p2C 2 l) else none) l
              rw [hlb] at this; exact this
            have f73 : medG [slA p2C 2 l] = some (medT l) := by
              have := sp1_at (A := ratsC) (F := fun l => bif Nat.ble l.length lim then some (medT l) else none) l
              rw [hlb] at this; exact this
            have f75 : rnkG [slA p2C 2 l] = some (rnkT l) := by
              have := sp1_at (A := ratsC) (F := fun l => bif Nat.ble l.length lim then some (rnkT l) else none) l
              rw [hlb] at this; exact this
            have hcb : (csErr l == 0) = true := by rw [h0]; rfl
            unfold medT at f73
            unfold rnkT at f75
            rw [hcb, cond_true] at f73 f75
            have f26 := spRat (atR l (midI l))
            have hv := (csZ.1 h0).2
            rw [vaR_at hv] at f26
            have hRl := (rank_in h0).1
            have hne : (Int.ofNat ((rankR (ltI l) l.length l.length).map natA).length != Int.ofNat (l.map p2C.enc).length) = false := by
              rw [List.length_map, List.length_map, hRl]; simp
            have hLa := loop15a m s h15 (T.map stepC.enc) ((rankR (ltI l) l.length l.length).map natA) (atR l (midI l))
            rw [cntS_all] at hLa
            simp only [Nat.zero_add, Bool.false_or, med_has h0] at hLa
            rw [← e] at hLa
            have hlen1 := (csZ.1 h0).1
            have hB := med_below h0
            have hC := med_above h0
            generalize l.countP (fun x => decide (cmpW x (atR l (midI l)) < 0)) = A at hLa hB
            generalize l.countP (fun x => decide (cmpW x (atR l (midI l)) > 0)) = B at hLa hC
            have hLb := loop15b m s h0 (T.map stepC.enc)
            rw [show (rankR (ltI l) l.length l.length).length = ((rankR (ltI l) l.length l.length).map natA).length from (List.length_map _).symm] at hLb
            have hd1 : abin (CSm m Z8) BinOp.sub 3 (Operand.tmp 123) (Operand.const (Value.int IntKind.i64 1)) (AV.v (.int .i64 (Int.ofNat (l.map p2C.enc).length))) (AV.v (.int .i64 1)) = some (AV.v (.int .i64 (Int.ofNat (l.length - 1)))) := by
              rw [List.length_map]
              have := decM m 123 (a := l.length - 1) (Nat.lt_of_le_of_lt (by omega : _ ≤ 15) (by decide))
              rw [show l.length - 1 + 1 = l.length by omega] at this
              exact this
            have hq1 := quoM m 124 (a := l.length - 1) (Nat.lt_of_le_of_lt (by omega : _ ≤ 15) (by decide))
            have hq2 : abin (CSm m Z8) BinOp.quo 3 (Operand.tmp 131) (Operand.const (Value.int IntKind.i64 2)) (AV.v (.int .i64 (Int.ofNat (l.map p2C.enc).length))) (AV.v (.int .i64 2)) = some (AV.v (.int .i64 (Int.ofNat (l.length / 2)))) := by
              rw [List.length_map]
              exact quoM m 131 (Nat.lt_of_le_of_lt h15 (by decide))
            have hgB : decide (Int.ofNat A > Int.ofNat ((l.length - 1) / 2)) = false := by simp only [gt_iff_lt, decide_eq_false_iff_not, Int.ofNat_eq_natCast]; omega
            have hgC : decide (Int.ofNat B > Int.ofNat (l.length / 2)) = false := by simp only [gt_iff_lt, decide_eq_false_iff_not, Int.ofNat_eq_natCast]; omega
            -- the table's string
            have hok := (okTb_at (tbl_ok t0)).2
            have f65 := spOwnS hTb
            have f84 : prtG [slA stepC 3 T] = some (prtT T) := by
              have := sp1_at (A := stepsC) (F := fun l => bif Nat.ble l.length lim then some (prtT l) else none) T
              rw [hTb] at this; exact this
            have hT0 : (tblM T != 0) = false := ht
            unfold prtT at f84
            rw [hT0, cond_false] at f84
            have hsz := allL_len hok
            have hbs : (bA (allL T)).size = (allL T).length := bA_size _
            have f85 := spPrs (s := bA (allL T)) (by omega)
            rw [prs_all t0 h17] at f85
            have f88 := spSam hTb
            have f91 := spSpl (s := bA (allL T)) (c := 10) (Nat.ble_eq_true_of_le (by omega))
            obtain ⟨T2, v, hTv⟩ : ∃ T2 v, T = T2 ++ [v] := by
              cases T with
              | nil => exact absurd t0 (by decide)
              | cons x r => exact ⟨_, _, (List.dropLast_concat_getLast (List.cons_ne_nil x r)).symm⟩
            have hTl : T.length = T2.length + 1 := by rw [hTv]; simp
            have hT63 : T.length < two63 := Nat.lt_of_le_of_lt h17 (by decide)
            have hk1 : abin (CSm m Z8) BinOp.add 3 (Operand.tmp 235) (Operand.const (Value.int IntKind.i64 1)) (AV.v (.int .i64 (Int.ofNat (T.map stepC.enc).length))) (AV.v (.int .i64 1)) = some (AV.v (.int .i64 (Int.ofNat (T.length + 1)))) := by
              rw [List.length_map]
              exact incM m 235 (show T.length < 100 by omega) (by decide)
            have hps : (Int.ofNat ((partsB 10 (bA (allL T))).map strC.enc).length != Int.ofNat (T.length + 1)) = false := by
              rw [List.length_map, partsB_all hok, List.length_append, List.length_map, List.length_singleton]
              exact bne_self_eq_false _
            have hall : allL T = (allL T2 ++ bodyL v) ++ [10] := by rw [hTv, allL_snoc, line_body, List.append_assoc]
            have hal : (allL T).length = (allL T2 ++ bodyL v).length + 1 := by rw [hall, List.length_append, List.length_singleton]
            have htn : abin (CSm m Z8) BinOp.sub 3 (Operand.tmp 242) (Operand.const (Value.int IntKind.i64 1)) (AV.v (.int .i64 (Int.ofNat (bA (allL T)).size))) (AV.v (.int .i64 1)) = some (AV.v (.int .i64 (Int.ofNat (allL T2 ++ bodyL v).length))) := by
              rw [bA_size, hal]
              exact decM m 242 (Nat.lt_of_le_of_lt (by omega : _ ≤ 1000) (by decide))
            have hsl := headM8 m (s := bA (allL T)) (j := (allL T2 ++ bodyL v).length) (by omega)
            have hcut : (bA (allL T)).extract 0 (allL T2 ++ bodyL v).length = bA (allL T2 ++ bodyL v) := by
              rw [ext_head, bA_list, hall, List.take_left]
            rw [hcut] at hsl
            have f85c := spPrs (s := bA (allL T2 ++ bodyL v)) (by rw [bA_size]; omega)
            rw [prs_cut (by rw [← hTv]; exact hok) (by omega)] at f85c
            have hk : abin (CSm m Z8) BinOp.sub 3 (Operand.tmp 254) (Operand.const (Value.int IntKind.i64 1)) (AV.v (.int .i64 (Int.ofNat (T.map stepC.enc).length))) (AV.v (.int .i64 1)) = some (AV.v (.int .i64 (Int.ofNat T2.length))) := by
              rw [List.length_map, hTl]
              exact decM m 254 (by omega)
            have hkk : (Int.ofNat T2.length != Int.ofNat T2.length) = false := by simp
            have hLc := loop15c m t0
            have eT := e_len' stepC T
            rw [← eT] at hLc
            have f85s := spPrs (s := s) (by omega)
        
            rcases prs_two s with ⟨n, e2, hx, he⟩ | ⟨rs, hx, r0, hs⟩
            · rw [hx] at f85s
              exact (Z8_ok m).tr (t15n m s (l.map p2C.enc) (T.map stepC.enc) (atR l (midI l)).1 (atR l (midI l)).2 ((rankR (ltI l) l.length l.length).map natA) ((partsB 10 (bA (allL T))).map strC.enc) A B (l.length - 1) ((l.length - 1) / 2) (l.length / 2) (T.length + 1) (allL T2 ++ bodyL v).length T2.length (bA (allL T)) (bA (allL T2 ++ bodyL v)) n e2) ⟨⟨rfl, f16⟩, hA, ⟨rfl, f76⟩, ⟨rfl, f62⟩, ⟨rfl, f68⟩, h4, ⟨rfl, f74⟩, ⟨rfl, f73⟩, ⟨rfl, f74⟩, ⟨rfl, f75⟩, ⟨rfl, f26⟩, hne, ⟨trivial, trivial, hLa.says⟩, hd1, hq1, hgB, hq2, hgC, ⟨trivial, trivial, hLb.says⟩, ⟨rfl, f65⟩, ⟨rfl, f84⟩, ⟨rfl, f85⟩, ⟨rfl, f65⟩, ⟨rfl, f88⟩, ⟨rfl, f91⟩, hk1, hps, htn, hsl, ⟨rfl, f85c⟩, hk, hkk, ⟨rfl, f85s⟩, he, ⟨trivial, trivial, hLc.says⟩, rfl⟩
            · rw [hx] at f85s
              have hrb : Nat.ble rs.length lim = true := Nat.ble_eq_true_of_le (Nat.le_trans (okTb_at (tbl_ok r0)).1 (by unfold lim; omega))
              have f84s : prtG [slA stepC 3 rs] = some (prtT rs) := by
                have := sp1_at (A := stepsC) (F := fun l => bif Nat.ble l.length lim then some (prtT l) else none) rs
                rw [hrb] at this; exact this
              have hr0 : (tblM rs != 0) = false := by rw [r0]; rfl
              unfold prtT at f84s
              rw [hr0, cond_false, ← hs] at f84s
              have hss : (!(s.toList == s.toList)) = false := by simp
              exact (Z8_ok m).tr (t15y m s (l.map p2C.enc) (T.map stepC.enc) (atR l (midI l)).1 (atR l (midI l)).2 ((rankR (ltI l) l.length l.length).map natA) ((partsB 10 (bA (allL T))).map strC.enc) A B (l.length - 1) ((l.length - 1) / 2) (l.length / 2) (T.length + 1) (allL T2 ++ bodyL v).length T2.length (bA (allL T)) (bA (allL T2 ++ bodyL v)) 0 (rs.map stepC.enc)) ⟨⟨rfl, f16⟩, hA, ⟨rfl, f76⟩, ⟨rfl, f62⟩, ⟨rfl, f68⟩, h4, ⟨rfl, f74⟩, ⟨rfl, f73⟩, ⟨rfl, f74⟩, ⟨rfl, f75⟩, ⟨rfl, f26⟩, hne, ⟨trivial, trivial, hLa.says⟩, hd1, hq1, hgB, hq2, hgC, ⟨trivial, trivial, hLb.says⟩, ⟨rfl, f65⟩, ⟨rfl, f84⟩, ⟨rfl, f85⟩, ⟨rfl, f65⟩, ⟨rfl, f88⟩, ⟨rfl, f91⟩, hk1, hps, htn, hsl, ⟨rfl, f85c⟩, hk, hkk, ⟨rfl, f85s⟩, rfl, ⟨rfl, f84s⟩, hss, ⟨trivial, trivial, hLc.says⟩, rfl⟩
  · have hA : decide (Int.ofNat (l.map p2C.enc).length > 15) = true := by rw [e]; simp only [gt_iff_lt, decide_eq_true_eq, Int.ofNat_eq_natCast]; omega
    exact (Z8_ok m).tr (t15a m s (l.map p2C.enc) (T.map stepC.enc)) ⟨⟨rfl, f16⟩, hA, ⟨rfl, f16⟩, rfl⟩
end Go.Vm.S6
