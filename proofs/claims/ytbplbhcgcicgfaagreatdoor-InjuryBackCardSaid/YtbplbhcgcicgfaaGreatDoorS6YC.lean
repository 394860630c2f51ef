/- Strings: the printed table. -/
import Derived.Test.YtbplbhcgcicgfaaGreatDoorS6Y6
namespace Go.Vm.S6
open Go.Proofs Go.RowKit Go.Lib
theorem srchNo {α τ : Type} {f : Nat → α → Option τ} : ∀ {l : List α} {i : Nat}, srch f i l = none → ∀ k x, l[k]? = some x → f (i + k) x = none
  | [], _, _, k, x, hx => by simp at hx
  | y :: r, i, h, k, x, hx => by
    unfold srch at h
    split at h
    · cases h
    · rename_i hf
      cases k with
      | zero => simp only [List.getElem?_cons_zero, Option.some.injEq] at hx; subst hx; exact hf
      | succ k =>
        have := srchNo h k x (by simpa using hx)
        rw [show i + (k + 1) = i + 1 + k by omega]; exact this
theorem tblAt {l : List St3} (h : tblM l = 0) (i : Nat) (x : St3) (hx : l[i]? = some x) : stErr x = 0 ∧ ∀ p, 1 ≤ i → l[i - 1]? = some p → p.2.2 ≤ x.2.2 := by
  unfold tblM at h
  cases hm : manyI (Int.ofNat l.length) 16 != 0 with
  | true => rw [hm, cond_true] at h; rw [h] at hm; cases hm
  | false =>
    rw [hm, cond_false] at h
    have hn : srch (tblF l) 0 l = none := by
      cases hs : srch (tblF l) 0 l with
      | none => rfl
      | some t =>
        exfalso
        rw [hs] at h
        have h : t = 0 := h
        subst h
        -- no answer of the search is 0
        have key : ∀ (r : List St3) (j : Nat), srch (tblF l) j r ≠ some 0 := by
          intro r
          induction r with
          | nil => intro j; simp [srch]
          | cons y r ih =>
            intro j
            unfold srch
            cases hf : tblF l j y with
            | none => exact ih (j + 1)
            | some t =>
              intro ht
              simp only [Option.some.injEq] at ht
              subst ht
              unfold tblF at hf
              cases he : stErr y != 0 with
              | true =>
                rw [he, cond_true] at hf
                simp only [Option.some.injEq] at hf
                rw [hf] at he; cases he
              | false =>
                rw [he, cond_false] at hf
                cases j with
                | zero => cases hf
                | succ j =>
                  dsimp only at hf
                  cases hp : l[j]? with
                  | none => rw [hp] at hf; cases hf
                  | some p =>
                    rw [hp] at hf
                    dsimp only at hf
                    cases hb : badS p y with
                    | true => rw [hb, cond_true] at hf; simp at hf
                    | false => rw [hb] at hf; cases hf
        exact key l 0 hs
    have := srchNo hn i x hx
    rw [Nat.zero_add] at this
    unfold tblF at this
    cases he : stErr x != 0 with
    | true => rw [he, cond_true] at this; cases this
    | false =>
      rw [he, cond_false] at this
      refine ⟨by simpa using he, fun p hi hp => ?_⟩
      cases i with
      | zero => omega
      | succ j =>
        rw [Nat.add_sub_cancel] at hp
        dsimp only at this
        rw [hp] at this
        dsimp only at this
        cases hb : badS p x with
        | true => rw [hb, cond_true] at this; cases this
        | false =>
          unfold badS at hb
          rw [Bool.or_eq_false_iff] at hb
          have := of_decide_eq_false hb.2
          omega
theorem tbl_ok {l : List St3} (h : tblM l = 0) : okTb l = true := by
  unfold okTb
  rw [Bool.and_eq_true, List.all_eq_true]
  constructor
  · refine Nat.ble_eq_true_of_le ?_
    unfold tblM at h
    cases hm : manyI (Int.ofNat l.length) 16 != 0 with
    | true => rw [hm, cond_true] at h; rw [h] at hm; cases hm
    | false =>
      have h0 : manyI (Int.ofNat l.length) 16 = 0 := by simpa using hm
      unfold manyI at h0
      rw [firstZ, firstZ] at h0
      have := whenZ (by decide) h0.2.1
      simp only [decide_eq_false_iff_not, Int.ofNat_eq_natCast] at this
      omega
  · intro v hv
    obtain ⟨i, hi⟩ := List.mem_iff_getElem?.1 hv
    have h1 := (tblAt h i v hi).1
    unfold stErr at h1
    rw [firstZ, firstZ, within_zero] at h1
    obtain ⟨h2, h3, _⟩ := h1
    obtain ⟨h4, h5⟩ := ratC h2
    have h4 : 0 ≤ v.1 ∧ v.1 ≤ 5000000000000 := h4
    have h5 : 0 ≤ v.2.1 ∧ v.2.1 ≤ 1000000 := h5
    unfold okSt
    simp only [Bool.and_eq_true, decide_eq_true_eq]
    omega
/-! ### The lines -/
def lnA (l : List St3) : List AV := l.map fun v => strA (bA (lineL v))
theorem lnA_cl (l : List St3) : ClosedL (lnA l) := ClosedL.map fun _ => rfl
def st149 (l : List St3) (i : Nat) : List St3 → St
  | [] => mkSt [1, 5, 8, 9, 10] [] 22 (mapIn (fnV 150) nilS 3 (l.map stepC.enc) l.length i) []
  | a :: r => mkSt [1, 5, 8, 9, 10] [19] 22 (mapIn (fnV 150) (.sl 19 0 1 0 (lnA (a :: r)).length) 3 (l.map stepC.enc) l.length i) [(false, .arr 1 (lnA (a :: r)) false)]
theorem exit149 (l : List St3) : ∀ t : List St3, Says (CS Z1) 0 22 false (loopOf (CS Z1) 149 0) (st149 l l.length t) (.exit 0) (blSt 19 1 [5] 22 (fun a => [a]) (lnA t))
  | [] => Z1_ok.rndX (r149x (l.map stepC.enc) l.length l.length) ⟨lt_self _, trivial, rfl⟩
  | a :: t => Z1_ok.rndX (r149y (l.map stepC.enc) (lnA (a :: t)) l.length l.length (lnA (a :: t)).length) ⟨lt_self _, ⟨lnA_cl _, trivial⟩, rfl⟩
def linG : List AV → Option AV := sp2 stepsC (fnC 150) fun l _ => bif okTb l then some (.rsl 1 (lnA l) false) else none
theorem h149 : Holds 149 linG := holds2 fun l _ r hr => by
  cases hb : okTb l with
  | false => simp [hb] at hr
  | true =>
    simp only [hb, cond_true, Option.some.injEq] at hr; subst hr
    obtain ⟨hn, hv⟩ := okTb_at hb
    have hl : l.length < two63 := by have : (1000 : Nat) < two63 := by decide
                                     omega
    have e := e_len' stepC l
    have h := LoopRun.idx (C := CS Z1) (p := 0) (nt := 22) (rd := false) (c := loopOf (CS Z1) 149 0) (fun i => st149 l i (l.take i)) (.exit 0) (mkSt [5] [] 22 [.rsl 1 (lnA l) false] []) l (by simp)
      (fun i v hx => by
        have hi := lt_len hx
        have hok := hv v (List.mem_of_getElem? hx)
        have hg : (l.map stepC.enc)[i]? = some (AV.agg [.v (.int .i64 v.1), .v (.int .i64 v.2.1), .v (.int .i64 v.2.2)]) := get_map stepC.enc hx
        have hs := spLine hok
        have hlen : (l.take i).length ≤ 1000 := by rw [List.length_take]; omega
        rw [takeS hx]
        generalize l.take i = t at hlen ⊢
        cases t with
        | nil =>
          have hr := r149a (l.map stepC.enc) l.length i v.1 v.2.1 v.2.2 (bA (lineL v))
          rw [wrap_ix hi hl] at hr
          exact Z1_ok.rndN hr ⟨lt_of hi, hg, ⟨rfl, hs⟩, ⟨lnA_cl [v], trivial⟩, rfl⟩
        | cons a t =>
          have hr := r149b (l.map stepC.enc) (lnA (a :: t)) l.length i (lnA (a :: t)).length v.1 v.2.1 v.2.2 (bA (lineL v))
          have hap : lnA (a :: t) ++ [AV.v (.string (bA (lineL v)))] = lnA ((a :: t) ++ [v]) := by unfold lnA; rw [List.map_append]; rfl
          rw [wrap_ix hi hl, hap] at hr
          have h2 : (lnA ((a :: t) ++ [v])).length ≤ 1001 := by unfold lnA; rw [List.length_map, List.length_append]; simp only [List.length_cons, List.length_nil] at hlen ⊢; omega
          exact Z1_ok.rndN hr ⟨lt_of hi, hg, ⟨rfl, hs⟩, ⟨rfl, rfl, rfl, by omega, by omega, by decide⟩, ⟨lnA_cl _, trivial⟩, rfl⟩)
      (by
        rw [List.take_length]
        exact Says.blEnd (key := 19) (exit149 l l) (lnA_cl l))
    refine Z1_ok.tr (t149 (l.map stepC.enc) (lnA l)) ⟨⟨trivial, trivial, ?_⟩, rfl⟩
    rw [List.length_map]
    exact h.says
/-! ### The newline at the end -/
theorem str_head (S : Specs) {s : ByteArray} {j : Nat} (h2 : j ≤ s.size) : aslice (CS S) Tr.leaf 9 (AV.v (.string s)) none (some (AV.v (.int .i64 (Int.ofNat j)))) none = some (AV.v (.string (s.extract 0 j))) := by
  have e : aslice (CS S) Tr.leaf 9 (AV.v (.string s)) none (some (AV.v (.int .i64 (Int.ofNat j)))) none = (pureRun Tryz.prog (Instr.slice 9 (.string s) none (some (.int .i64 (Int.ofNat j))) none)).bind fun r => bif Value.single r then some (.v r) else none := by kernel_rfl
  rw [e]
  unfold Instr.slice Instr.sliceBounds
  simp only [pureRun_bind, pureRun_pure, Option.bind_some, pureRun_underlying Tryz.underlying9, pure_bound h2, Option.isSome_none, Bool.false_eq_true, if_false]
  rfl
def cutT (s : ByteArray) : AV := bif sufM s then .tup [strA (s.extract 0 (s.size - 1)), boolA true] else .tup [strA s, boolA false]
def cutG : List AV → Option AV := sp2 strC nlC fun s _ => bif Nat.ble s.size 100000 then some (cutT s) else none
theorem spSuf {s : ByteArray} (h : Nat.ble s.size 100000 = true) : sufG [strA s, strA nlB] = some (boolA (sufM s)) := by
  have := sp2_at (A := strC) (B := nlC) (F := fun s _ => bif Nat.ble s.size 100000 then some (boolA (sufM s)) else none) s ()
  rw [h] at this; exact this
theorem h174 : Holds 174 cutG := holds2 fun s _ r hr => by
  cases hb : Nat.ble s.size 100000 with
  | false => simp [hb] at hr
  | true =>
    simp only [hb, cond_true, Option.some.injEq] at hr; subst hr
    have hs := Nat.le_of_ble_eq_true hb
    have h1 := spSuf hb
    unfold cutT
    cases hq : sufM s with
    | false => rw [hq] at h1; exact Z1_ok.tr (t174n s) ⟨⟨rfl, h1⟩, rfl⟩
    | true =>
      have hge : 1 ≤ s.size := by
        unfold sufM at hq
        rw [Bool.and_eq_true, decide_eq_true_eq] at hq
        have := hq.1
        simp only [Int.ofNat_eq_natCast, ge_iff_le] at this; omega
      rw [hq] at h1
      refine Z1_ok.tr (t174y s (s.extract 0 (s.size - 1)) (s.size - 1)) ⟨⟨rfl, h1⟩, ?_, str_head Z1 (by omega), rfl⟩
      show some (AV.v (.int .i64 (IntKind.i64.wrap (Int.ofNat s.size - 1)))) = _
      rw [show Int.ofNat s.size - 1 = Int.ofNat (s.size - 1) by simp only [Int.ofNat_eq_natCast]; omega, wrapN _ (by unfold two63; omega)]
def Z2 : Specs := (((Z1.set 149 linG).set 88 samG).set 174 cutG)
theorem Z2_ok : Ok Z2 := (((Z1_ok.set h149).set h88).set h174)
end Go.Vm.S6

namespace Go.Vm.S6
open Go.Proofs Go.RowKit
set_option maxRecDepth 100000 in
theorem t152 (s t : ByteArray) (b : Bool) : evTreeD (CS Z2) 60 152 [strA s, strA nlB] [.sp [strA s, strA nlB] (.tup [strA t, boolA b])] =
    (.need (asks (CS Z2) 174 [.v (.string s), .v (.string nlB)] (AV.tup [.v (.string t), .v (.bool b)])) (.done (some (.tup [.v (.string t), .v (.bool b)])))) := by kernel_rfl
set_option maxRecDepth 100000 in
theorem t84x (es : List AV) (e : Int) : evTreeD (CS Z2) 60 84 [.rsl 3 es false] [.sp [.rsl 3 es false] (intA e), .as 8 true] =
    (.need (asks (CS Z2) 141 [.rsl 3 es false] (AV.v (.int .i64 e))) (.need ((e != 0) = true) (.done (some (.tup [.v (.string (ByteArray.mk #[])), .v (.int .i64 e)]))))) := by kernel_rfl
set_option maxRecDepth 100000 in
theorem t84 (es rs : List AV) (e : Int) (r : ByteArray) : evTreeD (CS Z2) 60 84 [.rsl 3 es false] [.sp [.rsl 3 es false] (intA e), .as 8 false, .sp [.rsl 3 es false, fnV 150] (.rsl 1 rs false), .sp [.rsl 1 rs false, strA ⟨#[]⟩] (strA r)] =
    (.need (asks (CS Z2) 141 [.rsl 3 es false] (AV.v (.int .i64 e))) (.need ((e != 0) = false) (.need (asks (CS Z2) 149 [.rsl 3 es false, .fn (Fn.func 150) [] []] (AV.rsl 1 rs false)) (.need (asks (CS Z2) 148 [.rsl 1 rs false, .v (.string (ByteArray.mk #[]))] (AV.v (.string r))) (.done (some (.tup [.v (.string r), .v (.int .i64 0)]))))))) := by kernel_rfl
open Go.Lib
theorem spCut {s : ByteArray} (h : Nat.ble s.size 100000 = true) : cutG [strA s, strA nlB] = some (cutT s) := by
  have := sp2_at (A := strC) (B := nlC) (F := fun s _ => bif Nat.ble s.size 100000 then some (cutT s) else none) s ()
  rw [h] at this; exact this
theorem h152 : Holds 152 cutG := holds2 fun s _ r hr => by
  cases hb : Nat.ble s.size 100000 with
  | false => simp [hb] at hr
  | true =>
    simp only [hb, cond_true, Option.some.injEq] at hr; subst hr
    have h1 := spCut hb
    unfold cutT at h1 ⊢
    cases hq : sufM s with
    | false => rw [hq] at h1; exact Z2_ok.tr (t152 s s false) ⟨⟨rfl, h1⟩, rfl⟩
    | true => rw [hq] at h1; exact Z2_ok.tr (t152 s (s.extract 0 (s.size - 1)) true) ⟨⟨rfl, h1⟩, rfl⟩
theorem join_empty : ∀ xs : List (List UInt8), Lib.join xs [] = xs.flatten
  | [] => rfl
  | [x] => by rw [Lib.join_one]; simp
  | x :: y :: r => by
    have ih := join_empty (y :: r)
    unfold Lib.join at ih ⊢
    rw [List.flatten_cons, ← ih]
    simp [List.intercalate, List.intersperse]
theorem spJoin {l : List St3} (h : okTb l = true) : joinG [.rsl 1 (lnA l) false, .v (.string (ByteArray.mk #[]))] = some (strA (bA (allL l))) := by
  obtain ⟨hn, hv⟩ := okTb_at h
  have hall := allL_len hv
  have e : lnA l = (l.map fun v => bA (lineL v)).map strC.enc := by unfold lnA; rw [List.map_map]; rfl
  have hj : Lib.join ((l.map fun v => bA (lineL v)).map (·.data.toList)) (ByteArray.mk #[]).data.toList = allL l := by
    show Lib.join _ [] = _
    rw [join_empty, List.map_map]
    unfold allL
    rw [List.flatMap_def]
    congr 1
  rw [e]
  have h1 := sp2_at (A := listC strC 1) (B := strC) (F := joinF) (l.map fun v => bA (lineL v)) (ByteArray.mk #[])
  refine h1.trans ?_
  unfold joinF
  rw [hj, Nat.ble_eq_true_of_le (show (allL l).length ≤ 140737488355328 by omega), Nat.ble_eq_true_of_le (show (l.map fun v => bA (lineL v)).length ≤ 140737488355328 by rw [List.length_map]; omega)]
  show some (strA (joined _ _)) = _
  unfold joined
  rw [hj]; rfl
def prtT (l : List St3) : AV := bif tblM l != 0 then .tup [.v (.string (ByteArray.mk #[])), intA (tblM l)] else .tup [strA (bA (allL l)), intA 0]
def prtG : List AV → Option AV := sp1 stepsC fun l => bif Nat.ble l.length lim then some (prtT l) else none
theorem h84 : Holds 84 prtG := holds1 fun l r hr => by
  cases hb : Nat.ble l.length lim with
  | false => simp [hb] at hr
  | true =>
    simp only [hb, cond_true, Option.some.injEq] at hr; subst hr
    have hs := specTbl hb
    unfold prtT
    cases hc : tblM l != 0 with
    | true => exact Z2_ok.tr (t84x (l.map stepC.enc) (tblM l)) ⟨⟨rfl, hs⟩, hc, rfl⟩
    | false =>
      have h0 : tblM l = 0 := by simpa using hc
      have hok := tbl_ok h0
      have h149' : linG [slA stepC 3 l, fnV 150] = some (.rsl 1 (lnA l) false) := by
        have := sp2_at (A := stepsC) (B := fnC 150) (F := fun l _ => bif okTb l then some (.rsl 1 (lnA l) false) else none) l ()
        rw [hok] at this; exact this
      exact Z2_ok.tr (t84 (l.map stepC.enc) (lnA l) (tblM l) (bA (allL l))) ⟨⟨rfl, hs⟩, hc, ⟨rfl, h149'⟩, ⟨rfl, spJoin hok⟩, rfl⟩
def Z3 : Specs := ((Z2.set 152 cutG).set 84 prtG)
theorem Z3_ok : Ok Z3 := ((Z2_ok.set h152).set h84)
end Go.Vm.S6
