/- Labs: tests as the program checks them; a lab as the reference checks it. -/
import Derived.Test.YtliikgffjphhjaaGreatDoorS3GH
namespace Go.Vm.S3
open Go.Proofs Go.RowKit
set_option maxRecDepth 100000
variable (ps fs cs ts : List AV) (d u : Int)
theorem r130r (ks vm : List AV) (p : Int) (n0 i : Nat) (a : ByteArray) (n : Int) (ws : List AV) (ts1 : List AV) (e1 e2 e : Int) : Lr Q7 130 41 0 [1, 2, 5, 14, 15, 16] [2] [1, 2, 5, 14, 15, 16] [2] [4] [] [.rmp ks vm, .ptr 2 0 0, iA p, .rsl 3 ts false, iA (Int.ofNat n0), iA (Int.ofNat i)] [lbX ps fs cs ts d u] [.as 17 true, .chk [.agg [sA a, iA n, .rsl 1 ws false]], .chk [], .sp [.agg [sA a, iA n, .rsl 1 ws false], .rsl 3 ts1 false, .rmp ks vm] (iA e1), .sp [bA (decide (n < p)), iA 11] (iA e2), .sp [.rsl 1 [iA e1, iA e2] true] (iA e), .as 36 true] [.t i n0, .g ts i, .k (0 ≤ i ∧ i ≤ ts.length), .q 195 [.agg [sA a, iA n, .rsl 1 ws false], .rsl 3 (List.take (i - 0) (List.drop 0 ts)) false, .rmp ks vm], .f 109, .f 108, .b (e != 0)] .ret [iA e] [] := kN (by kernel_rfl)
theorem r130n (ks vm : List AV) (p : Int) (n0 i : Nat) (a : ByteArray) (n : Int) (ws : List AV) (ts1 : List AV) (e1 e2 e : Int) : Lr Q7 130 41 0 [1, 2, 5, 14, 15, 16] [2] [1, 2, 5, 14, 15, 16] [2] [] [] [.rmp ks vm, .ptr 2 0 0, iA p, .rsl 3 ts false, iA (Int.ofNat n0), iA (Int.ofNat i)] [lbX ps fs cs ts d u] [.as 17 true, .chk [.agg [sA a, iA n, .rsl 1 ws false]], .chk [], .sp [.agg [sA a, iA n, .rsl 1 ws false], .rsl 3 ts1 false, .rmp ks vm] (iA e1), .sp [bA (decide (n < p)), iA 11] (iA e2), .sp [.rsl 1 [iA e1, iA e2] true] (iA e), .as 36 false] [.t i n0, .g ts i, .k (0 ≤ i ∧ i ≤ ts.length), .q 195 [.agg [sA a, iA n, .rsl 1 ws false], .rsl 3 (List.take (i - 0) (List.drop 0 ts)) false, .rmp ks vm], .f 109, .f 108, .b (e != 0)] .nrm [.rmp ks vm, .ptr 2 0 0, iA n, .rsl 3 ts false, iA (Int.ofNat n0), iA (IntKind.i64.wrap (Int.ofNat i + 1))] [lbX ps fs cs ts d u] := kN (by kernel_rfl)
theorem r130x (ks vm : List AV) (p : Int) (n0 i : Nat) : Lr Q7 130 41 0 [1, 2, 5, 14, 15, 16] [2] [1, 2, 5, 14, 15, 16] [2] [] [] [.rmp ks vm, .ptr 2 0 0, iA p, .rsl 3 ts false, iA (Int.ofNat n0), iA (Int.ofNat i)] [lbX ps fs cs ts d u] [.as 17 false] [.t i n0] (.exit 0) [] [] := kN (by kernel_rfl)
theorem t130l (ks vm : List AV) : L Q7 130 [lbE ps fs cs ts d u, .rmp ks vm] [.as 12 true] [.b (decide (Int.ofNat ts.length > 64))] (iA 5) := kR (by kernel_rfl)
theorem t130r (ks vm : List AV) (e : Int) : L Q7 130 [lbE ps fs cs ts d u, .rmp ks vm] [.as 12 false, .loop 0 [1, 2, 5, 14, 15, 16] [2] [4] [] .ret [iA e] []] [.b (decide (Int.ofNat ts.length > 64)), .l 41 130 0 41 [.rmp ks vm, .ptr 2 0 0, iA 0, .rsl 3 ts false, iA (Int.ofNat ts.length), iA 0] [lbX ps fs cs ts d u]] (iA e) := kR (by kernel_rfl)
theorem t130e (ks vm : List AV) : L Q7 130 [lbE ps fs cs ts d u, .rmp ks vm] [.as 12 false, .loop 0 [1, 2, 5, 14, 15, 16] [2] [] [] (.exit 0) [] []] [.b (decide (Int.ofNat ts.length > 64)), .l 41 130 0 41 [.rmp ks vm, .ptr 2 0 0, iA 0, .rsl 3 ts false, iA (Int.ofNat ts.length), iA 0] [lbX ps fs cs ts d u]] (iA 0) := kR (by kernel_rfl)
theorem t42 (e1 e2 e3 e4 e5 e6 e : Int) : L Q7 42 [lbE ps fs cs ts d u] [.sp [.rsl 7 ps false] (iA e1), .sp [lbE ps fs cs ts d u] (iA e2), .sp [lbE ps fs cs ts d u] (iA e3), .sp [lbE ps fs cs ts d u] (iA e4), .sp [iA d, iA 0, iA 1000] (iA e5), .sp [iA u, iA 1, iA 100] (iA e6), .sp [.rsl 1 [iA e1, iA e2, iA e3, iA e4, iA e5, iA e6] true] (iA e)] [.f 22, .f 124, .f 125, .f 126, .f 89, .f 89, .f 105] (iA e) := kR (by kernel_rfl)
def testsPG : List AV → Option AV := sp2 labC mapC fun x m => bif okLb x && decide (m = knows x.1) then some (iA (testsM x)) else none
theorem spTchk {ps : List Pt} {l : List Ts} {t : Ts} (h1 : Nat.ble l.length lim = true) (h2 : Nat.ble t.2.2.length lim = true) : tchkG [tsC.enc t, slA tsC 3 l, .rmp ((nms ps).map sA) (idxA ps.length)] = some (iA (firstM (tE l t ++ [wordsM ps t.2.2]))) := by
 have := sp3_at (A := tsC) (B := tssC) (D := mapC) (F := fun t l m => bif Nat.ble l.length lim && (Nat.ble t.2.2.length lim && decide (m.2 = idxI m.1.length)) then some (iA (tchkN m.1 l t)) else none) t l (knows ps)
 rw [mapC_enc, h1, h2, show decide ((knows ps).2 = idxI (knows ps).1.length) = true from decide_eq_true (by show idxI ps.length = idxI (List.map _ ps).length; rw [List.length_map])] at this
 simp only [Bool.and_self, cond_true] at this
 unfold tchkN at this
 rw [wordN_eq] at this
 exact this
theorem h130 : Holds 130 testsPG := holds2 fun x m r hr => by
  cases hb : okLb x && decide (m = knows x.1) with
  | false => simp [hb] at hr
  | true =>
    simp only [hb, cond_true, Option.some.injEq] at hr; subst hr
    rw [Bool.and_eq_true] at hb
    have hm : m = knows x.1 := of_decide_eq_true hb.2
    subst hm
    have K := okLb_at hb.1
    have hl := limTwo K.ts
    rw [mapC_enc]
    have h := LoopRun.find (C := CS Q7) (p := 0) (nt := 41) (rd := false) (c := lO (CS Q7) 130 0) (stpT x)
      (fun i => mkSt [1, 2, 5, 14, 15, 16] [2] 41 [.rmp ((nms x.1).map sA) (idxA x.1.length), .ptr 2 0 0, iA (prevD dayT x.2.2.2.1 i), .rsl 3 (x.2.2.2.1.map tsC.enc) false, iA (Int.ofNat (x.2.2.2.1.map tsC.enc).length), iA (Int.ofNat i)] [lbY x])
      (fun t => mkSt [4] [] 41 [iA t] []) (mkSt [] [] 41 [] []) (.exit 0) (fun _ => .ret) x.2.2.2.1 (by simp) (by simp)
      (fun i t ht => by
        have hi := lt_len ht
        have hlt : decide (Int.ofNat i < Int.ofNat (x.2.2.2.1.map tsC.enc).length) = true := by rw [e_ts]; exact lt_of hi
        have hg := get_map tsC.enc ht
        have q1 : (0 ≤ i ∧ i ≤ (x.2.2.2.1.map tsC.enc).length) := ⟨Nat.zero_le _, by rw [List.length_map]; omega⟩
        have q2 : ([tsC.enc t, .rsl 3 (List.take (i - 0) (List.drop 0 (x.2.2.2.1.map tsC.enc))) false, .rmp ((nms x.1).map sA) (idxA x.1.length)] : List AV) = [tsC.enc t, slA tsC 3 (x.2.2.2.1.take i), .rmp ((nms x.1).map sA) (idxA x.1.length)] := by rw [take_map]; rfl
        have q3 : tchkG ([tsC.enc t, .rsl 3 (List.take (i - 0) (List.drop 0 (x.2.2.2.1.map tsC.enc))) false, .rmp ((nms x.1).map sA) (idxA x.1.length)] : List AV) = some (iA (firstM (tE (x.2.2.2.1.take i) t ++ [wordsM x.1 t.2.2]))) := by
          rw [q2]; exact spTchk (Nat.ble_eq_true_of_le (by rw [List.length_take]; have := K.ts; omega)) (K.ws t (List.mem_of_getElem? ht))
        have fr : firstG [.rsl 1 [iA (firstM (tE (x.2.2.2.1.take i) t ++ [wordsM x.1 t.2.2])), iA (whenM (decide (t.2.1 < prevD dayT x.2.2.2.1 i)) 11)] true] = some (iA (testM x i t)) := by
          have e : testM x i t = firstM [firstM (tE (x.2.2.2.1.take i) t ++ [wordsM x.1 t.2.2]), whenM (decide (t.2.1 < prevD dayT x.2.2.2.1 i)) 11] := by
            unfold testM
            rw [show tE (x.2.2.2.1.take i) t ++ [wordsM x.1 t.2.2, whenM (decide (t.2.1 < prevD dayT x.2.2.2.1 i)) 11] = (tE (x.2.2.2.1.take i) t ++ [wordsM x.1 t.2.2]) ++ [whenM (decide (t.2.1 < prevD dayT x.2.2.2.1 i)) 11] by rw [List.append_assoc]; rfl]
            rw [firstM_snoc, firstM_step]
            congr 1
            rw [firstM_step]
            cases hq : whenM (decide (t.2.1 < prevD dayT x.2.2.2.1 i)) 11 != 0 with
            | true => rfl
            | false => have h0 : whenM (decide (t.2.1 < prevD dayT x.2.2.2.1 i)) 11 = 0 := by simpa using hq
                       rw [h0]; rfl
          rw [e]; rfl
        unfold stpT
        cases he : testM x i t != 0 with
        | true => exact Q7_ok.rndR ((lx x r130r) ((nms x.1).map sA) (idxA x.1.length) _ (x.2.2.2.1.map tsC.enc).length i t.1 t.2.1 (t.2.2.map strC.enc) ((x.2.2.2.1.take i).map tsC.enc) _ _ (testM x i t)) ⟨hlt, hg, q1, ⟨q2, q3⟩, ⟨rfl, spWhen _ 11⟩, ⟨rfl, fr⟩, he, trivial, rfl⟩
        | false =>
          have hr := (lx x r130n) ((nms x.1).map sA) (idxA x.1.length) (prevD dayT x.2.2.2.1 i) (x.2.2.2.1.map tsC.enc).length i t.1 t.2.1 (t.2.2.map strC.enc) ((x.2.2.2.1.take i).map tsC.enc) (firstM (tE (x.2.2.2.1.take i) t ++ [wordsM x.1 t.2.2])) (whenM (decide (t.2.1 < prevD dayT x.2.2.2.1 i)) 11) (testM x i t)
          rw [wrap_ix hi hl] at hr
          show Says (CS Q7) 0 41 false (lO (CS Q7) 130 0) _ .nrm (mkSt [1, 2, 5, 14, 15, 16] [2] 41 [_, _, iA (prevD dayT x.2.2.2.1 (i + 1)), _, _, _] [lbY x])
          rw [prevD_at (f := dayT) ht]
          exact Q7_ok.rndN hr ⟨hlt, hg, q1, ⟨q2, q3⟩, ⟨rfl, spWhen _ 11⟩, ⟨rfl, fr⟩, he, trivial, rfl⟩)
      (Q7_ok.rndX ((lx x r130x) ((nms x.1).map sA) (idxA x.1.length) (prevD dayT x.2.2.2.1 x.2.2.2.1.length) (x.2.2.2.1.map tsC.enc).length x.2.2.2.1.length) ⟨by rw [e_ts]; exact lt_self _, trivial, rfl⟩)
    unfold testsM srchE
    cases h64 : decide (Int.ofNat x.2.2.2.1.length > 64) with
    | true => exact Q7_ok.tr ((lx x t130l) _ _) ⟨by rw [e_ts]; exact h64, rfl⟩
    | false =>
      cases hq : srch (stpT x) 0 x.2.2.2.1 with
      | some t => rw [hq] at h; exact Q7_ok.tr ((lx x t130r) _ _ t) ⟨by rw [e_ts]; exact h64, ⟨trivial, trivial, h.says⟩, rfl⟩
      | none => rw [hq] at h; exact Q7_ok.tr ((lx x t130e) _ _) ⟨by rw [e_ts]; exact h64, ⟨trivial, trivial, h.says⟩, rfl⟩
def labM (x : Lb) : Int := firstM [partsM x.1, fitsM x, calsM x, testsM x, withinM x.2.2.2.2.1 0 1000, withinM x.2.2.2.2.2 1 100]
def labG : List AV → Option AV := sp1 labC fun x => bif okLb x then some (iA (labM x)) else none
theorem spFits {x : Lb} (h : okLb x = true) : fitsG [lbA x] = some (iA (fitsM x)) := by
 have := sp1_at (A := labC) (F := fun x => bif okLb x then some (iA (fitsM x)) else none) x
 rw [h] at this; exact this
theorem spCals {x : Lb} (h : okLb x = true) : calsG [lbA x] = some (iA (calsM x)) := by
 have := sp1_at (A := labC) (F := fun x => bif okLb x then some (iA (calsM x)) else none) x
 rw [h] at this; exact this
theorem spTests {x : Lb} (h : okLb x = true) : testsG [lbA x] = some (iA (testsM x)) := by
 have := sp1_at (A := labC) (F := fun x => bif okLb x then some (iA (testsM x)) else none) x
 rw [h] at this; exact this
theorem h42 : Holds 42 labG := holds1 fun x r hr => by
 cases hb : okLb x with
 | false => simp [hb] at hr
 | true =>
  simp only [hb, cond_true, Option.some.injEq] at hr; subst hr
  have K := okLb_at hb
  have fr : firstG [.rsl 1 [iA (partsM x.1), iA (fitsM x), iA (calsM x), iA (testsM x), iA (withinM x.2.2.2.2.1 0 1000), iA (withinM x.2.2.2.2.2 1 100)] true] = some (iA (labM x)) := rfl
  exact Q7_ok.tr ((lx x t42) _ _ _ _ _ _ (labM x)) ⟨⟨rfl, spParts K.ps⟩, ⟨rfl, spFits hb⟩, ⟨rfl, spCals hb⟩, ⟨rfl, spTests hb⟩, ⟨rfl, spWithin _ _ _⟩, ⟨rfl, spWithin _ _ _⟩, ⟨rfl, fr⟩, rfl⟩
def Q8 : Specs := ((Q7.set 130 testsPG).set 42 labG)
theorem Q8_ok : Ok Q8 := ((Q7_ok.set h130).set h42)
end Go.Vm.S3

namespace Go.Vm.S3
open Go.Proofs Go.RowKit
set_option maxRecDepth 100000
variable (ps fs cs ts : List AV) (d u : Int)
theorem t49p (e0 : Int) : L Q8 49 [lbE ps fs cs ts d u] [.sp [.rsl 7 ps false] (iA e0), .as 12 true] [.f 30, .b (e0 != 0)] (iA e0) := kR (by kernel_rfl)
theorem t49a (ks vm : List AV) (e0 e1 : Int) : L Q8 49 [lbE ps fs cs ts d u] [.sp [.rsl 7 ps false] (iA e0), .as 12 false, .sp [.rsl 7 ps false] (.rmp ks vm), .chk [.fn (.func 128) [lbE ps fs cs ts d u] []], .sp [lbE ps fs cs ts d u, .rmp ks vm] (iA e1), .as 33 true] [.f 30, .b (e0 != 0), .f 127, .k (([.fn (Fn.func 128) [lbE ps fs cs ts d u] [], .fn (Fn.func 129) [lbE ps fs cs ts d u] [], .fn (Fn.func 130) [lbE ps fs cs ts d u] []] : List AV)[0]? = (some (AV.fn (Fn.func 128) [lbE ps fs cs ts d u] []))), .f 128, .b (e1 != 0)] (iA e1) := kR (by kernel_rfl)
abbrev cQ9_12 (ps fs cs ts : List AV) (d u : Int) (ks vm : List AV) (e0 e1 e2 : Int) (h9 : List Hn) (a9 : List An) (r9 : AV) : Prop := L Q8 49 [lbE ps fs cs ts d u] ([.sp [.rsl 7 ps false] (iA e0), .as 12 false, .sp [.rsl 7 ps false] (.rmp ks vm), .chk [.fn (.func 128) [lbE ps fs cs ts d u] []], .sp [lbE ps fs cs ts d u, .rmp ks vm] (iA e1), .as 33 false, .chk [.fn (.func 129) [lbE ps fs cs ts d u] []], .sp [lbE ps fs cs ts d u, .rmp ks vm] (iA e2)] ++ h9) ([.f 30, .b (e0 != 0), .f 127, .k (([.fn (Fn.func 128) [lbE ps fs cs ts d u] [], .fn (Fn.func 129) [lbE ps fs cs ts d u] [], .fn (Fn.func 130) [lbE ps fs cs ts d u] []] : List AV)[0]? = (some (AV.fn (Fn.func 128) [lbE ps fs cs ts d u] []))), .f 128, .b (e1 != 0), .k (([.fn (Fn.func 128) [lbE ps fs cs ts d u] [], .fn (Fn.func 129) [lbE ps fs cs ts d u] [], .fn (Fn.func 130) [lbE ps fs cs ts d u] []] : List AV)[1]? = (some (AV.fn (Fn.func 129) [lbE ps fs cs ts d u] []))), .f 129] ++ a9) r9
theorem t49b (ks vm : List AV) (e0 e1 e2 : Int) : cQ9_12 ps fs cs ts d u ks vm e0 e1 e2 [.as 33 true] [.b (e2 != 0)] (iA e2) := kR (by kernel_rfl)
theorem t49c (ks vm : List AV) (e0 e1 e2 e3 : Int) : cQ9_12 ps fs cs ts d u ks vm e0 e1 e2 [.as 33 false, .chk [.fn (.func 130) [lbE ps fs cs ts d u] []], .sp [lbE ps fs cs ts d u, .rmp ks vm] (iA e3), .as 33 true] [.b (e2 != 0), .k (([.fn (Fn.func 128) [lbE ps fs cs ts d u] [], .fn (Fn.func 129) [lbE ps fs cs ts d u] [], .fn (Fn.func 130) [lbE ps fs cs ts d u] []] : List AV)[2]? = (some (AV.fn (Fn.func 130) [lbE ps fs cs ts d u] []))), .f 130, .b (e3 != 0)] (iA e3) := kR (by kernel_rfl)
theorem t49d (ks vm : List AV) (e0 e1 e2 e3 e4 e5 e : Int) : cQ9_12 ps fs cs ts d u ks vm e0 e1 e2 [.as 33 false, .chk [.fn (.func 130) [lbE ps fs cs ts d u] []], .sp [lbE ps fs cs ts d u, .rmp ks vm] (iA e3), .as 33 false, .sp [iA d, iA 0, iA 1000] (iA e4), .sp [iA u, iA 1, iA 100] (iA e5), .sp [.rsl 1 [iA e4, iA e5] true] (iA e)] [.b (e2 != 0), .k (([.fn (Fn.func 128) [lbE ps fs cs ts d u] [], .fn (Fn.func 129) [lbE ps fs cs ts d u] [], .fn (Fn.func 130) [lbE ps fs cs ts d u] []] : List AV)[2]? = (some (AV.fn (Fn.func 130) [lbE ps fs cs ts d u] []))), .f 130, .b (e3 != 0), .f 131, .f 131, .f 108] (iA e) := kR (by kernel_rfl)
theorem spFitsP {x : Lb} (h : okLb x = true) : fitsPG [lbA x, .rmp ((nms x.1).map sA) (idxA x.1.length)] = some (iA (fitsM x)) := by
 have := sp2_at (A := labC) (B := mapC) (F := fun x m => bif okLb x && decide (m = knows x.1) then some (iA (fitsM x)) else none) x (knows x.1)
 rw [mapC_enc, h, decide_eq_true rfl] at this; exact this
theorem spCalsP {x : Lb} (h : okLb x = true) (h0 : partsM x.1 = 0) : calsPG [lbA x, .rmp ((nms x.1).map sA) (idxA x.1.length)] = some (iA (calsM x)) := by
 have := sp2_at (A := labC) (B := mapC) (F := fun x m => bif okLb x && (decide (m = knows x.1) && decide (partsM x.1 = 0)) then some (iA (calsM x)) else none) x (knows x.1)
 rw [mapC_enc, h, decide_eq_true rfl, decide_eq_true h0] at this; exact this
theorem spTestsP {x : Lb} (h : okLb x = true) : testsPG [lbA x, .rmp ((nms x.1).map sA) (idxA x.1.length)] = some (iA (testsM x)) := by
 have := sp2_at (A := labC) (B := mapC) (F := fun x m => bif okLb x && decide (m = knows x.1) then some (iA (testsM x)) else none) x (knows x.1)
 rw [mapC_enc, h, decide_eq_true rfl] at this; exact this
theorem h49 : Holds 49 labG := holds1 fun x r hr => by
 cases hb : okLb x with
 | false => simp [hb] at hr
 | true =>
  simp only [hb, cond_true, Option.some.injEq] at hr; subst hr
  have K := okLb_at hb
  have e1 : labM x = bif partsM x.1 != 0 then partsM x.1 else bif fitsM x != 0 then fitsM x else bif calsM x != 0 then calsM x else bif testsM x != 0 then testsM x else firstM [withinM x.2.2.2.2.1 0 1000, withinM x.2.2.2.2.2 1 100] := rfl
  rw [e1]
  cases hp : partsM x.1 != 0 with
  | true => exact Q8_ok.tr ((lx x t49p) _) ⟨⟨rfl, spParts K.ps⟩, hp, rfl⟩
  | false =>
   have h0 : partsM x.1 = 0 := by simpa using hp
   cases hf : fitsM x != 0 with
   | true => exact Q8_ok.tr ((lx x t49a) _ _ (partsM x.1) _) ⟨⟨rfl, spParts K.ps⟩, hp, ⟨rfl, spBy h0⟩, rfl, ⟨rfl, spFitsP hb⟩, hf, rfl⟩
   | false =>
    cases hc : calsM x != 0 with
    | true => exact Q8_ok.tr ((lx x t49b) _ _ (partsM x.1) (fitsM x) _) ⟨⟨rfl, spParts K.ps⟩, hp, ⟨rfl, spBy h0⟩, rfl, ⟨rfl, spFitsP hb⟩, hf, rfl, ⟨rfl, spCalsP hb h0⟩, hc, rfl⟩
    | false =>
     cases ht : testsM x != 0 with
     | true => exact Q8_ok.tr ((lx x t49c) _ _ (partsM x.1) (fitsM x) (calsM x) _) ⟨⟨rfl, spParts K.ps⟩, hp, ⟨rfl, spBy h0⟩, rfl, ⟨rfl, spFitsP hb⟩, hf, rfl, ⟨rfl, spCalsP hb h0⟩, hc, rfl, ⟨rfl, spTestsP hb⟩, ht, rfl⟩
     | false =>
      have fr : firstG [.rsl 1 [iA (withinM x.2.2.2.2.1 0 1000), iA (withinM x.2.2.2.2.2 1 100)] true] = some (iA (firstM [withinM x.2.2.2.2.1 0 1000, withinM x.2.2.2.2.2 1 100])) := rfl
      exact Q8_ok.tr ((lx x t49d) _ _ (partsM x.1) (fitsM x) (calsM x) (testsM x) _ _ _) ⟨⟨rfl, spParts K.ps⟩, hp, ⟨rfl, spBy h0⟩, rfl, ⟨rfl, spFitsP hb⟩, hf, rfl, ⟨rfl, spCalsP hb h0⟩, hc, rfl, ⟨rfl, spTestsP hb⟩, ht, ⟨rfl, spWithin _ _ _⟩, ⟨rfl, spWithin _ _ _⟩, ⟨rfl, fr⟩, rfl⟩
def Q9 : Specs := (Q8.set 49 labG)
theorem Q9_ok : Ok Q9 := (Q8_ok.set h49)
end Go.Vm.S3

namespace Go.Vm.S3
open Go.Proofs Go.RowKit
set_option maxRecDepth 100000
theorem t121n  : L Q9 121 [.v (.slice none 0 0)] [] [] (.v (.slice none 0 0)) := kR (by kernel_rfl)
theorem t121e (a : Addr) (cap : Nat) : L Q9 121 [.v (.slice (some a) 0 cap)] [] [] (.rsl 3 [] true) := kR (by kernel_rfl)
theorem t121c (x : AV) (es : List AV) : L Q9 121 [.rsl 3 (x :: es) false] [.cl] [.k (CloP 3 3 40 (x :: es) (([] : List AV) ++ (x :: es)))] (.rsl 3 (([] : List AV) ++ (x :: es)) false) := kR (by kernel_rfl)
theorem t188n  : L Q9 188 [.v (.slice none 0 0)] [] [] (.v (.slice none 0 0)) := kR (by kernel_rfl)
theorem t188e (a : Addr) (cap : Nat) : L Q9 188 [.v (.slice (some a) 0 cap)] [] [] (.rsl 1 [] true) := kR (by kernel_rfl)
theorem t188c (x : AV) (es : List AV) : L Q9 188 [.rsl 1 (x :: es) false] [.cl] [.k (CloP 1 1 8 (x :: es) (([] : List AV) ++ (x :: es)))] (.rsl 1 (([] : List AV) ++ (x :: es)) false) := kR (by kernel_rfl)
theorem t189n  : L Q9 189 [.v (.slice none 0 0)] [] [] (.v (.slice none 0 0)) := kR (by kernel_rfl)
theorem t189e (a : Addr) (cap : Nat) : L Q9 189 [.v (.slice (some a) 0 cap)] [] [] (.rsl 2 [] true) := kR (by kernel_rfl)
theorem t189c (x : AV) (es : List AV) : L Q9 189 [.rsl 2 (x :: es) false] [.cl] [.k (CloP 2 2 16 (x :: es) (([] : List AV) ++ (x :: es)))] (.rsl 2 (([] : List AV) ++ (x :: es)) false) := kR (by kernel_rfl)
theorem t190n  : L Q9 190 [.v (.slice none 0 0)] [] [] (.v (.slice none 0 0)) := kR (by kernel_rfl)
theorem t190e (a : Addr) (cap : Nat) : L Q9 190 [.v (.slice (some a) 0 cap)] [] [] (.rsl 1 [] true) := kR (by kernel_rfl)
theorem t190c (x : AV) (es : List AV) : L Q9 190 [.rsl 1 (x :: es) false] [.cl] [.k (CloP 1 1 16 (x :: es) (([] : List AV) ++ (x :: es)))] (.rsl 1 (([] : List AV) ++ (x :: es)) false) := kR (by kernel_rfl)
theorem clone_nil {f : FuncId} {sz : Nat} (tn : Cmp f [.v (.slice none 0 0)] (.v (.slice none 0 0))) (te : ∀ a cap, Cmp f [.v (.slice (some a) 0 cap)] (.rsl sz [] true)) : Cmp f [.rsl sz [] false] (.rsl sz [] false) :=
 ⟨tn.1, fun M ys him hrep hglob => by
  simp only [RepL.cons_iff, RepL.nil_iff] at hrep
  obtain ⟨y, zs, hy0, hy, hzs⟩ := hrep
  subst hy0; subst hzs
  unfold Rep at hy
  obtain ⟨ao, cap, ys', rfl, hc, hl, hs, hrow, _⟩ := hy
  have hself : ∀ v : Value, RepL M.bare [.v v] [v] := fun v => by
   simp only [RepL.cons_iff, RepL.nil_iff]
   exact ⟨v, [], rfl, by unfold Rep; rfl, rfl⟩
  cases ao with
  | none =>
   have h0 : cap = 0 := by
    rcases hrow with ⟨b, o, h, _⟩ | h0
    ·cases h
    ·exact h0
   subst h0
   exact (tn.weak WeakL.rfl Weak.nilSl).2 M _ him (hself _) hglob
  | some a => exact ((te a cap).weak WeakL.rfl (Weak.rsl (fun h => by cases h) (.inr rfl) WeakL.rfl)).2 M _ him (hself _) hglob⟩
def cloneG {α : Type} (A : Cod α) (sz : Nat) : List AV → Option AV := sp1 (listC A sz) fun l => bif Nat.ble l.length lim then some (slA A sz l) else none
theorem clone_ok {α : Type} {A : Cod α} {f : FuncId} {sz bb : Nat} (hA : ∀ x, closed (A.enc x) = true) (hz : ∀ l : List α, allSz sz (l.map A.enc) = true) (hb : bb ≤ 1024 ∧ bb ≠ 0)
  (tn : Cmp f [.v (.slice none 0 0)] (.v (.slice none 0 0))) (te : ∀ a cap, Cmp f [.v (.slice (some a) 0 cap)] (.rsl sz [] true))
  (tc : ∀ x es, CloP sz sz bb (x :: es) (([] : List AV) ++ (x :: es)) → Cmp f [.rsl sz (x :: es) false] (.rsl sz (([] : List AV) ++ (x :: es)) false)) : Holds f (cloneG A sz) := holds1 fun l r hr => by
 cases hl : Nat.ble l.length lim with
 | false => simp [hl] at hr
 | true =>
  simp only [hl, cond_true, Option.some.injEq] at hr; subst hr
  have hlim := Nat.le_of_ble_eq_true hl
  cases l with
  | nil => exact clone_nil tn te
  | cons x l =>
   have hlen : (([] : List AV) ++ (x :: l).map A.enc).length = (x :: l).length := by simp
   have h := tc (A.enc x) (l.map A.enc) ⟨hz (x :: l), rfl, by
    show (([] : List AV) ++ (x :: l).map A.enc).length * bb ≤ _
    rw [hlen]; have := Nat.mul_le_mul hlim hb.1; unfold lim at this; omega, by
    show (([] : List AV) ++ (x :: l).map A.enc).length ≤ _
    rw [hlen]; unfold lim at hlim; omega, hb.2, ClosedL.map (f := A.enc) hA (l := x :: l)⟩
   exact h
theorem closedFtE (x : Ft) : closed (ftC.enc x) = true := rfl
theorem closedCbE (x : Cb) : closed (cbC.enc x) = true := rfl
theorem closedTsE (x : Ts) : closed (tsC.enc x) = true := rfl
theorem closedFt (l : List Ft) : ClosedL (l.map ftC.enc) := ClosedL.map closedFtE
theorem closedCb (l : List Cb) : ClosedL (l.map cbC.enc) := ClosedL.map closedCbE
theorem closedTs (l : List Ts) : ClosedL (l.map tsC.enc) := ClosedL.map closedTsE
theorem h121 : Holds 121 (cloneG ftC 3) := clone_ok (bb := 40) (fun _ => rfl) (fun l => allSz_map (f := ftC.enc) (fun _ => rfl) l) ⟨by decide, by decide⟩ (Q9_ok.tr t121n rfl) (fun a cap => Q9_ok.tr (t121e a cap) rfl) fun x es h => Q9_ok.tr (t121c x es) ⟨h, rfl⟩
theorem h188 : Holds 188 (cloneG intC 1) := clone_ok (bb := 8) (fun _ => rfl) (fun l => allSz_map (f := intC.enc) (fun _ => rfl) l) ⟨by decide, by decide⟩ (Q9_ok.tr t188n rfl) (fun a cap => Q9_ok.tr (t188e a cap) rfl) fun x es h => Q9_ok.tr (t188c x es) ⟨h, rfl⟩
theorem h189 : Holds 189 (cloneG ivC 2) := clone_ok (bb := 16) (fun _ => rfl) (fun l => allSz_map (f := ivC.enc) (fun _ => rfl) l) ⟨by decide, by decide⟩ (Q9_ok.tr t189n rfl) (fun a cap => Q9_ok.tr (t189e a cap) rfl) fun x es h => Q9_ok.tr (t189c x es) ⟨h, rfl⟩
theorem h190 : Holds 190 (cloneG strC 1) := clone_ok (bb := 16) (fun _ => rfl) (fun l => allSz_map (f := strC.enc) (fun _ => rfl) l) ⟨by decide, by decide⟩ (Q9_ok.tr t190n rfl) (fun a cap => Q9_ok.tr (t190e a cap) rfl) fun x es h => Q9_ok.tr (t190c x es) ⟨h, rfl⟩
theorem spClone {α : Type} {A : Cod α} {sz : Nat} {l : List α} (h : Nat.ble l.length lim = true) : cloneG A sz [slA A sz l] = some (slA A sz l) := by
 have := sp1_at (A := listC A sz) (F := fun l => bif Nat.ble l.length lim then some (slA A sz l) else none) l
 rw [h] at this; exact this
def Q10 : Specs := ((((Q9.set 121 (cloneG ftC 3)).set 188 (cloneG intC 1)).set 189 (cloneG ivC 2)).set 190 (cloneG strC 1))
theorem Q10_ok : Ok Q10 := ((((Q9_ok.set h121).set h188).set h189).set h190)
end Go.Vm.S3

namespace Go.Vm.S3
open Go.Proofs Go.RowKit
set_option maxRecDepth 100000
theorem t118 (a b c : ByteArray) (n : Int) (vs : List AV) : L Q10 118 [.agg [sA a, sA b, sA c, iA n, .rsl 1 vs false]] [.sp [.rsl 1 vs false] (.rsl 1 vs false)] [.f 188] (.agg [sA a, sA b, sA c, iA n, .rsl 1 vs false]) := kR (by kernel_rfl)
theorem t123 (a : ByteArray) (n : Int) (ws : List AV) : L Q10 123 [.agg [sA a, iA n, .rsl 1 ws false]] [.sp [.rsl 1 ws false] (.rsl 1 ws false)] [.f 190] (.agg [sA a, iA n, .rsl 1 ws false]) := kR (by kernel_rfl)
theorem t120 (a b : ByteArray) (m x y z : Int) (co : List AV) : L Q10 120 [.agg [sA a, sA b, iA m, iA x, iA y, iA z, .rsl 2 co false]] [.sp [.rsl 2 co false] (.rsl 2 co false)] [.f 189] (.agg [sA a, sA b, iA m, iA x, iA y, iA z, .rsl 2 co false]) := kR (by kernel_rfl)
def ownCG : List AV → Option AV := sp1 cbC fun c => bif Nat.ble c.2.2.2.2.length lim then some (cbA c) else none
def ownTG : List AV → Option AV := sp1 tsC fun t => bif Nat.ble t.2.2.length lim then some (tsA t) else none
def ownPtG : List AV → Option AV := sp1 ptC fun p => bif okPt p then some (ptA p) else none
theorem h118 : Holds 118 ownCG := holds1 fun c r hr => by
 cases hb : Nat.ble c.2.2.2.2.length lim with
 | false => simp [hb] at hr
 | true =>
  simp only [hb, cond_true, Option.some.injEq] at hr; subst hr
  exact Q10_ok.tr (t118 c.1 c.2.1 c.2.2.1 c.2.2.2.1 (c.2.2.2.2.map intC.enc)) ⟨⟨rfl, spClone (A := intC) (sz := 1) hb⟩, rfl⟩
theorem h123 : Holds 123 ownTG := holds1 fun t r hr => by
 cases hb : Nat.ble t.2.2.length lim with
 | false => simp [hb] at hr
 | true =>
  simp only [hb, cond_true, Option.some.injEq] at hr; subst hr
  exact Q10_ok.tr (t123 t.1 t.2.1 (t.2.2.map strC.enc)) ⟨⟨rfl, spClone (A := strC) (sz := 1) hb⟩, rfl⟩
theorem h120 : Holds 120 ownPtG := holds1 fun p r hr => by
 cases hb : okPt p with
 | false => simp [hb] at hr
 | true =>
  simp only [hb, cond_true, Option.some.injEq] at hr; subst hr
  exact Q10_ok.tr (t120 p.1 p.2.1 p.2.2.1 p.2.2.2.1 p.2.2.2.2.1 p.2.2.2.2.2.1 (p.co.map ivC.enc)) ⟨⟨rfl, spClone (A := ivC) (sz := 2) hb⟩, rfl⟩
def Q11 : Specs := (((Q10.set 118 ownCG).set 123 ownTG).set 120 ownPtG)
theorem Q11_ok : Ok Q11 := (((Q10_ok.set h118).set h123).set h120)
end Go.Vm.S3

namespace Go.Vm.S3
open Go.Proofs Go.RowKit
set_option maxRecDepth 100000
theorem r117a (es : List AV) (n i : Nat) (a b c : ByteArray) (n0 : Int) (us : List AV) : Lr Q11 117 22 0 [1, 5, 8, 9, 10] [] [1, 5, 8, 9, 10] [19] [5] [] [fnV 118, nilS, .rsl 5 es false, iA (Int.ofNat n), iA (Int.ofNat i)] [] [.as 11 true, .chk [.agg [sA a, sA b, sA c, iA n0, .rsl 1 us false]], .sp [.agg [sA a, sA b, sA c, iA n0, .rsl 1 us false]] (.agg [sA a, sA b, sA c, iA n0, .rsl 1 us false])] [.t i n, .g es i, .f 118] .nrm [.fn (Fn.func 118) [] [], .sl 19 0 5 0 1, .rsl 5 es false, iA (Int.ofNat n), iA (IntKind.i64.wrap (Int.ofNat i + 1))] [(false, .arr 5 [.agg [sA a, sA b, sA c, iA n0, .rsl 1 us false]] false)] := kN (by kernel_rfl)
theorem r117xa (es : List AV) (n i : Nat) : Lr Q11 117 22 0 [1, 5, 8, 9, 10] [] [1, 5, 8, 9, 10] [] [5] [] [fnV 118, nilS, .rsl 5 es false, iA (Int.ofNat n), iA (Int.ofNat i)] [] [.as 11 false] [.t i n] (.exit 0) [.v (.slice none 0 0)] [] := kN (by kernel_rfl)
theorem r117b (es : List AV) (n i : Nat) (rs : List AV) (k : Nat) (a b c : ByteArray) (n0 : Int) (us : List AV) : Lr Q11 117 22 0 [1, 5, 8, 9, 10] [19] [1, 5, 8, 9, 10] [19] [5] [19] [fnV 118, .sl 19 0 5 0 k, .rsl 5 es false, iA (Int.ofNat n), iA (Int.ofNat i)] [(false, .arr 5 rs false)] [.as 11 true, .chk [.agg [sA a, sA b, sA c, iA n0, .rsl 1 us false]], .sp [.agg [sA a, sA b, sA c, iA n0, .rsl 1 us false]] (.agg [sA a, sA b, sA c, iA n0, .rsl 1 us false]), .chk rs] [.t i n, .g es i, .f 118, .k (apn k rs 5 [.agg [sA a, sA b, sA c, iA n0, .rsl 1 us false]] 80)] .nrm [.fn (Fn.func 118) [] [], .sl 19 0 5 0 ((rs ++ ([.agg [sA a, sA b, sA c, iA n0, .rsl 1 us false]] : List AV)).length), .rsl 5 es false, iA (Int.ofNat n), iA (IntKind.i64.wrap (Int.ofNat i + 1))] [(false, .arr 5 (rs ++ ([.agg [sA a, sA b, sA c, iA n0, .rsl 1 us false]] : List AV)) false)] := kN (by kernel_rfl)
theorem r117xb (es : List AV) (n i : Nat) (rs : List AV) (k : Nat) : Lr Q11 117 22 0 [1, 5, 8, 9, 10] [19] [1, 5, 8, 9, 10] [19] [5] [19] [fnV 118, .sl 19 0 5 0 k, .rsl 5 es false, iA (Int.ofNat n), iA (Int.ofNat i)] [(false, .arr 5 rs false)] [.as 11 false] [.t i n] (.exit 0) [.sl 19 0 5 0 k] [(false, .arr 5 rs false)] := kN (by kernel_rfl)
theorem t117 (es rs : List AV) : L Q11 117 [.rsl 5 es false, fnV 118] [.loop 0 [1, 5, 8, 9, 10] [] [5] [] (.exit 0) [.rsl 5 rs false] []] [.l 22 117 0 22 [.fn (Fn.func 118) [] [], .v (.slice none 0 0), .rsl 5 es false, iA (Int.ofNat es.length), iA 0] []] (.rsl 5 rs false) := kR (by kernel_rfl)
theorem r119a (es : List AV) (n i : Nat) (a b : ByteArray) (m x y z : Int) (co : List AV) : Lr Q11 119 22 0 [1, 5, 8, 9, 10] [] [1, 5, 8, 9, 10] [19] [5] [] [fnV 120, nilS, .rsl 7 es false, iA (Int.ofNat n), iA (Int.ofNat i)] [] [.as 11 true, .chk [.agg [sA a, sA b, iA m, iA x, iA y, iA z, .rsl 2 co false]], .sp [.agg [sA a, sA b, iA m, iA x, iA y, iA z, .rsl 2 co false]] (.agg [sA a, sA b, iA m, iA x, iA y, iA z, .rsl 2 co false])] [.t i n, .g es i, .f 120] .nrm [.fn (Fn.func 120) [] [], .sl 19 0 7 0 1, .rsl 7 es false, iA (Int.ofNat n), iA (IntKind.i64.wrap (Int.ofNat i + 1))] [(false, .arr 7 [.agg [sA a, sA b, iA m, iA x, iA y, iA z, .rsl 2 co false]] false)] := kN (by kernel_rfl)
theorem r119xa (es : List AV) (n i : Nat) : Lr Q11 119 22 0 [1, 5, 8, 9, 10] [] [1, 5, 8, 9, 10] [] [5] [] [fnV 120, nilS, .rsl 7 es false, iA (Int.ofNat n), iA (Int.ofNat i)] [] [.as 11 false] [.t i n] (.exit 0) [.v (.slice none 0 0)] [] := kN (by kernel_rfl)
theorem r119b (es : List AV) (n i : Nat) (rs : List AV) (k : Nat) (a b : ByteArray) (m x y z : Int) (co : List AV) : Lr Q11 119 22 0 [1, 5, 8, 9, 10] [19] [1, 5, 8, 9, 10] [19] [5] [19] [fnV 120, .sl 19 0 7 0 k, .rsl 7 es false, iA (Int.ofNat n), iA (Int.ofNat i)] [(false, .arr 7 rs false)] [.as 11 true, .chk [.agg [sA a, sA b, iA m, iA x, iA y, iA z, .rsl 2 co false]], .sp [.agg [sA a, sA b, iA m, iA x, iA y, iA z, .rsl 2 co false]] (.agg [sA a, sA b, iA m, iA x, iA y, iA z, .rsl 2 co false]), .chk rs] [.t i n, .g es i, .f 120, .k (apn k rs 7 [.agg [sA a, sA b, iA m, iA x, iA y, iA z, .rsl 2 co false]] 88)] .nrm [.fn (Fn.func 120) [] [], .sl 19 0 7 0 ((rs ++ ([.agg [sA a, sA b, iA m, iA x, iA y, iA z, .rsl 2 co false]] : List AV)).length), .rsl 7 es false, iA (Int.ofNat n), iA (IntKind.i64.wrap (Int.ofNat i + 1))] [(false, .arr 7 (rs ++ ([.agg [sA a, sA b, iA m, iA x, iA y, iA z, .rsl 2 co false]] : List AV)) false)] := kN (by kernel_rfl)
theorem r119xb (es : List AV) (n i : Nat) (rs : List AV) (k : Nat) : Lr Q11 119 22 0 [1, 5, 8, 9, 10] [19] [1, 5, 8, 9, 10] [19] [5] [19] [fnV 120, .sl 19 0 7 0 k, .rsl 7 es false, iA (Int.ofNat n), iA (Int.ofNat i)] [(false, .arr 7 rs false)] [.as 11 false] [.t i n] (.exit 0) [.sl 19 0 7 0 k] [(false, .arr 7 rs false)] := kN (by kernel_rfl)
theorem t119 (es rs : List AV) : L Q11 119 [.rsl 7 es false, fnV 120] [.loop 0 [1, 5, 8, 9, 10] [] [5] [] (.exit 0) [.rsl 7 rs false] []] [.l 22 119 0 22 [.fn (Fn.func 120) [] [], .v (.slice none 0 0), .rsl 7 es false, iA (Int.ofNat es.length), iA 0] []] (.rsl 7 rs false) := kR (by kernel_rfl)
theorem r122a (es : List AV) (n i : Nat) (a : ByteArray) (n0 : Int) (us : List AV) : Lr Q11 122 22 0 [1, 5, 8, 9, 10] [] [1, 5, 8, 9, 10] [19] [5] [] [fnV 123, nilS, .rsl 3 es false, iA (Int.ofNat n), iA (Int.ofNat i)] [] [.as 11 true, .chk [.agg [sA a, iA n0, .rsl 1 us false]], .sp [.agg [sA a, iA n0, .rsl 1 us false]] (.agg [sA a, iA n0, .rsl 1 us false])] [.t i n, .g es i, .f 123] .nrm [.fn (Fn.func 123) [] [], .sl 19 0 3 0 1, .rsl 3 es false, iA (Int.ofNat n), iA (IntKind.i64.wrap (Int.ofNat i + 1))] [(false, .arr 3 [.agg [sA a, iA n0, .rsl 1 us false]] false)] := kN (by kernel_rfl)
theorem r122xa (es : List AV) (n i : Nat) : Lr Q11 122 22 0 [1, 5, 8, 9, 10] [] [1, 5, 8, 9, 10] [] [5] [] [fnV 123, nilS, .rsl 3 es false, iA (Int.ofNat n), iA (Int.ofNat i)] [] [.as 11 false] [.t i n] (.exit 0) [.v (.slice none 0 0)] [] := kN (by kernel_rfl)
theorem r122b (es : List AV) (n i : Nat) (rs : List AV) (k : Nat) (a : ByteArray) (n0 : Int) (us : List AV) : Lr Q11 122 22 0 [1, 5, 8, 9, 10] [19] [1, 5, 8, 9, 10] [19] [5] [19] [fnV 123, .sl 19 0 3 0 k, .rsl 3 es false, iA (Int.ofNat n), iA (Int.ofNat i)] [(false, .arr 3 rs false)] [.as 11 true, .chk [.agg [sA a, iA n0, .rsl 1 us false]], .sp [.agg [sA a, iA n0, .rsl 1 us false]] (.agg [sA a, iA n0, .rsl 1 us false]), .chk rs] [.t i n, .g es i, .f 123, .k (apn k rs 3 [.agg [sA a, iA n0, .rsl 1 us false]] 48)] .nrm [.fn (Fn.func 123) [] [], .sl 19 0 3 0 ((rs ++ ([.agg [sA a, iA n0, .rsl 1 us false]] : List AV)).length), .rsl 3 es false, iA (Int.ofNat n), iA (IntKind.i64.wrap (Int.ofNat i + 1))] [(false, .arr 3 (rs ++ ([.agg [sA a, iA n0, .rsl 1 us false]] : List AV)) false)] := kN (by kernel_rfl)
theorem r122xb (es : List AV) (n i : Nat) (rs : List AV) (k : Nat) : Lr Q11 122 22 0 [1, 5, 8, 9, 10] [19] [1, 5, 8, 9, 10] [19] [5] [19] [fnV 123, .sl 19 0 3 0 k, .rsl 3 es false, iA (Int.ofNat n), iA (Int.ofNat i)] [(false, .arr 3 rs false)] [.as 11 false] [.t i n] (.exit 0) [.sl 19 0 3 0 k] [(false, .arr 3 rs false)] := kN (by kernel_rfl)
theorem t122 (es rs : List AV) : L Q11 122 [.rsl 3 es false, fnV 123] [.loop 0 [1, 5, 8, 9, 10] [] [5] [] (.exit 0) [.rsl 3 rs false] []] [.l 22 122 0 22 [.fn (Fn.func 123) [] [], .v (.slice none 0 0), .rsl 3 es false, iA (Int.ofNat es.length), iA 0] []] (.rsl 3 rs false) := kR (by kernel_rfl)
theorem r87a (es : List AV) (n i : Nat) (a b : ByteArray) (m x y z : Int) (co : List AV) : Lr Q11 87 18 0 [3, 6, 7, 8] [] [3, 6, 7, 8] [15] [3] [] [nilS, .rsl 7 es false, iA (Int.ofNat n), iA (Int.ofNat i)] [] [.as 9 true, .chk [.agg [sA a, sA b, iA m, iA x, iA y, iA z, .rsl 2 co false]]] [.t i n, .g es i] .nrm [.sl 15 0 7 0 1, .rsl 7 es false, iA (Int.ofNat n), iA (IntKind.i64.wrap (Int.ofNat i + 1))] [(false, .arr 7 [.agg [sA a, sA b, iA m, iA x, iA y, iA z, .rsl 2 co false]] false)] := kN (by kernel_rfl)
theorem r87xa (es : List AV) (n i : Nat) : Lr Q11 87 18 0 [3, 6, 7, 8] [] [3, 6, 7, 8] [] [3] [] [nilS, .rsl 7 es false, iA (Int.ofNat n), iA (Int.ofNat i)] [] [.as 9 false] [.t i n] (.exit 0) [.v (.slice none 0 0)] [] := kN (by kernel_rfl)
theorem r87b (es : List AV) (n i : Nat) (rs : List AV) (k : Nat) (a b : ByteArray) (m x y z : Int) (co : List AV) : Lr Q11 87 18 0 [3, 6, 7, 8] [15] [3, 6, 7, 8] [15] [3] [15] [.sl 15 0 7 0 k, .rsl 7 es false, iA (Int.ofNat n), iA (Int.ofNat i)] [(false, .arr 7 rs false)] [.as 9 true, .chk [.agg [sA a, sA b, iA m, iA x, iA y, iA z, .rsl 2 co false]], .chk rs] [.t i n, .g es i, .k (apn k rs 7 [.agg [sA a, sA b, iA m, iA x, iA y, iA z, .rsl 2 co false]] 88)] .nrm [.sl 15 0 7 0 ((rs ++ ([.agg [sA a, sA b, iA m, iA x, iA y, iA z, .rsl 2 co false]] : List AV)).length), .rsl 7 es false, iA (Int.ofNat n), iA (IntKind.i64.wrap (Int.ofNat i + 1))] [(false, .arr 7 (rs ++ ([.agg [sA a, sA b, iA m, iA x, iA y, iA z, .rsl 2 co false]] : List AV)) false)] := kN (by kernel_rfl)
theorem r87xb (es : List AV) (n i : Nat) (rs : List AV) (k : Nat) : Lr Q11 87 18 0 [3, 6, 7, 8] [15] [3, 6, 7, 8] [15] [3] [15] [.sl 15 0 7 0 k, .rsl 7 es false, iA (Int.ofNat n), iA (Int.ofNat i)] [(false, .arr 7 rs false)] [.as 9 false] [.t i n] (.exit 0) [.sl 15 0 7 0 k] [(false, .arr 7 rs false)] := kN (by kernel_rfl)
theorem t87 (es rs : List AV) : L Q11 87 [.rsl 7 es false] [.loop 0 [3, 6, 7, 8] [] [3] [] (.exit 0) [.rsl 7 rs false] []] [.l 18 87 0 18 [.v (.slice none 0 0), .rsl 7 es false, iA (Int.ofNat es.length), iA 0] []] (.rsl 7 rs false) := kR (by kernel_rfl)
theorem spOwnC {c : Cb} (h : Nat.ble c.2.2.2.2.length lim = true) : ownCG [cbA c] = some (cbA c) := by
 have := sp1_at (A := cbC) (F := fun c => bif Nat.ble c.2.2.2.2.length lim then some (cbA c) else none) c
 rw [h] at this; exact this
theorem spOwnT {c : Ts} (h : Nat.ble c.2.2.length lim = true) : ownTG [tsA c] = some (tsA c) := by
 have := sp1_at (A := tsC) (F := fun t => bif Nat.ble t.2.2.length lim then some (tsA t) else none) c
 rw [h] at this; exact this
theorem spOwnPt {c : Pt} (h : okPt c = true) : ownPtG [ptA c] = some (ptA c) := by
 have := sp1_at (A := ptC) (F := fun p => bif okPt p then some (ptA p) else none) c
 rw [h] at this; exact this
def okC (c : Cb) : Bool := Nat.ble c.2.2.2.2.length lim
def okT (c : Ts) : Bool := Nat.ble c.2.2.length lim
def own117G : List AV → Option AV := sp2 (listC cbC 5) (fnC 118) fun l _ => bif Nat.ble l.length lim && l.all okC then some (slA cbC 5 l) else none
theorem h117 : Holds 117 own117G := holds2 fun l _ r hr => by
 cases hb : Nat.ble l.length lim && l.all okC with
 | false => simp [hb] at hr
 | true =>
  simp only [hb, cond_true, Option.some.injEq] at hr; subst hr
  rw [Bool.and_eq_true] at hb
  have hlim := Nat.le_of_ble_eq_true hb.1
  have hok := List.all_eq_true.1 hb.2
  have hl := limTwo hlim
  have e := e_cb l
  have h := LoopRun.builds (C := CS Q11) (nt := 22) (rd := false) (c := lO (CS Q11) 117 0) cbC.enc closedCb (fun x : Cb => x) 19 5 [1, 5, 8, 9, 10] 22 (fun i a => [fnV 118, a, .rsl 5 (l.map cbC.enc) false, iA (Int.ofNat l.length), iA (Int.ofNat i)]) l (.exit 0) 5 (by simp)
   (fun i x hx => by
    have hi := lt_len hx
    have hr := r117a (l.map cbC.enc) l.length i x.1 x.2.1 x.2.2.1 x.2.2.2.1 (x.2.2.2.2.map intC.enc)
    rw [wrap_ix hi hl] at hr
    exact Q11_ok.rndN hr ⟨lt_of hi, get_map _ hx, ⟨rfl, spOwnC (hok x (List.mem_of_getElem? hx))⟩, ⟨closedCb [x], trivial⟩, rfl⟩)
   (fun i x rs hx hrs => by
    have hi := lt_len hx
    have hr := r117b (l.map cbC.enc) l.length i (rs.map cbC.enc) (rs.map cbC.enc).length x.1 x.2.1 x.2.2.1 x.2.2.2.1 (x.2.2.2.2.map intC.enc)
    rw [wrap_ix hi hl] at hr
    have hlen : (rs.map cbC.enc ++ [cbC.enc x]).length ≤ 1000001 := by rw [List.length_append, List.length_map]; unfold lim at hlim; simp; omega
    exact Q11_ok.rndN hr ⟨lt_of hi, get_map _ hx, ⟨rfl, spOwnC (hok x (List.mem_of_getElem? hx))⟩, ⟨rfl, rfl, rfl, by show (rs.map cbC.enc ++ [cbC.enc x]).length * 80 ≤ _; omega, by show (rs.map cbC.enc ++ [cbC.enc x]).length ≤ _; omega, by decide⟩, ⟨(closedCb rs).append (closedCb [x]), trivial⟩, rfl⟩)
   (Q11_ok.rndX (r117xa (l.map cbC.enc) l.length l.length) ⟨lt_self _, trivial, rfl⟩)
   (fun rs => Q11_ok.rndX (r117xb (l.map cbC.enc) l.length l.length (rs.map cbC.enc) (rs.map cbC.enc).length) ⟨lt_self _, ⟨closedCb rs, trivial⟩, rfl⟩)
  rw [List.map_id', ← e] at h
  exact Q11_ok.tr (t117 (l.map cbC.enc) (l.map cbC.enc)) ⟨⟨trivial, trivial, h.says⟩, rfl⟩
def own119G : List AV → Option AV := sp2 (listC ptC 7) (fnC 120) fun l _ => bif Nat.ble l.length lim && l.all okPt then some (slA ptC 7 l) else none
theorem h119 : Holds 119 own119G := holds2 fun l _ r hr => by
 cases hb : Nat.ble l.length lim && l.all okPt with
 | false => simp [hb] at hr
 | true =>
  simp only [hb, cond_true, Option.some.injEq] at hr; subst hr
  rw [Bool.and_eq_true] at hb
  have hlim := Nat.le_of_ble_eq_true hb.1
  have hok := List.all_eq_true.1 hb.2
  have hl := limTwo hlim
  have e := e_pt l
  have h := LoopRun.builds (C := CS Q11) (nt := 22) (rd := false) (c := lO (CS Q11) 119 0) ptC.enc closedPt (fun x : Pt => x) 19 7 [1, 5, 8, 9, 10] 22 (fun i a => [fnV 120, a, .rsl 7 (l.map ptC.enc) false, iA (Int.ofNat l.length), iA (Int.ofNat i)]) l (.exit 0) 5 (by simp)
   (fun i x hx => by
    have hi := lt_len hx
    have hr := r119a (l.map ptC.enc) l.length i x.1 x.2.1 x.2.2.1 x.2.2.2.1 x.2.2.2.2.1 x.2.2.2.2.2.1 (x.co.map ivC.enc)
    rw [wrap_ix hi hl] at hr
    exact Q11_ok.rndN hr ⟨lt_of hi, get_map _ hx, ⟨rfl, spOwnPt (hok x (List.mem_of_getElem? hx))⟩, ⟨closedPt [x], trivial⟩, rfl⟩)
   (fun i x rs hx hrs => by
    have hi := lt_len hx
    have hr := r119b (l.map ptC.enc) l.length i (rs.map ptC.enc) (rs.map ptC.enc).length x.1 x.2.1 x.2.2.1 x.2.2.2.1 x.2.2.2.2.1 x.2.2.2.2.2.1 (x.co.map ivC.enc)
    rw [wrap_ix hi hl] at hr
    have hlen : (rs.map ptC.enc ++ [ptC.enc x]).length ≤ 1000001 := by rw [List.length_append, List.length_map]; unfold lim at hlim; simp; omega
    exact Q11_ok.rndN hr ⟨lt_of hi, get_map _ hx, ⟨rfl, spOwnPt (hok x (List.mem_of_getElem? hx))⟩, ⟨rfl, rfl, rfl, by show (rs.map ptC.enc ++ [ptC.enc x]).length * 88 ≤ _; omega, by show (rs.map ptC.enc ++ [ptC.enc x]).length ≤ _; omega, by decide⟩, ⟨(closedPt rs).append (closedPt [x]), trivial⟩, rfl⟩)
   (Q11_ok.rndX (r119xa (l.map ptC.enc) l.length l.length) ⟨lt_self _, trivial, rfl⟩)
   (fun rs => Q11_ok.rndX (r119xb (l.map ptC.enc) l.length l.length (rs.map ptC.enc) (rs.map ptC.enc).length) ⟨lt_self _, ⟨closedPt rs, trivial⟩, rfl⟩)
  rw [List.map_id', ← e] at h
  exact Q11_ok.tr (t119 (l.map ptC.enc) (l.map ptC.enc)) ⟨⟨trivial, trivial, h.says⟩, rfl⟩
def own122G : List AV → Option AV := sp2 (listC tsC 3) (fnC 123) fun l _ => bif Nat.ble l.length lim && l.all okT then some (slA tsC 3 l) else none
theorem h122 : Holds 122 own122G := holds2 fun l _ r hr => by
 cases hb : Nat.ble l.length lim && l.all okT with
 | false => simp [hb] at hr
 | true =>
  simp only [hb, cond_true, Option.some.injEq] at hr; subst hr
  rw [Bool.and_eq_true] at hb
  have hlim := Nat.le_of_ble_eq_true hb.1
  have hok := List.all_eq_true.1 hb.2
  have hl := limTwo hlim
  have e := e_ts l
  have h := LoopRun.builds (C := CS Q11) (nt := 22) (rd := false) (c := lO (CS Q11) 122 0) tsC.enc closedTs (fun x : Ts => x) 19 3 [1, 5, 8, 9, 10] 22 (fun i a => [fnV 123, a, .rsl 3 (l.map tsC.enc) false, iA (Int.ofNat l.length), iA (Int.ofNat i)]) l (.exit 0) 5 (by simp)
   (fun i x hx => by
    have hi := lt_len hx
    have hr := r122a (l.map tsC.enc) l.length i x.1 x.2.1 (x.2.2.map strC.enc)
    rw [wrap_ix hi hl] at hr
    exact Q11_ok.rndN hr ⟨lt_of hi, get_map _ hx, ⟨rfl, spOwnT (hok x (List.mem_of_getElem? hx))⟩, ⟨closedTs [x], trivial⟩, rfl⟩)
   (fun i x rs hx hrs => by
    have hi := lt_len hx
    have hr := r122b (l.map tsC.enc) l.length i (rs.map tsC.enc) (rs.map tsC.enc).length x.1 x.2.1 (x.2.2.map strC.enc)
    rw [wrap_ix hi hl] at hr
    have hlen : (rs.map tsC.enc ++ [tsC.enc x]).length ≤ 1000001 := by rw [List.length_append, List.length_map]; unfold lim at hlim; simp; omega
    exact Q11_ok.rndN hr ⟨lt_of hi, get_map _ hx, ⟨rfl, spOwnT (hok x (List.mem_of_getElem? hx))⟩, ⟨rfl, rfl, rfl, by show (rs.map tsC.enc ++ [tsC.enc x]).length * 48 ≤ _; omega, by show (rs.map tsC.enc ++ [tsC.enc x]).length ≤ _; omega, by decide⟩, ⟨(closedTs rs).append (closedTs [x]), trivial⟩, rfl⟩)
   (Q11_ok.rndX (r122xa (l.map tsC.enc) l.length l.length) ⟨lt_self _, trivial, rfl⟩)
   (fun rs => Q11_ok.rndX (r122xb (l.map tsC.enc) l.length l.length (rs.map tsC.enc) (rs.map tsC.enc).length) ⟨lt_self _, ⟨closedTs rs, trivial⟩, rfl⟩)
  rw [List.map_id', ← e] at h
  exact Q11_ok.tr (t122 (l.map tsC.enc) (l.map tsC.enc)) ⟨⟨trivial, trivial, h.says⟩, rfl⟩
def own87G : List AV → Option AV := sp1 (listC ptC 7) fun l => bif Nat.ble l.length lim && l.all okPt then some (slA ptC 7 l) else none
theorem h87 : Holds 87 own87G := holds1 fun l r hr => by
 cases hb : Nat.ble l.length lim && l.all okPt with
 | false => simp [hb] at hr
 | true =>
  simp only [hb, cond_true, Option.some.injEq] at hr; subst hr
  rw [Bool.and_eq_true] at hb
  have hlim := Nat.le_of_ble_eq_true hb.1
  have hl := limTwo hlim
  have e := e_pt l
  have h := LoopRun.builds (C := CS Q11) (nt := 18) (rd := false) (c := lO (CS Q11) 87 0) ptC.enc closedPt (fun x : Pt => x) 15 7 [3, 6, 7, 8] 18 (fun i a => [a, .rsl 7 (l.map ptC.enc) false, iA (Int.ofNat l.length), iA (Int.ofNat i)]) l (.exit 0) 3 (by simp)
   (fun i x hx => by
    have hi := lt_len hx
    have hr := r87a (l.map ptC.enc) l.length i x.1 x.2.1 x.2.2.1 x.2.2.2.1 x.2.2.2.2.1 x.2.2.2.2.2.1 (x.co.map ivC.enc)
    rw [wrap_ix hi hl] at hr
    exact Q11_ok.rndN hr ⟨lt_of hi, get_map _ hx, ⟨closedPt [x], trivial⟩, rfl⟩)
   (fun i x rs hx hrs => by
    have hi := lt_len hx
    have hr := r87b (l.map ptC.enc) l.length i (rs.map ptC.enc) (rs.map ptC.enc).length x.1 x.2.1 x.2.2.1 x.2.2.2.1 x.2.2.2.2.1 x.2.2.2.2.2.1 (x.co.map ivC.enc)
    rw [wrap_ix hi hl] at hr
    have hlen : (rs.map ptC.enc ++ [ptC.enc x]).length ≤ 1000001 := by rw [List.length_append, List.length_map]; unfold lim at hlim; simp; omega
    exact Q11_ok.rndN hr ⟨lt_of hi, get_map _ hx, ⟨rfl, rfl, rfl, by show (rs.map ptC.enc ++ [ptC.enc x]).length * 88 ≤ _; omega, by show (rs.map ptC.enc ++ [ptC.enc x]).length ≤ _; omega, by decide⟩, ⟨(closedPt rs).append (closedPt [x]), trivial⟩, rfl⟩)
   (Q11_ok.rndX (r87xa (l.map ptC.enc) l.length l.length) ⟨lt_self _, trivial, rfl⟩)
   (fun rs => Q11_ok.rndX (r87xb (l.map ptC.enc) l.length l.length (rs.map ptC.enc) (rs.map ptC.enc).length) ⟨lt_self _, ⟨closedPt rs, trivial⟩, rfl⟩)
  rw [List.map_id', ← e] at h
  exact Q11_ok.tr (t87 (l.map ptC.enc) (l.map ptC.enc)) ⟨⟨trivial, trivial, h.says⟩, rfl⟩
def Q12 : Specs := ((((Q11.set 117 own117G).set 119 own119G).set 122 own122G).set 87 own87G)
theorem Q12_ok : Ok Q12 := ((((Q11_ok.set h117).set h119).set h122).set h87)
end Go.Vm.S3
