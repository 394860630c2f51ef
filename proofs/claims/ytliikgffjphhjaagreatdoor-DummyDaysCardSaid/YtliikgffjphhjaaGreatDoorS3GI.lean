/- Labs: tests as the program checks them; a lab as the reference checks it. -/
import Derived.Test.YtliikgffjphhjaaGreatDoorS3GH
namespace Go.Vm.S3
open Go.Proofs Go.RowKit
set_option maxRecDepth 100000
variable (ps fs cs ts : List AV) (d u : Int)
theorem r130r (ks vm : List AV) (p : Int) (n0 i : Nat) (a : ByteArray) (n : Int) (ws : List AV) (ts1 : List AV) (e1 e2 e : Int) : Lr Q7 130 41 0 [1, 2, 5, 14, 15, 16] [2] [1, 2, 5, 14, 15, 16] [2] [4] [] [.rmp ks vm, .ptr 2 0 0, iA p, .rsl 3 ts false, iA (Int.ofNat n0), iA (Int.ofNat i)] [lbX ps fs cs ts d u] [.as 17 true, .chk [.agg [sA a, iA n, .rsl 1 ws false]], .chk [], .sp [.agg [sA a, iA n, .rsl 1 ws false], .rsl 3 ts1 false, .rmp ks vm] (iA e1), .sp [bA (decide (n < p)), iA 11] (iA e2), .sp [.rsl 1 [iA e1, iA e2] true] (iA e), .as 36 true] [.t i n0, .g ts i, .k (0 ≤ i ∧ i ≤ ts.length), .q 195 [.agg [sA a, iA n, .rsl 1 ws false], .rsl 3 (List.take (i - 0) (List.drop 0 ts)) false, .rmp ks vm], .f 109, .f 108, .b (e != 0)] .ret [iA e] [] := kn (by kernel_rfl)
theorem r130n (ks vm : List AV) (p : Int) (n0 i : Nat) (a : ByteArray) (n : Int) (ws : List AV) (ts1 : List AV) (e1 e2 e : Int) : Lr Q7 130 41 0 [1, 2, 5, 14, 15, 16] [2] [1, 2, 5, 14, 15, 16] [2] [] [] [.rmp ks vm, .ptr 2 0 0, iA p, .rsl 3 ts false, iA (Int.ofNat n0), iA (Int.ofNat i)] [lbX ps fs cs ts d u] [.as 17 true, .chk [.agg [sA a, iA n, .rsl 1 ws false]], .chk [], .sp [.agg [sA a, iA n, .rsl 1 ws false], .rsl 3 ts1 false, .rmp ks vm] (iA e1), .sp [bA (decide (n < p)), iA 11] (iA e2), .sp [.rsl 1 [iA e1, iA e2] true] (iA e), .as 36 false] [.t i n0, .g ts i, .k (0 ≤ i ∧ i ≤ ts.length), .q 195 [.agg [sA a, iA n, .rsl 1 ws false], .rsl 3 (List.take (i - 0) (List.drop 0 ts)) false, .rmp ks vm], .f 109, .f 108, .b (e != 0)] .nrm [.rmp ks vm, .ptr 2 0 0, iA n, .rsl 3 ts false, iA (Int.ofNat n0), iA (IntKind.i64.wrap (Int.ofNat i + 1))] [lbX ps fs cs ts d u] := kn (by kernel_rfl)
theorem r130x (ks vm : List AV) (p : Int) (n0 i : Nat) : Lr Q7 130 41 0 [1, 2, 5, 14, 15, 16] [2] [1, 2, 5, 14, 15, 16] [2] [] [] [.rmp ks vm, .ptr 2 0 0, iA p, .rsl 3 ts false, iA (Int.ofNat n0), iA (Int.ofNat i)] [lbX ps fs cs ts d u] [.as 17 false] [.t i n0] (.exit 0) [] [] := kn (by kernel_rfl)
theorem t130l (ks vm : List AV) : L Q7 130 [lbE ps fs cs ts d u, .rmp ks vm] [.as 12 true] [.b (decide (Int.ofNat ts.length > 64))] (iA 5) := kr (by kernel_rfl)
theorem t130r (ks vm : List AV) (e : Int) : L Q7 130 [lbE ps fs cs ts d u, .rmp ks vm] [.as 12 false, .loop 0 [1, 2, 5, 14, 15, 16] [2] [4] [] .ret [iA e] []] [.b (decide (Int.ofNat ts.length > 64)), .l 41 130 0 41 [.rmp ks vm, .ptr 2 0 0, iA 0, .rsl 3 ts false, iA (Int.ofNat ts.length), iA 0] [lbX ps fs cs ts d u]] (iA e) := kr (by kernel_rfl)
theorem t130e (ks vm : List AV) : L Q7 130 [lbE ps fs cs ts d u, .rmp ks vm] [.as 12 false, .loop 0 [1, 2, 5, 14, 15, 16] [2] [] [] (.exit 0) [] []] [.b (decide (Int.ofNat ts.length > 64)), .l 41 130 0 41 [.rmp ks vm, .ptr 2 0 0, iA 0, .rsl 3 ts false, iA (Int.ofNat ts.length), iA 0] [lbX ps fs cs ts d u]] (iA 0) := kr (by kernel_rfl)
theorem t42 (e1 e2 e3 e4 e5 e6 e : Int) : L Q7 42 [lbE ps fs cs ts d u] [.sp [.rsl 7 ps false] (iA e1), .sp [lbE ps fs cs ts d u] (iA e2), .sp [lbE ps fs cs ts d u] (iA e3), .sp [lbE ps fs cs ts d u] (iA e4), .sp [iA d, iA 0, iA 1000] (iA e5), .sp [iA u, iA 1, iA 100] (iA e6), .sp [.rsl 1 [iA e1, iA e2, iA e3, iA e4, iA e5, iA e6] true] (iA e)] [.f 22, .f 124, .f 125, .f 126, .f 89, .f 89, .f 105] (iA e) := kr (by kernel_rfl)
def testsPG : List AV → Option AV := sp2 labC mapC fun x m => bif okLb x && decide (m = knows x.1) then some (iA (testsM x)) else none
theorem spTchk {ps : List Pt} {l : List Ts} {t : Ts} (h1 : Nat.ble l.length lim = true) (h2 : Nat.ble t.2.2.length lim = true) : tchkG [tsC.enc t, slA tsC 3 l, .rmp ((nms ps).map sA) (idxA ps.length)] = some (iA (firstM (tE l t ++ [wordsM ps t.2.2]))) := by
 have := sp3_at (A := tsC) (B := tssC) (D := mapC) (F := fun t l m => bif Nat.ble l.length lim && (Nat.ble t.2.2.length lim && decide (m.2 = idxI m.1.length)) then some (iA (tchkN m.1 l t)) else none) t l (knows ps)
 rw [mapC_enc, h1, h2, show decide ((knows ps).2 = idxI (knows ps).1.length) = true from decide_eq_true (by show idxI ps.length = idxI (List.map _ ps).length; rw [List.length_map])] at this
 simp only [Bool.and_self, cond_true] at this
 unfold tchkN at this
 rw [wordN_eq] at this
 exact this
theorem h130 : Holds 130 testsPG := holds2 fun x m r hr => by
  cases hb : okLb x && decide (m = knows x.1) with
  | false => simp [hb] at hr
  | true =>
    simp only [hb, cond_true, Option.some.injEq] at hr; subst hr
    rw [Bool.and_eq_true] at hb
    have hm : m = knows x.1 := of_decide_eq_true hb.2
    subst hm
    have K := okLb_at hb.1
    have hl := limTwo K.ts
    rw [mapC_enc]
    have h := LoopRun.find (C := CS Q7) (p := 0) (nt := 41) (rd := false) (c := lO (CS Q7) 130 0) (stpT x)
      (fun i => mkSt [1, 2, 5, 14, 15, 16] [2] 41 [.rmp ((nms x.1).map sA) (idxA x.1.length), .ptr 2 0 0, iA (prevD dayT x.2.2.2.1 i), .rsl 3 (x.2.2.2.1.map tsC.enc) false, iA (Int.ofNat (x.2.2.2.1.map tsC.enc).length), iA (Int.ofNat i)] [lbY x])
      (fun t => mkSt [4] [] 41 [iA t] []) (mkSt [] [] 41 [] []) (.exit 0) (fun _ => .ret) x.2.2.2.1 (by simp) (by simp)
      (fun i t ht => by
        have hi := lt_len ht
        have hlt : decide (Int.ofNat i < Int.ofNat (x.2.2.2.1.map tsC.enc).length) = true := by rw [e_ts]; exact lt_of hi
        have hg := get_map tsC.enc ht
        have q1 : (0 ≤ i ∧ i ≤ (x.2.2.2.1.map tsC.enc).length) := ⟨Nat.zero_le _, by rw [List.length_map]; omega⟩
        have q2 : ([tsC.enc t, .rsl 3 (List.take (i - 0) (List.drop 0 (x.2.2.2.1.map tsC.enc))) false, .rmp ((nms x.1).map sA) (idxA x.1.length)] : List AV) = [tsC.enc t, slA tsC 3 (x.2.2.2.1.take i), .rmp ((nms x.1).map sA) (idxA x.1.length)] := by rw [take_map]; rfl
        have q3 : tchkG ([tsC.enc t, .rsl 3 (List.take (i - 0) (List.drop 0 (x.2.2.2.1.map tsC.enc))) false, .rmp ((nms x.1).map sA) (idxA x.1.length)] : List AV) = some (iA (firstM (tE (x.2.2.2.1.take i) t ++ [wordsM x.1 t.2.2]))) := by
          rw [q2]; exact spTchk (Nat.ble_eq_true_of_le (by rw [List.length_take]; have := K.ts; omega)) (K.ws t (List.mem_of_getElem? ht))
        have fr : firstG [.rsl 1 [iA (firstM (tE (x.2.2.2.1.take i) t ++ [wordsM x.1 t.2.2])), iA (whenM (decide (t.2.1 < prevD dayT x.2.2.2.1 i)) 11)] true] = some (iA (testM x i t)) := by
          have e : testM x i t = firstM [firstM (tE (x.2.2.2.1.take i) t ++ [wordsM x.1 t.2.2]), whenM (decide (t.2.1 < prevD dayT x.2.2.2.1 i)) 11] := by
            unfold testM
            rw [show tE (x.2.2.2.1.take i) t ++ [wordsM x.1 t.2.2, whenM (decide (t.2.1 < prevD dayT x.2.2.2.1 i)) 11] = (tE (x.2.2.2.1.take i) t ++ [wordsM x.1 t.2.2]) ++ [whenM (decide (t.2.1 < prevD dayT x.2.2.2.1 i)) 11] by rw [List.append_assoc]; rfl]
            rw [firstM_snoc, firstM_step]
            congr 1
            rw [firstM_step]
            cases hq : whenM (decide (t.2.1 < prevD dayT x.2.2.2.1 i)) 11 != 0 with
            | true => rfl
            | false => have h0 : whenM (decide (t.2.1 < prevD dayT x.2.2.2.1 i)) 11 = 0 := by simpa using hq
                       rw [h0]; rfl
          rw [e]; rfl
        unfold stpT
        cases he : testM x i t != 0 with
        | true => exact Q7_ok.rndR ((lx x r130r) ((nms x.1).map sA) (idxA x.1.length) _ (x.2.2.2.1.map tsC.enc).length i t.1 t.2.1 (t.2.2.map strC.enc) ((x.2.2.2.1.take i).map tsC.enc) _ _ (testM x i t)) ⟨hlt, hg, q1, ⟨q2, q3⟩, ⟨rfl, spWhen _ 11⟩, ⟨rfl, fr⟩, he, trivial, rfl⟩
        | false =>
          have hr := (lx x r130n) ((nms x.1).map sA) (idxA x.1.length) (prevD dayT x.2.2.2.1 i) (x.2.2.2.1.map tsC.enc).length i t.1 t.2.1 (t.2.2.map strC.enc) ((x.2.2.2.1.take i).map tsC.enc) (firstM (tE (x.2.2.2.1.take i) t ++ [wordsM x.1 t.2.2])) (whenM (decide (t.2.1 < prevD dayT x.2.2.2.1 i)) 11) (testM x i t)
          rw [wrap_ix hi hl] at hr
          show Says (CS Q7) 0 41 false (lO (CS Q7) 130 0) _ .nrm (mkSt [1, 2, 5, 14, 15, 16] [2] 41 [_, _, iA (prevD dayT x.2.2.2.1 (i + 1)), _, _, _] [lbY x])
          rw [prevD_at (f := dayT) ht]
          exact Q7_ok.rndN hr ⟨hlt, hg, q1, ⟨q2, q3⟩, ⟨rfl, spWhen _ 11⟩, ⟨rfl, fr⟩, he, trivial, rfl⟩)
      (Q7_ok.rndX ((lx x r130x) ((nms x.1).map sA) (idxA x.1.length) (prevD dayT x.2.2.2.1 x.2.2.2.1.length) (x.2.2.2.1.map tsC.enc).length x.2.2.2.1.length) ⟨by rw [e_ts]; exact lt_self _, trivial, rfl⟩)
    unfold testsM srchE
    cases h64 : decide (Int.ofNat x.2.2.2.1.length > 64) with
    | true => exact Q7_ok.tr ((lx x t130l) _ _) ⟨by rw [e_ts]; exact h64, rfl⟩
    | false =>
      cases hq : srch (stpT x) 0 x.2.2.2.1 with
      | some t => rw [hq] at h; exact Q7_ok.tr ((lx x t130r) _ _ t) ⟨by rw [e_ts]; exact h64, ⟨trivial, trivial, h.says⟩, rfl⟩
      | none => rw [hq] at h; exact Q7_ok.tr ((lx x t130e) _ _) ⟨by rw [e_ts]; exact h64, ⟨trivial, trivial, h.says⟩, rfl⟩
def labM (x : Lb) : Int := firstM [partsM x.1, fitsM x, calsM x, testsM x, withinM x.2.2.2.2.1 0 1000, withinM x.2.2.2.2.2 1 100]
def labG : List AV → Option AV := sp1 labC fun x => bif okLb x then some (iA (labM x)) else none
theorem spFits {x : Lb} (h : okLb x = true) : fitsG [lbA x] = some (iA (fitsM x)) := by
 have := sp1_at (A := labC) (F := fun x => bif okLb x then some (iA (fitsM x)) else none) x
 rw [h] at this; exact this
theorem spCals {x : Lb} (h : okLb x = true) : calsG [lbA x] = some (iA (calsM x)) := by
 have := sp1_at (A := labC) (F := fun x => bif okLb x then some (iA (calsM x)) else none) x
 rw [h] at this; exact this
theorem spTests {x : Lb} (h : okLb x = true) : testsG [lbA x] = some (iA (testsM x)) := by
 have := sp1_at (A := labC) (F := fun x => bif okLb x then some (iA (testsM x)) else none) x
 rw [h] at this; exact this
theorem h42 : Holds 42 labG := holds1 fun x r hr => by
 cases hb : okLb x with
 | false => simp [hb] at hr
 | true =>
  simp only [hb, cond_true, Option.some.injEq] at hr; subst hr
  have K := okLb_at hb
  have fr : firstG [.rsl 1 [iA (partsM x.1), iA (fitsM x), iA (calsM x), iA (testsM x), iA (withinM x.2.2.2.2.1 0 1000), iA (withinM x.2.2.2.2.2 1 100)] true] = some (iA (labM x)) := rfl
  exact Q7_ok.tr ((lx x t42) _ _ _ _ _ _ (labM x)) ⟨⟨rfl, spParts K.ps⟩, ⟨rfl, spFits hb⟩, ⟨rfl, spCals hb⟩, ⟨rfl, spTests hb⟩, ⟨rfl, spWithin _ _ _⟩, ⟨rfl, spWithin _ _ _⟩, ⟨rfl, fr⟩, rfl⟩
def Q8 : Specs := ((Q7.set 130 testsPG).set 42 labG)
theorem Q8_ok : Ok Q8 := ((Q7_ok.set h130).set h42)
end Go.Vm.S3

namespace Go.Vm.S3
open Go.Proofs Go.RowKit
set_option maxRecDepth 100000
variable (ps fs cs ts : List AV) (d u : Int)
theorem t49p (e0 : Int) : L Q8 49 [lbE ps fs cs ts d u] [.sp [.rsl 7 ps false] (iA e0), .as 12 true] [.f 30, .b (e0 != 0)] (iA e0) := kr (by kernel_rfl)
theorem t49a (ks vm : List AV) (e0 e1 : Int) : L Q8 49 [lbE ps fs cs ts d u] [.sp [.rsl 7 ps false] (iA e0), .as 12 false, .sp [.rsl 7 ps false] (.rmp ks vm), .chk [.fn (.func 128) [lbE ps fs cs ts d u] []], .sp [lbE ps fs cs ts d u, .rmp ks vm] (iA e1), .as 33 true] [.f 30, .b (e0 != 0), .f 127, .k (([.fn (Fn.func 128) [lbE ps fs cs ts d u] [], .fn (Fn.func 129) [lbE ps fs cs ts d u] [], .fn (Fn.func 130) [lbE ps fs cs ts d u] []] : List AV)[0]? = (some (AV.fn (Fn.func 128) [lbE ps fs cs ts d u] []))), .f 128, .b (e1 != 0)] (iA e1) := kr (by kernel_rfl)
abbrev cQ9_24 (ps fs cs ts : List AV) (d u : Int) (ks vm : List AV) (e0 e1 e2 : Int) (h9 : List Hn) (a9 : List An) (r9 : AV) : Prop := L Q8 49 [lbE ps fs cs ts d u] ([.sp [.rsl 7 ps false] (iA e0), .as 12 false, .sp [.rsl 7 ps false] (.rmp ks vm), .chk [.fn (.func 128) [lbE ps fs cs ts d u] []], .sp [lbE ps fs cs ts d u, .rmp ks vm] (iA e1), .as 33 false, .chk [.fn (.func 129) [lbE ps fs cs ts d u] []], .sp [lbE ps fs cs ts d u, .rmp ks vm] (iA e2)] ++ h9) ([.f 30, .b (e0 != 0), .f 127, .k (([.fn (Fn.func 128) [lbE ps fs cs ts d u] [], .fn (Fn.func 129) [lbE ps fs cs ts d u] [], .fn (Fn.func 130) [lbE ps fs cs ts d u] []] : List AV)[0]? = (some (AV.fn (Fn.func 128) [lbE ps fs cs ts d u] []))), .f 128, .b (e1 != 0), .k (([.fn (Fn.func 128) [lbE ps fs cs ts d u] [], .fn (Fn.func 129) [lbE ps fs cs ts d u] [], .fn (Fn.func 130) [lbE ps fs cs ts d u] []] : List AV)[1]? = (some (AV.fn (Fn.func 129) [lbE ps fs cs ts d u] []))), .f 129] ++ a9) r9
theorem t49b (ks vm : List AV) (e0 e1 e2 : Int) : cQ9_24 ps fs cs ts d u ks vm e0 e1 e2 [.as 33 true] [.b (e2 != 0)] (iA e2) := kr (by kernel_rfl)
theorem t49c (ks vm : List AV) (e0 e1 e2 e3 : Int) : cQ9_24 ps fs cs ts d u ks vm e0 e1 e2 [.as 33 false, .chk [.fn (.func 130) [lbE ps fs cs ts d u] []], .sp [lbE ps fs cs ts d u, .rmp ks vm] (iA e3), .as 33 true] [.b (e2 != 0), .k (([.fn (Fn.func 128) [lbE ps fs cs ts d u] [], .fn (Fn.func 129) [lbE ps fs cs ts d u] [], .fn (Fn.func 130) [lbE ps fs cs ts d u] []] : List AV)[2]? = (some (AV.fn (Fn.func 130) [lbE ps fs cs ts d u] []))), .f 130, .b (e3 != 0)] (iA e3) := kr (by kernel_rfl)
theorem t49d (ks vm : List AV) (e0 e1 e2 e3 e4 e5 e : Int) : cQ9_24 ps fs cs ts d u ks vm e0 e1 e2 [.as 33 false, .chk [.fn (.func 130) [lbE ps fs cs ts d u] []], .sp [lbE ps fs cs ts d u, .rmp ks vm] (iA e3), .as 33 false, .sp [iA d, iA 0, iA 1000] (iA e4), .sp [iA u, iA 1, iA 100] (iA e5), .sp [.rsl 1 [iA e4, iA e5] true] (iA e)] [.b (e2 != 0), .k (([.fn (Fn.func 128) [lbE ps fs cs ts d u] [], .fn (Fn.func 129) [lbE ps fs cs ts d u] [], .fn (Fn.func 130) [lbE ps fs cs ts d u] []] : List AV)[2]? = (some (AV.fn (Fn.func 130) [lbE ps fs cs ts d u] []))), .f 130, .b (e3 != 0), .f 131, .f 131, .f 108] (iA e) := kr (by kernel_rfl)
theorem spFitsP {x : Lb} (h : okLb x = true) : fitsPG [lbA x, .rmp ((nms x.1).map sA) (idxA x.1.length)] = some (iA (fitsM x)) := by
 have := sp2_at (A := labC) (B := mapC) (F := fun x m => bif okLb x && decide (m = knows x.1) then some (iA (fitsM x)) else none) x (knows x.1)
 rw [mapC_enc, h, decide_eq_true rfl] at this; exact this
theorem spCalsP {x : Lb} (h : okLb x = true) (h0 : partsM x.1 = 0) : calsPG [lbA x, .rmp ((nms x.1).map sA) (idxA x.1.length)] = some (iA (calsM x)) := by
 have := sp2_at (A := labC) (B := mapC) (F := fun x m => bif okLb x && (decide (m = knows x.1) && decide (partsM x.1 = 0)) then some (iA (calsM x)) else none) x (knows x.1)
 rw [mapC_enc, h, decide_eq_true rfl, decide_eq_true h0] at this; exact this
theorem spTestsP {x : Lb} (h : okLb x = true) : testsPG [lbA x, .rmp ((nms x.1).map sA) (idxA x.1.length)] = some (iA (testsM x)) := by
 have := sp2_at (A := labC) (B := mapC) (F := fun x m => bif okLb x && decide (m = knows x.1) then some (iA (testsM x)) else none) x (knows x.1)
 rw [mapC_enc, h, decide_eq_true rfl] at this; exact this
theorem h49 : Holds 49 labG := holds1 fun x r hr => by
 cases hb : okLb x with
 | false => simp [hb] at hr
 | true =>
  simp only [hb, cond_true, Option.some.injEq] at hr; subst hr
  have K := okLb_at hb
  have e1 : labM x = bif partsM x.1 != 0 then partsM x.1 else bif fitsM x != 0 then fitsM x else bif calsM x != 0 then calsM x else bif testsM x != 0 then testsM x else firstM [withinM x.2.2.2.2.1 0 1000, withinM x.2.2.2.2.2 1 100] := rfl
  rw [e1]
  cases hp : partsM x.1 != 0 with
  | true => exact Q8_ok.tr ((lx x t49p) _) ⟨⟨rfl, spParts K.ps⟩, hp, rfl⟩
  | false =>
   have h0 : partsM x.1 = 0 := by simpa using hp
   cases hf : fitsM x != 0 with
   | true => exact Q8_ok.tr ((lx x t49a) _ _ (partsM x.1) _) ⟨⟨rfl, spParts K.ps⟩, hp, ⟨rfl, spBy h0⟩, rfl, ⟨rfl, spFitsP hb⟩, hf, rfl⟩
   | false =>
    cases hc : calsM x != 0 with
    | true => exact Q8_ok.tr ((lx x t49b) _ _ (partsM x.1) (fitsM x) _) ⟨⟨rfl, spParts K.ps⟩, hp, ⟨rfl, spBy h0⟩, rfl, ⟨rfl, spFitsP hb⟩, hf, rfl, ⟨rfl, spCalsP hb h0⟩, hc, rfl⟩
    | false =>
     cases ht : testsM x != 0 with
     | true => exact Q8_ok.tr ((lx x t49c) _ _ (partsM x.1) (fitsM x) (calsM x) _) ⟨⟨rfl, spParts K.ps⟩, hp, ⟨rfl, spBy h0⟩, rfl, ⟨rfl, spFitsP hb⟩, hf, rfl, ⟨rfl, spCalsP hb h0⟩, hc, rfl, ⟨rfl, spTestsP hb⟩, ht, rfl⟩
     | false =>
      have fr : firstG [.rsl 1 [iA (withinM x.2.2.2.2.1 0 1000), iA (withinM x.2.2.2.2.2 1 100)] true] = some (iA (firstM [withinM x.2.2.2.2.1 0 1000, withinM x.2.2.2.2.2 1 100])) := rfl
      exact Q8_ok.tr ((lx x t49d) _ _ (partsM x.1) (fitsM x) (calsM x) (testsM x) _ _ _) ⟨⟨rfl, spParts K.ps⟩, hp, ⟨rfl, spBy h0⟩, rfl, ⟨rfl, spFitsP hb⟩, hf, rfl, ⟨rfl, spCalsP hb h0⟩, hc, rfl, ⟨rfl, spTestsP hb⟩, ht, ⟨rfl, spWithin _ _ _⟩, ⟨rfl, spWithin _ _ _⟩, ⟨rfl, fr⟩, rfl⟩
def Q9 : Specs := (Q8.set 49 labG)
theorem Q9_ok : Ok Q9 := (Q8_ok.set h49)
end Go.Vm.S3

namespace Go.Vm.S3
open Go.Proofs Go.RowKit
theorem closedFtE (x : Ft) : closed (ftC.enc x) = true := rfl
theorem closedCbE (x : Cb) : closed (cbC.enc x) = true := rfl
theorem closedTsE (x : Ts) : closed (tsC.enc x) = true := rfl
theorem closedFt (l : List Ft) : ClosedL (l.map ftC.enc) := ClosedL.map closedFtE
theorem closedCb (l : List Cb) : ClosedL (l.map cbC.enc) := ClosedL.map closedCbE
theorem closedTs (l : List Ts) : ClosedL (l.map tsC.enc) := ClosedL.map closedTsE
def Q10 : Specs := Q9
theorem Q10_ok : Ok Q10 := Q9_ok
end Go.Vm.S3

namespace Go.Vm.S3
open Go.Proofs Go.RowKit
def Q11 : Specs := Q10
theorem Q11_ok : Ok Q11 := Q10_ok
end Go.Vm.S3

namespace Go.Vm.S3
open Go.Proofs Go.RowKit
def okC (c : Cb) : Bool := Nat.ble c.2.2.2.2.length lim
def okT (c : Ts) : Bool := Nat.ble c.2.2.length lim
def Q12 : Specs := Q11
theorem Q12_ok : Ok Q12 := Q11_ok
end Go.Vm.S3
