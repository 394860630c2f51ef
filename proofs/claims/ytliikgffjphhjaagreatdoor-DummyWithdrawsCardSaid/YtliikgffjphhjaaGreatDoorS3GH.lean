/- Labs: the errors of values. -/
import Derived.Test.YtliikgffjphhjaaGreatDoorS3GG
namespace Go.Vm.S3
open Go.Proofs Go.RowKit
set_option maxRecDepth 100000
theorem r193a (es : List AV) (n i : Nat) (x : Int) : rn Q4 193 22 0 [1, 5, 8, 9, 10] [] [1, 5, 8, 9, 10] [19] [5] [] (mapIn (fnV 194) nilS 1 es n i) [] [.chk [iA x]] =
  (bif decide (Int.ofNat i < Int.ofNat n) then (.need (es[i]? = (some (iA x))) (dn [(false, .arr 1 [iA (valM x)] false)] (.nrm, [.fn (Fn.func 194) [] [], .sl 19 0 1 0 1, .rsl 1 es false, iA (Int.ofNat n), iA (IntKind.i64.wrap (Int.ofNat i + 1))], [(false, .arr 1 [iA (valM x)] false)]))) else (dn [] ((.exit 0), [.v (.slice none 0 0)], []))) := by kernel_rfl
theorem r193b (es rs : List AV) (n i k : Nat) (x : Int) : rn Q4 193 22 0 [1, 5, 8, 9, 10] [19] [1, 5, 8, 9, 10] [19] [5] [19] (mapIn (fnV 194) (.sl 19 0 1 0 k) 1 es n i) [(false, .arr 1 rs false)] [.chk [iA x], .chk rs] =
  (bif decide (Int.ofNat i < Int.ofNat n) then (.need (es[i]? = (some (iA x))) (.need (k = rs.length ∧ true = true ∧ 1 = 1 ∧ (rs ++ ([iA (valM x)] : List AV)).length * 8 ≤ 35184372088832 ∧ (rs ++ ([iA (valM x)] : List AV)).length ≤ 35184372088832 ∧ 8 ≠ 0) (dn [(false, .arr 1 (rs ++ ([iA (valM x)] : List AV)) false)] (.nrm, [.fn (Fn.func 194) [] [], .sl 19 0 1 0 ((rs ++ ([iA (valM x)] : List AV)).length), .rsl 1 es false, iA (Int.ofNat n), iA (IntKind.i64.wrap (Int.ofNat i + 1))], [(false, .arr 1 (rs ++ ([iA (valM x)] : List AV)) false)])))) else (dn [(false, .arr 1 rs false)] ((.exit 0), [.sl 19 0 1 0 k], [(false, .arr 1 rs false)]))) := by kernel_rfl
theorem t193 (es rs : List AV) : L Q4 193 [.rsl 1 es false, (fnV 194)] [.loop 0 [1, 5, 8, 9, 10] [] [5] [] (.exit 0) [.rsl 1 rs false] []] [.l 22 193 0 22 [.fn (Fn.func 194) [] [], .v (.slice none 0 0), .rsl 1 es false, iA (Int.ofNat es.length), iA 0] []] (.rsl 1 rs false) := kR (by kernel_rfl)
def val193G : List AV → Option AV := mapG intC 1 intC 1 194 valM
theorem h193 : Holds 193 val193G := mapG_holds fun l hl => mapped_ok (A := intC) (B := intC) (g := valM) (fv := fnV 194) (szb := 1) (bb := 8) Q4_ok (0 : Int) (fun _ => rfl) ⟨by omega, by omega⟩ r193a r193b t193 l hl
def Q5 : Specs := (Q4.set 193 val193G)
theorem Q5_ok : Ok Q5 := (Q4_ok.set h193)
end Go.Vm.S3

namespace Go.Vm.S3
open Go.Proofs Go.RowKit
set_option maxRecDepth 100000
variable (ps fs cs ts : List AV) (d u : Int)
abbrev cQ5b_9 (ps fs cs ts : List AV) (d u : Int) (ks vm : List AV) (p : Int) (n0 i : Nat) (a b c : ByteArray) (n : Int) (vs cs1 : List AV) (k : Nat) (w tw q : Bool) (e1 e2 e3 e4 e5 e6 e : Int) (pa pb : ByteArray) (pm px py pz : Int) (co : List AV) (h9 : List Hn) (a9 : List An) (x9 : Ex) (v9 : List AV) (e9 : List (Bool × Blk)) : Prop := Lr Q5 129 88 0 [1, 2, 5, 19, 20, 21] [2] [1, 2, 5, 19, 20, 21] [2] [4] [] [.rmp ks vm, .ptr 2 0 0, iA p, .rsl 5 cs false, iA (Int.ofNat n0), iA (Int.ofNat i)] [lbX ps fs cs ts d u] ([.as 22 true, .chk [.agg [sA a, sA b, sA c, iA n, .rsl 1 vs false]], .chk [.tup [iA (Int.ofNat k), bA w]], .chk [], .sp [.rsl 5 cs1 false, .fn (.func 192) [] [.rptr [sA a, sA b, sA c, iA n, .rsl 1 vs false]]] (bA tw), .sp [sA a] (iA e1), .sp [bA tw, iA 9] (iA e2), .sp [bA (!w), iA 10] (iA e3), .sp [sA c] (iA e4), .sp [iA n] (iA e5), .chk [.agg [sA pa, sA pb, iA pm, iA px, iA py, iA pz, .rsl 2 co false]], .sp [bA q, iA 2] (iA e6), .sp [.rsl 1 [iA e1, iA e2, iA e3, iA e4, iA e5, iA e6] true] (iA e)] ++ h9) ([.t i n0, .g cs i, .k ((alookup (CS Q5) Tr.leaf 196 (AV.rmp ks vm) (sA b) true) = (some (AV.tup [iA (Int.ofNat k), bA w]))), .k (0 ≤ i ∧ i ≤ cs.length), .r 191 [.rsl 5 (List.take (i - 0) (List.drop 0 cs)) false, .fn (Fn.func 192) [] [.rptr [sA a, sA b, sA c, iA n, .rsl 1 vs false]]], .f 154, .f 109, .f 109, .f 154, .f 112, .g ps k, .q 109 [bA (Int.ofNat vs.length != Int.ofNat co.length), iA 2], .f 108] ++ a9) x9 v9 e9
theorem r129a (ks vm : List AV) (p : Int) (n0 i : Nat) (a b c : ByteArray) (n : Int) (vs : List AV) (cs1 : List AV) (k : Nat) (w tw q : Bool) (e1 e2 e3 e4 e5 e6 e : Int) (pa pb : ByteArray) (pm px py pz : Int) (co : List AV) : cQ5b_9 ps fs cs ts d u ks vm p n0 i a b c n vs cs1 k w tw q e1 e2 e3 e4 e5 e6 e pa pb pm px py pz co [.as 68 true] [.b (e != 0)] .ret [iA e] [] := kN (by kernel_rfl)
theorem r129b (ks vm : List AV) (p : Int) (n0 i : Nat) (a b c : ByteArray) (n : Int) (vs : List AV) (cs1 : List AV) (k : Nat) (w tw q : Bool) (e1 e2 e3 e4 e5 e6 e : Int) (pa pb : ByteArray) (pm px py pz : Int) (co : List AV) (rs : List AV) (e7 e8 e9 : Int) : cQ5b_9 ps fs cs ts d u ks vm p n0 i a b c n vs cs1 k w tw q e1 e2 e3 e4 e5 e6 e pa pb pm px py pz co [.as 68 false, .sp [.rsl 1 vs false, fnV 194] (.rsl 1 rs false), .sp [.rsl 1 rs false] (iA e7), .sp [bA (decide (n < p)), iA 11] (iA e8), .sp [.rsl 1 [iA e7, iA e8] true] (iA e9), .as 83 true] [.b (e != 0), .f 193, .f 108, .f 109, .f 108, .b (e9 != 0)] .ret [iA e9] [] := kN (by kernel_rfl)
theorem r129n (ks vm : List AV) (p : Int) (n0 i : Nat) (a b c : ByteArray) (n : Int) (vs : List AV) (cs1 : List AV) (k : Nat) (w tw q : Bool) (e1 e2 e3 e4 e5 e6 e : Int) (pa pb : ByteArray) (pm px py pz : Int) (co : List AV) (rs : List AV) (e7 e8 e9 : Int) : cQ5b_9 ps fs cs ts d u ks vm p n0 i a b c n vs cs1 k w tw q e1 e2 e3 e4 e5 e6 e pa pb pm px py pz co [.as 68 false, .sp [.rsl 1 vs false, fnV 194] (.rsl 1 rs false), .sp [.rsl 1 rs false] (iA e7), .sp [bA (decide (n < p)), iA 11] (iA e8), .sp [.rsl 1 [iA e7, iA e8] true] (iA e9), .as 83 false] [.b (e != 0), .f 193, .f 108, .f 109, .f 108, .b (e9 != 0)] .nrm [.rmp ks vm, .ptr 2 0 0, iA n, .rsl 5 cs false, iA (Int.ofNat n0), iA (IntKind.i64.wrap (Int.ofNat i + 1))] [lbX ps fs cs ts d u] := kN (by kernel_rfl)
theorem r129x (ks vm : List AV) (p : Int) (n0 i : Nat) : Lr Q5 129 88 0 [1, 2, 5, 19, 20, 21] [2] [1, 2, 5, 19, 20, 21] [2] [] [] [.rmp ks vm, .ptr 2 0 0, iA p, .rsl 5 cs false, iA (Int.ofNat n0), iA (Int.ofNat i)] [lbX ps fs cs ts d u] [.as 22 false] [.t i n0] (.exit 0) [] [] := kN (by kernel_rfl)
theorem t129l (ks vm : List AV) : L Q5 129 [lbE ps fs cs ts d u, .rmp ks vm] [.as 17 true] [.b (decide (Int.ofNat cs.length > 64))] (iA 5) := kR (by kernel_rfl)
theorem t129r (ks vm : List AV) (e : Int) : L Q5 129 [lbE ps fs cs ts d u, .rmp ks vm] [.as 17 false, .loop 0 [1, 2, 5, 19, 20, 21] [2] [4] [] .ret [iA e] []] [.b (decide (Int.ofNat cs.length > 64)), .l 88 129 0 88 [.rmp ks vm, .ptr 2 0 0, iA 0, .rsl 5 cs false, iA (Int.ofNat cs.length), iA 0] [lbX ps fs cs ts d u]] (iA e) := kR (by kernel_rfl)
theorem t129e (ks vm : List AV) : L Q5 129 [lbE ps fs cs ts d u, .rmp ks vm] [.as 17 false, .loop 0 [1, 2, 5, 19, 20, 21] [2] [] [] (.exit 0) [] []] [.b (decide (Int.ofNat cs.length > 64)), .l 88 129 0 88 [.rmp ks vm, .ptr 2 0 0, iA 0, .rsl 5 cs false, iA (Int.ofNat cs.length), iA 0] [lbX ps fs cs ts d u]] (iA 0) := kR (by kernel_rfl)
theorem spHas192 {l : List Cb} (c : Cb) (hl : Nat.blt l.length two63 = true) : has192G [slA cbC 5 l, .fn (.func 192) [] [.rptr (cbR.encs c)]] = some (bA (hasC l c.1)) := by
 have := sp2_at (A := cbsC) (B := cloC 192 (rptrR cbR)) (F := fun l c => bif Nat.blt l.length two63 then some (bA (hasC l c.1)) else none) l c
 rw [hl] at this; exact this
theorem spVals {l : List Int} (hl : Nat.ble l.length lim = true) : val193G [slA intC 1 l, fnV 194] = some (slA intC 1 (l.map valM)) := by
 have := sp2_at (A := listC intC 1) (B := fnC 194) (F := fun l (_ : Unit) => bif Nat.ble l.length lim then some (slA intC 1 (l.map valM)) else none) l ()
 rw [hl] at this; exact this
theorem partsM_pos {l : List Pt} (h : partsM l = 0) : 0 < l.length := by
 have hm := (parts_at h).1
 unfold manyM at hm
 rw [firstM_c0] at hm
 have h1 := hm.1
 unfold whenM at h1
 cases hz : Int.ofNat l.length == 0 with
 | true => rw [hz] at h1; cases h1
 | false =>
  simp only [beq_eq_false_iff_ne, ne_eq, Int.ofNat_eq_natCast] at hz
  omega
theorem ixD_lt {l : List Pt} (h : partsM l = 0) (s : ByteArray) : (findIx s (nms l) 0).getD 0 < l.length := by
 cases hf : findIx s (nms l) 0 with
 | none => exact partsM_pos h
 | some k => exact find_lt hf
def calsPG : List AV → Option AV := sp2 labC mapC fun x m => bif okLb x && (decide (m = knows x.1) && decide (partsM x.1 = 0)) then some (iA (calsM x)) else none
theorem h129 : Holds 129 calsPG := holds2 fun x m r hr => by
 cases hb : okLb x && (decide (m = knows x.1) && decide (partsM x.1 = 0)) with
 | false => simp [hb] at hr
 | true =>
  simp only [hb, cond_true, Option.some.injEq] at hr; subst hr
  rw [Bool.and_eq_true, Bool.and_eq_true] at hb
  have hm : m = knows x.1 := of_decide_eq_true hb.2.1
  have h0 : partsM x.1 = 0 := of_decide_eq_true hb.2.2
  subst hm
  have K := okLb_at hb.1
  have hl := limTwo K.cs
  rw [mapC_enc]
  have h := LoopRun.find (C := CS Q5) (p := 0) (nt := 88) (rd := false) (c := lO (CS Q5) 129 0) (stpC x)
   (fun i => mkSt [1, 2, 5, 19, 20, 21] [2] 88 [.rmp ((nms x.1).map sA) (idxA x.1.length), .ptr 2 0 0, iA (prevD dayC x.2.2.1 i), .rsl 5 (x.2.2.1.map cbC.enc) false, iA (Int.ofNat (x.2.2.1.map cbC.enc).length), iA (Int.ofNat i)] [lbY x])
   (fun t => mkSt [4] [] 88 [iA t] []) (mkSt [] [] 88 [] []) (.exit 0) (fun _ => .ret) x.2.2.1 (by simp) (by simp)
   (fun i c hc => by
    have hi := lt_len hc
    have hlt : decide (Int.ofNat i < Int.ofNat (x.2.2.1.map cbC.enc).length) = true := by rw [e_cb]; exact lt_of hi
    have hg := get_map cbC.enc hc
    have hk := lookP Q5 x.1 c.2.1 true
    rw [cond_true, ← hasP_ix] at hk
    have hgk := get_map ptC.enc (atP_get (ixD_lt h0 c.2.1))
    have q1 : (0 ≤ i ∧ i ≤ (x.2.2.1.map cbC.enc).length) := ⟨Nat.zero_le _, by rw [List.length_map]; omega⟩
    have q2 : ([.rsl 5 (List.take (i - 0) (List.drop 0 (x.2.2.1.map cbC.enc))) false, .fn (.func 192) [] [.rptr (cbR.encs c)]] : List AV) = [slA cbC 5 (x.2.2.1.take i), .fn (.func 192) [] [.rptr (cbR.encs c)]] := by rw [take_map]; rfl
    have ec : Int.ofNat ((atP x.1 ((findIx c.2.1 (nms x.1) 0).getD 0)).co.map ivC.enc).length = Int.ofNat (coLen x.1 c.2.1) := by unfold coLen; simp
    have eq : (Int.ofNat (c.2.2.2.2.map intC.enc).length != Int.ofNat ((atP x.1 ((findIx c.2.1 (nms x.1) 0).getD 0)).co.map ivC.enc).length) = (Int.ofNat c.2.2.2.2.length != Int.ofNat (coLen x.1 c.2.1)) := by rw [e_in, ec]
    have q6 : ([bA (Int.ofNat (c.2.2.2.2.map intC.enc).length != Int.ofNat ((atP x.1 ((findIx c.2.1 (nms x.1) 0).getD 0)).co.map ivC.enc).length), iA 2] : List AV) = [bA (Int.ofNat c.2.2.2.2.length != Int.ofNat (coLen x.1 c.2.1)), iA 2] := by rw [eq]
    have q7 : whenG ([bA (Int.ofNat (c.2.2.2.2.map intC.enc).length != Int.ofNat ((atP x.1 ((findIx c.2.1 (nms x.1) 0).getD 0)).co.map ivC.enc).length), iA 2] : List AV) = some (iA (shapeM x c)) := by rw [q6]; exact spWhen _ 2
    have fr : firstG [.rsl 1 [iA (nameErr c.1), iA (whenM (hasC (x.2.2.1.take i) c.1) 9), iA (whenM (!hasP x.1 c.2.1) 10), iA (nameErr c.2.2.1), iA (dayM c.2.2.2.1), iA (shapeM x c)] true] = some (iA (firstM (calE x i c ++ [shapeM x c]))) := rfl
    have fv := spec108 (l := c.2.2.2.2.map valM) (by rw [List.length_map]; exact K.vs c (List.mem_of_getElem? hc))
    have fw : firstG [.rsl 1 [iA (firstM (c.2.2.2.2.map valM)), iA (whenM (decide (c.2.2.2.1 < prevD dayC x.2.2.1 i)) 11)] true] = some (iA (firstM [firstM (c.2.2.2.2.map valM), whenM (decide (c.2.2.2.1 < prevD dayC x.2.2.1 i)) 11])) := rfl
    have hM : calM x i c = bif firstM (calE x i c ++ [shapeM x c]) != 0 then firstM (calE x i c ++ [shapeM x c]) else firstM [firstM (c.2.2.2.2.map valM), whenM (decide (c.2.2.2.1 < prevD dayC x.2.2.1 i)) 11] := by
     unfold calM
     rw [← firstM_app, List.append_assoc]; rfl
    unfold stpC
    rw [hM]
    cases he : firstM (calE x i c ++ [shapeM x c]) != 0 with
    | true =>
     simp only [cond_true, he]
     exact Q5_ok.rndR ((lx x r129a) ((nms x.1).map sA) (idxA x.1.length) _ (x.2.2.1.map cbC.enc).length i c.1 c.2.1 c.2.2.1 c.2.2.2.1 (c.2.2.2.2.map intC.enc) ((x.2.2.1.take i).map cbC.enc) ((findIx c.2.1 (nms x.1) 0).getD 0) (hasP x.1 c.2.1) (hasC (x.2.2.1.take i) c.1) (Int.ofNat c.2.2.2.2.length != Int.ofNat (coLen x.1 c.2.1)) _ _ _ _ _ _ _ _ _ _ _ _ _ _)
      ⟨hlt, hg, hk, q1, ⟨q2, spHas192 c (blt_take i K.cs)⟩, ⟨rfl, spName _⟩, ⟨rfl, spWhen _ 9⟩, ⟨rfl, spWhen _ 10⟩, ⟨rfl, spName _⟩, ⟨rfl, spDay _⟩, hgk, ⟨q6, q7⟩, ⟨rfl, fr⟩, he, trivial, rfl⟩
    | false =>
     simp only [cond_false]
     cases hv : firstM [firstM (c.2.2.2.2.map valM), whenM (decide (c.2.2.2.1 < prevD dayC x.2.2.1 i)) 11] != 0 with
     | true =>
      exact Q5_ok.rndR ((lx x r129b) ((nms x.1).map sA) (idxA x.1.length) _ (x.2.2.1.map cbC.enc).length i c.1 c.2.1 c.2.2.1 c.2.2.2.1 (c.2.2.2.2.map intC.enc) ((x.2.2.1.take i).map cbC.enc) ((findIx c.2.1 (nms x.1) 0).getD 0) (hasP x.1 c.2.1) (hasC (x.2.2.1.take i) c.1) (Int.ofNat c.2.2.2.2.length != Int.ofNat (coLen x.1 c.2.1)) _ _ _ _ _ _ _ _ _ _ _ _ _ _ ((c.2.2.2.2.map valM).map intC.enc) _ _ _)
       ⟨hlt, hg, hk, q1, ⟨q2, spHas192 c (blt_take i K.cs)⟩, ⟨rfl, spName _⟩, ⟨rfl, spWhen _ 9⟩, ⟨rfl, spWhen _ 10⟩, ⟨rfl, spName _⟩, ⟨rfl, spDay _⟩, hgk, ⟨q6, q7⟩, ⟨rfl, fr⟩, he, ⟨rfl, spVals (K.vs c (List.mem_of_getElem? hc))⟩, ⟨rfl, fv⟩, ⟨rfl, spWhen _ 11⟩, ⟨rfl, fw⟩, hv, trivial, rfl⟩
     | false =>
      have hr := (lx x r129n) ((nms x.1).map sA) (idxA x.1.length) (prevD dayC x.2.2.1 i) (x.2.2.1.map cbC.enc).length i c.1 c.2.1 c.2.2.1 c.2.2.2.1 (c.2.2.2.2.map intC.enc) ((x.2.2.1.take i).map cbC.enc) ((findIx c.2.1 (nms x.1) 0).getD 0) (hasP x.1 c.2.1) (hasC (x.2.2.1.take i) c.1) (Int.ofNat c.2.2.2.2.length != Int.ofNat (coLen x.1 c.2.1)) (nameErr c.1) (whenM (hasC (x.2.2.1.take i) c.1) 9) (whenM (!hasP x.1 c.2.1) 10) (nameErr c.2.2.1) (dayM c.2.2.2.1) (shapeM x c) (firstM (calE x i c ++ [shapeM x c])) (atP x.1 ((findIx c.2.1 (nms x.1) 0).getD 0)).1 (atP x.1 ((findIx c.2.1 (nms x.1) 0).getD 0)).2.1 (atP x.1 ((findIx c.2.1 (nms x.1) 0).getD 0)).2.2.1 (atP x.1 ((findIx c.2.1 (nms x.1) 0).getD 0)).2.2.2.1 (atP x.1 ((findIx c.2.1 (nms x.1) 0).getD 0)).2.2.2.2.1 (atP x.1 ((findIx c.2.1 (nms x.1) 0).getD 0)).2.2.2.2.2.1 ((atP x.1 ((findIx c.2.1 (nms x.1) 0).getD 0)).co.map ivC.enc) ((c.2.2.2.2.map valM).map intC.enc) (firstM (c.2.2.2.2.map valM)) (whenM (decide (c.2.2.2.1 < prevD dayC x.2.2.1 i)) 11) (firstM [firstM (c.2.2.2.2.map valM), whenM (decide (c.2.2.2.1 < prevD dayC x.2.2.1 i)) 11])
      rw [wrap_ix hi hl] at hr
      show Says (CS Q5) 0 88 false (lO (CS Q5) 129 0) _ .nrm (mkSt [1, 2, 5, 19, 20, 21] [2] 88 [_, _, iA (prevD dayC x.2.2.1 (i + 1)), _, _, _] [lbY x])
      rw [prevD_at (f := dayC) hc]
      exact Q5_ok.rndN hr
       ⟨hlt, hg, hk, q1, ⟨q2, spHas192 c (blt_take i K.cs)⟩, ⟨rfl, spName _⟩, ⟨rfl, spWhen _ 9⟩, ⟨rfl, spWhen _ 10⟩, ⟨rfl, spName _⟩, ⟨rfl, spDay _⟩, hgk, ⟨q6, q7⟩, ⟨rfl, fr⟩, he, ⟨rfl, spVals (K.vs c (List.mem_of_getElem? hc))⟩, ⟨rfl, fv⟩, ⟨rfl, spWhen _ 11⟩, ⟨rfl, fw⟩, hv, trivial, rfl⟩)
   (Q5_ok.rndX ((lx x r129x) ((nms x.1).map sA) (idxA x.1.length) (prevD dayC x.2.2.1 x.2.2.1.length) (x.2.2.1.map cbC.enc).length x.2.2.1.length) ⟨by rw [e_cb]; exact lt_self _, trivial, rfl⟩)
  unfold calsM srchE
  cases h64 : decide (Int.ofNat x.2.2.1.length > 64) with
  | true => exact Q5_ok.tr ((lx x t129l) _ _) ⟨by rw [e_cb]; exact h64, rfl⟩
  | false =>
   cases hq : srch (stpC x) 0 x.2.2.1 with
   | some t => rw [hq] at h; exact Q5_ok.tr ((lx x t129r) _ _ t) ⟨by rw [e_cb]; exact h64, ⟨trivial, trivial, h.says⟩, rfl⟩
   | none => rw [hq] at h; exact Q5_ok.tr ((lx x t129e) _ _) ⟨by rw [e_cb]; exact h64, ⟨trivial, trivial, h.says⟩, rfl⟩
def Q5b : Specs := (Q5.set 129 calsPG)
theorem Q5b_ok : Ok Q5b := (Q5_ok.set h129)
end Go.Vm.S3

namespace Go.Vm.S3
open Go.Proofs Go.RowKit
set_option maxRecDepth 100000
variable (ps fs cs ts : List AV) (d u : Int)
theorem r137n (es : List AV) (m i : Nat) (s : ByteArray) (w : ByteArray) : Lq Q5b 0 201 9 19 28 0 [0, 1, 7, 8] [] [0, 1, 7, 8] [] [4] [] [.rsl 1 es false, sA s, iA (Int.ofNat m), iA (Int.ofNat i)] [] [.as 9 true, .chk [sA w], .as 16 false] [.t i m, .g es i, .b (s.toList == w.toList)] .nrm [.rsl 1 es false, sA s, iA (Int.ofNat m), iA (IntKind.i64.wrap (Int.ofNat i + 1))] [] := kQ (by kernel_rfl)
theorem r137y (es : List AV) (m i : Nat) (s : ByteArray) (w : ByteArray) : Lq Q5b 0 201 9 19 28 0 [0, 1, 7, 8] [] [0, 1, 7, 8] [] [4] [] [.rsl 1 es false, sA s, iA (Int.ofNat m), iA (Int.ofNat i)] [] [.as 9 true, .chk [sA w], .as 16 true] [.t i m, .g es i, .b (s.toList == w.toList)] .ret [iA (Int.ofNat i)] [] := kQ (by kernel_rfl)
theorem r137x (es : List AV) (m i : Nat) (s : ByteArray) : Lq Q5b 0 201 9 19 28 0 [0, 1, 7, 8] [] [0, 1, 7, 8] [] [] [] [.rsl 1 es false, sA s, iA (Int.ofNat m), iA (Int.ofNat i)] [] [.as 9 false] [.t i m] (.exit 0) [] [] := kQ (by kernel_rfl)
theorem t137r (es : List AV) (t : Int) (s : ByteArray) : L Q5b 137 [.rsl 1 es false, sA s] [.loop 0 [0, 1, 7, 8] [] [4] [] .ret [iA t] []] [.l 19 201 0 28 [.rsl 1 es false, sA s, iA (Int.ofNat es.length), iA 0] []] (bA (decide (t ≥ 0))) := kR (by kernel_rfl)
theorem t137e (es : List AV) (s : ByteArray) : L Q5b 137 [.rsl 1 es false, sA s] [.loop 0 [0, 1, 7, 8] [] [] [] (.exit 0) [] []] [.l 19 201 0 28 [.rsl 1 es false, sA s, iA (Int.ofNat es.length), iA 0] []] (bA (decide (-1 ≥ 0))) := kR (by kernel_rfl)
theorem r126ir (i j : Nat) (a : ByteArray) (n : Int) (ws : List AV) (ws1 : List AV) (w : ByteArray) (k e1 e2 e : Int) (q : Bool) : Lr Q5b 126 101 2 [1, 3, 4, 6] [1, 4] [1, 3, 4, 6] [1, 4] [2] [] [.ptr 1 0 0, iA (Int.ofNat i), .ptr 4 1 0, iA (Int.ofNat j)] [lbX ps fs cs ts d u, (false, .box [sA a, iA n, .rsl 1 ws false])] [.as 58 true, .chk [sA w], .sp [.rsl 7 ps false, sA w] (iA k), .sp [bA (decide (k < 0)), iA 10] (iA e1), .chk [], .chk [sA w], .sp [.rsl 1 ws1 false, sA w] (bA q), .sp [bA q, iA 9] (iA e2), .sp [.rsl 1 [iA e1, iA e2] true] (iA e), .as 85 true] [.t j ws.length, .g ws j, .f 24, .f 46, .k (0 ≤ j ∧ j ≤ ws.length), .g ws j, .q 77 [.rsl 1 (List.take (j - 0) (List.drop 0 ws)) false, sA w], .f 46, .f 105, .b (e != 0)] .ret [iA e] [] := kN (by kernel_rfl)
theorem r126in (i j : Nat) (a : ByteArray) (n : Int) (ws : List AV) (ws1 : List AV) (w : ByteArray) (k e1 e2 e : Int) (q : Bool) : Lr Q5b 126 101 2 [1, 3, 4, 6] [1, 4] [1, 3, 4, 6] [1, 4] [1, 3, 4] [1, 4] [.ptr 1 0 0, iA (Int.ofNat i), .ptr 4 1 0, iA (Int.ofNat j)] [lbX ps fs cs ts d u, (false, .box [sA a, iA n, .rsl 1 ws false])] [.as 58 true, .chk [sA w], .sp [.rsl 7 ps false, sA w] (iA k), .sp [bA (decide (k < 0)), iA 10] (iA e1), .chk [], .chk [sA w], .sp [.rsl 1 ws1 false, sA w] (bA q), .sp [bA q, iA 9] (iA e2), .sp [.rsl 1 [iA e1, iA e2] true] (iA e), .as 85 false] [.t j ws.length, .g ws j, .f 24, .f 46, .k (0 ≤ j ∧ j ≤ ws.length), .g ws j, .q 77 [.rsl 1 (List.take (j - 0) (List.drop 0 ws)) false, sA w], .f 46, .f 105, .b (e != 0)] .nrm [.ptr 1 0 0, iA (Int.ofNat i), .ptr 4 1 0, iA (IntKind.i64.wrap (Int.ofNat j + 1))] [lbX ps fs cs ts d u, (false, .box [sA a, iA n, .rsl 1 ws false])] := kN (by kernel_rfl)
theorem r126ix (i j : Nat) (a : ByteArray) (n : Int) (ws : List AV) : Lr Q5b 126 101 2 [1, 3, 4, 6] [1, 4] [1, 3, 4, 6] [1, 4] [1, 3, 4] [1, 4] [.ptr 1 0 0, iA (Int.ofNat i), .ptr 4 1 0, iA (Int.ofNat j)] [lbX ps fs cs ts d u, (false, .box [sA a, iA n, .rsl 1 ws false])] [.as 58 false] [.t j ws.length] (.exit 2) [.ptr 1 0 0, iA (Int.ofNat i), .ptr 4 1 0] [lbX ps fs cs ts d u, (false, .box [sA a, iA n, .rsl 1 ws false])] := kN (by kernel_rfl)
theorem r126a (i : Nat) (a : ByteArray) (n : Int) (ws : List AV) (ts1 : List AV) (k1 e1 e2 e3 e4 e5 e : Int) (q4 q5 : Bool) : Lr Q5b 126 101 0 [1, 3] [1] [1, 3] [1] [2] [] [.ptr 1 0 0, iA (Int.ofNat i)] [lbX ps fs cs ts d u] [.as 16 true, .chk [.agg [sA a, iA n, .rsl 1 ws false]], .sp [sA a] (iA e1), .chk [], .sp [.rsl 3 ts1 false, sA a] (iA k1), .sp [bA (decide (k1 ≥ 0)), iA 9] (iA e2), .sp [iA n] (iA e3), .sp [bA q4, iA 12] (iA e4), .sp [bA q5, iA 5] (iA e5), .sp [.rsl 1 [iA e1, iA e2, iA e3, iA e4, iA e5] true] (iA e), .as 52 true] [.t i ts.length, .g ts i, .f 106, .k (0 ≤ i ∧ i ≤ ts.length), .q 55 [.rsl 3 (List.take (i - 0) (List.drop 0 ts)) false, sA a], .f 46, .f 43, .q 46 [bA (Int.ofNat ws.length == 0), iA 12], .q 46 [bA (decide (Int.ofNat ws.length > 16)), iA 5], .f 105, .b (e != 0)] .ret [iA e] [] := kN (by kernel_rfl)
theorem r126c (i : Nat) (a : ByteArray) (n : Int) (ws : List AV) (ts1 : List AV) (k1 e1 e2 e3 e4 e5 e : Int) (q4 q5 : Bool) (t : Int) : Lr Q5b 126 101 0 [1, 3] [1] [1, 3] [1] [2] [] [.ptr 1 0 0, iA (Int.ofNat i)] [lbX ps fs cs ts d u] [.as 16 true, .chk [.agg [sA a, iA n, .rsl 1 ws false]], .sp [sA a] (iA e1), .chk [], .sp [.rsl 3 ts1 false, sA a] (iA k1), .sp [bA (decide (k1 ≥ 0)), iA 9] (iA e2), .sp [iA n] (iA e3), .sp [bA q4, iA 12] (iA e4), .sp [bA q5, iA 5] (iA e5), .sp [.rsl 1 [iA e1, iA e2, iA e3, iA e4, iA e5] true] (iA e), .as 52 false, .loop 0 [1, 3, 4, 6] [1, 4] [2] [] .ret [iA t] [], ] [.t i ts.length, .g ts i, .f 106, .k (0 ≤ i ∧ i ≤ ts.length), .q 55 [.rsl 3 (List.take (i - 0) (List.drop 0 ts)) false, sA a], .f 46, .f 43, .q 46 [bA (Int.ofNat ws.length == 0), iA 12], .q 46 [bA (decide (Int.ofNat ws.length > 16)), iA 5], .f 105, .b (e != 0), .l 101 126 2 101 [.ptr 1 0 0, iA (Int.ofNat i), .ptr 4 1 0, iA 0] [lbX ps fs cs ts d u, (false, .box [sA a, iA n, .rsl 1 ws false])]] .ret [iA t] [] := kN (by kernel_rfl)
abbrev cQ6_10 (ps fs cs ts : List AV) (d u : Int) (i : Nat) (a : ByteArray) (n : Int) (ws ts1 : List AV) (k1 e1 e2 e3 e4 e5 e : Int) (q4 q5 : Bool) (h9 : List Hn) (a9 : List An) (x9 : Ex) (v9 : List AV) (e9 : List (Bool × Blk)) : Prop := Lr Q5b 126 101 0 [1, 3] [1] [1, 3] [1] [2] [] [.ptr 1 0 0, iA (Int.ofNat i)] [lbX ps fs cs ts d u] ([.as 16 true, .chk [.agg [sA a, iA n, .rsl 1 ws false]], .sp [sA a] (iA e1), .chk [], .sp [.rsl 3 ts1 false, sA a] (iA k1), .sp [bA (decide (k1 ≥ 0)), iA 9] (iA e2), .sp [iA n] (iA e3), .sp [bA q4, iA 12] (iA e4), .sp [bA q5, iA 5] (iA e5), .sp [.rsl 1 [iA e1, iA e2, iA e3, iA e4, iA e5] true] (iA e), .as 52 false, .loop 0 [1, 3, 4, 6] [1, 4] [1, 3, 4] [1, 4] (.exit 2) [.ptr 1 0 0, iA (Int.ofNat i), .ptr 4 1 0] [lbX ps fs cs ts d u, (false, .box [sA a, iA n, .rsl 1 ws false])]] ++ h9) ([.t i ts.length, .g ts i, .f 106, .k (0 ≤ i ∧ i ≤ ts.length), .q 55 [.rsl 3 (List.take (i - 0) (List.drop 0 ts)) false, sA a], .f 46, .f 43, .q 46 [bA (Int.ofNat ws.length == 0), iA 12], .q 46 [bA (decide (Int.ofNat ws.length > 16)), iA 5], .f 105, .b (e != 0), .l 101 126 2 101 [.ptr 1 0 0, iA (Int.ofNat i), .ptr 4 1 0, iA 0] [lbX ps fs cs ts d u, (false, .box [sA a, iA n, .rsl 1 ws false])]] ++ a9) x9 v9 e9
theorem r126z (i : Nat) (a : ByteArray) (n : Int) (ws : List AV) (ts1 : List AV) (k1 e1 e2 e3 e4 e5 e : Int) (q4 q5 : Bool) : cQ6_10 ps fs cs ts d u i a n ws ts1 k1 e1 e2 e3 e4 e5 e q4 q5 [.as 89 false, .as 100 false] [.b (decide (Int.ofNat i > 0)), .b false] .nrm [.ptr 1 0 0, iA (IntKind.i64.wrap (Int.ofNat i + 1))] [lbX ps fs cs ts d u] := kN (by kernel_rfl)
theorem r126s (i : Nat) (a : ByteArray) (n : Int) (ws : List AV) (ts1 : List AV) (k1 e1 e2 e3 e4 e5 e : Int) (q4 q5 : Bool) (j : Nat) (a2 : ByteArray) (n2 : Int) (ws2 : List AV) : cQ6_10 ps fs cs ts d u i a n ws ts1 k1 e1 e2 e3 e4 e5 e q4 q5 [.as 89 true, .ar (iA (Int.ofNat j)), .chk [.agg [sA a2, iA n2, .rsl 1 ws2 false]], .as 100 false] [.b (decide (Int.ofNat i > 0)), .k ((abin (CS Q5b) BinOp.sub 3 (Operand.tmp 94) (Operand.const (Value.int IntKind.i64 1)) (iA (Int.ofNat i)) (iA 1)) = (some (iA (Int.ofNat j)))), .g ts j, .b (decide (n < n2))] .nrm [.ptr 1 0 0, iA (IntKind.i64.wrap (Int.ofNat i + 1))] [lbX ps fs cs ts d u] := kN (by kernel_rfl)
theorem r126t (i : Nat) (a : ByteArray) (n : Int) (ws : List AV) (ts1 : List AV) (k1 e1 e2 e3 e4 e5 e : Int) (q4 q5 : Bool) (j : Nat) (a2 : ByteArray) (n2 : Int) (ws2 : List AV) : cQ6_10 ps fs cs ts d u i a n ws ts1 k1 e1 e2 e3 e4 e5 e q4 q5 [.as 89 true, .ar (iA (Int.ofNat j)), .chk [.agg [sA a2, iA n2, .rsl 1 ws2 false]], .as 100 true] [.b (decide (Int.ofNat i > 0)), .k ((abin (CS Q5b) BinOp.sub 3 (Operand.tmp 94) (Operand.const (Value.int IntKind.i64 1)) (iA (Int.ofNat i)) (iA 1)) = (some (iA (Int.ofNat j)))), .g ts j, .b (decide (n < n2))] .ret [iA 11] [] := kN (by kernel_rfl)
theorem r126x (i : Nat) : Lr Q5b 126 101 0 [1, 3] [1] [1, 3] [1] [] [] [.ptr 1 0 0, iA (Int.ofNat i)] [lbX ps fs cs ts d u] [.as 16 false] [.t i ts.length] (.exit 0) [] [] := kN (by kernel_rfl)
theorem t126l : L Q5b 126 [lbE ps fs cs ts d u] [.as 11 true] [.b (decide (Int.ofNat ts.length > 64))] (iA 5) := kR (by kernel_rfl)
theorem t126r (e : Int) : L Q5b 126 [lbE ps fs cs ts d u] [.as 11 false, .loop 0 [1, 3] [1] [2] [] .ret [iA e] []] [.b (decide (Int.ofNat ts.length > 64)), .l 101 126 0 101 [.ptr 1 0 0, iA 0] [lbX ps fs cs ts d u]] (iA e) := kR (by kernel_rfl)
theorem t126e : L Q5b 126 [lbE ps fs cs ts d u] [.as 11 false, .loop 0 [1, 3] [1] [] [] (.exit 0) [] []] [.b (decide (Int.ofNat ts.length > 64)), .l 101 126 0 101 [.ptr 1 0 0, iA 0] [lbX ps fs cs ts d u]] (iA 0) := kR (by kernel_rfl)
abbrev hwG : List AV → Option AV := sp2 (listC strC 1) strC fun l s => bif Nat.blt l.length two63 then some (bA (hasWordM l s)) else none
theorem srch_some_eq {α τ ρ : Type} (f : Nat → α → Option τ) (g : Nat → α → Option ρ) (h : ∀ i x, (f i x).isSome = (g i x).isSome) : ∀ (l : List α) (i : Nat), (srch f i l).isSome = (srch g i l).isSome
 | [], _ => rfl
 | x :: l, i => by
  have hx := h i x
  unfold srch
  cases hf : f i x with
  | some a => rw [hf] at hx; cases hg : g i x with
   | some b => rfl
   | none => rw [hg] at hx; cases hx
  | none => rw [hf] at hx; cases hg : g i x with
   | some b => rw [hg] at hx; cases hx
   | none => exact srch_some_eq f g h l (i + 1)
theorem h137 : Holds 137 hwG := holds2 fun l s r hr => by
 cases hb : Nat.blt l.length two63 with
 | false => simp [hb] at hr
 | true =>
  simp only [hb, cond_true, Option.some.injEq] at hr; subst hr
  have hl : l.length < two63 := Nat.le_of_ble_eq_true hb
  have h := LoopRun.find (C := CS Q5b) (p := 0) (nt := 19) (rd := false) (c := lO (CS Q5b) 201 0) (fun i (w : ByteArray) => bif seq w s then some (Int.ofNat i) else none) (fun i => mkSt [0, 1, 7, 8] [] 28 [.rsl 1 (l.map strC.enc) false, sA s, iA (Int.ofNat (l.map strC.enc).length), iA (Int.ofNat i)] [])
   (fun t => mkSt [4] [] 28 [iA t] []) (mkSt [] [] 28 [] []) (.exit 0) (fun _ => .ret) l (by simp) (by simp)
   (fun i w hw => by
    have hi := lt_len hw
    have hlt : decide (Int.ofNat i < Int.ofNat (l.map strC.enc).length) = true := by rw [e_st]; exact lt_of hi
    have hr := r137n (l.map strC.enc) (l.map strC.enc).length i s w
    rw [wrap_ix hi hl] at hr
    cases h : seq w s with
    | true => exact Q5b_ok.rndR (r137y (l.map strC.enc) (l.map strC.enc).length i s w) ⟨hlt, get_map _ hw, by show bseq _ _ = _; rw [bseq_comm]; exact h, trivial, rfl⟩
    | false => exact Q5b_ok.rndN hr ⟨hlt, get_map _ hw, by show bseq _ _ = _; rw [bseq_comm]; exact h, trivial, rfl⟩)
   (Q5b_ok.rndX (r137x (l.map strC.enc) (l.map strC.enc).length l.length s) ⟨by rw [e_st]; exact lt_self _, trivial, rfl⟩)
  have hf := find_ix (fun w : ByteArray => w) s l 0
  rw [List.map_id'] at hf
  rw [hf] at h
  have ha : hasWordM l s = (findIx s l 0).isSome := by
   have h2 := srch_any (p := fun x => seq x s) (t := ()) l 0
   have h3 : (srch (fun i (x : ByteArray) => bif seq x s then some (Int.ofNat i) else none) 0 l).isSome = (srch (fun _ (x : ByteArray) => bif seq x s then some () else none) 0 l).isSome := srch_some_eq _ _ (fun i x => by cases seq x s <;> rfl) l 0
   rw [hf, h2] at h3
   unfold hasWordM
   cases ha : l.any fun x => seq x s with
   | true => rw [ha] at h3; cases hq : findIx s l 0 with
    | none => rw [hq] at h3; cases h3
    | some k => rfl
   | false => rw [ha] at h3; cases hq : findIx s l 0 with
    | none => rfl
    | some k => rw [hq] at h3; cases h3
  rw [ha]
  cases hq : findIx s l 0 with
  | some t => rw [hq] at h; have e := Q5b_ok.tr (t137r (l.map strC.enc) (Int.ofNat t) s) ⟨⟨trivial, trivial, h.says⟩, rfl⟩; rw [show decide (Int.ofNat t ≥ 0) = true by simp] at e; exact e
  | none => rw [hq] at h; exact Q5b_ok.tr (t137e (l.map strC.enc) s) ⟨⟨trivial, trivial, h.says⟩, rfl⟩
def tE (l : List Ts) (t : Ts) : List Int := [nameErr t.1, whenM (hasT l t.1) 9, dayM t.2.1, whenM (Int.ofNat t.2.2.length == 0) 12, whenM (decide (Int.ofNat t.2.2.length > 16)) 5]
def wordE (ps : List Pt) (ws : List ByteArray) (k : Nat) (w : ByteArray) : Int := firstM [whenM (!hasP ps w) 10, whenM (hasWordM (ws.take k) w) 9]
def wordsM (ps : List Pt) (ws : List ByteArray) : Int := srchE (wordE ps ws) ws
abbrev dayT (z : Ts) : Int := z.2.1
def testM (x : Lb) (i : Nat) (t : Ts) : Int := firstM (tE (x.2.2.2.1.take i) t ++ [wordsM x.1 t.2.2, whenM (decide (t.2.1 < prevD dayT x.2.2.2.1 i)) 11])
def testsM (x : Lb) : Int := bif decide (Int.ofNat x.2.2.2.1.length > 64) then 5 else srchE (testM x) x.2.2.2.1
def testsG : List AV → Option AV := sp1 labC fun x => bif okLb x then some (iA (testsM x)) else none
abbrev stpT (x : Lb) : Nat → Ts → Option Int := fun i y => bif testM x i y != 0 then some (testM x i y) else none
abbrev stpW (ps : List Pt) (ws : List ByteArray) : Nat → ByteArray → Option Int := fun k w => bif wordE ps ws k w != 0 then some (wordE ps ws k w) else none
theorem testM_e {x : Lb} {i : Nat} {t : Ts} (h : firstM (tE (x.2.2.2.1.take i) t) ≠ 0) : testM x i t = firstM (tE (x.2.2.2.1.take i) t) := by
 unfold testM; rw [firstM_app, show (firstM (tE (x.2.2.2.1.take i) t) != 0) = true by simp [h], cond_true]
theorem testM_z {x : Lb} {i : Nat} {t : Ts} (h : firstM (tE (x.2.2.2.1.take i) t) = 0) : testM x i t = bif wordsM x.1 t.2.2 != 0 then wordsM x.1 t.2.2 else bif decide (t.2.1 < prevD dayT x.2.2.2.1 i) then 11 else 0 := by
 unfold testM; rw [firstM_app, h]
 show firstM [_, _] = _
 rw [firstM_step, firstM_step]
 cases h2 : wordsM x.1 t.2.2 != 0 with
 | true => rfl
 | false =>
  unfold whenM
  cases h4 : decide (t.2.1 < prevD dayT x.2.2.2.1 i) <;> rfl
theorem tE_zero {l : List Ts} {t : Ts} (h : firstM (tE l t) = 0) : nameErr t.1 = 0 ∧ hasT l t.1 = false ∧ dayM t.2.1 = 0 ∧ t.2.2.length ≠ 0 ∧ t.2.2.length ≤ 16 := by
 unfold tE at h
 rw [firstM_c0, firstM_c0, firstM_c0, firstM_c0, firstM_c0] at h
 obtain ⟨h1, h2, h3, h4, h5, _⟩ := h
 refine ⟨h1, ?_, h3, ?_, ?_⟩
 ·cases hq : hasT l t.1 with
  | false => rfl
  | true => rw [hq] at h2; cases h2
 ·intro hz; rw [hz] at h4; cases h4
 ·unfold whenM at h5
  cases hq : decide (Int.ofNat t.2.2.length > 16) with
  | true => rw [hq] at h5; cases h5
  | false => have := of_decide_eq_false hq; simp only [Int.ofNat_eq_natCast] at this; omega
abbrev tsX (t : Ts) : Bool × Blk := (false, .box [sA t.1, iA t.2.1, .rsl 1 (t.2.2.map strC.enc) false])
theorem spHw {l : List ByteArray} (s : ByteArray) (h : Nat.blt l.length two63 = true) : hwG [slA strC 1 l, sA s] = some (bA (hasWordM l s)) := by
 have := sp2_at (A := listC strC 1) (B := strC) (F := fun l s => bif Nat.blt l.length two63 then some (bA (hasWordM l s)) else none) l s
 rw [h] at this; exact this
theorem inner126 (x : Lb) (i : Nat) (t : Ts) (K : OkLb x) (hc : Nat.ble t.2.2.length lim = true) :
  LoopRun (CS Q5b) 0 101 false (lO (CS Q5b) 126 2) (mkSt [1, 3, 4, 6] [1, 4] 101 [.ptr 1 0 0, iA (Int.ofNat i), .ptr 4 1 0, iA 0] [lbY x, tsX t])
   (bif wordsM x.1 t.2.2 != 0 then .ret else .exit 2) (bif wordsM x.1 t.2.2 != 0 then mkSt [2] [] 101 [iA (wordsM x.1 t.2.2)] [] else mkSt [1, 3, 4] [1, 4] 101 [.ptr 1 0 0, iA (Int.ofNat i), .ptr 4 1 0] [lbY x, tsX t]) := by
 have hlim := Nat.le_of_ble_eq_true hc
 have hl := limTwo hlim
 have h := LoopRun.find (C := CS Q5b) (p := 0) (nt := 101) (rd := false) (c := lO (CS Q5b) 126 2) (stpW x.1 t.2.2)
  (fun j => mkSt [1, 3, 4, 6] [1, 4] 101 [.ptr 1 0 0, iA (Int.ofNat i), .ptr 4 1 0, iA (Int.ofNat j)] [lbY x, tsX t])
  (fun t => mkSt [2] [] 101 [iA t] []) (mkSt [1, 3, 4] [1, 4] 101 [.ptr 1 0 0, iA (Int.ofNat i), .ptr 4 1 0] [lbY x, tsX t]) (.exit 2) (fun _ => .ret) t.2.2 (by simp) (by simp)
  (fun j w hw => by
   have hj := lt_len hw
   have hlt : decide (Int.ofNat j < Int.ofNat (t.2.2.map strC.enc).length) = true := by rw [e_st]; exact lt_of hj
   have hg := get_map strC.enc hw
   have q1 : (0 ≤ j ∧ j ≤ (t.2.2.map strC.enc).length) := ⟨Nat.zero_le _, by rw [List.length_map]; omega⟩
   have q2 : ([.rsl 1 (List.take (j - 0) (List.drop 0 (t.2.2.map strC.enc))) false, sA w] : List AV) = [slA strC 1 (t.2.2.take j), sA w] := by rw [take_map]; rfl
   have q3 : hwG ([.rsl 1 (List.take (j - 0) (List.drop 0 (t.2.2.map strC.enc))) false, sA w] : List AV) = some (AV.v (.bool (hasWordM (t.2.2.take j) w))) := by
    rw [q2]; exact spHw w (blt_take j hlim)
   have fr : firstG [.rsl 1 [iA (whenM (decide (findP x.1 w < 0)) 10), iA (whenM (hasWordM (t.2.2.take j) w) 9)] true] = some (iA (wordE x.1 t.2.2 j w)) := by unfold wordE; rw [has_lt]; rfl
   unfold stpW
   cases h : wordE x.1 t.2.2 j w != 0 with
   | true => exact Q5b_ok.rndR ((lx x r126ir) i j t.1 t.2.1 (t.2.2.map strC.enc) ((t.2.2.take j).map strC.enc) w (findP x.1 w) _ _ _ _) ⟨hlt, hg, ⟨rfl, spFindP _ K.p63⟩, ⟨rfl, spWhen _ 10⟩, q1, hg, ⟨q2, q3⟩, ⟨rfl, spWhen _ 9⟩, ⟨rfl, fr⟩, h, trivial, rfl⟩
   | false =>
    have hr := (lx x r126in) i j t.1 t.2.1 (t.2.2.map strC.enc) ((t.2.2.take j).map strC.enc) w (findP x.1 w) (whenM (decide (findP x.1 w < 0)) 10) (whenM (hasWordM (t.2.2.take j) w) 9) (wordE x.1 t.2.2 j w) (hasWordM (t.2.2.take j) w)
    rw [wrap_ix hj hl] at hr
    exact Q5b_ok.rndN hr ⟨hlt, hg, ⟨rfl, spFindP _ K.p63⟩, ⟨rfl, spWhen _ 10⟩, q1, hg, ⟨q2, q3⟩, ⟨rfl, spWhen _ 9⟩, ⟨rfl, fr⟩, h, trivial, rfl⟩)
  (Q5b_ok.rndX ((lx x r126ix) i t.2.2.length t.1 t.2.1 (t.2.2.map strC.enc)) ⟨by rw [e_st]; exact lt_self _, trivial, rfl⟩)
 unfold wordsM srchE
 cases hq : srch (stpW x.1 t.2.2) 0 t.2.2 with
 | some e =>
  rw [hq] at h
  have hne : ((some e : Option Int).getD 0 != 0) = true := by have := srch_some_ne (F := wordE x.1 t.2.2) _ _ hq; simpa using this
  rw [hne]; exact h
 | none => rw [hq] at h; exact h
theorem h126 : Holds 126 testsG := holds1 fun x r hr => by
 cases hb : okLb x with
 | false => simp [hb] at hr
 | true =>
  simp only [hb, cond_true, Option.some.injEq] at hr; subst hr
  have K := okLb_at hb
  have hl := limTwo K.ts
  have h := LoopRun.find (C := CS Q5b) (p := 0) (nt := 101) (rd := false) (c := lO (CS Q5b) 126 0) (stpT x) (fun i => mkSt [1, 3] [1] 101 [.ptr 1 0 0, iA (Int.ofNat i)] [lbY x])
   (fun t => mkSt [2] [] 101 [iA t] []) (mkSt [] [] 101 [] []) (.exit 0) (fun _ => .ret) x.2.2.2.1 (by simp) (by simp)
   (fun i t ht => by
    have hi := lt_len ht
    have hlt : decide (Int.ofNat i < Int.ofNat (x.2.2.2.1.map tsC.enc).length) = true := by rw [e_ts]; exact lt_of hi
    have hg := get_map tsC.enc ht
    have q1 : (0 ≤ i ∧ i ≤ (x.2.2.2.1.map tsC.enc).length) := ⟨Nat.zero_le _, by rw [List.length_map]; omega⟩
    have q2 : ([.rsl 3 (List.take (i - 0) (List.drop 0 (x.2.2.2.1.map tsC.enc))) false, sA t.1] : List AV) = [slA tsC 3 (x.2.2.2.1.take i), sA t.1] := by rw [take_map]; rfl
    have q3 : findTG ([.rsl 3 (List.take (i - 0) (List.drop 0 (x.2.2.2.1.map tsC.enc))) false, sA t.1] : List AV) = some (AV.v (.int .i64 (findT (x.2.2.2.1.take i) t.1))) := by
     rw [q2]; exact spFindT _ (blt_take i K.ts)
    have w4 : ([bA (Int.ofNat (t.2.2.map strC.enc).length == 0), iA 12] : List AV) = [bA (Int.ofNat t.2.2.length == 0), iA 12] := by rw [e_st]
    have w5 : ([bA (decide (Int.ofNat (t.2.2.map strC.enc).length > 16)), iA 5] : List AV) = [bA (decide (Int.ofNat t.2.2.length > 16)), iA 5] := by rw [e_st]
    have v4 : whenG ([bA (Int.ofNat (t.2.2.map strC.enc).length == 0), iA 12] : List AV) = some (iA (whenM (Int.ofNat t.2.2.length == 0) 12)) := by rw [w4]; exact spWhen _ 12
    have v5 : whenG ([bA (decide (Int.ofNat (t.2.2.map strC.enc).length > 16)), iA 5] : List AV) = some (iA (whenM (decide (Int.ofNat t.2.2.length > 16)) 5)) := by rw [w5]; exact spWhen _ 5
    have fr : firstG [.rsl 1 [iA (nameErr t.1), iA (whenM (decide (findT (x.2.2.2.1.take i) t.1 ≥ 0)) 9), iA (dayM t.2.1), iA (whenM (Int.ofNat t.2.2.length == 0) 12), iA (whenM (decide (Int.ofNat t.2.2.length > 16)) 5)] true] = some (iA (firstM (tE (x.2.2.2.1.take i) t))) := rfl
    unfold stpT
    cases he : firstM (tE (x.2.2.2.1.take i) t) != 0 with
    | true =>
     rw [testM_e (by simpa using he), he]
     exact Q5b_ok.rndR ((lx x r126a) i t.1 t.2.1 (t.2.2.map strC.enc) ((x.2.2.2.1.take i).map tsC.enc) (findT (x.2.2.2.1.take i) t.1) _ _ _ _ _ (firstM (tE (x.2.2.2.1.take i) t)) _ _)
      ⟨hlt, hg, ⟨rfl, spName _⟩, q1, ⟨q2, q3⟩, ⟨rfl, spWhen _ 9⟩, ⟨rfl, spDay _⟩, ⟨w4, v4⟩, ⟨w5, v5⟩, ⟨rfl, fr⟩, he, trivial, rfl⟩
    | false =>
     have hz : firstM (tE (x.2.2.2.1.take i) t) = 0 := by simpa using he
     obtain ⟨_, _, hday, _, _⟩ := tE_zero hz
     rw [testM_z hz]
     have hin := inner126 x i t K (K.ws t (List.mem_of_getElem? ht))
     cases hv : wordsM x.1 t.2.2 != 0 with
     | true =>
      rw [hv] at hin
      simp only [cond_true, hv]
      exact Q5b_ok.rndR ((lx x r126c) i t.1 t.2.1 (t.2.2.map strC.enc) ((x.2.2.2.1.take i).map tsC.enc) (findT (x.2.2.2.1.take i) t.1) _ _ _ _ _ (firstM (tE (x.2.2.2.1.take i) t)) _ _ (wordsM x.1 t.2.2))
       ⟨hlt, hg, ⟨rfl, spName _⟩, q1, ⟨q2, q3⟩, ⟨rfl, spWhen _ 9⟩, ⟨rfl, spDay _⟩, ⟨w4, v4⟩, ⟨w5, v5⟩, ⟨rfl, fr⟩, he, ⟨trivial, trivial, hin.says⟩, trivial, rfl⟩
     | false =>
      rw [hv] at hin
      simp only [cond_false]
      have hw := wrap_ix hi hl
      cases i with
      | zero =>
       have hd : decide (t.2.1 < prevD dayT x.2.2.2.1 0) = false := decide_eq_false (by have := dayM_zero hday; show ¬ (_ < (0 : Int)); omega)
       rw [hd]
       have hr := (lx x r126z) 0 t.1 t.2.1 (t.2.2.map strC.enc) ((x.2.2.2.1.take 0).map tsC.enc) (findT (x.2.2.2.1.take 0) t.1) (nameErr t.1) (whenM (decide (findT (x.2.2.2.1.take 0) t.1 ≥ 0)) 9) (dayM t.2.1) (whenM (Int.ofNat t.2.2.length == 0) 12) (whenM (decide (Int.ofNat t.2.2.length > 16)) 5) (firstM (tE (x.2.2.2.1.take 0) t)) (Int.ofNat t.2.2.length == 0) (decide (Int.ofNat t.2.2.length > 16))
       rw [hw] at hr
       exact Q5b_ok.rndN hr ⟨hlt, hg, ⟨rfl, spName _⟩, q1, ⟨q2, q3⟩, ⟨rfl, spWhen _ 9⟩, ⟨rfl, spDay _⟩, ⟨w4, v4⟩, ⟨w5, v5⟩, ⟨rfl, fr⟩, he, ⟨trivial, trivial, hin.says⟩, rfl, rfl, trivial, rfl⟩
      | succ j =>
       obtain ⟨z, hz2⟩ : ∃ z, x.2.2.2.1[j]? = some z := ⟨_, List.getElem?_eq_getElem (by omega)⟩
       have hgz := get_map tsC.enc hz2
       rw [prevD_at hz2]
       cases ho : decide (t.2.1 < dayT z) with
       | true =>
        exact Q5b_ok.rndR ((lx x r126t) (j + 1) t.1 t.2.1 (t.2.2.map strC.enc) ((x.2.2.2.1.take (j + 1)).map tsC.enc) (findT (x.2.2.2.1.take (j + 1)) t.1) _ _ _ _ _ (firstM (tE (x.2.2.2.1.take (j + 1)) t)) _ _ j z.1 z.2.1 (z.2.2.map strC.enc))
         ⟨hlt, hg, ⟨rfl, spName _⟩, q1, ⟨q2, q3⟩, ⟨rfl, spWhen _ 9⟩, ⟨rfl, spDay _⟩, ⟨w4, v4⟩, ⟨w5, v5⟩, ⟨rfl, fr⟩, he, ⟨trivial, trivial, hin.says⟩, pos_succ j, prevIx Q5b _ _ hi hl, hgz, ho, trivial, rfl⟩
       | false =>
        have hr := (lx x r126s) (j + 1) t.1 t.2.1 (t.2.2.map strC.enc) ((x.2.2.2.1.take (j + 1)).map tsC.enc) (findT (x.2.2.2.1.take (j + 1)) t.1) (nameErr t.1) (whenM (decide (findT (x.2.2.2.1.take (j + 1)) t.1 ≥ 0)) 9) (dayM t.2.1) (whenM (Int.ofNat t.2.2.length == 0) 12) (whenM (decide (Int.ofNat t.2.2.length > 16)) 5) (firstM (tE (x.2.2.2.1.take (j + 1)) t)) (Int.ofNat t.2.2.length == 0) (decide (Int.ofNat t.2.2.length > 16)) j z.1 z.2.1 (z.2.2.map strC.enc)
        rw [hw] at hr
        exact Q5b_ok.rndN hr ⟨hlt, hg, ⟨rfl, spName _⟩, q1, ⟨q2, q3⟩, ⟨rfl, spWhen _ 9⟩, ⟨rfl, spDay _⟩, ⟨w4, v4⟩, ⟨w5, v5⟩, ⟨rfl, fr⟩, he, ⟨trivial, trivial, hin.says⟩, pos_succ j, prevIx Q5b _ _ hi hl, hgz, ho, trivial, rfl⟩)
   (Q5b_ok.rndX ((lx x r126x) x.2.2.2.1.length) ⟨by rw [e_ts]; exact lt_self _, trivial, rfl⟩)
  unfold testsM srchE
  cases h64 : decide (Int.ofNat x.2.2.2.1.length > 64) with
  | true => exact Q5b_ok.tr ((lx x t126l)) ⟨by rw [e_ts]; exact h64, rfl⟩
  | false =>
   cases hq : srch (stpT x) 0 x.2.2.2.1 with
   | some t => rw [hq] at h; exact Q5b_ok.tr ((lx x t126r) t) ⟨by rw [e_ts]; exact h64, ⟨trivial, trivial, h.says⟩, rfl⟩
   | none => rw [hq] at h; exact Q5b_ok.tr ((lx x t126e)) ⟨by rw [e_ts]; exact h64, ⟨trivial, trivial, h.says⟩, rfl⟩
def Q6 : Specs := ((Q5b.set 137 hwG).set 126 testsG)
theorem Q6_ok : Ok Q6 := ((Q5b_ok.set h137).set h126)
end Go.Vm.S3

namespace Go.Vm.S3
open Go.Proofs Go.RowKit
set_option maxRecDepth 100000
theorem r195r (ks vm : List AV) (n0 i : Nat) (a : ByteArray) (n : Int) (ws : List AV) (ws1 : List AV) (w : ByteArray) (k e1 e2 e : Int) (b q : Bool) : Lr Q6 195 70 0 [2, 3, 41, 42, 43] [3] [2, 3, 41, 42, 43] [3] [6] [] [.rmp ks vm, .ptr 3 0 0, .rsl 1 ws false, iA (Int.ofNat n0), iA (Int.ofNat i)] [(false, .box [sA a, iA n, .rsl 1 ws false])] [.as 44 true, .chk [sA w], .chk [.tup [iA k, bA b]], .sp [bA (!b), iA 10] (iA e1), .chk [], .sp [.rsl 1 ws1 false, sA w] (bA q), .sp [bA q, iA 9] (iA e2), .sp [.rsl 1 [iA e1, iA e2] true] (iA e), .as 67 true] [.t i n0, .g ws i, .k ((alookup (CS Q6) Tr.leaf 196 (AV.rmp ks vm) (sA w) true) = (some (AV.tup [iA k, bA b]))), .f 109, .k (0 ≤ i ∧ i ≤ ws.length), .q 137 [.rsl 1 (List.take (i - 0) (List.drop 0 ws)) false, sA w], .f 109, .f 108, .b (e != 0)] .ret [iA e] [] := kN (by kernel_rfl)
theorem r195n (ks vm : List AV) (n0 i : Nat) (a : ByteArray) (n : Int) (ws : List AV) (ws1 : List AV) (w : ByteArray) (k e1 e2 e : Int) (b q : Bool) : Lr Q6 195 70 0 [2, 3, 41, 42, 43] [3] [2, 3, 41, 42, 43] [3] [] [] [.rmp ks vm, .ptr 3 0 0, .rsl 1 ws false, iA (Int.ofNat n0), iA (Int.ofNat i)] [(false, .box [sA a, iA n, .rsl 1 ws false])] [.as 44 true, .chk [sA w], .chk [.tup [iA k, bA b]], .sp [bA (!b), iA 10] (iA e1), .chk [], .sp [.rsl 1 ws1 false, sA w] (bA q), .sp [bA q, iA 9] (iA e2), .sp [.rsl 1 [iA e1, iA e2] true] (iA e), .as 67 false] [.t i n0, .g ws i, .k ((alookup (CS Q6) Tr.leaf 196 (AV.rmp ks vm) (sA w) true) = (some (AV.tup [iA k, bA b]))), .f 109, .k (0 ≤ i ∧ i ≤ ws.length), .q 137 [.rsl 1 (List.take (i - 0) (List.drop 0 ws)) false, sA w], .f 109, .f 108, .b (e != 0)] .nrm [.rmp ks vm, .ptr 3 0 0, .rsl 1 ws false, iA (Int.ofNat n0), iA (IntKind.i64.wrap (Int.ofNat i + 1))] [(false, .box [sA a, iA n, .rsl 1 ws false])] := kN (by kernel_rfl)
theorem r195x (ks vm : List AV) (n0 i : Nat) (a : ByteArray) (n : Int) (ws : List AV) : Lr Q6 195 70 0 [2, 3, 41, 42, 43] [3] [2, 3, 41, 42, 43] [3] [] [] [.rmp ks vm, .ptr 3 0 0, .rsl 1 ws false, iA (Int.ofNat n0), iA (Int.ofNat i)] [(false, .box [sA a, iA n, .rsl 1 ws false])] [.as 44 false] [.t i n0] (.exit 0) [] [] := kN (by kernel_rfl)
abbrev cQ7_11 (ts1 ks vm : List AV) (a : ByteArray) (n : Int) (ws : List AV) (tw q4 q5 : Bool) (e1 e2 e3 e4 e5 e : Int) (h9 : List Hn) (a9 : List An) (r9 : AV) : Prop := L Q6 195 [.agg [sA a, iA n, .rsl 1 ws false], .rsl 3 ts1 false, .rmp ks vm] ([.sp [.rsl 3 ts1 false, .fn (.func 220) [] [.rptr [sA a, iA n, .rsl 1 ws false]]] (bA tw), .sp [sA a] (iA e1), .sp [bA tw, iA 9] (iA e2), .sp [iA n] (iA e3), .sp [bA q4, iA 12] (iA e4), .sp [bA q5, iA 5] (iA e5), .sp [.rsl 1 [iA e1, iA e2, iA e3, iA e4, iA e5] true] (iA e)] ++ h9) ([.f 219, .f 154, .f 109, .f 112, .q 109 [bA (Int.ofNat ws.length == 0), iA 12], .q 109 [bA (decide (Int.ofNat ws.length > 16)), iA 5], .f 108] ++ a9) r9
theorem t195a (ts1 ks vm : List AV) (a : ByteArray) (n : Int) (ws : List AV) (tw q4 q5 : Bool) (e1 e2 e3 e4 e5 e : Int) : cQ7_11 ts1 ks vm a n ws tw q4 q5 e1 e2 e3 e4 e5 e [.as 38 true] [.b (e != 0)] (iA e) := kR (by kernel_rfl)
theorem t195r (ts1 ks vm : List AV) (a : ByteArray) (n : Int) (ws : List AV) (tw q4 q5 : Bool) (e1 e2 e3 e4 e5 e : Int) (t : Int) : cQ7_11 ts1 ks vm a n ws tw q4 q5 e1 e2 e3 e4 e5 e [.as 38 false, .loop 0 [2, 3, 41, 42, 43] [3] [6] [] .ret [iA t] []] [.b (e != 0), .l 70 195 0 70 [.rmp ks vm, .ptr 3 0 0, .rsl 1 ws false, iA (Int.ofNat ws.length), iA 0] [(false, .box [sA a, iA n, .rsl 1 ws false])]] (iA t) := kR (by kernel_rfl)
theorem t195e (ts1 ks vm : List AV) (a : ByteArray) (n : Int) (ws : List AV) (tw q4 q5 : Bool) (e1 e2 e3 e4 e5 e : Int) : cQ7_11 ts1 ks vm a n ws tw q4 q5 e1 e2 e3 e4 e5 e [.as 38 false, .loop 0 [2, 3, 41, 42, 43] [3] [] [] (.exit 0) [] []] [.b (e != 0), .l 70 195 0 70 [.rmp ks vm, .ptr 3 0 0, .rsl 1 ws false, iA (Int.ofNat ws.length), iA 0] [(false, .box [sA a, iA n, .rsl 1 ws false])]] (iA 0) := kR (by kernel_rfl)
theorem lookN (S : Specs) (ns : List ByteArray) (s : ByteArray) : alookup (CS S) .leaf 196 (.rmp (ns.map sA) (idxA ns.length)) (sA s) true = some (.tup [iA (Int.ofNat ((findIx s ns 0).getD 0)), bA (findIx s ns 0).isSome]) := by
 have h := lookP S (ns.map fun n => (n, pt0.2)) s true
 have e : nms (ns.map fun n => (n, pt0.2)) = ns := by show List.map _ (List.map _ ns) = ns; rw [List.map_map]; exact List.map_id' ns
 rw [e, List.length_map] at h
 exact h
def wordN (ns ws : List ByteArray) (k : Nat) (w : ByteArray) : Int := firstM [whenM (!(findIx w ns 0).isSome) 10, whenM (hasWordM (ws.take k) w) 9]
def wordsN (ns ws : List ByteArray) : Int := srchE (wordN ns ws) ws
theorem wordN_eq (ps : List Pt) (ws : List ByteArray) : wordsN (nms ps) ws = wordsM ps ws := by
 unfold wordsN wordsM wordN wordE
 simp only [hasP_ix]
def tchkN (ns : List ByteArray) (l : List Ts) (t : Ts) : Int := firstM (tE l t ++ [wordsN ns t.2.2])
def tchkG : List AV → Option AV := sp3 tsC tssC mapC fun t l m => bif Nat.ble l.length lim && (Nat.ble t.2.2.length lim && decide (m.2 = idxI m.1.length)) then some (iA (tchkN m.1 l t)) else none
theorem spHas220 {l : List Ts} (c : Ts) (hl : Nat.blt l.length two63 = true) : has220G [slA tsC 3 l, .fn (.func 220) [] [.rptr (tsR.encs c)]] = some (bA (hasT l c.1)) := by
 have := sp2_at (A := tssC) (B := cloC 220 (rptrR tsR)) (F := fun l c => bif Nat.blt l.length two63 then some (bA (hasT l c.1)) else none) l c
 rw [hl] at this; exact this
theorem h195 : Holds 195 tchkG := holds3 fun t l m r hr => by
 cases hb : Nat.ble l.length lim && (Nat.ble t.2.2.length lim && decide (m.2 = idxI m.1.length)) with
 | false => simp [hb] at hr
 | true =>
  simp only [hb, cond_true, Option.some.injEq] at hr; subst hr
  rw [Bool.and_eq_true, Bool.and_eq_true] at hb
  obtain ⟨hb1, hb2, hb3⟩ := hb
  obtain ⟨ns, is⟩ := m
  have hm : is = idxI ns.length := of_decide_eq_true hb3
  subst hm
  have hlim := Nat.le_of_ble_eq_true hb2
  have hl := limTwo hlim
  have h63 : Nat.blt l.length two63 = true := Nat.ble_eq_true_of_le (limTwo (Nat.le_of_ble_eq_true hb1))
  have em : mapC.enc (ns, idxI ns.length) = .rmp (ns.map sA) (idxA ns.length) := by
   show AV.rmp _ ((idxI ns.length).map intC.enc) = _
   rw [idxI_enc]; rfl
  rw [em]
  have h := LoopRun.find (C := CS Q6) (p := 0) (nt := 70) (rd := false) (c := lO (CS Q6) 195 0) (fun j w => bif wordN ns t.2.2 j w != 0 then some (wordN ns t.2.2 j w) else none)
   (fun j => mkSt [2, 3, 41, 42, 43] [3] 70 [.rmp (ns.map sA) (idxA ns.length), .ptr 3 0 0, .rsl 1 (t.2.2.map strC.enc) false, iA (Int.ofNat (t.2.2.map strC.enc).length), iA (Int.ofNat j)] [tsX t])
   (fun t => mkSt [6] [] 70 [iA t] []) (mkSt [] [] 70 [] []) (.exit 0) (fun _ => .ret) t.2.2 (by simp) (by simp)
   (fun j w hw => by
    have hj := lt_len hw
    have hlt : decide (Int.ofNat j < Int.ofNat (t.2.2.map strC.enc).length) = true := by rw [e_st]; exact lt_of hj
    have hg := get_map strC.enc hw
    have hk := lookN Q6 ns w
    have q1 : (0 ≤ j ∧ j ≤ (t.2.2.map strC.enc).length) := ⟨Nat.zero_le _, by rw [List.length_map]; omega⟩
    have q2 : ([.rsl 1 (List.take (j - 0) (List.drop 0 (t.2.2.map strC.enc))) false, sA w] : List AV) = [slA strC 1 (t.2.2.take j), sA w] := by rw [take_map]; rfl
    have q3 : hwG ([.rsl 1 (List.take (j - 0) (List.drop 0 (t.2.2.map strC.enc))) false, sA w] : List AV) = some (AV.v (.bool (hasWordM (t.2.2.take j) w))) := by
     rw [q2]; exact spHw w (blt_take j hlim)
    have fr : firstG [.rsl 1 [iA (whenM (!(findIx w ns 0).isSome) 10), iA (whenM (hasWordM (t.2.2.take j) w) 9)] true] = some (iA (wordN ns t.2.2 j w)) := rfl
    cases h : wordN ns t.2.2 j w != 0 with
    | true => exact Q6_ok.rndR (r195r _ _ (t.2.2.map strC.enc).length j t.1 t.2.1 (t.2.2.map strC.enc) ((t.2.2.take j).map strC.enc) w _ _ _ _ (findIx w ns 0).isSome _) ⟨hlt, hg, hk, ⟨rfl, spWhen _ 10⟩, q1, ⟨q2, q3⟩, ⟨rfl, spWhen _ 9⟩, ⟨rfl, fr⟩, h, trivial, rfl⟩
    | false =>
     have hr := r195n (ns.map sA) (idxA ns.length) (t.2.2.map strC.enc).length j t.1 t.2.1 (t.2.2.map strC.enc) ((t.2.2.take j).map strC.enc) w (Int.ofNat ((findIx w ns 0).getD 0)) (whenM (!(findIx w ns 0).isSome) 10) (whenM (hasWordM (t.2.2.take j) w) 9) (wordN ns t.2.2 j w) (findIx w ns 0).isSome (hasWordM (t.2.2.take j) w)
     rw [wrap_ix hj hl] at hr
     exact Q6_ok.rndN hr ⟨hlt, hg, hk, ⟨rfl, spWhen _ 10⟩, q1, ⟨q2, q3⟩, ⟨rfl, spWhen _ 9⟩, ⟨rfl, fr⟩, h, trivial, rfl⟩)
   (Q6_ok.rndX (r195x _ _ (t.2.2.map strC.enc).length t.2.2.length t.1 t.2.1 (t.2.2.map strC.enc)) ⟨by rw [e_st]; exact lt_self _, trivial, rfl⟩)
  have w4 : ([bA (Int.ofNat (t.2.2.map strC.enc).length == 0), iA 12] : List AV) = [bA (Int.ofNat t.2.2.length == 0), iA 12] := by rw [e_st]
  have w5 : ([bA (decide (Int.ofNat (t.2.2.map strC.enc).length > 16)), iA 5] : List AV) = [bA (decide (Int.ofNat t.2.2.length > 16)), iA 5] := by rw [e_st]
  have v4 : whenG ([bA (Int.ofNat (t.2.2.map strC.enc).length == 0), iA 12] : List AV) = some (iA (whenM (Int.ofNat t.2.2.length == 0) 12)) := by rw [w4]; exact spWhen _ 12
  have v5 : whenG ([bA (decide (Int.ofNat (t.2.2.map strC.enc).length > 16)), iA 5] : List AV) = some (iA (whenM (decide (Int.ofNat t.2.2.length > 16)) 5)) := by rw [w5]; exact spWhen _ 5
  have fr : firstG [.rsl 1 [iA (nameErr t.1), iA (whenM (hasT l t.1) 9), iA (dayM t.2.1), iA (whenM (Int.ofNat t.2.2.length == 0) 12), iA (whenM (decide (Int.ofNat t.2.2.length > 16)) 5)] true] = some (iA (firstM (tE l t))) := rfl
  have hM : tchkN ns l t = bif firstM (tE l t) != 0 then firstM (tE l t) else wordsN ns t.2.2 := by
   unfold tchkN
   exact firstM_snoc _ _
  show Comp Tryz.prog globA 195 [tsC.enc t, tssC.enc l, _] (iA (tchkN ns l t))
  rw [hM]
  unfold wordsN srchE
  cases he : firstM (tE l t) != 0 with
  | true => exact Q6_ok.tr (t195a (l.map tsC.enc) _ _ t.1 t.2.1 (t.2.2.map strC.enc) _ _ _ _ _ _ _ _ (firstM (tE l t))) ⟨⟨rfl, spHas220 t h63⟩, ⟨rfl, spName _⟩, ⟨rfl, spWhen _ 9⟩, ⟨rfl, spDay _⟩, ⟨w4, v4⟩, ⟨w5, v5⟩, ⟨rfl, fr⟩, he, rfl⟩
  | false =>
   cases hq : srch (fun j w => bif wordN ns t.2.2 j w != 0 then some (wordN ns t.2.2 j w) else none) 0 t.2.2 with
   | some e => rw [hq] at h; exact Q6_ok.tr (t195r (l.map tsC.enc) _ _ t.1 t.2.1 (t.2.2.map strC.enc) _ _ _ _ _ _ _ _ (firstM (tE l t)) e) ⟨⟨rfl, spHas220 t h63⟩, ⟨rfl, spName _⟩, ⟨rfl, spWhen _ 9⟩, ⟨rfl, spDay _⟩, ⟨w4, v4⟩, ⟨w5, v5⟩, ⟨rfl, fr⟩, he, ⟨trivial, trivial, h.says⟩, rfl⟩
   | none => rw [hq] at h; exact Q6_ok.tr (t195e (l.map tsC.enc) _ _ t.1 t.2.1 (t.2.2.map strC.enc) _ _ _ _ _ _ _ _ (firstM (tE l t))) ⟨⟨rfl, spHas220 t h63⟩, ⟨rfl, spName _⟩, ⟨rfl, spWhen _ 9⟩, ⟨rfl, spDay _⟩, ⟨w4, v4⟩, ⟨w5, v5⟩, ⟨rfl, fr⟩, he, ⟨trivial, trivial, h.says⟩, rfl⟩
def Q7 : Specs := (Q6.set 195 tchkG)
theorem Q7_ok : Ok Q7 := (Q6_ok.set h195)
end Go.Vm.S3
