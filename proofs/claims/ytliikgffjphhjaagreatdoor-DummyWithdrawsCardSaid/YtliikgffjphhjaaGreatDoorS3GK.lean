/- Labs: a calibration by its name; whether it is good. -/
import Derived.Test.YtliikgffjphhjaaGreatDoorS3GJ
namespace Go.Vm.S3
open Go.Proofs Go.RowKit
set_option maxRecDepth 100000
variable (ps fs cs ts : List AV) (d u : Int)
theorem t114a (s : ByteArray) (e0 : Int) : L Q14 114 [lbE ps fs cs ts d u, sA s] [.sp [lbE ps fs cs ts d u] (iA e0), .as 11 true] [.f 49, .b (e0 != 0)] (.tup [iA 0, iA e0]) := kR (by kernel_rfl)
theorem t114b (s : ByteArray) (e0 k e : Int) : L Q14 114 [lbE ps fs cs ts d u, sA s] [.sp [lbE ps fs cs ts d u] (iA e0), .as 11 false, .sp [.rsl 5 cs false, .fn (.func 187) [] [.rptr [sA s]]] (iA k), .sp [bA (decide (k < 0)), iA 10] (iA e)] [.f 49, .b (e0 != 0), .f 186, .f 109] (.tup [iA k, iA e]) := kR (by kernel_rfl)
theorem r115a (es : List AV) (n1 i : Nat) (a b c : ByteArray) (n : Int) (vs : List AV) (lo hi v : Int) : Lr Q14 115 48 0 [3, 22, 23, 24] [3] [3, 22, 23, 24] [3] [4] [] [.ptr 3 0 0, .rsl 2 es false, iA (Int.ofNat n1), iA (Int.ofNat i)] [(false, .box [sA a, sA b, sA c, iA n, .rsl 1 vs false])] [.as 25 true, .chk [.agg [iA lo, iA hi]], .chk [iA v], .as 37 true, .as 46 true] [.t i n1, .g es i, .g vs i, .b (decide (v < lo)), .b true] .ret [bA false] [] := kN (by kernel_rfl)
theorem r115b (es : List AV) (n1 i : Nat) (a b c : ByteArray) (n : Int) (vs : List AV) (lo hi v : Int) : Lr Q14 115 48 0 [3, 22, 23, 24] [3] [3, 22, 23, 24] [3] [4] [] [.ptr 3 0 0, .rsl 2 es false, iA (Int.ofNat n1), iA (Int.ofNat i)] [(false, .box [sA a, sA b, sA c, iA n, .rsl 1 vs false])] [.as 25 true, .chk [.agg [iA lo, iA hi]], .chk [iA v], .as 37 false, .chk [iA v], .as 46 true] [.t i n1, .g es i, .g vs i, .b (decide (v < lo)), .g vs i, .b (decide (v > hi))] .ret [bA false] [] := kN (by kernel_rfl)
theorem r115n (es : List AV) (n1 i : Nat) (a b c : ByteArray) (n : Int) (vs : List AV) (lo hi v : Int) : Lr Q14 115 48 0 [3, 22, 23, 24] [3] [3, 22, 23, 24] [3] [] [] [.ptr 3 0 0, .rsl 2 es false, iA (Int.ofNat n1), iA (Int.ofNat i)] [(false, .box [sA a, sA b, sA c, iA n, .rsl 1 vs false])] [.as 25 true, .chk [.agg [iA lo, iA hi]], .chk [iA v], .as 37 false, .chk [iA v], .as 46 false] [.t i n1, .g es i, .g vs i, .b (decide (v < lo)), .g vs i, .b (decide (v > hi))] .nrm [.ptr 3 0 0, .rsl 2 es false, iA (Int.ofNat n1), iA (IntKind.i64.wrap (Int.ofNat i + 1))] [(false, .box [sA a, sA b, sA c, iA n, .rsl 1 vs false])] := kN (by kernel_rfl)
theorem r115x (es : List AV) (n1 i : Nat) (a b c : ByteArray) (n : Int) (vs : List AV) : Lr Q14 115 48 0 [3, 22, 23, 24] [3] [3, 22, 23, 24] [3] [] [] [.ptr 3 0 0, .rsl 2 es false, iA (Int.ofNat n1), iA (Int.ofNat i)] [(false, .box [sA a, sA b, sA c, iA n, .rsl 1 vs false])] [.as 25 false] [.t i n1] (.exit 0) [] [] := kN (by kernel_rfl)
theorem t115r (a b c : ByteArray) (n : Int) (vs : List AV) (k : Nat) (e : Int) (pa pb : ByteArray) (pm px py pz : Int) (co : List AV) : L Q14 115 [lbE ps fs cs ts d u, .agg [sA a, sA b, sA c, iA n, .rsl 1 vs false]] [.sp [.rsl 7 ps false, sA b] (.tup [iA (Int.ofNat k), iA e]), .chk [.agg [sA pa, sA pb, iA pm, iA px, iA py, iA pz, .rsl 2 co false]], .loop 0 [3, 22, 23, 24] [3] [4] [] .ret [bA false] []] [.f 95, .g ps k, .l 48 115 0 48 [.ptr 3 0 0, .rsl 2 co false, iA (Int.ofNat co.length), iA 0] [(false, .box [sA a, sA b, sA c, iA n, .rsl 1 vs false])]] (bA false) := kR (by kernel_rfl)
theorem t115e (a b c : ByteArray) (n : Int) (vs : List AV) (k : Nat) (e : Int) (pa pb : ByteArray) (pm px py pz : Int) (co : List AV) : L Q14 115 [lbE ps fs cs ts d u, .agg [sA a, sA b, sA c, iA n, .rsl 1 vs false]] [.sp [.rsl 7 ps false, sA b] (.tup [iA (Int.ofNat k), iA e]), .chk [.agg [sA pa, sA pb, iA pm, iA px, iA py, iA pz, .rsl 2 co false]], .loop 0 [3, 22, 23, 24] [3] [] [] (.exit 0) [] []] [.f 95, .g ps k, .l 48 115 0 48 [.ptr 3 0 0, .rsl 2 co false, iA (Int.ofNat co.length), iA 0] [(false, .box [sA a, sA b, sA c, iA n, .rsl 1 vs false])]] (bA true) := kR (by kernel_rfl)
def fcM (x : Lb) (s : ByteArray) : Int := bif labM x != 0 then labM x else whenM (decide (findC x.2.2.1 s < 0)) 10
def fcI (x : Lb) (s : ByteArray) : Int := bif labM x != 0 then 0 else findC x.2.2.1 s
def fcG : List AV → Option AV := sp2 labC strC fun x s => bif okLb x then some (.tup [iA (fcI x s), iA (fcM x s)]) else none
theorem spLab {x : Lb} (h : okLb x = true) : labG [lbA x] = some (iA (labM x)) := by
 have := sp1_at (A := labC) (F := fun x => bif okLb x then some (iA (labM x)) else none) x
 rw [h] at this; exact this
theorem sp187 {l : List Cb} (s : ByteArray) (hl : Nat.blt l.length two63 = true) : ix187G [slA cbC 5 l, .fn (.func 187) [] [.rptr [sA s]]] = some (iA (findC l s)) := by
 have := sp2_at (A := cbsC) (B := cloC 187 (rptrC strC)) (F := fun l s => bif Nat.blt l.length two63 then some (iA (findC l s)) else none) l s
 rw [hl] at this; exact this
theorem sp196 {l : List Ts} (s : ByteArray) (hl : Nat.blt l.length two63 = true) : ix196G [slA tsC 3 l, .fn (.func 196) [] [.rptr [sA s]]] = some (iA (findT l s)) := by
 have := sp2_at (A := tssC) (B := cloC 196 (rptrC strC)) (F := fun l s => bif Nat.blt l.length two63 then some (iA (findT l s)) else none) l s
 rw [hl] at this; exact this
theorem blt_lim {n : Nat} (h : n ≤ lim) : Nat.blt n two63 = true := Nat.ble_eq_true_of_le (limTwo h)
theorem h114 : Holds 114 fcG := holds2 fun x s r hr => by
 cases hb : okLb x with
 | false => simp [hb] at hr
 | true =>
  simp only [hb, cond_true, Option.some.injEq] at hr; subst hr
  have K := okLb_at hb
  unfold fcI fcM
  cases he : labM x != 0 with
  | true => exact Q14_ok.tr ((lx x t114a) s _) ⟨⟨rfl, spLab hb⟩, he, rfl⟩
  | false => exact Q14_ok.tr ((lx x t114b) s (labM x) _ _) ⟨⟨rfl, spLab hb⟩, he, ⟨rfl, sp187 s (blt_lim K.cs)⟩, ⟨rfl, spWhen _ 10⟩, rfl⟩
def atI (l : List Int) (i : Nat) : Int := (l[i]?).getD 0
def outS (vs : List Int) (i : Nat) (y : I2) : Option Unit := bif decide (atI vs i < y.1) || decide (atI vs i > y.2) then some () else none
def prtOf (l : List Pt) (s : ByteArray) : Pt := atP l ((findIx s (nms l) 0).getD 0)
def goodM (l : List Pt) (c : Cb) : Bool := (srch (outS c.2.2.2.2) 0 (prtOf l c.2.1).co).isNone
def goodG : List AV → Option AV := sp2 labC cbC fun x c => bif okLb x && (decide (partsM x.1 = 0) && (hasP x.1 c.2.1 && decide (c.2.2.2.2.length = coLen x.1 c.2.1))) then some (bA (goodM x.1 c)) else none
theorem atI_get {l : List Int} {i : Nat} (h : i < l.length) : l[i]? = some (atI l i) := by
 unfold atI; rw [List.getElem?_eq_getElem h]; rfl
theorem e_iv (l : List I2) : Int.ofNat (l.map ivC.enc).length = Int.ofNat l.length := by simp
theorem loop115 (co : List I2) (c : Cb) (hl : co.length < two63) (hc : c.2.2.2.2.length = co.length) :
  LoopRun (CS Q14) 0 48 false (lO (CS Q14) 115 0) (mkSt [3, 22, 23, 24] [3] 48 [.ptr 3 0 0, .rsl 2 (co.map ivC.enc) false, iA (Int.ofNat (co.map ivC.enc).length), iA 0] [cbX c])
   ((srch (outS c.2.2.2.2) 0 co).elim (.exit 0) fun _ => .ret) ((srch (outS c.2.2.2.2) 0 co).elim (mkSt [] [] 48 [] []) fun _ => mkSt [4] [] 48 [bA false] []) :=
 LoopRun.find (C := CS Q14) (p := 0) (nt := 48) (rd := false) (c := lO (CS Q14) 115 0) (outS c.2.2.2.2) (fun i => mkSt [3, 22, 23, 24] [3] 48 [.ptr 3 0 0, .rsl 2 (co.map ivC.enc) false, iA (Int.ofNat (co.map ivC.enc).length), iA (Int.ofNat i)] [cbX c])
  (fun _ => mkSt [4] [] 48 [bA false] []) (mkSt [] [] 48 [] []) (.exit 0) (fun _ => .ret) co (by simp) (by simp)
  (fun i y hy => by
   have hi := lt_len hy
   have hlt : decide (Int.ofNat i < Int.ofNat (co.map ivC.enc).length) = true := by rw [e_iv]; exact lt_of hi
   have hg := get_map ivC.enc hy
   have hv := get_map intC.enc (atI_get (l := c.2.2.2.2) (i := i) (by omega))
   unfold outS
   cases h1 : decide (atI c.2.2.2.2 i < y.1) with
   | true => exact Q14_ok.rndR (r115a (co.map ivC.enc) (co.map ivC.enc).length i c.1 c.2.1 c.2.2.1 c.2.2.2.1 (c.2.2.2.2.map intC.enc) y.1 y.2 (atI c.2.2.2.2 i)) ⟨hlt, hg, hv, h1, rfl, trivial, rfl⟩
   | false =>
    cases h2 : decide (atI c.2.2.2.2 i > y.2) with
    | true => exact Q14_ok.rndR (r115b (co.map ivC.enc) (co.map ivC.enc).length i c.1 c.2.1 c.2.2.1 c.2.2.2.1 (c.2.2.2.2.map intC.enc) y.1 y.2 (atI c.2.2.2.2 i)) ⟨hlt, hg, hv, h1, hv, h2, trivial, rfl⟩
    | false =>
     have hr := r115n (co.map ivC.enc) (co.map ivC.enc).length i c.1 c.2.1 c.2.2.1 c.2.2.2.1 (c.2.2.2.2.map intC.enc) y.1 y.2 (atI c.2.2.2.2 i)
     rw [wrap_ix hi hl] at hr
     exact Q14_ok.rndN hr ⟨hlt, hg, hv, h1, hv, h2, trivial, rfl⟩)
  (Q14_ok.rndX (r115x (co.map ivC.enc) (co.map ivC.enc).length co.length c.1 c.2.1 c.2.2.1 c.2.2.2.1 (c.2.2.2.2.map intC.enc)) ⟨by rw [e_iv]; exact lt_self _, trivial, rfl⟩)
theorem h115 : Holds 115 goodG := holds2 fun x c r hr => by
 cases hb : okLb x && (decide (partsM x.1 = 0) && (hasP x.1 c.2.1 && decide (c.2.2.2.2.length = coLen x.1 c.2.1))) with
 | false => simp [hb] at hr
 | true =>
  simp only [hb, cond_true, Option.some.injEq] at hr; subst hr
  simp only [Bool.and_eq_true, decide_eq_true_eq] at hb
  obtain ⟨h1, h2, h3, h4⟩ := hb
  have K := okLb_at h1
  obtain ⟨k, hk, hkl, hkp⟩ := known_at h3
  have hco : coLen x.1 c.2.1 = (atP x.1 k).co.length := by unfold coLen; rw [hk]; rfl
  have hpr : prtOf x.1 c.2.1 = atP x.1 k := by unfold prtOf; rw [hk]; rfl
  have hg := get_map ptC.enc (atP_get hkl)
  have hl : (atP x.1 k).co.length < two63 := limTwo (Nat.le_of_ble_eq_true ((okPts_at K.ps).2 _ (List.mem_of_getElem? (atP_get hkl))))
  have hf : find95G [slA ptC 7 x.1, sA c.2.1] = some (.tup [iA (Int.ofNat k), iA (whenM (!hasP x.1 c.2.1) 10)]) := by
   rw [sp95 h2]; unfold find95; rw [hk]; rfl
  have h := loop115 (atP x.1 k).co c hl (by rw [h4, hco])
  unfold goodM
  rw [hpr]
  cases hq : srch (outS c.2.2.2.2) 0 (atP x.1 k).co with
  | some u => rw [hq] at h; exact Q14_ok.tr ((lx x t115r) c.1 c.2.1 c.2.2.1 c.2.2.2.1 (c.2.2.2.2.map intC.enc) k _ (atP x.1 k).1 (atP x.1 k).2.1 (atP x.1 k).2.2.1 (atP x.1 k).2.2.2.1 (atP x.1 k).2.2.2.2.1 (atP x.1 k).2.2.2.2.2.1 ((atP x.1 k).co.map ivC.enc)) ⟨⟨rfl, hf⟩, hg, ⟨trivial, trivial, h.says⟩, rfl⟩
  | none => rw [hq] at h; exact Q14_ok.tr ((lx x t115e) c.1 c.2.1 c.2.2.1 c.2.2.2.1 (c.2.2.2.2.map intC.enc) k _ (atP x.1 k).1 (atP x.1 k).2.1 (atP x.1 k).2.2.1 (atP x.1 k).2.2.2.1 (atP x.1 k).2.2.2.2.1 (atP x.1 k).2.2.2.2.2.1 ((atP x.1 k).co.map ivC.enc)) ⟨⟨rfl, hf⟩, hg, ⟨trivial, trivial, h.says⟩, rfl⟩
def Q15 : Specs := ((Q14.set 114 fcG).set 115 goodG)
theorem Q15_ok : Ok Q15 := ((Q14_ok.set h114).set h115)
end Go.Vm.S3

namespace Go.Vm.S3
open Go.Proofs Go.RowKit
set_option maxRecDepth 100000
variable (ps fs cs ts : List AV) (d u : Int)
theorem t40a (s : ByteArray) (k e : Int) : L Q15 40 [lbE ps fs cs ts d u, sA s] [.sp [lbE ps fs cs ts d u, sA s] (.tup [iA k, iA e]), .as 15 true] [.f 114, .b (e != 0)] (.tup [bA false, iA e]) := kR (by kernel_rfl)
theorem t40b (s : ByteArray) (k : Nat) (e : Int) (a b c : ByteArray) (n : Int) (us : List AV) (g : Bool) : L Q15 40 [lbE ps fs cs ts d u, sA s] [.sp [lbE ps fs cs ts d u, sA s] (.tup [iA (Int.ofNat k), iA e]), .as 15 false, .chk [.agg [sA a, sA b, sA c, iA n, .rsl 1 us false]], .sp [lbE ps fs cs ts d u, .agg [sA a, sA b, sA c, iA n, .rsl 1 us false]] (bA g)] [.f 114, .b (e != 0), .g cs k, .f 115] (.tup [bA g, iA 0]) := kR (by kernel_rfl)
theorem t38a (s : ByteArray) (day : Int) (e0 : Int) : L Q15 38 [lbE ps fs cs ts d u, sA s, iA day] [.sp [lbE ps fs cs ts d u] (iA e0), .as 16 true] [.f 49, .b (e0 != 0)] (.tup [sA (ByteArray.mk #[]), iA e0]) := kR (by kernel_rfl)
abbrev cQ16_4 (ps fs cs ts : List AV) (d u : Int) (s : ByteArray) (day e0 k e1 : Int) (h9 : List Hn) (a9 : List An) (r9 : AV) : Prop := L Q15 38 [lbE ps fs cs ts d u, sA s, iA day] ([.sp [lbE ps fs cs ts d u] (iA e0), .as 16 false, .sp [.rsl 7 ps false, sA s] (.tup [iA k, iA e1])] ++ h9) ([.f 49, .b (e0 != 0), .f 95] ++ a9) r9
theorem t38b (s : ByteArray) (day : Int) (e0 k e1 : Int) : cQ16_4 ps fs cs ts d u s day e0 k e1 [.as 26 true] [.b (e1 != 0)] (.tup [sA (ByteArray.mk #[]), iA e1]) := kR (by kernel_rfl)
theorem t38c (s : ByteArray) (day : Int) (e0 k e1 e2 : Int) : cQ16_4 ps fs cs ts d u s day e0 k e1 [.as 26 false, .sp [iA day] (iA e2), .as 31 true] [.b (e1 != 0), .f 112, .b (e2 != 0)] (.tup [sA (ByteArray.mk #[]), iA e2]) := kR (by kernel_rfl)
theorem t38d (s : ByteArray) (day : Int) (e0 k e1 e2 : Int) (w : ByteArray) : cQ16_4 ps fs cs ts d u s day e0 k e1 [.as 26 false, .sp [iA day] (iA e2), .as 31 false, .sp [lbE ps fs cs ts d u, sA s, iA day] (sA w), .as 38 true] [.b (e1 != 0), .f 112, .b (e2 != 0), .f 113, .b (w.toList == (ByteArray.mk #[]).toList)] (.tup [sA (ByteArray.mk #[]), iA 7]) := kR (by kernel_rfl)
theorem t38e (s : ByteArray) (day : Int) (e0 k e1 e2 : Int) (w : ByteArray) : cQ16_4 ps fs cs ts d u s day e0 k e1 [.as 26 false, .sp [iA day] (iA e2), .as 31 false, .sp [lbE ps fs cs ts d u, sA s, iA day] (sA w), .as 38 false] [.b (e1 != 0), .f 112, .b (e2 != 0), .f 113, .b (w.toList == (ByteArray.mk #[]).toList)] (.tup [sA w, iA 0]) := kR (by kernel_rfl)
theorem srchE_zero {α : Type} {F : Nat → α → Int} {l : List α} (h : srchE F l = 0) : ∀ i x, l[i]? = some x → F i x = 0 := fun i x hx => by
 unfold srchE at h
 cases hq : srch (fun i x => bif F i x != 0 then some (F i x) else none) 0 l with
 | some t => rw [hq] at h; exact absurd h (srch_some_ne (F := F) l 0 hq)
 | none =>
  have h1 := srch_all_none l 0 hq i x hx
  rw [Nat.zero_add] at h1
  cases h0 : F i x != 0 with
  | true => rw [h0] at h1; cases h1
  | false => simpa using h0
structure GoodL (x : Lb) : Prop where
 ps : partsM x.1 = 0
 fs : ∀ i y, x.2.1[i]? = some y → fitM x i y = 0
 cs : ∀ i c, x.2.2.1[i]? = some c → calM x i c = 0
 ts : ∀ i t, x.2.2.2.1[i]? = some t → testM x i t = 0
 fn : x.2.1.length ≤ 64
 cn : x.2.2.1.length ≤ 64
 tn : x.2.2.2.1.length ≤ 64
 rd : withinM x.2.2.2.2.1 0 1000 = 0
 ru : withinM x.2.2.2.2.2 1 100 = 0
theorem labM_zero {x : Lb} (h : labM x = 0) : GoodL x := by
 unfold labM at h
 rw [firstM_c0, firstM_c0, firstM_c0, firstM_c0, firstM_c0, firstM_c0] at h
 obtain ⟨h1, h2, h3, h4, h5, h6, _⟩ := h
 have sp : ∀ {α : Type} {F : Nat → α → Int} {l : List α} {n : Nat}, (bif decide (Int.ofNat n > 64) then (5 : Int) else srchE F l) = 0 → n ≤ 64 ∧ srchE F l = 0 := fun {α F l n} h => by
  cases hd : decide (Int.ofNat n > 64) with
  | true => rw [hd] at h; cases h
  | false =>
   rw [hd] at h
   have := of_decide_eq_false hd
   simp only [gt_iff_lt, Int.ofNat_eq_natCast] at this
   exact ⟨by omega, h⟩
 unfold fitsM at h2
 unfold calsM at h3
 unfold testsM at h4
 exact ⟨h1, srchE_zero (sp h2).2, srchE_zero (sp h3).2, srchE_zero (sp h4).2, (sp h2).1, (sp h3).1, (sp h4).1, h5, h6⟩
theorem calM_zero {x : Lb} {i : Nat} {c : Cb} (h : calM x i c = 0) : firstM (calE x i c) = 0 ∧ c.2.2.2.2.length = coLen x.1 c.2.1 ∧ ¬ c.2.2.2.1 < prevD dayC x.2.2.1 i := by
 unfold calM at h
 rw [firstM_app] at h
 cases he : firstM (calE x i c) != 0 with
 | true => rw [he] at h; simp only [cond_true] at h; rw [h] at he; cases he
 | false =>
  rw [he, cond_false, firstM_c0, firstM_c0, firstM_c0] at h
  obtain ⟨h1, h2, h3, _⟩ := h
  refine ⟨by simpa using he, ?_, ?_⟩
  ·unfold shapeM whenM at h1
   cases hq : Int.ofNat c.2.2.2.2.length != Int.ofNat (coLen x.1 c.2.1) with
   | true => rw [hq] at h1; cases h1
   | false => simp only [bne_eq_false_iff_eq, Int.ofNat_eq_natCast] at hq; omega
  ·unfold whenM at h3
   cases hq : decide (c.2.2.2.1 < prevD dayC x.2.2.1 i) with
   | true => rw [hq] at h3; cases h3
   | false => exact of_decide_eq_false hq
def cb0 : Cb := (⟨#[]⟩, ⟨#[]⟩, ⟨#[]⟩, 0, [])
def cbAt (x : Lb) (k : Nat) : Cb := (x.2.2.1[k]?).getD cb0
theorem cbAt_get {x : Lb} {k : Nat} (h : k < x.2.2.1.length) : x.2.2.1[k]? = some (cbAt x k) := by
 unfold cbAt
 rw [List.getElem?_eq_getElem h]; rfl
def cIx (x : Lb) (s : ByteArray) : Nat := (findIx s (nmc x.2.2.1) 0).getD 0
theorem findC_ge {x : Lb} {s : ByteArray} (h : ¬ findC x.2.2.1 s < 0) : cIx x s < x.2.2.1.length ∧ findC x.2.2.1 s = Int.ofNat (cIx x s) ∧ findIx s (nmc x.2.2.1) 0 = some (cIx x s) := by
 unfold findC at h ⊢
 unfold cIx
 cases hf : findIx s (nmc x.2.2.1) 0 with
 | none => rw [hf] at h; exact absurd (by decide) h
 | some k =>
  have := (findIx_bound hf).2
  rw [Nat.zero_add, List.length_map] at this
  exact ⟨this, rfl, rfl⟩
theorem fcM_zero {x : Lb} {s : ByteArray} (h : fcM x s = 0) : labM x = 0 ∧ ¬ findC x.2.2.1 s < 0 := by
 unfold fcM at h
 cases he : labM x != 0 with
 | true => rw [he, cond_true] at h; rw [h] at he; cases he
 | false =>
  rw [he, cond_false] at h
  refine ⟨by simpa using he, fun hn => ?_⟩
  rw [decide_eq_true hn] at h; cases h
theorem spGood {x : Lb} {c : Cb} (h1 : okLb x = true) (h2 : partsM x.1 = 0) (h3 : hasP x.1 c.2.1 = true) (h4 : c.2.2.2.2.length = coLen x.1 c.2.1) : goodG [lbA x, cbA c] = some (bA (goodM x.1 c)) := by
 have := sp2_at (A := labC) (B := cbC) (F := fun x c => bif okLb x && (decide (partsM x.1 = 0) && (hasP x.1 c.2.1 && decide (c.2.2.2.2.length = coLen x.1 c.2.1))) then some (bA (goodM x.1 c)) else none) x c
 rw [h1, decide_eq_true h2, h3, decide_eq_true h4] at this; exact this
theorem spFc {x : Lb} (s : ByteArray) (h : okLb x = true) : fcG [lbA x, sA s] = some (.tup [iA (fcI x s), iA (fcM x s)]) := by
 have := sp2_at (A := labC) (B := strC) (F := fun x s => bif okLb x then some (.tup [iA (fcI x s), iA (fcM x s)]) else none) x s
 rw [h] at this; exact this
def good40 (x : Lb) (s : ByteArray) : Bool := bif fcM x s != 0 then false else goodM x.1 (cbAt x (cIx x s))
def good40G : List AV → Option AV := sp2 labC strC fun x s => bif okLb x then some (.tup [bA (good40 x s), iA (fcM x s)]) else none
theorem h40 : Holds 40 good40G := holds2 fun x s r hr => by
 cases hb : okLb x with
 | false => simp [hb] at hr
 | true =>
  simp only [hb, cond_true, Option.some.injEq] at hr; subst hr
  unfold good40
  cases he : fcM x s != 0 with
  | true => exact Q15_ok.tr ((lx x t40a) s _ _) ⟨⟨rfl, spFc s hb⟩, he, rfl⟩
  | false =>
   have h0 : fcM x s = 0 := by simpa using he
   obtain ⟨hl, hf⟩ := fcM_zero h0
   obtain ⟨hk, hfc, _⟩ := findC_ge hf
   have G := labM_zero hl
   have hg := cbAt_get hk
   obtain ⟨e1, e2, _⟩ := calM_zero (G.cs _ _ hg)
   obtain ⟨_, _, e3, _, _⟩ := calE_zero e1
   have hi : fcI x s = Int.ofNat (cIx x s) := by
    unfold fcI
    rw [show (labM x != 0) = false by simp [hl], cond_false]; exact hfc
   have hs : fcG [lbA x, sA s] = some (.tup [iA (Int.ofNat (cIx x s)), iA (fcM x s)]) := by rw [spFc s hb, hi]
   rw [h0] at hs ⊢
   exact Q15_ok.tr ((lx x t40b) s (cIx x s) 0 (cbAt x (cIx x s)).1 (cbAt x (cIx x s)).2.1 (cbAt x (cIx x s)).2.2.1 (cbAt x (cIx x s)).2.2.2.1 ((cbAt x (cIx x s)).2.2.2.2.map intC.enc) (goodM x.1 (cbAt x (cIx x s)))) ⟨⟨rfl, hs⟩, rfl, get_map cbC.enc hg, ⟨rfl, spGood hb G.ps e3 e2⟩, rfl⟩
def spcF (x : Lb) (s : ByteArray) (day : Int) : Int := firstM [whenM (!hasP x.1 s) 10, dayM day]
def spcE (x : Lb) (s : ByteArray) (day : Int) : Int := bif labM x != 0 then labM x else bif spcF x s day != 0 then spcF x s day else whenM (nilB (specM x.2.1 s day)) 7
def spcS (x : Lb) (s : ByteArray) (day : Int) : ByteArray := bif labM x != 0 then ⟨#[]⟩ else bif spcF x s day != 0 then ⟨#[]⟩ else bif nilB (specM x.2.1 s day) then ⟨#[]⟩ else specM x.2.1 s day
def spcG : List AV → Option AV := sp3 labC strC intC fun x s day => bif okLb x then some (.tup [sA (spcS x s day), iA (spcE x s day)]) else none
theorem spSpec {x : Lb} (s : ByteArray) (day : Int) (h : okLb x = true) : specG [lbA x, sA s, iA day] = some (sA (specM x.2.1 s day)) := by
 have := sp3_at (A := labC) (B := strC) (D := intC) (F := fun x s day => bif Nat.blt x.2.1.length two63 then some (sA (specM x.2.1 s day)) else none) x s day
 rw [blt_lim (okLb_at h).fs] at this; exact this
theorem h38 : Holds 38 spcG := holds3 fun x s day r hr => by
  cases hb : okLb x with
  | false => simp [hb] at hr
  | true =>
    simp only [hb, cond_true, Option.some.injEq] at hr; subst hr
    have K := okLb_at hb
    unfold spcS spcE
    cases hl : labM x != 0 with
    | true => exact Q15_ok.tr ((lx x t38a) s day _) ⟨⟨rfl, spLab hb⟩, hl, rfl⟩
    | false =>
      have G := labM_zero (by simpa using hl)
      have hf : find95G [slA ptC 7 x.1, sA s] = some (.tup [iA (Int.ofNat ((findIx s (nms x.1) 0).getD 0)), iA (whenM (!hasP x.1 s) 10)]) := sp95 G.ps s
      have e1 : spcF x s day = bif whenM (!hasP x.1 s) 10 != 0 then whenM (!hasP x.1 s) 10 else dayM day := by
        unfold spcF
        exact firstM_snoc (dayM day) [whenM (!hasP x.1 s) 10] |>.trans (by
          have : firstM [whenM (!hasP x.1 s) 10] = whenM (!hasP x.1 s) 10 := by
            rw [firstM_step]
            cases hq : whenM (!hasP x.1 s) 10 != 0 with
            | true => rfl
            | false => have h0 : whenM (!hasP x.1 s) 10 = 0 := by simpa using hq
                       rw [h0]; rfl
          rw [this])
      rw [e1]
      cases hp : whenM (!hasP x.1 s) 10 != 0 with
      | true =>
        simp only [cond_true, hp]
        exact Q15_ok.tr ((lx x t38b) s day (labM x) _ _) ⟨⟨rfl, spLab hb⟩, hl, ⟨rfl, hf⟩, hp, rfl⟩
      | false =>
        simp only [cond_false]
        cases hd : dayM day != 0 with
        | true => exact Q15_ok.tr ((lx x t38c) s day (labM x) _ _ _) ⟨⟨rfl, spLab hb⟩, hl, ⟨rfl, hf⟩, hp, ⟨rfl, spDay day⟩, hd, rfl⟩
        | false =>
          cases hw : nilB (specM x.2.1 s day) with
          | true => exact Q15_ok.tr ((lx x t38d) s day (labM x) _ _ _ (specM x.2.1 s day)) ⟨⟨rfl, spLab hb⟩, hl, ⟨rfl, hf⟩, hp, ⟨rfl, spDay day⟩, hd, ⟨rfl, spSpec s day hb⟩, hw, rfl⟩
          | false => exact Q15_ok.tr ((lx x t38e) s day (labM x) _ _ _ (specM x.2.1 s day)) ⟨⟨rfl, spLab hb⟩, hl, ⟨rfl, hf⟩, hp, ⟨rfl, spDay day⟩, hd, ⟨rfl, spSpec s day hb⟩, hw, rfl⟩
def Q16 : Specs := ((Q15.set 40 good40G).set 38 spcG)
theorem Q16_ok : Ok Q16 := ((Q15_ok.set h40).set h38)
end Go.Vm.S3

namespace Go.Vm.S3
open Go.Proofs Go.RowKit
def woM (x : Lb) (k : Nat) : Lb := (x.1, x.2.1, x.2.2.1.take k ++ x.2.2.1.drop (k + 1), x.2.2.2.1, x.2.2.2.2.1, x.2.2.2.2.2)
theorem addIx' (S : Specs) (x y : Operand) {j n : Nat} (h : j < n) (hn : n ≤ lim) : abin (CS S) BinOp.add 3 x y (AV.v (.int .i64 (Int.ofNat j))) (AV.v (.int .i64 1)) = some (AV.v (.int .i64 (Int.ofNat (j + 1)))) := by
 show some (AV.v (.int .i64 (IntKind.i64.wrap (Int.ofNat j + 1)))) = _
 rw [wrap_ix h (limTwo hn)]
theorem allSzCb (l : List Cb) : allSz 5 (l.map cbC.enc) = true := allSz_map (f := cbC.enc) (fun _ => rfl) l
def Q17 : Specs := Q16
theorem Q17_ok : Ok Q17 := Q16_ok
end Go.Vm.S3

namespace Go.Vm.S3
open Go.Proofs Go.RowKit
set_option maxRecDepth 100000
variable (ps fs cs ts : List AV) (d u : Int)
theorem r41a (n i : Nat) (a b c : ByteArray) (n0 : Int) (us : List AV) : Lq Q17 2 117 39 22 61 0 [1, 5, 8, 9, 10] [2, 4] [1, 5, 8, 9, 10] [2, 4, 58] [5] [2, 4] [fnV 118, nilS, .rsl 5 cs false, iA (Int.ofNat n), iA (Int.ofNat i)] [lbX ps fs cs ts d u, zLab] [.as 11 true, .chk [.agg [sA a, sA b, sA c, iA n0, .rsl 1 us false]], .sp [.agg [sA a, sA b, sA c, iA n0, .rsl 1 us false]] (.agg [sA a, sA b, sA c, iA n0, .rsl 1 us false])] [.t i n, .g cs i, .f 118] .nrm [.fn (Fn.func 118) [] [], .sl 58 2 5 0 1, .rsl 5 cs false, iA (Int.ofNat n), iA (IntKind.i64.wrap (Int.ofNat i + 1))] [lbX ps fs cs ts d u, zLab, (false, .arr 5 [.agg [sA a, sA b, sA c, iA n0, .rsl 1 us false]] false)] := kQ (by kernel_rfl)
theorem r41xa (n i : Nat) : Lq Q17 2 117 39 22 61 0 [1, 5, 8, 9, 10] [2, 4] [1, 5, 8, 9, 10] [2, 4] [5] [2, 4] [fnV 118, nilS, .rsl 5 cs false, iA (Int.ofNat n), iA (Int.ofNat i)] [lbX ps fs cs ts d u, zLab] [.as 11 false] [.t i n] (.exit 0) [.v (.slice none 0 0)] [lbX ps fs cs ts d u, zLab] := kQ (by kernel_rfl)
theorem r41b (n i : Nat) (rs : List AV) (k : Nat) (a b c : ByteArray) (n0 : Int) (us : List AV) : Lq Q17 2 117 39 22 61 0 [1, 5, 8, 9, 10] [2, 4, 58] [1, 5, 8, 9, 10] [2, 4, 58] [5] [2, 4, 58] [fnV 118, .sl 58 2 5 0 k, .rsl 5 cs false, iA (Int.ofNat n), iA (Int.ofNat i)] [lbX ps fs cs ts d u, zLab, (false, .arr 5 rs false)] [.as 11 true, .chk [.agg [sA a, sA b, sA c, iA n0, .rsl 1 us false]], .sp [.agg [sA a, sA b, sA c, iA n0, .rsl 1 us false]] (.agg [sA a, sA b, sA c, iA n0, .rsl 1 us false]), .chk rs] [.t i n, .g cs i, .f 118, .k (apn k rs 5 [.agg [sA a, sA b, sA c, iA n0, .rsl 1 us false]] 80)] .nrm [.fn (Fn.func 118) [] [], .sl 58 2 5 0 ((rs ++ ([.agg [sA a, sA b, sA c, iA n0, .rsl 1 us false]] : List AV)).length), .rsl 5 cs false, iA (Int.ofNat n), iA (IntKind.i64.wrap (Int.ofNat i + 1))] [lbX ps fs cs ts d u, zLab, (false, .arr 5 (rs ++ ([.agg [sA a, sA b, sA c, iA n0, .rsl 1 us false]] : List AV)) false)] := kQ (by kernel_rfl)
theorem r41xb (n i : Nat) (rs : List AV) (k : Nat) : Lq Q17 2 117 39 22 61 0 [1, 5, 8, 9, 10] [2, 4, 58] [1, 5, 8, 9, 10] [2, 4, 58] [5] [2, 4, 58] [fnV 118, .sl 58 2 5 0 k, .rsl 5 cs false, iA (Int.ofNat n), iA (Int.ofNat i)] [lbX ps fs cs ts d u, zLab, (false, .arr 5 rs false)] [.as 11 false] [.t i n] (.exit 0) [.sl 58 2 5 0 k] [lbX ps fs cs ts d u, zLab, (false, .arr 5 rs false)] := kQ (by kernel_rfl)
theorem t41a (s : ByteArray) (k e : Int) : L Q17 41 [lbE ps fs cs ts d u, sA s] [.sp [lbE ps fs cs ts d u, sA s] (.tup [iA k, iA e]), .as 16 true] [.f 114, .b (e != 0)] (.tup [.agg [.v (.slice none 0 0), .v (.slice none 0 0), .v (.slice none 0 0), .v (.slice none 0 0), iA 0, iA 0], iA e]) := kR (by kernel_rfl)
theorem t41b (s : ByteArray) (e : Int) (es : List AV) (n i : Nat) : L Q17 41 [lbE ps fs cs ts d u, sA s] [.sp [lbE ps fs cs ts d u, sA s] (.tup [iA (Int.ofNat i), iA e]), .as 16 false, .il, .loop 2 [1, 5, 8, 9, 10] [2, 4] [5] [2, 4, 58] (.exit 0) [.sl 58 2 5 0 n] [lbX ps fs cs ts d u, zLab, (false, .arr 5 es false)], .ar (iA (Int.ofNat (i + 1))), .chk [], .as 16 false, .chk [], .chk [], .cp, .chk [], .cp, .fp 0, .sp [.rsl 7 ps false, fnV 120] (.rsl 7 ps false), .sp [.rsl 3 fs false] (.rsl 3 fs false), .sp [.rsl 3 ts false, fnV 123] (.rsl 3 ts false)] [.f 114, .b (e != 0), .s, .l 22 117 0 61 [.fn (Fn.func 118) [] [], .v (.slice none 0 0), .rsl 5 cs false, iA (Int.ofNat cs.length), iA 0] [lbX ps fs cs ts d u, zLab], .k ((abin (CS Q17) BinOp.add 3 (Operand.tmp 23) (Operand.const (Value.int IntKind.i64 1)) (iA (Int.ofNat i)) (iA 1)) = (some (iA (Int.ofNat (i + 1))))), .k (i ≤ (i + 1) ∧ (i + 1) ≤ n ∧ (0 + n) ≤ es.length ∧ (i.beq n) = false), .b (Int.ofNat i == Int.ofNat (i + 1)), .k (0 ≤ i ∧ (0 + i) ≤ es.length), .k ((i + 1) ≤ n ∧ (0 + n) ≤ es.length), .k (((0 + (i + 1)) + (n - (i + 1))) ≤ es.length ∧ (allSz 5 (List.take (n - (i + 1)) (List.drop (0 + (i + 1)) es))) = true ∧ 5 = 5 ∧ ((0 + i - 0) + (List.take (n - (i + 1)) (List.drop (0 + (i + 1)) es)).length) ≤ es.length), .k ((i - 0 + (List.take (n - (i + 1)) (List.drop (0 + (i + 1)) es)).length) ≤ n ∧ (0 + n) ≤ (splice es (0 + 0 + (i - 0)) (List.take (n - (i + 1)) (List.drop (0 + (i + 1)) es))).length), .k (((0 + (i - 0 + (List.take (n - (i + 1)) (List.drop (0 + (i + 1)) es)).length)) + (n - (i - 0 + (List.take (n - (i + 1)) (List.drop (0 + (i + 1)) es)).length))) ≤ (splice es (0 + 0 + (i - 0)) (List.take (n - (i + 1)) (List.drop (0 + (i + 1)) es))).length ∧ (allSz 5 (List.replicate (n - (i - 0 + (List.take (n - (i + 1)) (List.drop (0 + (i + 1)) es)).length)) (.agg [sA (ByteArray.mk #[]), sA (ByteArray.mk #[]), sA (ByteArray.mk #[]), iA 0, .v (.slice none 0 0)] : AV))) = true), .p (ClosedL (splice (splice es (0 + 0 + (i - 0)) (List.take (n - (i + 1)) (List.drop (0 + (i + 1)) es))) (0 + 0 + (i - 0 + (List.take (n - (i + 1)) (List.drop (0 + (i + 1)) es)).length)) (List.replicate (n - (i - 0 + (List.take (n - (i + 1)) (List.drop (0 + (i + 1)) es)).length)) (ofV (Value.agg #[Value.string (ByteArray.mk #[]), Value.string (ByteArray.mk #[]), Value.string (ByteArray.mk #[]), Value.int IntKind.i64 0, Value.slice none 0 0])))) ∧ (i - 0 + (List.take (n - (i + 1)) (List.drop (0 + (i + 1)) es)).length) ≤ (splice (splice es (0 + 0 + (i - 0)) (List.take (n - (i + 1)) (List.drop (0 + (i + 1)) es))) (0 + 0 + (i - 0 + (List.take (n - (i + 1)) (List.drop (0 + (i + 1)) es)).length)) (List.replicate (n - (i - 0 + (List.take (n - (i + 1)) (List.drop (0 + (i + 1)) es)).length)) (ofV (Value.agg #[Value.string (ByteArray.mk #[]), Value.string (ByteArray.mk #[]), Value.string (ByteArray.mk #[]), Value.int IntKind.i64 0, Value.slice none 0 0])))).length), .s, .f 119, .f 121, .f 122] (.tup [.agg [.rsl 7 ps false, .rsl 3 fs false, .rsl 5 (List.take (i - 0 + (List.take (n - (i + 1)) (List.drop (0 + (i + 1)) es)).length) (splice (splice es (0 + 0 + (i - 0)) (List.take (n - (i + 1)) (List.drop (0 + (i + 1)) es))) (0 + 0 + (i - 0 + (List.take (n - (i + 1)) (List.drop (0 + (i + 1)) es)).length)) (List.replicate (n - (i - 0 + (List.take (n - (i + 1)) (List.drop (0 + (i + 1)) es)).length)) (ofV (Value.agg #[Value.string (ByteArray.mk #[]), Value.string (ByteArray.mk #[]), Value.string (ByteArray.mk #[]), Value.int IntKind.i64 0, Value.slice none 0 0]))))) false, .rsl 3 ts false, iA d, iA u], iA 0]) := kR (by kernel_rfl)
def lb0 : Lb := ([], [], [], [], 0, 0)
def wo41 (x : Lb) (s : ByteArray) : Lb := bif fcM x s != 0 then lb0 else woM x (cIx x s)
def wo41G : List AV → Option AV := sp2 labC strC fun x s => bif okLb x then some (.tup [lbA (wo41 x s), iA (fcM x s)]) else none
theorem spMapP {l : List Pt} (h : okPts l = true) : own119G [slA ptC 7 l, fnV 120] = some (slA ptC 7 l) := by
 have := sp2_at (A := ptsC) (B := fnC 120) (F := fun l (_ : Unit) => bif Nat.ble l.length lim && l.all okPt then some (slA ptC 7 l) else none) l ()
 rw [show (Nat.ble l.length lim && l.all okPt) = true from h] at this; exact this
theorem spMapT {l : List Ts} (h : l.length ≤ lim) (k : ∀ t ∈ l, okT t = true) : own122G [slA tsC 3 l, fnV 123] = some (slA tsC 3 l) := by
 have := sp2_at (A := tssC) (B := fnC 123) (F := fun l (_ : Unit) => bif Nat.ble l.length lim && l.all okT then some (slA tsC 3 l) else none) l ()
 rw [Nat.ble_eq_true_of_le h, List.all_eq_true.2 k] at this; exact this
theorem loop41 (x : Lb) (hlim : x.2.2.1.length ≤ lim) (hok : ∀ c ∈ x.2.2.1, okC c = true) (c0 : Cb) (cl : List Cb) (he : x.2.2.1 = c0 :: cl) :
  LoopRun (CS Q17) 2 22 false (lO (CS Q17) 117 0) (mkSt [1, 5, 8, 9, 10] [2, 4] 61 [fnV 118, nilS, .rsl 5 (x.2.2.1.map cbC.enc) false, iA (Int.ofNat (x.2.2.1.map cbC.enc).length), iA 0] [lbY x, zLab]) (.exit 0)
   (mkSt [5] [2, 4, 58] 61 [.sl 58 2 5 0 (x.2.2.1.map cbC.enc).length] [lbY x, zLab, (false, .arr 5 (x.2.2.1.map cbC.enc) false)]) := by
 have hl := limTwo hlim
 have h := LoopRun.gather (C := CS Q17) (p := 2) (nt := 22) (rd := false) (c := lO (CS Q17) 117 0) (fun _ (y : Cb) => [y]) 1 (by simp)
  (fun i (acc : List Cb) => blG 58 5 [1, 5, 8, 9, 10] [2, 4] 61 (fun a => [fnV 118, a, .rsl 5 (x.2.2.1.map cbC.enc) false, iA (Int.ofNat (x.2.2.1.map cbC.enc).length), iA (Int.ofNat i)]) (fun _ => [lbY x, zLab]) (acc.map cbC.enc)) (.exit 0)
  (fun acc => blG 58 5 [5] [2, 4] 61 (fun a => [a]) (fun _ => [lbY x, zLab]) (acc.map cbC.enc)) x.2.2.1 (by simp)
  (fun i y acc hy hacc => by
   have hi := lt_len hy
   have hlt : decide (Int.ofNat i < Int.ofNat (x.2.2.1.map cbC.enc).length) = true := by rw [e_cb]; exact lt_of hi
   have hsp := spOwnC (hok y (List.mem_of_getElem? hy))
   cases acc with
   | nil =>
    have hr := (lx x r41a) (x.2.2.1.map cbC.enc).length i y.1 y.2.1 y.2.2.1 y.2.2.2.1 (y.2.2.2.2.map intC.enc)
    rw [wrap_ix hi hl] at hr
    exact Q17_ok.rndN hr ⟨hlt, get_map _ hy, ⟨rfl, hsp⟩, ⟨closedCb [y], trivial⟩, rfl⟩
   | cons w ws =>
    have hr := (lx x r41b) (x.2.2.1.map cbC.enc).length i ((w :: ws).map cbC.enc) ((w :: ws).map cbC.enc).length y.1 y.2.1 y.2.2.1 y.2.2.2.1 (y.2.2.2.2.map intC.enc)
    rw [wrap_ix hi hl] at hr
    have hlen : ((w :: ws).map cbC.enc ++ [cbC.enc y]).length ≤ 1000001 := by rw [List.length_append, List.length_map]; unfold lim at hlim; simp at hacc ⊢; omega
    have e2 : blG 58 5 [1, 5, 8, 9, 10] [2, 4] 61 (fun a => [fnV 118, a, .rsl 5 (x.2.2.1.map cbC.enc) false, iA (Int.ofNat (x.2.2.1.map cbC.enc).length), iA (Int.ofNat (i + 1))]) (fun _ => [lbY x, zLab]) (((w :: ws) ++ [y]).map cbC.enc)
      = mkSt [1, 5, 8, 9, 10] ([2, 4] ++ [58]) 61 [fnV 118, .sl 58 2 5 0 ((w :: ws).map cbC.enc ++ [cbC.enc y]).length, .rsl 5 (x.2.2.1.map cbC.enc) false, iA (Int.ofNat (x.2.2.1.map cbC.enc).length), iA (Int.ofNat (i + 1))] ([lbY x, zLab] ++ [(false, .arr 5 ((w :: ws).map cbC.enc ++ [cbC.enc y]) false)]) := by
     rw [show ((w :: ws) ++ [y]).map cbC.enc = (w :: ws).map cbC.enc ++ [cbC.enc y] by simp]; rfl
    show Says _ _ _ _ _ _ _ (blG 58 5 [1, 5, 8, 9, 10] [2, 4] 61 (fun a => [fnV 118, a, .rsl 5 (x.2.2.1.map cbC.enc) false, iA (Int.ofNat (x.2.2.1.map cbC.enc).length), iA (Int.ofNat (i + 1))]) (fun _ => [lbY x, zLab]) (((w :: ws) ++ [y]).map cbC.enc))
    rw [e2]
    exact Q17_ok.rndN hr ⟨hlt, get_map _ hy, ⟨rfl, hsp⟩, ⟨rfl, rfl, rfl, by show ((w :: ws).map cbC.enc ++ [cbC.enc y]).length * 80 ≤ _; omega, by show ((w :: ws).map cbC.enc ++ [cbC.enc y]).length ≤ _; omega, by decide⟩, ⟨(closedCb (w :: ws)).append (closedCb [y]), trivial⟩, rfl⟩)
  (fun acc _ => by
   cases acc with
   | nil => exact Q17_ok.rndX ((lx x r41xa) (x.2.2.1.map cbC.enc).length x.2.2.1.length) ⟨by rw [e_cb]; exact lt_self _, trivial, rfl⟩
   | cons w ws => exact Q17_ok.rndX ((lx x r41xb) (x.2.2.1.map cbC.enc).length x.2.2.1.length ((w :: ws).map cbC.enc) ((w :: ws).map cbC.enc).length) ⟨by rw [e_cb]; exact lt_self _, ⟨closedCb (w :: ws), trivial⟩, rfl⟩)
 have hg : gath (fun _ (y : Cb) => [y]) 0 x.2.2.1 = x.2.2.1 := by
  have := gath_map1 (fun y : Cb => y) x.2.2.1 0
  rw [List.map_id'] at this
  exact this
 rw [hg] at h
 have e3 : blG 58 5 [5] [2, 4] 61 (fun a => [a]) (fun _ => [lbY x, zLab]) (x.2.2.1.map cbC.enc) = mkSt [5] [2, 4, 58] 61 [.sl 58 2 5 0 (x.2.2.1.map cbC.enc).length] [lbY x, zLab, (false, .arr 5 (x.2.2.1.map cbC.enc) false)] := by rw [he]; rfl
 rw [e3] at h
 exact h
def splL {α : Type} (cs : List α) (off : Nat) (vs : List α) : List α := cs.take off ++ vs ++ cs.drop (off + vs.length)
theorem del_take {α : Type} {es : List α} {i n : Nat} (hn : n = es.length) (hi : i < n) (z : α) :
  List.take (i - 0 + (List.take (n - (i + 1)) (List.drop (0 + (i + 1)) es)).length) (splL (splL es (0 + 0 + (i - 0)) (List.take (n - (i + 1)) (List.drop (0 + (i + 1)) es))) (0 + 0 + (i - 0 + (List.take (n - (i + 1)) (List.drop (0 + (i + 1)) es)).length)) (List.replicate (n - (i - 0 + (List.take (n - (i + 1)) (List.drop (0 + (i + 1)) es)).length)) z)) = es.take i ++ es.drop (i + 1) := by
 subst hn
 have hX : List.take (es.length - (i + 1)) (List.drop (0 + (i + 1)) es) = es.drop (i + 1) := by
  rw [Nat.zero_add, List.take_of_length_le (by rw [List.length_drop]; exact Nat.le_refl _)]
 rw [hX]
 have hXl : (es.drop (i + 1)).length = es.length - (i + 1) := List.length_drop
 rw [show i - 0 + (es.drop (i + 1)).length = es.length - 1 by rw [hXl]; omega, show 0 + 0 + (i - 0) = i by omega, show 0 + 0 + (es.length - 1) = es.length - 1 by omega]
 have h1 : (splL es i (es.drop (i + 1))).take (es.length - 1) = es.take i ++ es.drop (i + 1) := by
  unfold splL
  rw [List.take_append_of_le_length (by rw [List.length_append, List.length_take, hXl]; omega), List.take_of_length_le (by rw [List.length_append, List.length_take, hXl]; omega)]
 have h2 : (splL es i (es.drop (i + 1))).length = es.length := by
  unfold splL
  rw [List.length_append, List.length_append, List.length_take, List.length_drop, List.length_drop]; omega
 rw [← h1]
 generalize splL es i (es.drop (i + 1)) = us at h2
 show List.take (es.length - 1) (us.take (es.length - 1) ++ _ ++ _) = _
 rw [List.append_assoc, List.take_append_of_le_length (by rw [List.length_take, h2]; omega), List.take_take, Nat.min_self]
theorem splL_len {α : Type} {cs : List α} {off : Nat} {vs : List α} (h : off + vs.length ≤ cs.length) : (splL cs off vs).length = cs.length := by
 unfold splL
 rw [List.length_append, List.length_append, List.length_take, List.length_drop]; omega
theorem ClosedL.takeD {α : Type} {f : α → AV} (hf : ∀ x, closed (f x) = true) (l : List α) (i : Nat) : ClosedL ((l.map f).take i) := by
 rw [← List.map_take]; exact ClosedL.map hf
theorem ClosedL.dropD {α : Type} {f : α → AV} (hf : ∀ x, closed (f x) = true) (l : List α) (i : Nat) : ClosedL ((l.map f).drop i) := by
 rw [← List.map_drop]; exact ClosedL.map hf
theorem h41 : Holds 41 wo41G := holds2 fun x s r hr => by
 cases hb : okLb x with
 | false => simp [hb] at hr
 | true =>
  simp only [hb, cond_true, Option.some.injEq] at hr; subst hr
  have K := okLb_at hb
  unfold wo41
  cases he : fcM x s != 0 with
  | true =>
   refine Comp.weak (Q17_ok.tr (r := .tup [.agg [.v (.slice none 0 0), .v (.slice none 0 0), .v (.slice none 0 0), .v (.slice none 0 0), iA 0, iA 0], iA (fcM x s)]) ((lx x t41a) s _ _) ⟨⟨rfl, spFc s hb⟩, he, rfl⟩) WeakL.rfl ?_
   exact Weak.tup (WeakL.cons (Weak.agg (WeakL.cons Weak.nilSl (WeakL.cons Weak.nilSl (WeakL.cons Weak.nilSl (WeakL.cons Weak.nilSl (WeakL.cons Weak.rfl (WeakL.cons Weak.rfl WeakL.nil))))))) (WeakL.cons Weak.rfl WeakL.nil))
  | false =>
   have h0 : fcM x s = 0 := by simpa using he
   obtain ⟨hl, hf⟩ := fcM_zero h0
   obtain ⟨hk, hfc, _⟩ := findC_ge hf
   have hi : fcI x s = Int.ofNat (cIx x s) := by
    unfold fcI
    rw [show (labM x != 0) = false by simp [hl], cond_false]; exact hfc
   have hs : fcG [lbA x, sA s] = some (.tup [iA (Int.ofNat (cIx x s)), iA 0]) := by rw [spFc s hb, hi, h0]
   rw [h0]
   generalize cIx x s = k at hk hs ⊢
   have hE : (x.2.2.1.map cbC.enc).length = x.2.2.1.length := by simp
   have hlim := K.cs
   obtain ⟨c0, cl, hc⟩ : ∃ c0 cl, x.2.2.1 = c0 :: cl := by
    cases hx : x.2.2.1 with
    | nil => rw [hx] at hk; simp at hk
    | cons a b => exact ⟨a, b, rfl⟩
   have hlp := loop41 x hlim K.vs c0 cl hc
   have ha := addIx' Q17 (.tmp 23) (.const (.int .i64 1)) hk hlim
   have hX : List.take ((x.2.2.1.map cbC.enc).length - (k + 1)) (List.drop (0 + (k + 1)) (x.2.2.1.map cbC.enc)) = (x.2.2.1.drop (k + 1)).map cbC.enc := by
    rw [Nat.zero_add, List.take_of_length_le (by rw [List.length_drop]; exact Nat.le_refl _), List.map_drop]
   have hXl : (List.take ((x.2.2.1.map cbC.enc).length - (k + 1)) (List.drop (0 + (k + 1)) (x.2.2.1.map cbC.enc))).length = x.2.2.1.length - (k + 1) := by rw [hX, List.length_map, List.length_drop]
   have s1 : (splice (x.2.2.1.map cbC.enc) (0 + 0 + (k - 0)) (List.take ((x.2.2.1.map cbC.enc).length - (k + 1)) (List.drop (0 + (k + 1)) (x.2.2.1.map cbC.enc)))).length = x.2.2.1.length := by
    have := splL_len (cs := x.2.2.1.map cbC.enc) (off := 0 + 0 + (k - 0)) (vs := List.take ((x.2.2.1.map cbC.enc).length - (k + 1)) (List.drop (0 + (k + 1)) (x.2.2.1.map cbC.enc))) (by rw [hXl, hE]; omega)
    exact this.trans hE
   have c1 : ClosedL (splice (x.2.2.1.map cbC.enc) (0 + 0 + (k - 0)) (List.take ((x.2.2.1.map cbC.enc).length - (k + 1)) (List.drop (0 + (k + 1)) (x.2.2.1.map cbC.enc)))) := by
    rw [hX]
    exact ((ClosedL.takeD closedCbE _ _).append (closedCb _)).append (ClosedL.dropD closedCbE _ _)
   have e1 : splice (x.2.2.1.map cbC.enc) (0 + 0 + (k - 0)) (List.take ((x.2.2.1.map cbC.enc).length - (k + 1)) (List.drop (0 + (k + 1)) (x.2.2.1.map cbC.enc))) = (splL x.2.2.1 k (x.2.2.1.drop (k + 1))).map cbC.enc := by
    rw [hX]
    unfold splice splL
    rw [show 0 + 0 + (k - 0) = k by omega]
    simp only [List.map_append, List.map_take, List.map_drop, List.length_map, List.length_drop]
   have hfin := del_take (es := x.2.2.1.map cbC.enc) (i := k) rfl (by rw [hE]; exact hk) (ofV (Value.agg #[Value.string (ByteArray.mk #[]), Value.string (ByteArray.mk #[]), Value.string (ByteArray.mk #[]), Value.int IntKind.i64 0, Value.slice none 0 0]))
   have hfin2 : (x.2.2.1.map cbC.enc).take k ++ (x.2.2.1.map cbC.enc).drop (k + 1) = (x.2.2.1.take k ++ x.2.2.1.drop (k + 1)).map cbC.enc := by rw [List.map_append, List.map_take, List.map_drop]
   have ht := (lx x t41b) s 0 (x.2.2.1.map cbC.enc) (x.2.2.1.map cbC.enc).length k
   have hfin3 := hfin.trans hfin2
   unfold splL at hfin3
   unfold splice at ht
   rw [hfin3] at ht
   have nk : (k.beq (x.2.2.1.map cbC.enc).length) = false := by
    cases hq : k.beq (x.2.2.1.map cbC.enc).length with
    | false => rfl
    | true => have := Nat.eq_of_beq_eq_true hq; rw [hE] at this; omega
   have s2 : ∀ z : AV, (splice (splice (x.2.2.1.map cbC.enc) (0 + 0 + (k - 0)) (List.take ((x.2.2.1.map cbC.enc).length - (k + 1)) (List.drop (0 + (k + 1)) (x.2.2.1.map cbC.enc)))) (0 + 0 + (k - 0 + (List.take ((x.2.2.1.map cbC.enc).length - (k + 1)) (List.drop (0 + (k + 1)) (x.2.2.1.map cbC.enc))).length)) (List.replicate ((x.2.2.1.map cbC.enc).length - (k - 0 + (List.take ((x.2.2.1.map cbC.enc).length - (k + 1)) (List.drop (0 + (k + 1)) (x.2.2.1.map cbC.enc))).length)) z)).length = x.2.2.1.length := fun z => by
    have := splL_len (cs := splice (x.2.2.1.map cbC.enc) (0 + 0 + (k - 0)) (List.take ((x.2.2.1.map cbC.enc).length - (k + 1)) (List.drop (0 + (k + 1)) (x.2.2.1.map cbC.enc)))) (off := 0 + 0 + (k - 0 + (List.take ((x.2.2.1.map cbC.enc).length - (k + 1)) (List.drop (0 + (k + 1)) (x.2.2.1.map cbC.enc))).length)) (vs := List.replicate ((x.2.2.1.map cbC.enc).length - (k - 0 + (List.take ((x.2.2.1.map cbC.enc).length - (k + 1)) (List.drop (0 + (k + 1)) (x.2.2.1.map cbC.enc))).length)) z) (by rw [List.length_replicate, s1, hXl, hE]; omega)
    exact this.trans s1
   have c2 : ∀ z : AV, closed z = true → ClosedL (splice (splice (x.2.2.1.map cbC.enc) (0 + 0 + (k - 0)) (List.take ((x.2.2.1.map cbC.enc).length - (k + 1)) (List.drop (0 + (k + 1)) (x.2.2.1.map cbC.enc)))) (0 + 0 + (k - 0 + (List.take ((x.2.2.1.map cbC.enc).length - (k + 1)) (List.drop (0 + (k + 1)) (x.2.2.1.map cbC.enc))).length)) (List.replicate ((x.2.2.1.map cbC.enc).length - (k - 0 + (List.take ((x.2.2.1.map cbC.enc).length - (k + 1)) (List.drop (0 + (k + 1)) (x.2.2.1.map cbC.enc))).length)) z)) := fun z hz => by
    rw [e1]
    exact ((ClosedL.takeD closedCbE _ _).append (closedRep hz)).append (ClosedL.dropD closedCbE _ _)
   exact Q17_ok.tr ht ⟨⟨rfl, hs⟩, rfl, ⟨trivial, ⟨closedCb _, trivial⟩, hlp.says⟩, ha, ⟨by omega, by rw [hE]; omega, by rw [hE]; omega, nk⟩, by simp only [beq_eq_false_iff_ne, ne_eq, Int.ofNat_eq_natCast]; omega,
    ⟨Nat.zero_le _, by rw [hE]; omega⟩, ⟨by rw [hE]; omega, by rw [Nat.zero_add]; exact Nat.le_refl _⟩,
    ⟨by rw [hE]; omega, by rw [hX]; exact allSzCb _, rfl, by rw [hXl, hE]; omega⟩,
    ⟨by rw [hXl, hE]; omega, by have := s1; unfold splice at this; rw [this, hE]; omega⟩,
    ⟨by have := s1; unfold splice at this; rw [this, hXl, hE]; omega, allSzRep rfl⟩,
    ⟨c2 _ rfl, by have := s2 (ofV (Value.agg #[Value.string (ByteArray.mk #[]), Value.string (ByteArray.mk #[]), Value.string (ByteArray.mk #[]), Value.int IntKind.i64 0, Value.slice none 0 0])); unfold splice at this; rw [this, hXl]; omega⟩,
    ⟨rfl, spMapP K.ps⟩, ⟨rfl, spClone (A := ftC) (sz := 3) (Nat.ble_eq_true_of_le K.fs)⟩, ⟨rfl, spMapT K.ts K.ws⟩, rfl⟩
def Q18 : Specs := (Q17.set 41 wo41G)
theorem Q18_ok : Ok Q18 := (Q17_ok.set h41)
end Go.Vm.S3
