/- Labs: a calibration by its name; whether it is good. -/
import Derived.Test.YtliikgffjphhjaaGreatDoorS3GJ
namespace Go.Vm.S3
open Go.Proofs Go.RowKit
set_option maxRecDepth 100000
variable (ps fs cs ts : List AV) (d u : Int)
theorem t114a (s : ByteArray) (e0 : Int) : L Q14 114 [lbE ps fs cs ts d u, sA s] [.sp [lbE ps fs cs ts d u] (iA e0), .as 11 true] [.f 49, .b (e0 != 0)] (.tup [iA 0, iA e0]) := kr (by kernel_rfl)
theorem t114b (s : ByteArray) (e0 k e : Int) : L Q14 114 [lbE ps fs cs ts d u, sA s] [.sp [lbE ps fs cs ts d u] (iA e0), .as 11 false, .sp [.rsl 5 cs false, .fn (.func 187) [] [.rptr [sA s]]] (iA k), .sp [bA (decide (k < 0)), iA 10] (iA e)] [.f 49, .b (e0 != 0), .f 186, .f 109] (.tup [iA k, iA e]) := kr (by kernel_rfl)
theorem r115a (es : List AV) (n1 i : Nat) (a b c : ByteArray) (n : Int) (vs : List AV) (lo hi v : Int) : Lr Q14 115 48 0 [3, 22, 23, 24] [3] [3, 22, 23, 24] [3] [4] [] [.ptr 3 0 0, .rsl 2 es false, iA (Int.ofNat n1), iA (Int.ofNat i)] [(false, .box [sA a, sA b, sA c, iA n, .rsl 1 vs false])] [.as 25 true, .chk [.agg [iA lo, iA hi]], .chk [iA v], .as 37 true, .as 46 true] [.t i n1, .g es i, .g vs i, .b (decide (v < lo)), .b true] .ret [bA false] [] := kn (by kernel_rfl)
theorem r115b (es : List AV) (n1 i : Nat) (a b c : ByteArray) (n : Int) (vs : List AV) (lo hi v : Int) : Lr Q14 115 48 0 [3, 22, 23, 24] [3] [3, 22, 23, 24] [3] [4] [] [.ptr 3 0 0, .rsl 2 es false, iA (Int.ofNat n1), iA (Int.ofNat i)] [(false, .box [sA a, sA b, sA c, iA n, .rsl 1 vs false])] [.as 25 true, .chk [.agg [iA lo, iA hi]], .chk [iA v], .as 37 false, .chk [iA v], .as 46 true] [.t i n1, .g es i, .g vs i, .b (decide (v < lo)), .g vs i, .b (decide (v > hi))] .ret [bA false] [] := kn (by kernel_rfl)
theorem r115n (es : List AV) (n1 i : Nat) (a b c : ByteArray) (n : Int) (vs : List AV) (lo hi v : Int) : Lr Q14 115 48 0 [3, 22, 23, 24] [3] [3, 22, 23, 24] [3] [] [] [.ptr 3 0 0, .rsl 2 es false, iA (Int.ofNat n1), iA (Int.ofNat i)] [(false, .box [sA a, sA b, sA c, iA n, .rsl 1 vs false])] [.as 25 true, .chk [.agg [iA lo, iA hi]], .chk [iA v], .as 37 false, .chk [iA v], .as 46 false] [.t i n1, .g es i, .g vs i, .b (decide (v < lo)), .g vs i, .b (decide (v > hi))] .nrm [.ptr 3 0 0, .rsl 2 es false, iA (Int.ofNat n1), iA (IntKind.i64.wrap (Int.ofNat i + 1))] [(false, .box [sA a, sA b, sA c, iA n, .rsl 1 vs false])] := kn (by kernel_rfl)
theorem r115x (es : List AV) (n1 i : Nat) (a b c : ByteArray) (n : Int) (vs : List AV) : Lr Q14 115 48 0 [3, 22, 23, 24] [3] [3, 22, 23, 24] [3] [] [] [.ptr 3 0 0, .rsl 2 es false, iA (Int.ofNat n1), iA (Int.ofNat i)] [(false, .box [sA a, sA b, sA c, iA n, .rsl 1 vs false])] [.as 25 false] [.t i n1] (.exit 0) [] [] := kn (by kernel_rfl)
theorem t115r (a b c : ByteArray) (n : Int) (vs : List AV) (k : Nat) (e : Int) (pa pb : ByteArray) (pm px py pz : Int) (co : List AV) : L Q14 115 [lbE ps fs cs ts d u, .agg [sA a, sA b, sA c, iA n, .rsl 1 vs false]] [.sp [.rsl 7 ps false, sA b] (.tup [iA (Int.ofNat k), iA e]), .chk [.agg [sA pa, sA pb, iA pm, iA px, iA py, iA pz, .rsl 2 co false]], .loop 0 [3, 22, 23, 24] [3] [4] [] .ret [bA false] []] [.f 95, .g ps k, .l 48 115 0 48 [.ptr 3 0 0, .rsl 2 co false, iA (Int.ofNat co.length), iA 0] [(false, .box [sA a, sA b, sA c, iA n, .rsl 1 vs false])]] (bA false) := kr (by kernel_rfl)
theorem t115e (a b c : ByteArray) (n : Int) (vs : List AV) (k : Nat) (e : Int) (pa pb : ByteArray) (pm px py pz : Int) (co : List AV) : L Q14 115 [lbE ps fs cs ts d u, .agg [sA a, sA b, sA c, iA n, .rsl 1 vs false]] [.sp [.rsl 7 ps false, sA b] (.tup [iA (Int.ofNat k), iA e]), .chk [.agg [sA pa, sA pb, iA pm, iA px, iA py, iA pz, .rsl 2 co false]], .loop 0 [3, 22, 23, 24] [3] [] [] (.exit 0) [] []] [.f 95, .g ps k, .l 48 115 0 48 [.ptr 3 0 0, .rsl 2 co false, iA (Int.ofNat co.length), iA 0] [(false, .box [sA a, sA b, sA c, iA n, .rsl 1 vs false])]] (bA true) := kr (by kernel_rfl)
theorem r47a (es : List AV) (i : Nat) (a b c : ByteArray) (n : Int) (vs : List AV) (lo hi v : Int) : Lr Q14 47 47 0 [3, 5, 6] [3] [3, 5, 6] [3] [4] [] [.ptr 3 0 0, .rsl 2 es false, iA (Int.ofNat i)] [(false, .box [sA a, sA b, sA c, iA n, .rsl 1 vs false])] [.as 20 true, .chk [iA v], .chk [.agg [iA lo, iA hi]], .as 34 true, .as 46 true] [.t i es.length, .g vs i, .g es i, .b (decide (v < lo)), .b true] .ret [bA false] [] := kn (by kernel_rfl)
theorem r47b (es : List AV) (i : Nat) (a b c : ByteArray) (n : Int) (vs : List AV) (lo hi v : Int) : Lr Q14 47 47 0 [3, 5, 6] [3] [3, 5, 6] [3] [4] [] [.ptr 3 0 0, .rsl 2 es false, iA (Int.ofNat i)] [(false, .box [sA a, sA b, sA c, iA n, .rsl 1 vs false])] [.as 20 true, .chk [iA v], .chk [.agg [iA lo, iA hi]], .as 34 false, .chk [iA v], .chk [.agg [iA lo, iA hi]], .as 46 true] [.t i es.length, .g vs i, .g es i, .b (decide (v < lo)), .g vs i, .g es i, .b (decide (v > hi))] .ret [bA false] [] := kn (by kernel_rfl)
theorem r47n (es : List AV) (i : Nat) (a b c : ByteArray) (n : Int) (vs : List AV) (lo hi v : Int) : Lr Q14 47 47 0 [3, 5, 6] [3] [3, 5, 6] [3] [] [] [.ptr 3 0 0, .rsl 2 es false, iA (Int.ofNat i)] [(false, .box [sA a, sA b, sA c, iA n, .rsl 1 vs false])] [.as 20 true, .chk [iA v], .chk [.agg [iA lo, iA hi]], .as 34 false, .chk [iA v], .chk [.agg [iA lo, iA hi]], .as 46 false] [.t i es.length, .g vs i, .g es i, .b (decide (v < lo)), .g vs i, .g es i, .b (decide (v > hi))] .nrm [.ptr 3 0 0, .rsl 2 es false, iA (IntKind.i64.wrap (Int.ofNat i + 1))] [(false, .box [sA a, sA b, sA c, iA n, .rsl 1 vs false])] := kn (by kernel_rfl)
theorem r47x (es : List AV) (i : Nat) (a b c : ByteArray) (n : Int) (vs : List AV) : Lr Q14 47 47 0 [3, 5, 6] [3] [3, 5, 6] [3] [] [] [.ptr 3 0 0, .rsl 2 es false, iA (Int.ofNat i)] [(false, .box [sA a, sA b, sA c, iA n, .rsl 1 vs false])] [.as 20 false] [.t i es.length] (.exit 0) [] [] := kn (by kernel_rfl)
theorem t47r (a b c : ByteArray) (n : Int) (vs : List AV) (k : Nat) (pa pb : ByteArray) (pm px py pz : Int) (co : List AV) : L Q14 47 [lbE ps fs cs ts d u, .agg [sA a, sA b, sA c, iA n, .rsl 1 vs false]] [.sp [.rsl 7 ps false, sA b] (iA (Int.ofNat k)), .chk [.agg [sA pa, sA pb, iA pm, iA px, iA py, iA pz, .rsl 2 co false]], .loop 0 [3, 5, 6] [3] [4] [] .ret [bA false] []] [.f 24, .g ps k, .l 47 47 0 47 [.ptr 3 0 0, .rsl 2 co false, iA 0] [(false, .box [sA a, sA b, sA c, iA n, .rsl 1 vs false])]] (bA false) := kr (by kernel_rfl)
theorem t47e (a b c : ByteArray) (n : Int) (vs : List AV) (k : Nat) (pa pb : ByteArray) (pm px py pz : Int) (co : List AV) : L Q14 47 [lbE ps fs cs ts d u, .agg [sA a, sA b, sA c, iA n, .rsl 1 vs false]] [.sp [.rsl 7 ps false, sA b] (iA (Int.ofNat k)), .chk [.agg [sA pa, sA pb, iA pm, iA px, iA py, iA pz, .rsl 2 co false]], .loop 0 [3, 5, 6] [3] [] [] (.exit 0) [] []] [.f 24, .g ps k, .l 47 47 0 47 [.ptr 3 0 0, .rsl 2 co false, iA 0] [(false, .box [sA a, sA b, sA c, iA n, .rsl 1 vs false])]] (bA true) := kr (by kernel_rfl)
def fcM (x : Lb) (s : ByteArray) : Int := bif labM x != 0 then labM x else whenM (decide (findC x.2.2.1 s < 0)) 10
def fcI (x : Lb) (s : ByteArray) : Int := bif labM x != 0 then 0 else findC x.2.2.1 s
def fcG : List AV → Option AV := sp2 labC strC fun x s => bif okLb x then some (.tup [iA (fcI x s), iA (fcM x s)]) else none
theorem spLab {x : Lb} (h : okLb x = true) : labG [lbA x] = some (iA (labM x)) := by
 have := sp1_at (A := labC) (F := fun x => bif okLb x then some (iA (labM x)) else none) x
 rw [h] at this; exact this
theorem sp187 {l : List Cb} (s : ByteArray) (hl : Nat.blt l.length two63 = true) : ix187G [slA cbC 5 l, .fn (.func 187) [] [.rptr [sA s]]] = some (iA (findC l s)) := by
 have := sp2_at (A := cbsC) (B := cloC 187 (rptrC strC)) (F := fun l s => bif Nat.blt l.length two63 then some (iA (findC l s)) else none) l s
 rw [hl] at this; exact this
theorem blt_lim {n : Nat} (h : n ≤ lim) : Nat.blt n two63 = true := Nat.ble_eq_true_of_le (limTwo h)
theorem h114 : Holds 114 fcG := holds2 fun x s r hr => by
 cases hb : okLb x with
 | false => simp [hb] at hr
 | true =>
  simp only [hb, cond_true, Option.some.injEq] at hr; subst hr
  have K := okLb_at hb
  unfold fcI fcM
  cases he : labM x != 0 with
  | true => exact Q14_ok.tr ((lx x t114a) s _) ⟨⟨rfl, spLab hb⟩, he, rfl⟩
  | false => exact Q14_ok.tr ((lx x t114b) s (labM x) _ _) ⟨⟨rfl, spLab hb⟩, he, ⟨rfl, sp187 s (blt_lim K.cs)⟩, ⟨rfl, spWhen _ 10⟩, rfl⟩
def atI (l : List Int) (i : Nat) : Int := (l[i]?).getD 0
def outS (vs : List Int) (i : Nat) (y : I2) : Option Unit := bif decide (atI vs i < y.1) || decide (atI vs i > y.2) then some () else none
def prtOf (l : List Pt) (s : ByteArray) : Pt := atP l ((findIx s (nms l) 0).getD 0)
def goodM (l : List Pt) (c : Cb) : Bool := (srch (outS c.2.2.2.2) 0 (prtOf l c.2.1).co).isNone
def goodG : List AV → Option AV := sp2 labC cbC fun x c => bif okLb x && (decide (partsM x.1 = 0) && (hasP x.1 c.2.1 && decide (c.2.2.2.2.length = coLen x.1 c.2.1))) then some (bA (goodM x.1 c)) else none
theorem atI_get {l : List Int} {i : Nat} (h : i < l.length) : l[i]? = some (atI l i) := by
 unfold atI; rw [List.getElem?_eq_getElem h]; rfl
theorem e_iv (l : List I2) : Int.ofNat (l.map ivC.enc).length = Int.ofNat l.length := by simp
theorem loop115 (co : List I2) (c : Cb) (hl : co.length < two63) (hc : c.2.2.2.2.length = co.length) :
  LoopRun (CS Q14) 0 48 false (lO (CS Q14) 115 0) (mkSt [3, 22, 23, 24] [3] 48 [.ptr 3 0 0, .rsl 2 (co.map ivC.enc) false, iA (Int.ofNat (co.map ivC.enc).length), iA 0] [cbX c])
   ((srch (outS c.2.2.2.2) 0 co).elim (.exit 0) fun _ => .ret) ((srch (outS c.2.2.2.2) 0 co).elim (mkSt [] [] 48 [] []) fun _ => mkSt [4] [] 48 [bA false] []) :=
 LoopRun.find (C := CS Q14) (p := 0) (nt := 48) (rd := false) (c := lO (CS Q14) 115 0) (outS c.2.2.2.2) (fun i => mkSt [3, 22, 23, 24] [3] 48 [.ptr 3 0 0, .rsl 2 (co.map ivC.enc) false, iA (Int.ofNat (co.map ivC.enc).length), iA (Int.ofNat i)] [cbX c])
  (fun _ => mkSt [4] [] 48 [bA false] []) (mkSt [] [] 48 [] []) (.exit 0) (fun _ => .ret) co (by simp) (by simp)
  (fun i y hy => by
   have hi := lt_len hy
   have hlt : decide (Int.ofNat i < Int.ofNat (co.map ivC.enc).length) = true := by rw [e_iv]; exact lt_of hi
   have hg := get_map ivC.enc hy
   have hv := get_map intC.enc (atI_get (l := c.2.2.2.2) (i := i) (by omega))
   unfold outS
   cases h1 : decide (atI c.2.2.2.2 i < y.1) with
   | true => exact Q14_ok.rndR (r115a (co.map ivC.enc) (co.map ivC.enc).length i c.1 c.2.1 c.2.2.1 c.2.2.2.1 (c.2.2.2.2.map intC.enc) y.1 y.2 (atI c.2.2.2.2 i)) ⟨hlt, hg, hv, h1, rfl, trivial, rfl⟩
   | false =>
    cases h2 : decide (atI c.2.2.2.2 i > y.2) with
    | true => exact Q14_ok.rndR (r115b (co.map ivC.enc) (co.map ivC.enc).length i c.1 c.2.1 c.2.2.1 c.2.2.2.1 (c.2.2.2.2.map intC.enc) y.1 y.2 (atI c.2.2.2.2 i)) ⟨hlt, hg, hv, h1, hv, h2, trivial, rfl⟩
    | false =>
     have hr := r115n (co.map ivC.enc) (co.map ivC.enc).length i c.1 c.2.1 c.2.2.1 c.2.2.2.1 (c.2.2.2.2.map intC.enc) y.1 y.2 (atI c.2.2.2.2 i)
     rw [wrap_ix hi hl] at hr
     exact Q14_ok.rndN hr ⟨hlt, hg, hv, h1, hv, h2, trivial, rfl⟩)
  (Q14_ok.rndX (r115x (co.map ivC.enc) (co.map ivC.enc).length co.length c.1 c.2.1 c.2.2.1 c.2.2.2.1 (c.2.2.2.2.map intC.enc)) ⟨by rw [e_iv]; exact lt_self _, trivial, rfl⟩)
theorem loop47 (co : List I2) (c : Cb) (hl : co.length < two63) (hc : c.2.2.2.2.length = co.length) :
  LoopRun (CS Q14) 0 47 false (lO (CS Q14) 47 0) (mkSt [3, 5, 6] [3] 47 [.ptr 3 0 0, .rsl 2 (co.map ivC.enc) false, iA 0] [cbX c])
   ((srch (outS c.2.2.2.2) 0 co).elim (.exit 0) fun _ => .ret) ((srch (outS c.2.2.2.2) 0 co).elim (mkSt [] [] 47 [] []) fun _ => mkSt [4] [] 47 [bA false] []) :=
 LoopRun.find (C := CS Q14) (p := 0) (nt := 47) (rd := false) (c := lO (CS Q14) 47 0) (outS c.2.2.2.2) (fun i => mkSt [3, 5, 6] [3] 47 [.ptr 3 0 0, .rsl 2 (co.map ivC.enc) false, iA (Int.ofNat i)] [cbX c])
  (fun _ => mkSt [4] [] 47 [bA false] []) (mkSt [] [] 47 [] []) (.exit 0) (fun _ => .ret) co (by simp) (by simp)
  (fun i y hy => by
   have hi := lt_len hy
   have hlt : decide (Int.ofNat i < Int.ofNat (co.map ivC.enc).length) = true := by rw [e_iv]; exact lt_of hi
   have hg := get_map ivC.enc hy
   have hv := get_map intC.enc (atI_get (l := c.2.2.2.2) (i := i) (by omega))
   unfold outS
   cases h1 : decide (atI c.2.2.2.2 i < y.1) with
   | true => exact Q14_ok.rndR (r47a (co.map ivC.enc) i c.1 c.2.1 c.2.2.1 c.2.2.2.1 (c.2.2.2.2.map intC.enc) y.1 y.2 (atI c.2.2.2.2 i)) ⟨hlt, hv, hg, h1, rfl, trivial, rfl⟩
   | false =>
    cases h2 : decide (atI c.2.2.2.2 i > y.2) with
    | true => exact Q14_ok.rndR (r47b (co.map ivC.enc) i c.1 c.2.1 c.2.2.1 c.2.2.2.1 (c.2.2.2.2.map intC.enc) y.1 y.2 (atI c.2.2.2.2 i)) ⟨hlt, hv, hg, h1, hv, hg, h2, trivial, rfl⟩
    | false =>
     have hr := r47n (co.map ivC.enc) i c.1 c.2.1 c.2.2.1 c.2.2.2.1 (c.2.2.2.2.map intC.enc) y.1 y.2 (atI c.2.2.2.2 i)
     rw [wrap_ix hi hl] at hr
     exact Q14_ok.rndN hr ⟨hlt, hv, hg, h1, hv, hg, h2, trivial, rfl⟩)
  (Q14_ok.rndX (r47x (co.map ivC.enc) co.length c.1 c.2.1 c.2.2.1 c.2.2.2.1 (c.2.2.2.2.map intC.enc)) ⟨by rw [e_iv]; exact lt_self _, trivial, rfl⟩)
theorem h115 : Holds 115 goodG := holds2 fun x c r hr => by
 cases hb : okLb x && (decide (partsM x.1 = 0) && (hasP x.1 c.2.1 && decide (c.2.2.2.2.length = coLen x.1 c.2.1))) with
 | false => simp [hb] at hr
 | true =>
  simp only [hb, cond_true, Option.some.injEq] at hr; subst hr
  simp only [Bool.and_eq_true, decide_eq_true_eq] at hb
  obtain ⟨h1, h2, h3, h4⟩ := hb
  have K := okLb_at h1
  obtain ⟨k, hk, hkl, hkp⟩ := known_at h3
  have hco : coLen x.1 c.2.1 = (atP x.1 k).co.length := by unfold coLen; rw [hk]; rfl
  have hpr : prtOf x.1 c.2.1 = atP x.1 k := by unfold prtOf; rw [hk]; rfl
  have hg := get_map ptC.enc (atP_get hkl)
  have hl : (atP x.1 k).co.length < two63 := limTwo (Nat.le_of_ble_eq_true ((okPts_at K.ps).2 _ (List.mem_of_getElem? (atP_get hkl))))
  have hf : find95G [slA ptC 7 x.1, sA c.2.1] = some (.tup [iA (Int.ofNat k), iA (whenM (!hasP x.1 c.2.1) 10)]) := by
   rw [sp95 h2]; unfold find95; rw [hk]; rfl
  have h := loop115 (atP x.1 k).co c hl (by rw [h4, hco])
  unfold goodM
  rw [hpr]
  cases hq : srch (outS c.2.2.2.2) 0 (atP x.1 k).co with
  | some u => rw [hq] at h; exact Q14_ok.tr ((lx x t115r) c.1 c.2.1 c.2.2.1 c.2.2.2.1 (c.2.2.2.2.map intC.enc) k _ (atP x.1 k).1 (atP x.1 k).2.1 (atP x.1 k).2.2.1 (atP x.1 k).2.2.2.1 (atP x.1 k).2.2.2.2.1 (atP x.1 k).2.2.2.2.2.1 ((atP x.1 k).co.map ivC.enc)) ⟨⟨rfl, hf⟩, hg, ⟨trivial, trivial, h.says⟩, rfl⟩
  | none => rw [hq] at h; exact Q14_ok.tr ((lx x t115e) c.1 c.2.1 c.2.2.1 c.2.2.2.1 (c.2.2.2.2.map intC.enc) k _ (atP x.1 k).1 (atP x.1 k).2.1 (atP x.1 k).2.2.1 (atP x.1 k).2.2.2.1 (atP x.1 k).2.2.2.2.1 (atP x.1 k).2.2.2.2.2.1 ((atP x.1 k).co.map ivC.enc)) ⟨⟨rfl, hf⟩, hg, ⟨trivial, trivial, h.says⟩, rfl⟩
theorem h47 : Holds 47 goodG := holds2 fun x c r hr => by
 cases hb : okLb x && (decide (partsM x.1 = 0) && (hasP x.1 c.2.1 && decide (c.2.2.2.2.length = coLen x.1 c.2.1))) with
 | false => simp [hb] at hr
 | true =>
  simp only [hb, cond_true, Option.some.injEq] at hr; subst hr
  simp only [Bool.and_eq_true, decide_eq_true_eq] at hb
  obtain ⟨h1, h2, h3, h4⟩ := hb
  have K := okLb_at h1
  obtain ⟨k, hk, hkl, hkp⟩ := known_at h3
  have hco : coLen x.1 c.2.1 = (atP x.1 k).co.length := by unfold coLen; rw [hk]; rfl
  have hpr : prtOf x.1 c.2.1 = atP x.1 k := by unfold prtOf; rw [hk]; rfl
  have hg := get_map ptC.enc (atP_get hkl)
  have hl : (atP x.1 k).co.length < two63 := limTwo (Nat.le_of_ble_eq_true ((okPts_at K.ps).2 _ (List.mem_of_getElem? (atP_get hkl))))
  have hf : findPG [slA ptC 7 x.1, sA c.2.1] = some (iA (Int.ofNat k)) := by rw [← hkp]; exact spFindP _ K.p63
  have h := loop47 (atP x.1 k).co c hl (by rw [h4, hco])
  unfold goodM
  rw [hpr]
  cases hq : srch (outS c.2.2.2.2) 0 (atP x.1 k).co with
  | some u => rw [hq] at h; exact Q14_ok.tr ((lx x t47r) c.1 c.2.1 c.2.2.1 c.2.2.2.1 (c.2.2.2.2.map intC.enc) k (atP x.1 k).1 (atP x.1 k).2.1 (atP x.1 k).2.2.1 (atP x.1 k).2.2.2.1 (atP x.1 k).2.2.2.2.1 (atP x.1 k).2.2.2.2.2.1 ((atP x.1 k).co.map ivC.enc)) ⟨⟨rfl, hf⟩, hg, ⟨trivial, trivial, h.says⟩, rfl⟩
  | none => rw [hq] at h; exact Q14_ok.tr ((lx x t47e) c.1 c.2.1 c.2.2.1 c.2.2.2.1 (c.2.2.2.2.map intC.enc) k (atP x.1 k).1 (atP x.1 k).2.1 (atP x.1 k).2.2.1 (atP x.1 k).2.2.2.1 (atP x.1 k).2.2.2.2.1 (atP x.1 k).2.2.2.2.2.1 ((atP x.1 k).co.map ivC.enc)) ⟨⟨rfl, hf⟩, hg, ⟨trivial, trivial, h.says⟩, rfl⟩
def Q15 : Specs := (((Q14.set 114 fcG).set 115 goodG).set 47 goodG)
theorem Q15_ok : Ok Q15 := (((Q14_ok.set h114).set h115).set h47)
end Go.Vm.S3

namespace Go.Vm.S3
open Go.Proofs Go.RowKit
theorem srchE_zero {α : Type} {F : Nat → α → Int} {l : List α} (h : srchE F l = 0) : ∀ i x, l[i]? = some x → F i x = 0 := fun i x hx => by
 unfold srchE at h
 cases hq : srch (fun i x => bif F i x != 0 then some (F i x) else none) 0 l with
 | some t => rw [hq] at h; exact absurd h (srch_some_ne (F := F) l 0 hq)
 | none =>
  have h1 := srch_all_none l 0 hq i x hx
  rw [Nat.zero_add] at h1
  cases h0 : F i x != 0 with
  | true => rw [h0] at h1; cases h1
  | false => simpa using h0
structure GoodL (x : Lb) : Prop where
 ps : partsM x.1 = 0
 fs : ∀ i y, x.2.1[i]? = some y → fitM x i y = 0
 cs : ∀ i c, x.2.2.1[i]? = some c → calM x i c = 0
 ts : ∀ i t, x.2.2.2.1[i]? = some t → testM x i t = 0
 fn : x.2.1.length ≤ 64
 cn : x.2.2.1.length ≤ 64
 tn : x.2.2.2.1.length ≤ 64
 rd : withinM x.2.2.2.2.1 0 1000 = 0
 ru : withinM x.2.2.2.2.2 1 100 = 0
theorem labM_zero {x : Lb} (h : labM x = 0) : GoodL x := by
 unfold labM at h
 rw [firstM_c0, firstM_c0, firstM_c0, firstM_c0, firstM_c0, firstM_c0] at h
 obtain ⟨h1, h2, h3, h4, h5, h6, _⟩ := h
 have sp : ∀ {α : Type} {F : Nat → α → Int} {l : List α} {n : Nat}, (bif decide (Int.ofNat n > 64) then (5 : Int) else srchE F l) = 0 → n ≤ 64 ∧ srchE F l = 0 := fun {α F l n} h => by
  cases hd : decide (Int.ofNat n > 64) with
  | true => rw [hd] at h; cases h
  | false =>
   rw [hd] at h
   have := of_decide_eq_false hd
   simp only [gt_iff_lt, Int.ofNat_eq_natCast] at this
   exact ⟨by omega, h⟩
 unfold fitsM at h2
 unfold calsM at h3
 unfold testsM at h4
 exact ⟨h1, srchE_zero (sp h2).2, srchE_zero (sp h3).2, srchE_zero (sp h4).2, (sp h2).1, (sp h3).1, (sp h4).1, h5, h6⟩
theorem calM_zero {x : Lb} {i : Nat} {c : Cb} (h : calM x i c = 0) : firstM (calE x i c) = 0 ∧ c.2.2.2.2.length = coLen x.1 c.2.1 ∧ ¬ c.2.2.2.1 < prevD dayC x.2.2.1 i := by
 unfold calM at h
 rw [firstM_app] at h
 cases he : firstM (calE x i c) != 0 with
 | true => rw [he] at h; simp only [cond_true] at h; rw [h] at he; cases he
 | false =>
  rw [he, cond_false, firstM_c0, firstM_c0, firstM_c0] at h
  obtain ⟨h1, h2, h3, _⟩ := h
  refine ⟨by simpa using he, ?_, ?_⟩
  ·unfold shapeM whenM at h1
   cases hq : Int.ofNat c.2.2.2.2.length != Int.ofNat (coLen x.1 c.2.1) with
   | true => rw [hq] at h1; cases h1
   | false => simp only [bne_eq_false_iff_eq, Int.ofNat_eq_natCast] at hq; omega
  ·unfold whenM at h3
   cases hq : decide (c.2.2.2.1 < prevD dayC x.2.2.1 i) with
   | true => rw [hq] at h3; cases h3
   | false => exact of_decide_eq_false hq
def cb0 : Cb := (⟨#[]⟩, ⟨#[]⟩, ⟨#[]⟩, 0, [])
def cbAt (x : Lb) (k : Nat) : Cb := (x.2.2.1[k]?).getD cb0
theorem cbAt_get {x : Lb} {k : Nat} (h : k < x.2.2.1.length) : x.2.2.1[k]? = some (cbAt x k) := by
 unfold cbAt
 rw [List.getElem?_eq_getElem h]; rfl
theorem fcM_zero {x : Lb} {s : ByteArray} (h : fcM x s = 0) : labM x = 0 ∧ ¬ findC x.2.2.1 s < 0 := by
 unfold fcM at h
 cases he : labM x != 0 with
 | true => rw [he, cond_true] at h; rw [h] at he; cases he
 | false =>
  rw [he, cond_false] at h
  refine ⟨by simpa using he, fun hn => ?_⟩
  rw [decide_eq_true hn] at h; cases h
theorem spGood {x : Lb} {c : Cb} (h1 : okLb x = true) (h2 : partsM x.1 = 0) (h3 : hasP x.1 c.2.1 = true) (h4 : c.2.2.2.2.length = coLen x.1 c.2.1) : goodG [lbA x, cbA c] = some (bA (goodM x.1 c)) := by
 have := sp2_at (A := labC) (B := cbC) (F := fun x c => bif okLb x && (decide (partsM x.1 = 0) && (hasP x.1 c.2.1 && decide (c.2.2.2.2.length = coLen x.1 c.2.1))) then some (bA (goodM x.1 c)) else none) x c
 rw [h1, decide_eq_true h2, h3, decide_eq_true h4] at this; exact this
theorem spFc {x : Lb} (s : ByteArray) (h : okLb x = true) : fcG [lbA x, sA s] = some (.tup [iA (fcI x s), iA (fcM x s)]) := by
 have := sp2_at (A := labC) (B := strC) (F := fun x s => bif okLb x then some (.tup [iA (fcI x s), iA (fcM x s)]) else none) x s
 rw [h] at this; exact this
theorem spSpec {x : Lb} (s : ByteArray) (day : Int) (h : okLb x = true) : specG [lbA x, sA s, iA day] = some (sA (specM x.2.1 s day)) := by
 have := sp3_at (A := labC) (B := strC) (D := intC) (F := fun x s day => bif Nat.blt x.2.1.length two63 then some (sA (specM x.2.1 s day)) else none) x s day
 rw [blt_lim (okLb_at h).fs] at this; exact this
def Q16 : Specs := Q15
theorem Q16_ok : Ok Q16 := Q15_ok
end Go.Vm.S3

namespace Go.Vm.S3
open Go.Proofs Go.RowKit
def Q17 : Specs := Q16
theorem Q17_ok : Ok Q17 := Q16_ok
end Go.Vm.S3

namespace Go.Vm.S3
open Go.Proofs Go.RowKit
def Q18 : Specs := Q17
theorem Q18_ok : Ok Q18 := Q17_ok
end Go.Vm.S3
