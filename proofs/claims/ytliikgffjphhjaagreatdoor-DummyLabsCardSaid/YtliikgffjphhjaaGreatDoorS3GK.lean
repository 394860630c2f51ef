/- Labs: a calibration by its name; whether it is good. -/
import Derived.Test.YtliikgffjphhjaaGreatDoorS3GJ
namespace Go.Vm.S3
open Go.Proofs Go.RowKit
set_option maxRecDepth 100000
theorem t114a (ps fs cs ts : List AV) (d u : Int) (s : ByteArray) (e0 : Int) : evTreeD (CS Q14) 60 114 [lbE ps fs cs ts d u, strA s] [.sp [lbE ps fs cs ts d u] (intA e0), .as 11 true] =
    (.need (asks (CS Q14) 49 [lbE ps fs cs ts d u] (intA e0)) (.need ((e0 != 0) = true) (.done (some (.tup [intA 0, intA e0]))))) := by kernel_rfl
theorem t114b (ps fs cs ts : List AV) (d u : Int) (s : ByteArray) (e0 k e : Int) : evTreeD (CS Q14) 60 114 [lbE ps fs cs ts d u, strA s] [.sp [lbE ps fs cs ts d u] (intA e0), .as 11 false, .sp [.rsl 5 cs false, .fn (.func 187) [] [.rptr [strA s]]] (intA k), .sp [boolA (decide (k < 0)), intA 10] (intA e)] =
    (.need (asks (CS Q14) 49 [lbE ps fs cs ts d u] (intA e0)) (.need ((e0 != 0) = false) (.need (asks (CS Q14) 186 [.rsl 5 cs false, .fn (Fn.func 187) [] [.rptr [strA s]]] (intA k)) (.need (asks (CS Q14) 109 [boolA (decide (k < 0)), intA 10] (intA e)) (.done (some (.tup [intA k, intA e]))))))) := by kernel_rfl
theorem r115a (es : List AV) (n1 i : Nat) (a b c : ByteArray) (n : Int) (vs : List AV) (lo hi v : Int) : roundD (CS Q14) 60 0 115 0 48 48 false (loopOf (CS Q14) 115 0) [3, 22, 23, 24] [3] [3, 22, 23, 24] [3] [4] [] [.ptr 3 0 0, .rsl 2 es false, intA (Int.ofNat n1), intA (Int.ofNat i)] [(false, .box [strA a, strA b, strA c, intA n, .rsl 1 vs false])] [.as 25 true, .chk [.agg [intA lo, intA hi]], .chk [intA v], .as 37 true, .as 46 true] =
    (.need ((decide (Int.ofNat i < Int.ofNat n1)) = true) (.need (es[i]? = (some (AV.agg [intA lo, intA hi]))) (.need (vs[i]? = (some (intA v))) (.need ((decide (v < lo)) = true) (.need (true = true) (.need (EntClosed []) (.done (some ((.ret, [boolA false], [])))))))))) := by kernel_rfl
theorem r115b (es : List AV) (n1 i : Nat) (a b c : ByteArray) (n : Int) (vs : List AV) (lo hi v : Int) : roundD (CS Q14) 60 0 115 0 48 48 false (loopOf (CS Q14) 115 0) [3, 22, 23, 24] [3] [3, 22, 23, 24] [3] [4] [] [.ptr 3 0 0, .rsl 2 es false, intA (Int.ofNat n1), intA (Int.ofNat i)] [(false, .box [strA a, strA b, strA c, intA n, .rsl 1 vs false])] [.as 25 true, .chk [.agg [intA lo, intA hi]], .chk [intA v], .as 37 false, .chk [intA v], .as 46 true] =
    (.need ((decide (Int.ofNat i < Int.ofNat n1)) = true) (.need (es[i]? = (some (AV.agg [intA lo, intA hi]))) (.need (vs[i]? = (some (intA v))) (.need ((decide (v < lo)) = false) (.need (vs[i]? = (some (intA v))) (.need ((decide (v > hi)) = true) (.need (EntClosed []) (.done (some ((.ret, [boolA false], []))))))))))) := by kernel_rfl
theorem r115n (es : List AV) (n1 i : Nat) (a b c : ByteArray) (n : Int) (vs : List AV) (lo hi v : Int) : roundD (CS Q14) 60 0 115 0 48 48 false (loopOf (CS Q14) 115 0) [3, 22, 23, 24] [3] [3, 22, 23, 24] [3] [] [] [.ptr 3 0 0, .rsl 2 es false, intA (Int.ofNat n1), intA (Int.ofNat i)] [(false, .box [strA a, strA b, strA c, intA n, .rsl 1 vs false])] [.as 25 true, .chk [.agg [intA lo, intA hi]], .chk [intA v], .as 37 false, .chk [intA v], .as 46 false] =
    (.need ((decide (Int.ofNat i < Int.ofNat n1)) = true) (.need (es[i]? = (some (AV.agg [intA lo, intA hi]))) (.need (vs[i]? = (some (intA v))) (.need ((decide (v < lo)) = false) (.need (vs[i]? = (some (intA v))) (.need ((decide (v > hi)) = false) (.need (EntClosed [(false, .box [strA a, strA b, strA c, intA n, .rsl 1 vs false])]) (.done (some ((.nrm, [.ptr 3 0 0, .rsl 2 es false, intA (Int.ofNat n1), intA (IntKind.i64.wrap (Int.ofNat i + 1))], [(false, .box [strA a, strA b, strA c, intA n, .rsl 1 vs false])]))))))))))) := by kernel_rfl
theorem r115x (es : List AV) (n1 i : Nat) (a b c : ByteArray) (n : Int) (vs : List AV) : roundD (CS Q14) 60 0 115 0 48 48 false (loopOf (CS Q14) 115 0) [3, 22, 23, 24] [3] [3, 22, 23, 24] [3] [] [] [.ptr 3 0 0, .rsl 2 es false, intA (Int.ofNat n1), intA (Int.ofNat i)] [(false, .box [strA a, strA b, strA c, intA n, .rsl 1 vs false])] [.as 25 false] =
    (.need ((decide (Int.ofNat i < Int.ofNat n1)) = false) (.need (EntClosed []) (.done (some (((.exit 0), [], [])))))) := by kernel_rfl
theorem t115r (ps fs cs ts : List AV) (d u : Int) (a b c : ByteArray) (n : Int) (vs : List AV) (k : Nat) (e : Int) (pa pb : ByteArray) (pm px py pz : Int) (co : List AV) : evTreeD (CS Q14) 60 115 [lbE ps fs cs ts d u, .agg [strA a, strA b, strA c, intA n, .rsl 1 vs false]] [.sp [.rsl 7 ps false, strA b] (.tup [intA (Int.ofNat k), intA e]), .chk [.agg [strA pa, strA pb, intA pm, intA px, intA py, intA pz, .rsl 2 co false]], .loop 0 [3, 22, 23, 24] [3] [4] [] .ret [boolA false] []] =
    (.need (asks (CS Q14) 95 [.rsl 7 ps false, strA b] (AV.tup [intA (Int.ofNat k), intA e])) (.need (ps[k]? = (some (AV.agg [strA pa, strA pb, intA pm, intA px, intA py, intA pz, .rsl 2 co false]))) (.need (EntClosed [(false, .box [strA a, strA b, strA c, intA n, .rsl 1 vs false])] ∧ EntClosed [] ∧ Says (CS Q14) 0 48 false (.loop (loopOf (CS Q14) 115 0)) (mkSt [3, 22, 23, 24] [3] 48 [.ptr 3 0 0, .rsl 2 co false, intA (Int.ofNat co.length), intA 0] [(false, .box [strA a, strA b, strA c, intA n, .rsl 1 vs false])]) .ret (mkSt [4] [] 48 [boolA false] [])) (.done (some (boolA false)))))) := by kernel_rfl
theorem t115e (ps fs cs ts : List AV) (d u : Int) (a b c : ByteArray) (n : Int) (vs : List AV) (k : Nat) (e : Int) (pa pb : ByteArray) (pm px py pz : Int) (co : List AV) : evTreeD (CS Q14) 60 115 [lbE ps fs cs ts d u, .agg [strA a, strA b, strA c, intA n, .rsl 1 vs false]] [.sp [.rsl 7 ps false, strA b] (.tup [intA (Int.ofNat k), intA e]), .chk [.agg [strA pa, strA pb, intA pm, intA px, intA py, intA pz, .rsl 2 co false]], .loop 0 [3, 22, 23, 24] [3] [] [] (.exit 0) [] []] =
    (.need (asks (CS Q14) 95 [.rsl 7 ps false, strA b] (AV.tup [intA (Int.ofNat k), intA e])) (.need (ps[k]? = (some (AV.agg [strA pa, strA pb, intA pm, intA px, intA py, intA pz, .rsl 2 co false]))) (.need (EntClosed [(false, .box [strA a, strA b, strA c, intA n, .rsl 1 vs false])] ∧ EntClosed [] ∧ Says (CS Q14) 0 48 false (.loop (loopOf (CS Q14) 115 0)) (mkSt [3, 22, 23, 24] [3] 48 [.ptr 3 0 0, .rsl 2 co false, intA (Int.ofNat co.length), intA 0] [(false, .box [strA a, strA b, strA c, intA n, .rsl 1 vs false])]) (.exit 0) (mkSt [] [] 48 [] [])) (.done (some (boolA true)))))) := by kernel_rfl
theorem r47a (es : List AV) (i : Nat) (a b c : ByteArray) (n : Int) (vs : List AV) (lo hi v : Int) : roundD (CS Q14) 60 0 47 0 47 47 false (loopOf (CS Q14) 47 0) [3, 5, 6] [3] [3, 5, 6] [3] [4] [] [.ptr 3 0 0, .rsl 2 es false, intA (Int.ofNat i)] [(false, .box [strA a, strA b, strA c, intA n, .rsl 1 vs false])] [.as 20 true, .chk [intA v], .chk [.agg [intA lo, intA hi]], .as 34 true, .as 46 true] =
    (.need ((decide (Int.ofNat i < Int.ofNat es.length)) = true) (.need (vs[i]? = (some (intA v))) (.need (es[i]? = (some (AV.agg [intA lo, intA hi]))) (.need ((decide (v < lo)) = true) (.need (true = true) (.need (EntClosed []) (.done (some ((.ret, [boolA false], [])))))))))) := by kernel_rfl
theorem r47b (es : List AV) (i : Nat) (a b c : ByteArray) (n : Int) (vs : List AV) (lo hi v : Int) : roundD (CS Q14) 60 0 47 0 47 47 false (loopOf (CS Q14) 47 0) [3, 5, 6] [3] [3, 5, 6] [3] [4] [] [.ptr 3 0 0, .rsl 2 es false, intA (Int.ofNat i)] [(false, .box [strA a, strA b, strA c, intA n, .rsl 1 vs false])] [.as 20 true, .chk [intA v], .chk [.agg [intA lo, intA hi]], .as 34 false, .chk [intA v], .chk [.agg [intA lo, intA hi]], .as 46 true] =
    (.need ((decide (Int.ofNat i < Int.ofNat es.length)) = true) (.need (vs[i]? = (some (intA v))) (.need (es[i]? = (some (AV.agg [intA lo, intA hi]))) (.need ((decide (v < lo)) = false) (.need (vs[i]? = (some (intA v))) (.need (es[i]? = (some (AV.agg [intA lo, intA hi]))) (.need ((decide (v > hi)) = true) (.need (EntClosed []) (.done (some ((.ret, [boolA false], [])))))))))))) := by kernel_rfl
theorem r47n (es : List AV) (i : Nat) (a b c : ByteArray) (n : Int) (vs : List AV) (lo hi v : Int) : roundD (CS Q14) 60 0 47 0 47 47 false (loopOf (CS Q14) 47 0) [3, 5, 6] [3] [3, 5, 6] [3] [] [] [.ptr 3 0 0, .rsl 2 es false, intA (Int.ofNat i)] [(false, .box [strA a, strA b, strA c, intA n, .rsl 1 vs false])] [.as 20 true, .chk [intA v], .chk [.agg [intA lo, intA hi]], .as 34 false, .chk [intA v], .chk [.agg [intA lo, intA hi]], .as 46 false] =
    (.need ((decide (Int.ofNat i < Int.ofNat es.length)) = true) (.need (vs[i]? = (some (intA v))) (.need (es[i]? = (some (AV.agg [intA lo, intA hi]))) (.need ((decide (v < lo)) = false) (.need (vs[i]? = (some (intA v))) (.need (es[i]? = (some (AV.agg [intA lo, intA hi]))) (.need ((decide (v > hi)) = false) (.need (EntClosed [(false, .box [strA a, strA b, strA c, intA n, .rsl 1 vs false])]) (.done (some ((.nrm, [.ptr 3 0 0, .rsl 2 es false, intA (IntKind.i64.wrap (Int.ofNat i + 1))], [(false, .box [strA a, strA b, strA c, intA n, .rsl 1 vs false])])))))))))))) := by kernel_rfl
theorem r47x (es : List AV) (i : Nat) (a b c : ByteArray) (n : Int) (vs : List AV) : roundD (CS Q14) 60 0 47 0 47 47 false (loopOf (CS Q14) 47 0) [3, 5, 6] [3] [3, 5, 6] [3] [] [] [.ptr 3 0 0, .rsl 2 es false, intA (Int.ofNat i)] [(false, .box [strA a, strA b, strA c, intA n, .rsl 1 vs false])] [.as 20 false] =
    (.need ((decide (Int.ofNat i < Int.ofNat es.length)) = false) (.need (EntClosed []) (.done (some (((.exit 0), [], [])))))) := by kernel_rfl
theorem t47r (ps fs cs ts : List AV) (d u : Int) (a b c : ByteArray) (n : Int) (vs : List AV) (k : Nat) (pa pb : ByteArray) (pm px py pz : Int) (co : List AV) : evTreeD (CS Q14) 60 47 [lbE ps fs cs ts d u, .agg [strA a, strA b, strA c, intA n, .rsl 1 vs false]] [.sp [.rsl 7 ps false, strA b] (intA (Int.ofNat k)), .chk [.agg [strA pa, strA pb, intA pm, intA px, intA py, intA pz, .rsl 2 co false]], .loop 0 [3, 5, 6] [3] [4] [] .ret [boolA false] []] =
    (.need (asks (CS Q14) 24 [.rsl 7 ps false, strA b] (intA (Int.ofNat k))) (.need (ps[k]? = (some (AV.agg [strA pa, strA pb, intA pm, intA px, intA py, intA pz, .rsl 2 co false]))) (.need (EntClosed [(false, .box [strA a, strA b, strA c, intA n, .rsl 1 vs false])] ∧ EntClosed [] ∧ Says (CS Q14) 0 47 false (.loop (loopOf (CS Q14) 47 0)) (mkSt [3, 5, 6] [3] 47 [.ptr 3 0 0, .rsl 2 co false, intA 0] [(false, .box [strA a, strA b, strA c, intA n, .rsl 1 vs false])]) .ret (mkSt [4] [] 47 [boolA false] [])) (.done (some (boolA false)))))) := by kernel_rfl
theorem t47e (ps fs cs ts : List AV) (d u : Int) (a b c : ByteArray) (n : Int) (vs : List AV) (k : Nat) (pa pb : ByteArray) (pm px py pz : Int) (co : List AV) : evTreeD (CS Q14) 60 47 [lbE ps fs cs ts d u, .agg [strA a, strA b, strA c, intA n, .rsl 1 vs false]] [.sp [.rsl 7 ps false, strA b] (intA (Int.ofNat k)), .chk [.agg [strA pa, strA pb, intA pm, intA px, intA py, intA pz, .rsl 2 co false]], .loop 0 [3, 5, 6] [3] [] [] (.exit 0) [] []] =
    (.need (asks (CS Q14) 24 [.rsl 7 ps false, strA b] (intA (Int.ofNat k))) (.need (ps[k]? = (some (AV.agg [strA pa, strA pb, intA pm, intA px, intA py, intA pz, .rsl 2 co false]))) (.need (EntClosed [(false, .box [strA a, strA b, strA c, intA n, .rsl 1 vs false])] ∧ EntClosed [] ∧ Says (CS Q14) 0 47 false (.loop (loopOf (CS Q14) 47 0)) (mkSt [3, 5, 6] [3] 47 [.ptr 3 0 0, .rsl 2 co false, intA 0] [(false, .box [strA a, strA b, strA c, intA n, .rsl 1 vs false])]) (.exit 0) (mkSt [] [] 47 [] [])) (.done (some (boolA true)))))) := by kernel_rfl
def fcM (x : Lb) (s : ByteArray) : Int := bif labM x != 0 then labM x else whenM (decide (findC x.2.2.1 s < 0)) 10
def fcI (x : Lb) (s : ByteArray) : Int := bif labM x != 0 then 0 else findC x.2.2.1 s
def fcG : List AV → Option AV := sp2 labC strC fun x s => bif okLb x then some (.tup [intA (fcI x s), intA (fcM x s)]) else none
theorem spLab {x : Lb} (h : okLb x = true) : labG [lbA x] = some (intA (labM x)) := by
  have := sp1_at (A := labC) (F := fun x => bif okLb x then some (intA (labM x)) else none) x
  rw [h] at this; exact this
theorem sp187 {l : List Cb} (s : ByteArray) (hl : Nat.blt l.length two63 = true) : ix187G [slA cbC 5 l, .fn (.func 187) [] [.rptr [strA s]]] = some (intA (findC l s)) := by
  have := sp2_at (A := cbsC) (B := cloC 187 (rptrC strC)) (F := fun l s => bif Nat.blt l.length two63 then some (intA (findC l s)) else none) l s
  rw [hl] at this; exact this
theorem blt_lim {n : Nat} (h : n ≤ lim) : Nat.blt n two63 = true := Nat.ble_eq_true_of_le (limTwo h)
theorem h114 : Holds 114 fcG := holds2 fun x s r hr => by
  cases hb : okLb x with
  | false => simp [hb] at hr
  | true =>
    simp only [hb, cond_true, Option.some.injEq] at hr; subst hr
    have K := okLb_at hb
    unfold fcI fcM
    cases he : labM x != 0 with
    | true => exact Q14_ok.tr ((lx x t114a) s _) ⟨⟨rfl, spLab hb⟩, he, rfl⟩
    | false => exact Q14_ok.tr ((lx x t114b) s (labM x) _ _) ⟨⟨rfl, spLab hb⟩, he, ⟨rfl, sp187 s (blt_lim K.cs)⟩, ⟨rfl, spWhen _ 10⟩, rfl⟩
def atI (l : List Int) (i : Nat) : Int := (l[i]?).getD 0
def outS (vs : List Int) (i : Nat) (y : I2) : Option Unit := bif decide (atI vs i < y.1) || decide (atI vs i > y.2) then some () else none
def prtOf (l : List Pt) (s : ByteArray) : Pt := atP l ((findIx s (nms l) 0).getD 0)
def goodM (l : List Pt) (c : Cb) : Bool := (srch (outS c.2.2.2.2) 0 (prtOf l c.2.1).co).isNone
def goodG : List AV → Option AV := sp2 labC cbC fun x c => bif okLb x && (decide (partsM x.1 = 0) && (hasP x.1 c.2.1 && decide (c.2.2.2.2.length = coLen x.1 c.2.1))) then some (boolA (goodM x.1 c)) else none
theorem atI_get {l : List Int} {i : Nat} (h : i < l.length) : l[i]? = some (atI l i) := by
  unfold atI; rw [List.getElem?_eq_getElem h]; rfl
theorem e_iv (l : List I2) : Int.ofNat (l.map ivC.enc).length = Int.ofNat l.length := by simp
theorem loop115 (co : List I2) (c : Cb) (hl : co.length < two63) (hc : c.2.2.2.2.length = co.length) :
    LoopRun (CS Q14) 0 48 false (loopOf (CS Q14) 115 0) (mkSt [3, 22, 23, 24] [3] 48 [.ptr 3 0 0, .rsl 2 (co.map ivC.enc) false, intA (Int.ofNat (co.map ivC.enc).length), intA 0] [cbX c])
      ((srch (outS c.2.2.2.2) 0 co).elim (.exit 0) fun _ => .ret) ((srch (outS c.2.2.2.2) 0 co).elim (mkSt [] [] 48 [] []) fun _ => mkSt [4] [] 48 [boolA false] []) :=
  LoopRun.find (C := CS Q14) (p := 0) (nt := 48) (rd := false) (c := loopOf (CS Q14) 115 0) (outS c.2.2.2.2) (fun i => mkSt [3, 22, 23, 24] [3] 48 [.ptr 3 0 0, .rsl 2 (co.map ivC.enc) false, intA (Int.ofNat (co.map ivC.enc).length), intA (Int.ofNat i)] [cbX c])
    (fun _ => mkSt [4] [] 48 [boolA false] []) (mkSt [] [] 48 [] []) (.exit 0) (fun _ => .ret) co (by simp) (by simp)
    (fun i y hy => by
      have hi := lt_len hy
      have hlt : decide (Int.ofNat i < Int.ofNat (co.map ivC.enc).length) = true := by rw [e_iv]; exact lt_of hi
      have hg := get_map ivC.enc hy
      have hv := get_map intC.enc (atI_get (l := c.2.2.2.2) (i := i) (by omega))
      unfold outS
      cases h1 : decide (atI c.2.2.2.2 i < y.1) with
      | true => exact Q14_ok.rndR (r115a (co.map ivC.enc) (co.map ivC.enc).length i c.1 c.2.1 c.2.2.1 c.2.2.2.1 (c.2.2.2.2.map intC.enc) y.1 y.2 (atI c.2.2.2.2 i)) ⟨hlt, hg, hv, h1, rfl, trivial, rfl⟩
      | false =>
        cases h2 : decide (atI c.2.2.2.2 i > y.2) with
        | true => exact Q14_ok.rndR (r115b (co.map ivC.enc) (co.map ivC.enc).length i c.1 c.2.1 c.2.2.1 c.2.2.2.1 (c.2.2.2.2.map intC.enc) y.1 y.2 (atI c.2.2.2.2 i)) ⟨hlt, hg, hv, h1, hv, h2, trivial, rfl⟩
        | false =>
          have hr := r115n (co.map ivC.enc) (co.map ivC.enc).length i c.1 c.2.1 c.2.2.1 c.2.2.2.1 (c.2.2.2.2.map intC.enc) y.1 y.2 (atI c.2.2.2.2 i)
          rw [wrap_ix hi hl] at hr
          exact Q14_ok.rndN hr ⟨hlt, hg, hv, h1, hv, h2, trivial, rfl⟩)
    (Q14_ok.rndX (r115x (co.map ivC.enc) (co.map ivC.enc).length co.length c.1 c.2.1 c.2.2.1 c.2.2.2.1 (c.2.2.2.2.map intC.enc)) ⟨by rw [e_iv]; exact lt_self _, trivial, rfl⟩)
theorem loop47 (co : List I2) (c : Cb) (hl : co.length < two63) (hc : c.2.2.2.2.length = co.length) :
    LoopRun (CS Q14) 0 47 false (loopOf (CS Q14) 47 0) (mkSt [3, 5, 6] [3] 47 [.ptr 3 0 0, .rsl 2 (co.map ivC.enc) false, intA 0] [cbX c])
      ((srch (outS c.2.2.2.2) 0 co).elim (.exit 0) fun _ => .ret) ((srch (outS c.2.2.2.2) 0 co).elim (mkSt [] [] 47 [] []) fun _ => mkSt [4] [] 47 [boolA false] []) :=
  LoopRun.find (C := CS Q14) (p := 0) (nt := 47) (rd := false) (c := loopOf (CS Q14) 47 0) (outS c.2.2.2.2) (fun i => mkSt [3, 5, 6] [3] 47 [.ptr 3 0 0, .rsl 2 (co.map ivC.enc) false, intA (Int.ofNat i)] [cbX c])
    (fun _ => mkSt [4] [] 47 [boolA false] []) (mkSt [] [] 47 [] []) (.exit 0) (fun _ => .ret) co (by simp) (by simp)
    (fun i y hy => by
      have hi := lt_len hy
      have hlt : decide (Int.ofNat i < Int.ofNat (co.map ivC.enc).length) = true := by rw [e_iv]; exact lt_of hi
      have hg := get_map ivC.enc hy
      have hv := get_map intC.enc (atI_get (l := c.2.2.2.2) (i := i) (by omega))
      unfold outS
      cases h1 : decide (atI c.2.2.2.2 i < y.1) with
      | true => exact Q14_ok.rndR (r47a (co.map ivC.enc) i c.1 c.2.1 c.2.2.1 c.2.2.2.1 (c.2.2.2.2.map intC.enc) y.1 y.2 (atI c.2.2.2.2 i)) ⟨hlt, hv, hg, h1, rfl, trivial, rfl⟩
      | false =>
        cases h2 : decide (atI c.2.2.2.2 i > y.2) with
        | true => exact Q14_ok.rndR (r47b (co.map ivC.enc) i c.1 c.2.1 c.2.2.1 c.2.2.2.1 (c.2.2.2.2.map intC.enc) y.1 y.2 (atI c.2.2.2.2 i)) ⟨hlt, hv, hg, h1, hv, hg, h2, trivial, rfl⟩
        | false =>
          have hr := r47n (co.map ivC.enc) i c.1 c.2.1 c.2.2.1 c.2.2.2.1 (c.2.2.2.2.map intC.enc) y.1 y.2 (atI c.2.2.2.2 i)
          rw [wrap_ix hi hl] at hr
          exact Q14_ok.rndN hr ⟨hlt, hv, hg, h1, hv, hg, h2, trivial, rfl⟩)
    (Q14_ok.rndX (r47x (co.map ivC.enc) co.length c.1 c.2.1 c.2.2.1 c.2.2.2.1 (c.2.2.2.2.map intC.enc)) ⟨by rw [e_iv]; exact lt_self _, trivial, rfl⟩)
theorem h115 : Holds 115 goodG := holds2 fun x c r hr => by
  cases hb : okLb x && (decide (partsM x.1 = 0) && (hasP x.1 c.2.1 && decide (c.2.2.2.2.length = coLen x.1 c.2.1))) with
  | false => simp [hb] at hr
  | true =>
    simp only [hb, cond_true, Option.some.injEq] at hr; subst hr
    simp only [Bool.and_eq_true, decide_eq_true_eq] at hb
    obtain ⟨h1, h2, h3, h4⟩ := hb
    have K := okLb_at h1
    obtain ⟨k, hk, hkl, hkp⟩ := known_at h3
    have hco : coLen x.1 c.2.1 = (atP x.1 k).co.length := by unfold coLen; rw [hk]; rfl
    have hpr : prtOf x.1 c.2.1 = atP x.1 k := by unfold prtOf; rw [hk]; rfl
    have hg := get_map ptC.enc (atP_get hkl)
    have hl : (atP x.1 k).co.length < two63 := limTwo (Nat.le_of_ble_eq_true ((okPts_at K.ps).2 _ (List.mem_of_getElem? (atP_get hkl))))
    have hf : find95G [slA ptC 7 x.1, strA c.2.1] = some (.tup [intA (Int.ofNat k), intA (whenM (!hasP x.1 c.2.1) 10)]) := by
      rw [sp95 h2]; unfold find95; rw [hk]; rfl
    have h := loop115 (atP x.1 k).co c hl (by rw [h4, hco])
    unfold goodM
    rw [hpr]
    cases hq : srch (outS c.2.2.2.2) 0 (atP x.1 k).co with
    | some u => rw [hq] at h; exact Q14_ok.tr ((lx x t115r) c.1 c.2.1 c.2.2.1 c.2.2.2.1 (c.2.2.2.2.map intC.enc) k _ (atP x.1 k).1 (atP x.1 k).2.1 (atP x.1 k).2.2.1 (atP x.1 k).2.2.2.1 (atP x.1 k).2.2.2.2.1 (atP x.1 k).2.2.2.2.2.1 ((atP x.1 k).co.map ivC.enc)) ⟨⟨rfl, hf⟩, hg, ⟨trivial, trivial, h.says⟩, rfl⟩
    | none => rw [hq] at h; exact Q14_ok.tr ((lx x t115e) c.1 c.2.1 c.2.2.1 c.2.2.2.1 (c.2.2.2.2.map intC.enc) k _ (atP x.1 k).1 (atP x.1 k).2.1 (atP x.1 k).2.2.1 (atP x.1 k).2.2.2.1 (atP x.1 k).2.2.2.2.1 (atP x.1 k).2.2.2.2.2.1 ((atP x.1 k).co.map ivC.enc)) ⟨⟨rfl, hf⟩, hg, ⟨trivial, trivial, h.says⟩, rfl⟩
theorem h47 : Holds 47 goodG := holds2 fun x c r hr => by
  cases hb : okLb x && (decide (partsM x.1 = 0) && (hasP x.1 c.2.1 && decide (c.2.2.2.2.length = coLen x.1 c.2.1))) with
  | false => simp [hb] at hr
  | true =>
    simp only [hb, cond_true, Option.some.injEq] at hr; subst hr
    simp only [Bool.and_eq_true, decide_eq_true_eq] at hb
    obtain ⟨h1, h2, h3, h4⟩ := hb
    have K := okLb_at h1
    obtain ⟨k, hk, hkl, hkp⟩ := known_at h3
    have hco : coLen x.1 c.2.1 = (atP x.1 k).co.length := by unfold coLen; rw [hk]; rfl
    have hpr : prtOf x.1 c.2.1 = atP x.1 k := by unfold prtOf; rw [hk]; rfl
    have hg := get_map ptC.enc (atP_get hkl)
    have hl : (atP x.1 k).co.length < two63 := limTwo (Nat.le_of_ble_eq_true ((okPts_at K.ps).2 _ (List.mem_of_getElem? (atP_get hkl))))
    have hf : findPG [slA ptC 7 x.1, strA c.2.1] = some (intA (Int.ofNat k)) := by rw [← hkp]; exact spFindP _ K.p63
    have h := loop47 (atP x.1 k).co c hl (by rw [h4, hco])
    unfold goodM
    rw [hpr]
    cases hq : srch (outS c.2.2.2.2) 0 (atP x.1 k).co with
    | some u => rw [hq] at h; exact Q14_ok.tr ((lx x t47r) c.1 c.2.1 c.2.2.1 c.2.2.2.1 (c.2.2.2.2.map intC.enc) k (atP x.1 k).1 (atP x.1 k).2.1 (atP x.1 k).2.2.1 (atP x.1 k).2.2.2.1 (atP x.1 k).2.2.2.2.1 (atP x.1 k).2.2.2.2.2.1 ((atP x.1 k).co.map ivC.enc)) ⟨⟨rfl, hf⟩, hg, ⟨trivial, trivial, h.says⟩, rfl⟩
    | none => rw [hq] at h; exact Q14_ok.tr ((lx x t47e) c.1 c.2.1 c.2.2.1 c.2.2.2.1 (c.2.2.2.2.map intC.enc) k (atP x.1 k).1 (atP x.1 k).2.1 (atP x.1 k).2.2.1 (atP x.1 k).2.2.2.1 (atP x.1 k).2.2.2.2.1 (atP x.1 k).2.2.2.2.2.1 ((atP x.1 k).co.map ivC.enc)) ⟨⟨rfl, hf⟩, hg, ⟨trivial, trivial, h.says⟩, rfl⟩
def Q15 : Specs := (((Q14.set 114 fcG).set 115 goodG).set 47 goodG)
theorem Q15_ok : Ok Q15 := (((Q14_ok.set h114).set h115).set h47)
end Go.Vm.S3

namespace Go.Vm.S3
open Go.Proofs Go.RowKit
set_option maxRecDepth 100000
theorem t40a (ps fs cs ts : List AV) (d u : Int) (s : ByteArray) (k e : Int) : evTreeD (CS Q15) 60 40 [lbE ps fs cs ts d u, strA s] [.sp [lbE ps fs cs ts d u, strA s] (.tup [intA k, intA e]), .as 15 true] =
    (.need (asks (CS Q15) 114 [lbE ps fs cs ts d u, strA s] (AV.tup [intA k, intA e])) (.need ((e != 0) = true) (.done (some (.tup [boolA false, intA e]))))) := by kernel_rfl
theorem t40b (ps fs cs ts : List AV) (d u : Int) (s : ByteArray) (k : Nat) (e : Int) (a b c : ByteArray) (n : Int) (us : List AV) (g : Bool) : evTreeD (CS Q15) 60 40 [lbE ps fs cs ts d u, strA s] [.sp [lbE ps fs cs ts d u, strA s] (.tup [intA (Int.ofNat k), intA e]), .as 15 false, .chk [.agg [strA a, strA b, strA c, intA n, .rsl 1 us false]], .sp [lbE ps fs cs ts d u, .agg [strA a, strA b, strA c, intA n, .rsl 1 us false]] (boolA g)] =
    (.need (asks (CS Q15) 114 [lbE ps fs cs ts d u, strA s] (AV.tup [intA (Int.ofNat k), intA e])) (.need ((e != 0) = false) (.need (cs[k]? = (some (AV.agg [strA a, strA b, strA c, intA n, .rsl 1 us false]))) (.need (asks (CS Q15) 115 [lbE ps fs cs ts d u, .agg [strA a, strA b, strA c, intA n, .rsl 1 us false]] (boolA g)) (.done (some (.tup [boolA g, intA 0]))))))) := by kernel_rfl
theorem t38a (ps fs cs ts : List AV) (d u : Int) (s : ByteArray) (day : Int) (e0 : Int) : evTreeD (CS Q15) 60 38 [lbE ps fs cs ts d u, strA s, intA day] [.sp [lbE ps fs cs ts d u] (intA e0), .as 16 true] =
    (.need (asks (CS Q15) 49 [lbE ps fs cs ts d u] (intA e0)) (.need ((e0 != 0) = true) (.done (some (.tup [strA (ByteArray.mk #[]), intA e0]))))) := by kernel_rfl
theorem t38b (ps fs cs ts : List AV) (d u : Int) (s : ByteArray) (day : Int) (e0 k e1 : Int) : evTreeD (CS Q15) 60 38 [lbE ps fs cs ts d u, strA s, intA day] [.sp [lbE ps fs cs ts d u] (intA e0), .as 16 false, .sp [.rsl 7 ps false, strA s] (.tup [intA k, intA e1]), .as 26 true] =
    (.need (asks (CS Q15) 49 [lbE ps fs cs ts d u] (intA e0)) (.need ((e0 != 0) = false) (.need (asks (CS Q15) 95 [.rsl 7 ps false, strA s] (AV.tup [intA k, intA e1])) (.need ((e1 != 0) = true) (.done (some (.tup [strA (ByteArray.mk #[]), intA e1]))))))) := by kernel_rfl
theorem t38c (ps fs cs ts : List AV) (d u : Int) (s : ByteArray) (day : Int) (e0 k e1 e2 : Int) : evTreeD (CS Q15) 60 38 [lbE ps fs cs ts d u, strA s, intA day] [.sp [lbE ps fs cs ts d u] (intA e0), .as 16 false, .sp [.rsl 7 ps false, strA s] (.tup [intA k, intA e1]), .as 26 false, .sp [intA day] (intA e2), .as 31 true] =
    (.need (asks (CS Q15) 49 [lbE ps fs cs ts d u] (intA e0)) (.need ((e0 != 0) = false) (.need (asks (CS Q15) 95 [.rsl 7 ps false, strA s] (AV.tup [intA k, intA e1])) (.need ((e1 != 0) = false) (.need (asks (CS Q15) 112 [intA day] (intA e2)) (.need ((e2 != 0) = true) (.done (some (.tup [strA (ByteArray.mk #[]), intA e2]))))))))) := by kernel_rfl
theorem t38d (ps fs cs ts : List AV) (d u : Int) (s : ByteArray) (day : Int) (e0 k e1 e2 : Int) (w : ByteArray) : evTreeD (CS Q15) 60 38 [lbE ps fs cs ts d u, strA s, intA day] [.sp [lbE ps fs cs ts d u] (intA e0), .as 16 false, .sp [.rsl 7 ps false, strA s] (.tup [intA k, intA e1]), .as 26 false, .sp [intA day] (intA e2), .as 31 false, .sp [lbE ps fs cs ts d u, strA s, intA day] (strA w), .as 38 true] =
    (.need (asks (CS Q15) 49 [lbE ps fs cs ts d u] (intA e0)) (.need ((e0 != 0) = false) (.need (asks (CS Q15) 95 [.rsl 7 ps false, strA s] (AV.tup [intA k, intA e1])) (.need ((e1 != 0) = false) (.need (asks (CS Q15) 112 [intA day] (intA e2)) (.need ((e2 != 0) = false) (.need (asks (CS Q15) 113 [lbE ps fs cs ts d u, strA s, intA day] (strA w)) (.need ((w.toList == (ByteArray.mk #[]).toList) = true) (.done (some (.tup [strA (ByteArray.mk #[]), intA 7]))))))))))) := by kernel_rfl
theorem t38e (ps fs cs ts : List AV) (d u : Int) (s : ByteArray) (day : Int) (e0 k e1 e2 : Int) (w : ByteArray) : evTreeD (CS Q15) 60 38 [lbE ps fs cs ts d u, strA s, intA day] [.sp [lbE ps fs cs ts d u] (intA e0), .as 16 false, .sp [.rsl 7 ps false, strA s] (.tup [intA k, intA e1]), .as 26 false, .sp [intA day] (intA e2), .as 31 false, .sp [lbE ps fs cs ts d u, strA s, intA day] (strA w), .as 38 false] =
    (.need (asks (CS Q15) 49 [lbE ps fs cs ts d u] (intA e0)) (.need ((e0 != 0) = false) (.need (asks (CS Q15) 95 [.rsl 7 ps false, strA s] (AV.tup [intA k, intA e1])) (.need ((e1 != 0) = false) (.need (asks (CS Q15) 112 [intA day] (intA e2)) (.need ((e2 != 0) = false) (.need (asks (CS Q15) 113 [lbE ps fs cs ts d u, strA s, intA day] (strA w)) (.need ((w.toList == (ByteArray.mk #[]).toList) = false) (.done (some (.tup [strA w, intA 0]))))))))))) := by kernel_rfl
theorem srchE_zero {α : Type} {F : Nat → α → Int} {l : List α} (h : srchE F l = 0) : ∀ i x, l[i]? = some x → F i x = 0 := fun i x hx => by
  unfold srchE at h
  cases hq : srch (fun i x => bif F i x != 0 then some (F i x) else none) 0 l with
  | some t => rw [hq] at h; exact absurd h (srch_some_ne (F := F) l 0 hq)
  | none =>
    have h1 := srch_all_none l 0 hq i x hx
    rw [Nat.zero_add] at h1
    cases h0 : F i x != 0 with
    | true => rw [h0] at h1; cases h1
    | false => simpa using h0
structure GoodL (x : Lb) : Prop where
  ps : partsM x.1 = 0
  fs : ∀ i y, x.2.1[i]? = some y → fitM x i y = 0
  cs : ∀ i c, x.2.2.1[i]? = some c → calM x i c = 0
  ts : ∀ i t, x.2.2.2.1[i]? = some t → testM x i t = 0
  fn : x.2.1.length ≤ 64
  cn : x.2.2.1.length ≤ 64
  tn : x.2.2.2.1.length ≤ 64
  rd : withinM x.2.2.2.2.1 0 1000 = 0
  ru : withinM x.2.2.2.2.2 1 100 = 0
theorem labM_zero {x : Lb} (h : labM x = 0) : GoodL x := by
  unfold labM at h
  rw [firstM_c0, firstM_c0, firstM_c0, firstM_c0, firstM_c0, firstM_c0] at h
  obtain ⟨h1, h2, h3, h4, h5, h6, _⟩ := h
  have sp : ∀ {α : Type} {F : Nat → α → Int} {l : List α} {n : Nat}, (bif decide (Int.ofNat n > 64) then (5 : Int) else srchE F l) = 0 → n ≤ 64 ∧ srchE F l = 0 := fun {α F l n} h => by
    cases hd : decide (Int.ofNat n > 64) with
    | true => rw [hd] at h; cases h
    | false =>
      rw [hd] at h
      have := of_decide_eq_false hd
      simp only [gt_iff_lt, Int.ofNat_eq_natCast] at this
      exact ⟨by omega, h⟩
  unfold fitsM at h2
  unfold calsM at h3
  unfold testsM at h4
  exact ⟨h1, srchE_zero (sp h2).2, srchE_zero (sp h3).2, srchE_zero (sp h4).2, (sp h2).1, (sp h3).1, (sp h4).1, h5, h6⟩
theorem calM_zero {x : Lb} {i : Nat} {c : Cb} (h : calM x i c = 0) : firstM (calE x i c) = 0 ∧ c.2.2.2.2.length = coLen x.1 c.2.1 ∧ ¬ c.2.2.2.1 < prevD dayC x.2.2.1 i := by
  unfold calM at h
  rw [firstM_app] at h
  cases he : firstM (calE x i c) != 0 with
  | true => rw [he] at h; simp only [cond_true] at h; rw [h] at he; cases he
  | false =>
    rw [he, cond_false, firstM_c0, firstM_c0, firstM_c0] at h
    obtain ⟨h1, h2, h3, _⟩ := h
    refine ⟨by simpa using he, ?_, ?_⟩
    · unfold shapeM whenM at h1
      cases hq : Int.ofNat c.2.2.2.2.length != Int.ofNat (coLen x.1 c.2.1) with
      | true => rw [hq] at h1; cases h1
      | false => simp only [bne_eq_false_iff_eq, Int.ofNat_eq_natCast] at hq; omega
    · unfold whenM at h3
      cases hq : decide (c.2.2.2.1 < prevD dayC x.2.2.1 i) with
      | true => rw [hq] at h3; cases h3
      | false => exact of_decide_eq_false hq
def cb0 : Cb := (⟨#[]⟩, ⟨#[]⟩, ⟨#[]⟩, 0, [])
def cbAt (x : Lb) (k : Nat) : Cb := (x.2.2.1[k]?).getD cb0
theorem cbAt_get {x : Lb} {k : Nat} (h : k < x.2.2.1.length) : x.2.2.1[k]? = some (cbAt x k) := by
  unfold cbAt
  rw [List.getElem?_eq_getElem h]; rfl
def cIx (x : Lb) (s : ByteArray) : Nat := (findIx s (nmc x.2.2.1) 0).getD 0
theorem findC_ge {x : Lb} {s : ByteArray} (h : ¬ findC x.2.2.1 s < 0) : cIx x s < x.2.2.1.length ∧ findC x.2.2.1 s = Int.ofNat (cIx x s) ∧ findIx s (nmc x.2.2.1) 0 = some (cIx x s) := by
  unfold findC at h ⊢
  unfold cIx
  cases hf : findIx s (nmc x.2.2.1) 0 with
  | none => rw [hf] at h; exact absurd (by decide) h
  | some k =>
    have := (findIx_bound hf).2
    rw [Nat.zero_add, List.length_map] at this
    exact ⟨this, rfl, rfl⟩
theorem fcM_zero {x : Lb} {s : ByteArray} (h : fcM x s = 0) : labM x = 0 ∧ ¬ findC x.2.2.1 s < 0 := by
  unfold fcM at h
  cases he : labM x != 0 with
  | true => rw [he, cond_true] at h; rw [h] at he; cases he
  | false =>
    rw [he, cond_false] at h
    refine ⟨by simpa using he, fun hn => ?_⟩
    rw [decide_eq_true hn] at h; cases h
theorem spGood {x : Lb} {c : Cb} (h1 : okLb x = true) (h2 : partsM x.1 = 0) (h3 : hasP x.1 c.2.1 = true) (h4 : c.2.2.2.2.length = coLen x.1 c.2.1) : goodG [lbA x, cbA c] = some (boolA (goodM x.1 c)) := by
  have := sp2_at (A := labC) (B := cbC) (F := fun x c => bif okLb x && (decide (partsM x.1 = 0) && (hasP x.1 c.2.1 && decide (c.2.2.2.2.length = coLen x.1 c.2.1))) then some (boolA (goodM x.1 c)) else none) x c
  rw [h1, decide_eq_true h2, h3, decide_eq_true h4] at this; exact this
theorem spFc {x : Lb} (s : ByteArray) (h : okLb x = true) : fcG [lbA x, strA s] = some (.tup [intA (fcI x s), intA (fcM x s)]) := by
  have := sp2_at (A := labC) (B := strC) (F := fun x s => bif okLb x then some (.tup [intA (fcI x s), intA (fcM x s)]) else none) x s
  rw [h] at this; exact this
def good40 (x : Lb) (s : ByteArray) : Bool := bif fcM x s != 0 then false else goodM x.1 (cbAt x (cIx x s))
def good40G : List AV → Option AV := sp2 labC strC fun x s => bif okLb x then some (.tup [boolA (good40 x s), intA (fcM x s)]) else none
theorem h40 : Holds 40 good40G := holds2 fun x s r hr => by
  cases hb : okLb x with
  | false => simp [hb] at hr
  | true =>
    simp only [hb, cond_true, Option.some.injEq] at hr; subst hr
    unfold good40
    cases he : fcM x s != 0 with
    | true => exact Q15_ok.tr ((lx x t40a) s _ _) ⟨⟨rfl, spFc s hb⟩, he, rfl⟩
    | false =>
      have h0 : fcM x s = 0 := by simpa using he
      obtain ⟨hl, hf⟩ := fcM_zero h0
      obtain ⟨hk, hfc, _⟩ := findC_ge hf
      have G := labM_zero hl
      have hg := cbAt_get hk
      obtain ⟨e1, e2, _⟩ := calM_zero (G.cs _ _ hg)
      obtain ⟨_, _, e3, _, _⟩ := calE_zero e1
      have hi : fcI x s = Int.ofNat (cIx x s) := by
        unfold fcI
        rw [show (labM x != 0) = false by simp [hl], cond_false]; exact hfc
      have hs : fcG [lbA x, strA s] = some (.tup [intA (Int.ofNat (cIx x s)), intA (fcM x s)]) := by rw [spFc s hb, hi]
      rw [h0] at hs ⊢
      exact Q15_ok.tr ((lx x t40b) s (cIx x s) 0 (cbAt x (cIx x s)).1 (cbAt x (cIx x s)).2.1 (cbAt x (cIx x s)).2.2.1 (cbAt x (cIx x s)).2.2.2.1 ((cbAt x (cIx x s)).2.2.2.2.map intC.enc) (goodM x.1 (cbAt x (cIx x s)))) ⟨⟨rfl, hs⟩, rfl, get_map cbC.enc hg, ⟨rfl, spGood hb G.ps e3 e2⟩, rfl⟩
def spcF (x : Lb) (s : ByteArray) (day : Int) : Int := firstM [whenM (!hasP x.1 s) 10, dayM day]
def spcE (x : Lb) (s : ByteArray) (day : Int) : Int := bif labM x != 0 then labM x else bif spcF x s day != 0 then spcF x s day else whenM (nilB (specM x.2.1 s day)) 7
def spcS (x : Lb) (s : ByteArray) (day : Int) : ByteArray := bif labM x != 0 then ⟨#[]⟩ else bif spcF x s day != 0 then ⟨#[]⟩ else bif nilB (specM x.2.1 s day) then ⟨#[]⟩ else specM x.2.1 s day
def spcG : List AV → Option AV := sp3 labC strC intC fun x s day => bif okLb x then some (.tup [strA (spcS x s day), intA (spcE x s day)]) else none
theorem spSpec {x : Lb} (s : ByteArray) (day : Int) (h : okLb x = true) : specG [lbA x, strA s, intA day] = some (strA (specM x.2.1 s day)) := by
  have := sp3_at (A := labC) (B := strC) (D := intC) (F := fun x s day => bif Nat.blt x.2.1.length two63 then some (strA (specM x.2.1 s day)) else none) x s day
  rw [blt_lim (okLb_at h).fs] at this; exact this
theorem h38 : Holds 38 spcG := holds3 fun x s day r hr => by
  cases hb : okLb x with
  | false => simp [hb] at hr
  | true =>
    simp only [hb, cond_true, Option.some.injEq] at hr; subst hr
    have K := okLb_at hb
    unfold spcS spcE
    cases hl : labM x != 0 with
    | true => exact Q15_ok.tr ((lx x t38a) s day _) ⟨⟨rfl, spLab hb⟩, hl, rfl⟩
    | false =>
      have G := labM_zero (by simpa using hl)
      have hf : find95G [slA ptC 7 x.1, strA s] = some (.tup [intA (Int.ofNat ((findIx s (nms x.1) 0).getD 0)), intA (whenM (!hasP x.1 s) 10)]) := sp95 G.ps s
      have e1 : spcF x s day = bif whenM (!hasP x.1 s) 10 != 0 then whenM (!hasP x.1 s) 10 else dayM day := by
        unfold spcF
        exact firstM_snoc (dayM day) [whenM (!hasP x.1 s) 10] |>.trans (by
          have : firstM [whenM (!hasP x.1 s) 10] = whenM (!hasP x.1 s) 10 := by
            rw [firstM_step]
            cases hq : whenM (!hasP x.1 s) 10 != 0 with
            | true => rfl
            | false => have h0 : whenM (!hasP x.1 s) 10 = 0 := by simpa using hq
                       rw [h0]; rfl
          rw [this])
      rw [e1]
      cases hp : whenM (!hasP x.1 s) 10 != 0 with
      | true =>
        simp only [cond_true, hp]
        exact Q15_ok.tr ((lx x t38b) s day (labM x) _ _) ⟨⟨rfl, spLab hb⟩, hl, ⟨rfl, hf⟩, hp, rfl⟩
      | false =>
        simp only [cond_false]
        cases hd : dayM day != 0 with
        | true => exact Q15_ok.tr ((lx x t38c) s day (labM x) _ _ _) ⟨⟨rfl, spLab hb⟩, hl, ⟨rfl, hf⟩, hp, ⟨rfl, spDay day⟩, hd, rfl⟩
        | false =>
          cases hw : nilB (specM x.2.1 s day) with
          | true => exact Q15_ok.tr ((lx x t38d) s day (labM x) _ _ _ (specM x.2.1 s day)) ⟨⟨rfl, spLab hb⟩, hl, ⟨rfl, hf⟩, hp, ⟨rfl, spDay day⟩, hd, ⟨rfl, spSpec s day hb⟩, hw, rfl⟩
          | false => exact Q15_ok.tr ((lx x t38e) s day (labM x) _ _ _ (specM x.2.1 s day)) ⟨⟨rfl, spLab hb⟩, hl, ⟨rfl, hf⟩, hp, ⟨rfl, spDay day⟩, hd, ⟨rfl, spSpec s day hb⟩, hw, rfl⟩
def Q16 : Specs := ((Q15.set 40 good40G).set 38 spcG)
theorem Q16_ok : Ok Q16 := ((Q15_ok.set h40).set h38)
end Go.Vm.S3

namespace Go.Vm.S3
open Go.Proofs Go.RowKit
set_option maxRecDepth 100000
theorem t48ee (ps fs cs ts : List AV) (d u : Int) (k : Nat) : evTreeD (CS Q16) 60 48 [lbE ps fs cs ts d u, intA (Int.ofNat k)] [.sp [lbE ps fs cs ts d u] (lbE ps fs cs ts d u), .ar (.rsl 5 [] false), .ar (intA (Int.ofNat (k + 1))), .ar (.rsl 5 [] false)] =
    (.need (asks (CS Q16) 81 [lbE ps fs cs ts d u] (lbE ps fs cs ts d u)) (.need ((0 ≤ k ∧ k ≤ cs.length) ∧ (AV.rsl 5 (List.take (k - 0) (List.drop 0 cs)) false) = (AV.rsl 5 [] false)) (.need ((abin (CS Q16) BinOp.add 3 (Operand.tmp 16) (Operand.const (Value.int IntKind.i64 1)) (intA (Int.ofNat k)) (intA 1)) = (some (intA (Int.ofNat (k + 1))))) (.need (((k + 1) ≤ cs.length ∧ cs.length ≤ cs.length) ∧ (AV.rsl 5 (List.take (cs.length - (k + 1)) (List.drop (k + 1) cs)) false) = (AV.rsl 5 [] false)) (.done (some (.agg [.rsl 7 ps false, .rsl 3 fs false, .rsl 5 [] true, .rsl 3 ts false, intA d, intA u]))))))) := by kernel_rfl
theorem t48ec (ps fs cs ts : List AV) (d u : Int) (k : Nat) (c1 : AV) (cs1 : List AV) : evTreeD (CS Q16) 60 48 [lbE ps fs cs ts d u, intA (Int.ofNat k)] [.sp [lbE ps fs cs ts d u] (lbE ps fs cs ts d u), .ar (.rsl 5 [] false), .ar (intA (Int.ofNat (k + 1))), .ar (.rsl 5 (c1 :: cs1) false), .ap [], .fb 5 2] =
    (.need (asks (CS Q16) 81 [lbE ps fs cs ts d u] (lbE ps fs cs ts d u)) (.need ((0 ≤ k ∧ k ≤ cs.length) ∧ (AV.rsl 5 (List.take (k - 0) (List.drop 0 cs)) false) = (AV.rsl 5 [] false)) (.need ((abin (CS Q16) BinOp.add 3 (Operand.tmp 16) (Operand.const (Value.int IntKind.i64 1)) (intA (Int.ofNat k)) (intA 1)) = (some (intA (Int.ofNat (k + 1))))) (.need (((k + 1) ≤ cs.length ∧ cs.length ≤ cs.length) ∧ (AV.rsl 5 (List.take (cs.length - (k + 1)) (List.drop (k + 1) cs)) false) = (AV.rsl 5 (c1 :: cs1) false)) (.need ((allSz 5 (c1 :: cs1)) = true ∧ 5 = 5 ∧ (([] : List AV) ++ (c1 :: cs1)).length * 80 ≤ 35184372088832 ∧ (([] : List AV) ++ (c1 :: cs1)).length ≤ 35184372088832 ∧ 80 ≠ 0) (.need (ClosedL (([] : List AV) ++ (c1 :: cs1)) ∧ (([] : List AV) ++ (c1 :: cs1)).length = (([] : List AV) ++ (c1 :: cs1)).length) (.done (some (.agg [.rsl 7 ps false, .rsl 3 fs false, .rsl 5 (([] : List AV) ++ (c1 :: cs1)) false, .rsl 3 ts false, intA d, intA u]))))))))) := by kernel_rfl
abbrev pfS3Q17_1 {R : Type} (ps fs cs ts : List AV) (d u : Int) (k : Nat) (p1 : AV) (ps1 : List AV) (kk9 : Dt R) : Dt R :=
  (.need (asks (CS Q16) 81 [lbE ps fs cs ts d u] (lbE ps fs cs ts d u)) (.need ((0 ≤ k ∧ k ≤ cs.length) ∧ (AV.rsl 5 (List.take (k - 0) (List.drop 0 cs)) false) = (AV.rsl 5 (p1 :: ps1) false)) (.need ((allSz 5 (p1 :: ps1)) = true ∧ 5 = 5 ∧ (([] : List AV) ++ (p1 :: ps1)).length * 80 ≤ 35184372088832 ∧ (([] : List AV) ++ (p1 :: ps1)).length ≤ 35184372088832 ∧ 80 ≠ 0) (.need ((abin (CS Q16) BinOp.add 3 (Operand.tmp 16) (Operand.const (Value.int IntKind.i64 1)) (intA (Int.ofNat k)) (intA 1)) = (some (intA (Int.ofNat (k + 1))))) kk9))))
theorem t48ce (ps fs cs ts : List AV) (d u : Int) (k : Nat) (p1 : AV) (ps1 : List AV) : evTreeD (CS Q16) 60 48 [lbE ps fs cs ts d u, intA (Int.ofNat k)] [.sp [lbE ps fs cs ts d u] (lbE ps fs cs ts d u), .ar (.rsl 5 (p1 :: ps1) false), .ap [], .ar (intA (Int.ofNat (k + 1))), .ar (.rsl 5 [] false), .fb 5 2] =
    (pfS3Q17_1 ps fs cs ts d u k p1 ps1 (.need (((k + 1) ≤ cs.length ∧ cs.length ≤ cs.length) ∧ (AV.rsl 5 (List.take (cs.length - (k + 1)) (List.drop (k + 1) cs)) false) = (AV.rsl 5 [] false)) (.need (ClosedL (([] : List AV) ++ (p1 :: ps1)) ∧ (([] : List AV) ++ (p1 :: ps1)).length = (([] : List AV) ++ (p1 :: ps1)).length) (.done (some (.agg [.rsl 7 ps false, .rsl 3 fs false, .rsl 5 (([] : List AV) ++ (p1 :: ps1)) false, .rsl 3 ts false, intA d, intA u])))))) := by kernel_rfl
theorem t48cc (ps fs cs ts : List AV) (d u : Int) (k : Nat) (p1 : AV) (ps1 : List AV) (c1 : AV) (cs1 : List AV) : evTreeD (CS Q16) 60 48 [lbE ps fs cs ts d u, intA (Int.ofNat k)] [.sp [lbE ps fs cs ts d u] (lbE ps fs cs ts d u), .ar (.rsl 5 (p1 :: ps1) false), .ap [], .ar (intA (Int.ofNat (k + 1))), .ar (.rsl 5 (c1 :: cs1) false), .ap [], .fb 5 2] =
    (pfS3Q17_1 ps fs cs ts d u k p1 ps1 (.need (((k + 1) ≤ cs.length ∧ cs.length ≤ cs.length) ∧ (AV.rsl 5 (List.take (cs.length - (k + 1)) (List.drop (k + 1) cs)) false) = (AV.rsl 5 (c1 :: cs1) false)) (.need ((([] : List AV) ++ (p1 :: ps1)).length = (([] : List AV) ++ (p1 :: ps1)).length ∧ (allSz 5 (c1 :: cs1)) = true ∧ 5 = 5 ∧ ((([] : List AV) ++ (p1 :: ps1)) ++ (c1 :: cs1)).length * 80 ≤ 35184372088832 ∧ ((([] : List AV) ++ (p1 :: ps1)) ++ (c1 :: cs1)).length ≤ 35184372088832 ∧ 80 ≠ 0) (.need (ClosedL ((([] : List AV) ++ (p1 :: ps1)) ++ (c1 :: cs1)) ∧ ((([] : List AV) ++ (p1 :: ps1)) ++ (c1 :: cs1)).length = ((([] : List AV) ++ (p1 :: ps1)) ++ (c1 :: cs1)).length) (.done (some (.agg [.rsl 7 ps false, .rsl 3 fs false, .rsl 5 ((([] : List AV) ++ (p1 :: ps1)) ++ (c1 :: cs1)) false, .rsl 3 ts false, intA d, intA u]))))))) := by kernel_rfl
def woM (x : Lb) (k : Nat) : Lb := (x.1, x.2.1, x.2.2.1.take k ++ x.2.2.1.drop (k + 1), x.2.2.2.1, x.2.2.2.2.1, x.2.2.2.2.2)
def wo48G : List AV → Option AV := sp2 labC intC fun x i => bif okLb x && (decide (0 ≤ i) && decide (i.toNat < x.2.2.1.length)) then some (lbA (woM x i.toNat)) else none
theorem addIx' (S : Specs) (x y : Operand) {j n : Nat} (h : j < n) (hn : n ≤ lim) : abin (CS S) BinOp.add 3 x y (AV.v (.int .i64 (Int.ofNat j))) (AV.v (.int .i64 1)) = some (AV.v (.int .i64 (Int.ofNat (j + 1)))) := by
  show some (AV.v (.int .i64 (IntKind.i64.wrap (Int.ofNat j + 1)))) = _
  rw [wrap_ix h (limTwo hn)]
theorem allSzCb (l : List Cb) : allSz 5 (l.map cbC.enc) = true := allSz_map (f := cbC.enc) (fun _ => rfl) l
theorem h48 : Holds 48 wo48G := holds2 fun x i r hr => by
  cases hb : okLb x && (decide (0 ≤ i) && decide (i.toNat < x.2.2.1.length)) with
  | false => simp [hb] at hr
  | true =>
    simp only [hb, cond_true, Option.some.injEq] at hr; subst hr
    simp only [Bool.and_eq_true, decide_eq_true_eq] at hb
    obtain ⟨hok, hi0, hi1⟩ := hb
    have K := okLb_at hok
    have hi : i = Int.ofNat i.toNat := by simp only [Int.ofNat_eq_natCast]; omega
    generalize hkk : i.toNat = k at hi hi1 ⊢
    subst hi
    have hsp := spOwnL hok
    obtain ⟨ps, fs, cs, ts, d, u⟩ := x
    have hk : k < cs.length := hi1
    have hlim : cs.length ≤ lim := K.cs
    have hE : (cs.map cbC.enc).length = cs.length := by simp
    have b1 : 0 ≤ k ∧ k ≤ (cs.map cbC.enc).length := ⟨Nat.zero_le _, by rw [hE]; omega⟩
    have b2 : k + 1 ≤ (cs.map cbC.enc).length ∧ (cs.map cbC.enc).length ≤ (cs.map cbC.enc).length := ⟨by rw [hE]; omega, Nat.le_refl _⟩
    have q1 : List.take (k - 0) (List.drop 0 (cs.map cbC.enc)) = (cs.take k).map cbC.enc := take_map _ _ _
    have q2 : List.take ((cs.map cbC.enc).length - (k + 1)) (List.drop (k + 1) (cs.map cbC.enc)) = (cs.drop (k + 1)).map cbC.enc := by
      rw [List.take_of_length_le (by rw [List.length_drop]; exact Nat.le_refl _), List.map_drop]
    have hlen : (cs.take k ++ cs.drop (k + 1)).length ≤ lim := by rw [List.length_append, List.length_take, List.length_drop]; omega
    have hp : (cs.take k).length ≤ lim := by rw [List.length_take]; omega
    have ha := addIx' Q16 (.tmp 16) (.const (.int .i64 1)) hk hlim
    show Comp Tryz.prog globA 48 [_, _] (lbA (ps, fs, cs.take k ++ cs.drop (k + 1), ts, d, u))
    cases ht : cs.take k with
    | nil =>
      cases hd : cs.drop (k + 1) with
      | nil =>
        rw [ht] at q1; rw [hd] at q2
        refine Comp.weak (Q16_ok.tr (r := .agg [.rsl 7 (ps.map ptC.enc) false, .rsl 3 (fs.map ftC.enc) false, .rsl 5 [] true, .rsl 3 (ts.map tsC.enc) false, intA d, intA u]) (t48ee (ps.map ptC.enc) (fs.map ftC.enc) (cs.map cbC.enc) (ts.map tsC.enc) d u k) ⟨⟨rfl, hsp⟩, ⟨b1, by rw [q1]; rfl⟩, ha, ⟨b2, by rw [q2]; rfl⟩, rfl⟩) WeakL.rfl ?_
        exact Weak.agg (WeakL.cons Weak.rfl (WeakL.cons Weak.rfl (WeakL.cons (Weak.rsl (fun h => by cases h) (.inr rfl) WeakL.rfl) (WeakL.cons Weak.rfl (WeakL.cons Weak.rfl (WeakL.cons Weak.rfl WeakL.nil))))))
      | cons c cl =>
        rw [ht] at q1 hlen; rw [hd] at q2 hlen
        have hle : (([] : List AV) ++ (cbC.enc c :: cl.map cbC.enc)).length = (c :: cl).length := by simp
        have hl2 : (c :: cl).length ≤ lim := hlen
        exact Q16_ok.tr (t48ec (ps.map ptC.enc) (fs.map ftC.enc) (cs.map cbC.enc) (ts.map tsC.enc) d u k (cbC.enc c) (cl.map cbC.enc)) ⟨⟨rfl, hsp⟩, ⟨b1, by rw [q1]; rfl⟩, ha, ⟨b2, by rw [q2]; rfl⟩, ⟨allSzCb (c :: cl), rfl, by rw [hle]; unfold lim at hl2; omega, by rw [hle]; unfold lim at hl2; omega, by decide⟩, ⟨closedCb (c :: cl), rfl⟩, rfl⟩
    | cons p pl =>
      cases hd : cs.drop (k + 1) with
      | nil =>
        rw [ht] at q1 hp; rw [hd] at q2
        have hle : (([] : List AV) ++ (cbC.enc p :: pl.map cbC.enc)).length = (p :: pl).length := by simp
        have ht' := Q16_ok.tr (r := .agg [.rsl 7 (ps.map ptC.enc) false, .rsl 3 (fs.map ftC.enc) false, .rsl 5 (([] : List AV) ++ (cbC.enc p :: pl.map cbC.enc)) false, .rsl 3 (ts.map tsC.enc) false, intA d, intA u]) (t48ce (ps.map ptC.enc) (fs.map ftC.enc) (cs.map cbC.enc) (ts.map tsC.enc) d u k (cbC.enc p) (pl.map cbC.enc)) ⟨⟨rfl, hsp⟩, ⟨b1, by rw [q1]; rfl⟩, ⟨allSzCb (p :: pl), rfl, by rw [hle]; unfold lim at hp; omega, by rw [hle]; unfold lim at hp; omega, by decide⟩, ha, ⟨b2, by rw [q2]; rfl⟩, ⟨closedCb (p :: pl), rfl⟩, rfl⟩
        rw [List.append_nil]
        exact ht'
      | cons c cl =>
        rw [ht] at q1 hp hlen; rw [hd] at q2 hlen
        have hle : (([] : List AV) ++ (cbC.enc p :: pl.map cbC.enc)).length = (p :: pl).length := by simp
        have hle2 : ((([] : List AV) ++ (cbC.enc p :: pl.map cbC.enc)) ++ (cbC.enc c :: cl.map cbC.enc)).length = (p :: pl ++ c :: cl).length := by simp
        have hd2 : (cl.length + 1) ≤ lim := by simp at hlen; omega
        have e3 : (p :: pl ++ c :: cl).map cbC.enc = (([] : List AV) ++ (cbC.enc p :: pl.map cbC.enc)) ++ (cbC.enc c :: cl.map cbC.enc) := by simp
        have ht' := Q16_ok.tr (r := .agg [.rsl 7 (ps.map ptC.enc) false, .rsl 3 (fs.map ftC.enc) false, .rsl 5 ((([] : List AV) ++ (cbC.enc p :: pl.map cbC.enc)) ++ (cbC.enc c :: cl.map cbC.enc)) false, .rsl 3 (ts.map tsC.enc) false, intA d, intA u]) (t48cc (ps.map ptC.enc) (fs.map ftC.enc) (cs.map cbC.enc) (ts.map tsC.enc) d u k (cbC.enc p) (pl.map cbC.enc) (cbC.enc c) (cl.map cbC.enc))
          ⟨⟨rfl, hsp⟩, ⟨b1, by rw [q1]; rfl⟩, ⟨allSzCb (p :: pl), rfl, by rw [hle]; unfold lim at hp; omega, by rw [hle]; unfold lim at hp; omega, by decide⟩, ha, ⟨b2, by rw [q2]; rfl⟩, ⟨rfl, allSzCb (c :: cl), rfl, by rw [hle2]; unfold lim at hlen; omega, by rw [hle2]; unfold lim at hlen; omega, by decide⟩, ⟨e3 ▸ closedCb (p :: pl ++ c :: cl), rfl⟩, rfl⟩
        show Cmp 48 _ (.agg [.rsl 7 (ps.map ptC.enc) false, .rsl 3 (fs.map ftC.enc) false, .rsl 5 ((p :: pl ++ c :: cl).map cbC.enc) false, .rsl 3 (ts.map tsC.enc) false, intA d, intA u])
        rw [e3]
        exact ht'
def Q17 : Specs := (Q16.set 48 wo48G)
theorem Q17_ok : Ok Q17 := (Q16_ok.set h48)
end Go.Vm.S3

namespace Go.Vm.S3
open Go.Proofs Go.RowKit
set_option maxRecDepth 100000
theorem r41a (ps fs cs ts : List AV) (d u : Int) (n i : Nat) (a b c : ByteArray) (n0 : Int) (us : List AV) : roundD (CS Q17) 60 2 117 39 22 61 false (loopOf (CS Q17) 117 0) [1, 5, 8, 9, 10] [2, 4] [1, 5, 8, 9, 10] [2, 4, 58] [5] [2, 4] [fnV 118, nilS, .rsl 5 cs false, intA (Int.ofNat n), intA (Int.ofNat i)] [lbX ps fs cs ts d u, zLab] [.as 11 true, .chk [.agg [strA a, strA b, strA c, intA n0, .rsl 1 us false]], .sp [.agg [strA a, strA b, strA c, intA n0, .rsl 1 us false]] (.agg [strA a, strA b, strA c, intA n0, .rsl 1 us false])] =
    (.need ((decide (Int.ofNat i < Int.ofNat n)) = true) (.need (cs[i]? = (some (AV.agg [strA a, strA b, strA c, intA n0, .rsl 1 us false]))) (.need (asks (CS Q17) 118 [.agg [strA a, strA b, strA c, intA n0, .rsl 1 us false]] (AV.agg [strA a, strA b, strA c, intA n0, .rsl 1 us false])) (.need (EntClosed [lbX ps fs cs ts d u, zLab, (false, .arr 5 [.agg [strA a, strA b, strA c, intA n0, .rsl 1 us false]] false)]) (.done (some ((.nrm, [.fn (Fn.func 118) [] [], .sl 58 2 5 0 1, .rsl 5 cs false, intA (Int.ofNat n), intA (IntKind.i64.wrap (Int.ofNat i + 1))], [lbX ps fs cs ts d u, zLab, (false, .arr 5 [.agg [strA a, strA b, strA c, intA n0, .rsl 1 us false]] false)])))))))) := by kernel_rfl
theorem r41xa (ps fs cs ts : List AV) (d u : Int) (n i : Nat) : roundD (CS Q17) 60 2 117 39 22 61 false (loopOf (CS Q17) 117 0) [1, 5, 8, 9, 10] [2, 4] [1, 5, 8, 9, 10] [2, 4] [5] [2, 4] [fnV 118, nilS, .rsl 5 cs false, intA (Int.ofNat n), intA (Int.ofNat i)] [lbX ps fs cs ts d u, zLab] [.as 11 false] =
    (.need ((decide (Int.ofNat i < Int.ofNat n)) = false) (.need (EntClosed [lbX ps fs cs ts d u, zLab]) (.done (some (((.exit 0), [.v (.slice none 0 0)], [lbX ps fs cs ts d u, zLab])))))) := by kernel_rfl
theorem r41b (ps fs cs ts : List AV) (d u : Int) (n i : Nat) (rs : List AV) (k : Nat) (a b c : ByteArray) (n0 : Int) (us : List AV) : roundD (CS Q17) 60 2 117 39 22 61 false (loopOf (CS Q17) 117 0) [1, 5, 8, 9, 10] [2, 4, 58] [1, 5, 8, 9, 10] [2, 4, 58] [5] [2, 4, 58] [fnV 118, .sl 58 2 5 0 k, .rsl 5 cs false, intA (Int.ofNat n), intA (Int.ofNat i)] [lbX ps fs cs ts d u, zLab, (false, .arr 5 rs false)] [.as 11 true, .chk [.agg [strA a, strA b, strA c, intA n0, .rsl 1 us false]], .sp [.agg [strA a, strA b, strA c, intA n0, .rsl 1 us false]] (.agg [strA a, strA b, strA c, intA n0, .rsl 1 us false]), .chk rs] =
    (.need ((decide (Int.ofNat i < Int.ofNat n)) = true) (.need (cs[i]? = (some (AV.agg [strA a, strA b, strA c, intA n0, .rsl 1 us false]))) (.need (asks (CS Q17) 118 [.agg [strA a, strA b, strA c, intA n0, .rsl 1 us false]] (AV.agg [strA a, strA b, strA c, intA n0, .rsl 1 us false])) (.need (k = rs.length ∧ true = true ∧ 5 = 5 ∧ (rs ++ ([.agg [strA a, strA b, strA c, intA n0, .rsl 1 us false]] : List AV)).length * 80 ≤ 35184372088832 ∧ (rs ++ ([.agg [strA a, strA b, strA c, intA n0, .rsl 1 us false]] : List AV)).length ≤ 35184372088832 ∧ 80 ≠ 0) (.need (EntClosed [lbX ps fs cs ts d u, zLab, (false, .arr 5 (rs ++ ([.agg [strA a, strA b, strA c, intA n0, .rsl 1 us false]] : List AV)) false)]) (.done (some ((.nrm, [.fn (Fn.func 118) [] [], .sl 58 2 5 0 ((rs ++ ([.agg [strA a, strA b, strA c, intA n0, .rsl 1 us false]] : List AV)).length), .rsl 5 cs false, intA (Int.ofNat n), intA (IntKind.i64.wrap (Int.ofNat i + 1))], [lbX ps fs cs ts d u, zLab, (false, .arr 5 (rs ++ ([.agg [strA a, strA b, strA c, intA n0, .rsl 1 us false]] : List AV)) false)]))))))))) := by kernel_rfl
theorem r41xb (ps fs cs ts : List AV) (d u : Int) (n i : Nat) (rs : List AV) (k : Nat) : roundD (CS Q17) 60 2 117 39 22 61 false (loopOf (CS Q17) 117 0) [1, 5, 8, 9, 10] [2, 4, 58] [1, 5, 8, 9, 10] [2, 4, 58] [5] [2, 4, 58] [fnV 118, .sl 58 2 5 0 k, .rsl 5 cs false, intA (Int.ofNat n), intA (Int.ofNat i)] [lbX ps fs cs ts d u, zLab, (false, .arr 5 rs false)] [.as 11 false] =
    (.need ((decide (Int.ofNat i < Int.ofNat n)) = false) (.need (EntClosed [lbX ps fs cs ts d u, zLab, (false, .arr 5 rs false)]) (.done (some (((.exit 0), [.sl 58 2 5 0 k], [lbX ps fs cs ts d u, zLab, (false, .arr 5 rs false)])))))) := by kernel_rfl
theorem t41a (ps fs cs ts : List AV) (d u : Int) (s : ByteArray) (k e : Int) : evTreeD (CS Q17) 60 41 [lbE ps fs cs ts d u, strA s] [.sp [lbE ps fs cs ts d u, strA s] (.tup [intA k, intA e]), .as 16 true] =
    (.need (asks (CS Q17) 114 [lbE ps fs cs ts d u, strA s] (AV.tup [intA k, intA e])) (.need ((e != 0) = true) (.done (some (.tup [.agg [.v (.slice none 0 0), .v (.slice none 0 0), .v (.slice none 0 0), .v (.slice none 0 0), intA 0, intA 0], intA e]))))) := by kernel_rfl
theorem t41b (ps fs cs ts : List AV) (d u : Int) (s : ByteArray) (e : Int) (es : List AV) (n i : Nat) : evTreeD (CS Q17) 60 41 [lbE ps fs cs ts d u, strA s] [.sp [lbE ps fs cs ts d u, strA s] (.tup [intA (Int.ofNat i), intA e]), .as 16 false, .il, .loop 2 [1, 5, 8, 9, 10] [2, 4] [5] [2, 4, 58] (.exit 0) [.sl 58 2 5 0 n] [lbX ps fs cs ts d u, zLab, (false, .arr 5 es false)], .ar (intA (Int.ofNat (i + 1))), .chk [], .as 16 false, .chk [], .chk [], .cp, .chk [], .cp, .fp 0, .sp [.rsl 7 ps false, fnV 120] (.rsl 7 ps false), .sp [.rsl 3 fs false] (.rsl 3 fs false), .sp [.rsl 3 ts false, fnV 123] (.rsl 3 ts false)] =
    (.need (asks (CS Q17) 114 [lbE ps fs cs ts d u, strA s] (AV.tup [intA (Int.ofNat i), intA e])) (.need ((e != 0) = false) (.need (EntClosed [lbX ps fs cs ts d u, zLab] ∧ EntClosed [lbX ps fs cs ts d u, zLab, (false, .arr 5 es false)] ∧ Says (CS Q17) 2 22 false (.loop (loopOf (CS Q17) 117 0)) (mkSt [1, 5, 8, 9, 10] [2, 4] 61 [.fn (Fn.func 118) [] [], .v (.slice none 0 0), .rsl 5 cs false, intA (Int.ofNat cs.length), intA 0] [lbX ps fs cs ts d u, zLab]) (.exit 0) (mkSt [5] [2, 4, 58] 61 [.sl 58 2 5 0 n] [lbX ps fs cs ts d u, zLab, (false, .arr 5 es false)])) (.need ((abin (CS Q17) BinOp.add 3 (Operand.tmp 23) (Operand.const (Value.int IntKind.i64 1)) (intA (Int.ofNat i)) (intA 1)) = (some (intA (Int.ofNat (i + 1))))) (.need (i ≤ (i + 1) ∧ (i + 1) ≤ n ∧ (0 + n) ≤ es.length ∧ (i.beq n) = false) (.need ((Int.ofNat i == Int.ofNat (i + 1)) = false) (.need (0 ≤ i ∧ (0 + i) ≤ es.length) (.need ((i + 1) ≤ n ∧ (0 + n) ≤ es.length) (.need (((0 + (i + 1)) + (n - (i + 1))) ≤ es.length ∧ (allSz 5 (List.take (n - (i + 1)) (List.drop (0 + (i + 1)) es))) = true ∧ 5 = 5 ∧ ((0 + i - 0) + (List.take (n - (i + 1)) (List.drop (0 + (i + 1)) es)).length) ≤ es.length) (.need ((i - 0 + (List.take (n - (i + 1)) (List.drop (0 + (i + 1)) es)).length) ≤ n ∧ (0 + n) ≤ (splice es (0 + 0 + (i - 0)) (List.take (n - (i + 1)) (List.drop (0 + (i + 1)) es))).length) (.need (((0 + (i - 0 + (List.take (n - (i + 1)) (List.drop (0 + (i + 1)) es)).length)) + (n - (i - 0 + (List.take (n - (i + 1)) (List.drop (0 + (i + 1)) es)).length))) ≤ (splice es (0 + 0 + (i - 0)) (List.take (n - (i + 1)) (List.drop (0 + (i + 1)) es))).length ∧ (allSz 5 (List.replicate (n - (i - 0 + (List.take (n - (i + 1)) (List.drop (0 + (i + 1)) es)).length)) (.agg [strA (ByteArray.mk #[]), strA (ByteArray.mk #[]), strA (ByteArray.mk #[]), intA 0, .v (.slice none 0 0)] : AV))) = true) (.need (ClosedL (splice (splice es (0 + 0 + (i - 0)) (List.take (n - (i + 1)) (List.drop (0 + (i + 1)) es))) (0 + 0 + (i - 0 + (List.take (n - (i + 1)) (List.drop (0 + (i + 1)) es)).length)) (List.replicate (n - (i - 0 + (List.take (n - (i + 1)) (List.drop (0 + (i + 1)) es)).length)) (ofV (Value.agg #[Value.string (ByteArray.mk #[]), Value.string (ByteArray.mk #[]), Value.string (ByteArray.mk #[]), Value.int IntKind.i64 0, Value.slice none 0 0])))) ∧ (i - 0 + (List.take (n - (i + 1)) (List.drop (0 + (i + 1)) es)).length) ≤ (splice (splice es (0 + 0 + (i - 0)) (List.take (n - (i + 1)) (List.drop (0 + (i + 1)) es))) (0 + 0 + (i - 0 + (List.take (n - (i + 1)) (List.drop (0 + (i + 1)) es)).length)) (List.replicate (n - (i - 0 + (List.take (n - (i + 1)) (List.drop (0 + (i + 1)) es)).length)) (ofV (Value.agg #[Value.string (ByteArray.mk #[]), Value.string (ByteArray.mk #[]), Value.string (ByteArray.mk #[]), Value.int IntKind.i64 0, Value.slice none 0 0])))).length) (.need (asks (CS Q17) 119 [.rsl 7 ps false, .fn (Fn.func 120) [] []] (AV.rsl 7 ps false)) (.need (asks (CS Q17) 121 [.rsl 3 fs false] (AV.rsl 3 fs false)) (.need (asks (CS Q17) 122 [.rsl 3 ts false, .fn (Fn.func 123) [] []] (AV.rsl 3 ts false)) (.done (some (.tup [.agg [.rsl 7 ps false, .rsl 3 fs false, .rsl 5 (List.take (i - 0 + (List.take (n - (i + 1)) (List.drop (0 + (i + 1)) es)).length) (splice (splice es (0 + 0 + (i - 0)) (List.take (n - (i + 1)) (List.drop (0 + (i + 1)) es))) (0 + 0 + (i - 0 + (List.take (n - (i + 1)) (List.drop (0 + (i + 1)) es)).length)) (List.replicate (n - (i - 0 + (List.take (n - (i + 1)) (List.drop (0 + (i + 1)) es)).length)) (ofV (Value.agg #[Value.string (ByteArray.mk #[]), Value.string (ByteArray.mk #[]), Value.string (ByteArray.mk #[]), Value.int IntKind.i64 0, Value.slice none 0 0]))))) false, .rsl 3 ts false, intA d, intA u], intA 0])))))))))))))))))) := by kernel_rfl
def lb0 : Lb := ([], [], [], [], 0, 0)
def wo41 (x : Lb) (s : ByteArray) : Lb := bif fcM x s != 0 then lb0 else woM x (cIx x s)
def wo41G : List AV → Option AV := sp2 labC strC fun x s => bif okLb x then some (.tup [lbA (wo41 x s), intA (fcM x s)]) else none
theorem spMapP {l : List Pt} (h : okPts l = true) : own119G [slA ptC 7 l, fnV 120] = some (slA ptC 7 l) := by
  have := sp2_at (A := ptsC) (B := fnC 120) (F := fun l (_ : Unit) => bif Nat.ble l.length lim && l.all okPt then some (slA ptC 7 l) else none) l ()
  rw [show (Nat.ble l.length lim && l.all okPt) = true from h] at this; exact this
theorem spMapT {l : List Ts} (h : l.length ≤ lim) (k : ∀ t ∈ l, okT t = true) : own122G [slA tsC 3 l, fnV 123] = some (slA tsC 3 l) := by
  have := sp2_at (A := tssC) (B := fnC 123) (F := fun l (_ : Unit) => bif Nat.ble l.length lim && l.all okT then some (slA tsC 3 l) else none) l ()
  rw [Nat.ble_eq_true_of_le h, List.all_eq_true.2 k] at this; exact this
theorem loop41 (x : Lb) (hlim : x.2.2.1.length ≤ lim) (hok : ∀ c ∈ x.2.2.1, okC c = true) (c0 : Cb) (cl : List Cb) (he : x.2.2.1 = c0 :: cl) :
    LoopRun (CS Q17) 2 22 false (loopOf (CS Q17) 117 0) (mkSt [1, 5, 8, 9, 10] [2, 4] 61 [fnV 118, nilS, .rsl 5 (x.2.2.1.map cbC.enc) false, intA (Int.ofNat (x.2.2.1.map cbC.enc).length), intA 0] [lbY x, zLab]) (.exit 0)
      (mkSt [5] [2, 4, 58] 61 [.sl 58 2 5 0 (x.2.2.1.map cbC.enc).length] [lbY x, zLab, (false, .arr 5 (x.2.2.1.map cbC.enc) false)]) := by
  have hl := limTwo hlim
  have h := LoopRun.gather (C := CS Q17) (p := 2) (nt := 22) (rd := false) (c := loopOf (CS Q17) 117 0) (fun _ (y : Cb) => [y]) 1 (by simp)
    (fun i (acc : List Cb) => blG 58 5 [1, 5, 8, 9, 10] [2, 4] 61 (fun a => [fnV 118, a, .rsl 5 (x.2.2.1.map cbC.enc) false, intA (Int.ofNat (x.2.2.1.map cbC.enc).length), intA (Int.ofNat i)]) (fun _ => [lbY x, zLab]) (acc.map cbC.enc)) (.exit 0)
    (fun acc => blG 58 5 [5] [2, 4] 61 (fun a => [a]) (fun _ => [lbY x, zLab]) (acc.map cbC.enc)) x.2.2.1 (by simp)
    (fun i y acc hy hacc => by
      have hi := lt_len hy
      have hlt : decide (Int.ofNat i < Int.ofNat (x.2.2.1.map cbC.enc).length) = true := by rw [e_cb]; exact lt_of hi
      have hsp := spOwnC (hok y (List.mem_of_getElem? hy))
      cases acc with
      | nil =>
        have hr := (lx x r41a) (x.2.2.1.map cbC.enc).length i y.1 y.2.1 y.2.2.1 y.2.2.2.1 (y.2.2.2.2.map intC.enc)
        rw [wrap_ix hi hl] at hr
        exact Q17_ok.rndN hr ⟨hlt, get_map _ hy, ⟨rfl, hsp⟩, ⟨closedCb [y], trivial⟩, rfl⟩
      | cons w ws =>
        have hr := (lx x r41b) (x.2.2.1.map cbC.enc).length i ((w :: ws).map cbC.enc) ((w :: ws).map cbC.enc).length y.1 y.2.1 y.2.2.1 y.2.2.2.1 (y.2.2.2.2.map intC.enc)
        rw [wrap_ix hi hl] at hr
        have hlen : ((w :: ws).map cbC.enc ++ [cbC.enc y]).length ≤ 1000001 := by rw [List.length_append, List.length_map]; unfold lim at hlim; simp at hacc ⊢; omega
        have e2 : blG 58 5 [1, 5, 8, 9, 10] [2, 4] 61 (fun a => [fnV 118, a, .rsl 5 (x.2.2.1.map cbC.enc) false, intA (Int.ofNat (x.2.2.1.map cbC.enc).length), intA (Int.ofNat (i + 1))]) (fun _ => [lbY x, zLab]) (((w :: ws) ++ [y]).map cbC.enc)
            = mkSt [1, 5, 8, 9, 10] ([2, 4] ++ [58]) 61 [fnV 118, .sl 58 2 5 0 ((w :: ws).map cbC.enc ++ [cbC.enc y]).length, .rsl 5 (x.2.2.1.map cbC.enc) false, intA (Int.ofNat (x.2.2.1.map cbC.enc).length), intA (Int.ofNat (i + 1))] ([lbY x, zLab] ++ [(false, .arr 5 ((w :: ws).map cbC.enc ++ [cbC.enc y]) false)]) := by
          rw [show ((w :: ws) ++ [y]).map cbC.enc = (w :: ws).map cbC.enc ++ [cbC.enc y] by simp]; rfl
        show Says _ _ _ _ _ _ _ (blG 58 5 [1, 5, 8, 9, 10] [2, 4] 61 (fun a => [fnV 118, a, .rsl 5 (x.2.2.1.map cbC.enc) false, intA (Int.ofNat (x.2.2.1.map cbC.enc).length), intA (Int.ofNat (i + 1))]) (fun _ => [lbY x, zLab]) (((w :: ws) ++ [y]).map cbC.enc))
        rw [e2]
        exact Q17_ok.rndN hr ⟨hlt, get_map _ hy, ⟨rfl, hsp⟩, ⟨rfl, rfl, rfl, by show ((w :: ws).map cbC.enc ++ [cbC.enc y]).length * 80 ≤ _; omega, by show ((w :: ws).map cbC.enc ++ [cbC.enc y]).length ≤ _; omega, by decide⟩, ⟨(closedCb (w :: ws)).append (closedCb [y]), trivial⟩, rfl⟩)
    (fun acc _ => by
      cases acc with
      | nil => exact Q17_ok.rndX ((lx x r41xa) (x.2.2.1.map cbC.enc).length x.2.2.1.length) ⟨by rw [e_cb]; exact lt_self _, trivial, rfl⟩
      | cons w ws => exact Q17_ok.rndX ((lx x r41xb) (x.2.2.1.map cbC.enc).length x.2.2.1.length ((w :: ws).map cbC.enc) ((w :: ws).map cbC.enc).length) ⟨by rw [e_cb]; exact lt_self _, ⟨closedCb (w :: ws), trivial⟩, rfl⟩)
  have hg : gath (fun _ (y : Cb) => [y]) 0 x.2.2.1 = x.2.2.1 := by
    have := gath_map1 (fun y : Cb => y) x.2.2.1 0
    rw [List.map_id'] at this
    exact this
  rw [hg] at h
  have e3 : blG 58 5 [5] [2, 4] 61 (fun a => [a]) (fun _ => [lbY x, zLab]) (x.2.2.1.map cbC.enc) = mkSt [5] [2, 4, 58] 61 [.sl 58 2 5 0 (x.2.2.1.map cbC.enc).length] [lbY x, zLab, (false, .arr 5 (x.2.2.1.map cbC.enc) false)] := by rw [he]; rfl
  rw [e3] at h
  exact h
def splL {α : Type} (cs : List α) (off : Nat) (vs : List α) : List α := cs.take off ++ vs ++ cs.drop (off + vs.length)
theorem del_take {α : Type} {es : List α} {i n : Nat} (hn : n = es.length) (hi : i < n) (z : α) :
    List.take (i - 0 + (List.take (n - (i + 1)) (List.drop (0 + (i + 1)) es)).length) (splL (splL es (0 + 0 + (i - 0)) (List.take (n - (i + 1)) (List.drop (0 + (i + 1)) es))) (0 + 0 + (i - 0 + (List.take (n - (i + 1)) (List.drop (0 + (i + 1)) es)).length)) (List.replicate (n - (i - 0 + (List.take (n - (i + 1)) (List.drop (0 + (i + 1)) es)).length)) z)) = es.take i ++ es.drop (i + 1) := by
  subst hn
  have hX : List.take (es.length - (i + 1)) (List.drop (0 + (i + 1)) es) = es.drop (i + 1) := by
    rw [Nat.zero_add, List.take_of_length_le (by rw [List.length_drop]; exact Nat.le_refl _)]
  rw [hX]
  have hXl : (es.drop (i + 1)).length = es.length - (i + 1) := List.length_drop
  rw [show i - 0 + (es.drop (i + 1)).length = es.length - 1 by rw [hXl]; omega, show 0 + 0 + (i - 0) = i by omega, show 0 + 0 + (es.length - 1) = es.length - 1 by omega]
  have h1 : (splL es i (es.drop (i + 1))).take (es.length - 1) = es.take i ++ es.drop (i + 1) := by
    unfold splL
    rw [List.take_append_of_le_length (by rw [List.length_append, List.length_take, hXl]; omega), List.take_of_length_le (by rw [List.length_append, List.length_take, hXl]; omega)]
  have h2 : (splL es i (es.drop (i + 1))).length = es.length := by
    unfold splL
    rw [List.length_append, List.length_append, List.length_take, List.length_drop, List.length_drop]; omega
  rw [← h1]
  generalize splL es i (es.drop (i + 1)) = us at h2
  show List.take (es.length - 1) (us.take (es.length - 1) ++ _ ++ _) = _
  rw [List.append_assoc, List.take_append_of_le_length (by rw [List.length_take, h2]; omega), List.take_take, Nat.min_self]
theorem splL_len {α : Type} {cs : List α} {off : Nat} {vs : List α} (h : off + vs.length ≤ cs.length) : (splL cs off vs).length = cs.length := by
  unfold splL
  rw [List.length_append, List.length_append, List.length_take, List.length_drop]; omega
theorem ClosedL.takeD {α : Type} {f : α → AV} (hf : ∀ x, closed (f x) = true) (l : List α) (i : Nat) : ClosedL ((l.map f).take i) := by
  rw [← List.map_take]; exact ClosedL.map hf
theorem ClosedL.dropD {α : Type} {f : α → AV} (hf : ∀ x, closed (f x) = true) (l : List α) (i : Nat) : ClosedL ((l.map f).drop i) := by
  rw [← List.map_drop]; exact ClosedL.map hf
theorem h41 : Holds 41 wo41G := holds2 fun x s r hr => by
  cases hb : okLb x with
  | false => simp [hb] at hr
  | true =>
    simp only [hb, cond_true, Option.some.injEq] at hr; subst hr
    have K := okLb_at hb
    unfold wo41
    cases he : fcM x s != 0 with
    | true =>
      refine Comp.weak (Q17_ok.tr (r := .tup [.agg [.v (.slice none 0 0), .v (.slice none 0 0), .v (.slice none 0 0), .v (.slice none 0 0), intA 0, intA 0], intA (fcM x s)]) ((lx x t41a) s _ _) ⟨⟨rfl, spFc s hb⟩, he, rfl⟩) WeakL.rfl ?_
      exact Weak.tup (WeakL.cons (Weak.agg (WeakL.cons Weak.nilSl (WeakL.cons Weak.nilSl (WeakL.cons Weak.nilSl (WeakL.cons Weak.nilSl (WeakL.cons Weak.rfl (WeakL.cons Weak.rfl WeakL.nil))))))) (WeakL.cons Weak.rfl WeakL.nil))
    | false =>
      have h0 : fcM x s = 0 := by simpa using he
      obtain ⟨hl, hf⟩ := fcM_zero h0
      obtain ⟨hk, hfc, _⟩ := findC_ge hf
      have hi : fcI x s = Int.ofNat (cIx x s) := by
        unfold fcI
        rw [show (labM x != 0) = false by simp [hl], cond_false]; exact hfc
      have hs : fcG [lbA x, strA s] = some (.tup [intA (Int.ofNat (cIx x s)), intA 0]) := by rw [spFc s hb, hi, h0]
      rw [h0]
      generalize cIx x s = k at hk hs ⊢
      have hE : (x.2.2.1.map cbC.enc).length = x.2.2.1.length := by simp
      have hlim := K.cs
      obtain ⟨c0, cl, hc⟩ : ∃ c0 cl, x.2.2.1 = c0 :: cl := by
        cases hx : x.2.2.1 with
        | nil => rw [hx] at hk; simp at hk
        | cons a b => exact ⟨a, b, rfl⟩
      have hlp := loop41 x hlim K.vs c0 cl hc
      have ha := addIx' Q17 (.tmp 23) (.const (.int .i64 1)) hk hlim
      have hX : List.take ((x.2.2.1.map cbC.enc).length - (k + 1)) (List.drop (0 + (k + 1)) (x.2.2.1.map cbC.enc)) = (x.2.2.1.drop (k + 1)).map cbC.enc := by
        rw [Nat.zero_add, List.take_of_length_le (by rw [List.length_drop]; exact Nat.le_refl _), List.map_drop]
      have hXl : (List.take ((x.2.2.1.map cbC.enc).length - (k + 1)) (List.drop (0 + (k + 1)) (x.2.2.1.map cbC.enc))).length = x.2.2.1.length - (k + 1) := by rw [hX, List.length_map, List.length_drop]
      have s1 : (splice (x.2.2.1.map cbC.enc) (0 + 0 + (k - 0)) (List.take ((x.2.2.1.map cbC.enc).length - (k + 1)) (List.drop (0 + (k + 1)) (x.2.2.1.map cbC.enc)))).length = x.2.2.1.length := by
        have := splL_len (cs := x.2.2.1.map cbC.enc) (off := 0 + 0 + (k - 0)) (vs := List.take ((x.2.2.1.map cbC.enc).length - (k + 1)) (List.drop (0 + (k + 1)) (x.2.2.1.map cbC.enc))) (by rw [hXl, hE]; omega)
        exact this.trans hE
      have c1 : ClosedL (splice (x.2.2.1.map cbC.enc) (0 + 0 + (k - 0)) (List.take ((x.2.2.1.map cbC.enc).length - (k + 1)) (List.drop (0 + (k + 1)) (x.2.2.1.map cbC.enc)))) := by
        rw [hX]
        exact ((ClosedL.takeD closedCbE _ _).append (closedCb _)).append (ClosedL.dropD closedCbE _ _)
      have e1 : splice (x.2.2.1.map cbC.enc) (0 + 0 + (k - 0)) (List.take ((x.2.2.1.map cbC.enc).length - (k + 1)) (List.drop (0 + (k + 1)) (x.2.2.1.map cbC.enc))) = (splL x.2.2.1 k (x.2.2.1.drop (k + 1))).map cbC.enc := by
        rw [hX]
        unfold splice splL
        rw [show 0 + 0 + (k - 0) = k by omega]
        simp only [List.map_append, List.map_take, List.map_drop, List.length_map, List.length_drop]
      have hfin := del_take (es := x.2.2.1.map cbC.enc) (i := k) rfl (by rw [hE]; exact hk) (ofV (Value.agg #[Value.string (ByteArray.mk #[]), Value.string (ByteArray.mk #[]), Value.string (ByteArray.mk #[]), Value.int IntKind.i64 0, Value.slice none 0 0]))
      have hfin2 : (x.2.2.1.map cbC.enc).take k ++ (x.2.2.1.map cbC.enc).drop (k + 1) = (x.2.2.1.take k ++ x.2.2.1.drop (k + 1)).map cbC.enc := by rw [List.map_append, List.map_take, List.map_drop]
      have ht := (lx x t41b) s 0 (x.2.2.1.map cbC.enc) (x.2.2.1.map cbC.enc).length k
      have hfin3 := hfin.trans hfin2
      unfold splL at hfin3
      unfold splice at ht
      rw [hfin3] at ht
      have nk : (k.beq (x.2.2.1.map cbC.enc).length) = false := by
        cases hq : k.beq (x.2.2.1.map cbC.enc).length with
        | false => rfl
        | true => have := Nat.eq_of_beq_eq_true hq; rw [hE] at this; omega
      have s2 : ∀ z : AV, (splice (splice (x.2.2.1.map cbC.enc) (0 + 0 + (k - 0)) (List.take ((x.2.2.1.map cbC.enc).length - (k + 1)) (List.drop (0 + (k + 1)) (x.2.2.1.map cbC.enc)))) (0 + 0 + (k - 0 + (List.take ((x.2.2.1.map cbC.enc).length - (k + 1)) (List.drop (0 + (k + 1)) (x.2.2.1.map cbC.enc))).length)) (List.replicate ((x.2.2.1.map cbC.enc).length - (k - 0 + (List.take ((x.2.2.1.map cbC.enc).length - (k + 1)) (List.drop (0 + (k + 1)) (x.2.2.1.map cbC.enc))).length)) z)).length = x.2.2.1.length := fun z => by
        have := splL_len (cs := splice (x.2.2.1.map cbC.enc) (0 + 0 + (k - 0)) (List.take ((x.2.2.1.map cbC.enc).length - (k + 1)) (List.drop (0 + (k + 1)) (x.2.2.1.map cbC.enc)))) (off := 0 + 0 + (k - 0 + (List.take ((x.2.2.1.map cbC.enc).length - (k + 1)) (List.drop (0 + (k + 1)) (x.2.2.1.map cbC.enc))).length)) (vs := List.replicate ((x.2.2.1.map cbC.enc).length - (k - 0 + (List.take ((x.2.2.1.map cbC.enc).length - (k + 1)) (List.drop (0 + (k + 1)) (x.2.2.1.map cbC.enc))).length)) z) (by rw [List.length_replicate, s1, hXl, hE]; omega)
        exact this.trans s1
      have c2 : ∀ z : AV, closed z = true → ClosedL (splice (splice (x.2.2.1.map cbC.enc) (0 + 0 + (k - 0)) (List.take ((x.2.2.1.map cbC.enc).length - (k + 1)) (List.drop (0 + (k + 1)) (x.2.2.1.map cbC.enc)))) (0 + 0 + (k - 0 + (List.take ((x.2.2.1.map cbC.enc).length - (k + 1)) (List.drop (0 + (k + 1)) (x.2.2.1.map cbC.enc))).length)) (List.replicate ((x.2.2.1.map cbC.enc).length - (k - 0 + (List.take ((x.2.2.1.map cbC.enc).length - (k + 1)) (List.drop (0 + (k + 1)) (x.2.2.1.map cbC.enc))).length)) z)) := fun z hz => by
        rw [e1]
        exact ((ClosedL.takeD closedCbE _ _).append (closedRep hz)).append (ClosedL.dropD closedCbE _ _)
      exact Q17_ok.tr ht ⟨⟨rfl, hs⟩, rfl, ⟨trivial, ⟨closedCb _, trivial⟩, hlp.says⟩, ha, ⟨by omega, by rw [hE]; omega, by rw [hE]; omega, nk⟩, by simp only [beq_eq_false_iff_ne, ne_eq, Int.ofNat_eq_natCast]; omega,
        ⟨Nat.zero_le _, by rw [hE]; omega⟩, ⟨by rw [hE]; omega, by rw [Nat.zero_add]; exact Nat.le_refl _⟩,
        ⟨by rw [hE]; omega, by rw [hX]; exact allSzCb _, rfl, by rw [hXl, hE]; omega⟩,
        ⟨by rw [hXl, hE]; omega, by have := s1; unfold splice at this; rw [this, hE]; omega⟩,
        ⟨by have := s1; unfold splice at this; rw [this, hXl, hE]; omega, allSzRep rfl⟩,
        ⟨c2 _ rfl, by have := s2 (ofV (Value.agg #[Value.string (ByteArray.mk #[]), Value.string (ByteArray.mk #[]), Value.string (ByteArray.mk #[]), Value.int IntKind.i64 0, Value.slice none 0 0])); unfold splice at this; rw [this, hXl]; omega⟩,
        ⟨rfl, spMapP K.ps⟩, ⟨rfl, spClone (A := ftC) (sz := 3) (Nat.ble_eq_true_of_le K.fs)⟩, ⟨rfl, spMapT K.ts K.ws⟩, rfl⟩
def Q18 : Specs := (Q17.set 41 wo41G)
theorem Q18_ok : Ok Q18 := (Q17_ok.set h41)
end Go.Vm.S3
