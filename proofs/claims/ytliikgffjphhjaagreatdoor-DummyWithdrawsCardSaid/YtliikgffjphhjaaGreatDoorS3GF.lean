/- Labs: how they are read. -/
import Derived.Test.YtliikgffjphhjaaGreatDoorS3Law3
namespace Go.Vm.S3
open Go.Proofs Go.RowKit
def rmapC {α β : Type} (A : Cod α) (B : Cod β) : Cod (List α × List β) where
  dec | .rmp ks vs => match decL A ks, decL B vs with
        | some n, some i => some (n, i)
        | _, _ => none
      | _ => none
  enc x := .rmp (x.1.map A.enc) (x.2.map B.enc)
  weak a x h := by
    split at h
    · rename_i ks vs
      split at h
      · rename_i n i hn hi
        simp only [Option.some.injEq] at h; subst h
        intro M y hy
        unfold Rep at hy ⊢
        obtain ⟨b, es, c, e, him, hm, k1, k2⟩ := hy
        exact ⟨b, es, c, e, him, hm, decL_weak hn _ _ k1, decL_weak hi _ _ k2⟩
      · cases h
    · cases h
  rt x := by simp only [decL_rt]
abbrev Ft : Type := Int × ByteArray × ByteArray
abbrev Cb : Type := ByteArray × ByteArray × ByteArray × Int × List Int
abbrev Ts : Type := ByteArray × Int × List ByteArray
abbrev Lb : Type := List Pt × List Ft × List Cb × List Ts × Int × Int
def intsC : Cod (List Int) := listC intC 1
def strsC : Cod (List ByteArray) := listC strC 1
def ftC : Cod Ft := aggC (RC.cons intC (RC.cons strC (RC.one strC)))
def cbC : Cod Cb := aggC (RC.cons strC (RC.cons strC (RC.cons strC (RC.cons intC (RC.one intsC)))))
def tsC : Cod Ts := aggC (RC.cons strC (RC.cons intC (RC.one strsC)))
def ftsC : Cod (List Ft) := listC ftC 3
def cbsC : Cod (List Cb) := listC cbC 5
def tssC : Cod (List Ts) := listC tsC 3
def labC : Cod Lb := aggC (RC.cons ptsC (RC.cons ftsC (RC.cons cbsC (RC.cons tssC (RC.cons intC (RC.one intC))))))
abbrev cbA (x : Cb) : AV := .agg [sA x.1, sA x.2.1, sA x.2.2.1, iA x.2.2.2.1, .rsl 1 (x.2.2.2.2.map iA) false]
abbrev tsA (x : Ts) : AV := .agg [sA x.1, iA x.2.1, .rsl 1 (x.2.2.map sA) false]
abbrev lbE (ps fs cs ts : List AV) (d u : Int) : AV := .agg [.rsl 7 ps false, .rsl 3 fs false, .rsl 5 cs false, .rsl 3 ts false, iA d, iA u]
abbrev lbA (x : Lb) : AV := lbE (x.1.map ptC.enc) (x.2.1.map ftC.enc) (x.2.2.1.map cbC.enc) (x.2.2.2.1.map tsC.enc) x.2.2.2.2.1 x.2.2.2.2.2
abbrev lbX (ps fs cs ts : List AV) (d u : Int) : Bool × Blk := (false, .box [.rsl 7 ps false, .rsl 3 fs false, .rsl 5 cs false, .rsl 3 ts false, iA d, iA u])
theorem lx (x : Lb) {P : List AV → List AV → List AV → List AV → Int → Int → Prop} (h : ∀ ps fs cs ts d u, P ps fs cs ts d u) : P (x.1.map ptC.enc) (x.2.1.map ftC.enc) (x.2.2.1.map cbC.enc) (x.2.2.2.1.map tsC.enc) x.2.2.2.2.1 x.2.2.2.2.2 := h _ _ _ _ _ _
abbrev zLab : Bool × Blk := (false, .box [.v (.slice none 0 0), .v (.slice none 0 0), .v (.slice none 0 0), .v (.slice none 0 0), iA 0, iA 0])
abbrev oLab (ps : List AV) (F X Y : AV) (d u : Int) : Bool × Blk := (false, .box [.rsl 7 ps false, F, X, Y, iA d, iA u])
end Go.Vm.S3

namespace Go.Vm.S3
open Go.Proofs Go.RowKit
set_option maxRecDepth 100000
variable (ps fs cs ts : List AV) (d u : Int)
theorem r37a (i : Nat) (n : Int) (a b : ByteArray) : rn P17 37 150 0 [1, 3] [1] [1, 3] [1] [2] [] [.ptr 1 0 0, iA (Int.ofNat i)] [lbX ps fs cs ts d u] [.as 53 true, .chk [.agg [iA n, sA a, sA b]], .chk [.agg [iA n, sA a, sA b]]] =
  (.need ((decide (Int.ofNat i < Int.ofNat fs.length)) = true) (.need (fs[i]? = (some (AV.agg [iA n, sA a, sA b]))) (bif decide (Int.ofNat a.size > 40) then (dn [] (.ret, [bA false], [])) else (.need (fs[i]? = (some (AV.agg [iA n, sA a, sA b]))) (bif decide (Int.ofNat b.size > 40) then (dn [] (.ret, [bA false], [])) else (dn [lbX ps fs cs ts d u] (.nrm, [.ptr 1 0 0, iA (IntKind.i64.wrap (Int.ofNat i + 1))], [lbX ps fs cs ts d u]))))))) := by kernel_rfl
theorem r37ax (i : Nat) : Lr P17 37 150 0 [1, 3] [1] [1, 3] [1] [1] [1] [.ptr 1 0 0, iA (Int.ofNat i)] [lbX ps fs cs ts d u] [.as 53 false] [.t i fs.length] (.exit 0) [.ptr 1 0 0] [lbX ps fs cs ts d u] := kN (by kernel_rfl)
theorem r37b (i : Nat) (a b c : ByteArray) (n : Int) (vs : List AV) : rn P17 37 150 2 [1, 4] [1] [1, 4] [1] [2] [] [.ptr 1 0 0, iA (Int.ofNat i)] [lbX ps fs cs ts d u] [.as 78 true, .chk [.agg [sA a, sA b, sA c, iA n, .rsl 1 vs false]]] =
  (.need ((decide (Int.ofNat i < Int.ofNat cs.length)) = true) (.need (cs[i]? = (some (AV.agg [sA a, sA b, sA c, iA n, .rsl 1 vs false]))) (bif decide (Int.ofNat a.size > 40) then (dn [] (.ret, [bA false], [])) else (bif decide (Int.ofNat b.size > 40) then (dn [] (.ret, [bA false], [])) else (bif decide (Int.ofNat c.size > 40) then (dn [] (.ret, [bA false], [])) else (bif decide (Int.ofNat vs.length > 9) then (dn [] (.ret, [bA false], [])) else (dn [lbX ps fs cs ts d u] (.nrm, [.ptr 1 0 0, iA (IntKind.i64.wrap (Int.ofNat i + 1))], [lbX ps fs cs ts d u])))))))) := by kernel_rfl
theorem r37bx (i : Nat) : Lr P17 37 150 2 [1, 4] [1] [1, 4] [1] [1] [1] [.ptr 1 0 0, iA (Int.ofNat i)] [lbX ps fs cs ts d u] [.as 78 false] [.t i cs.length] (.exit 2) [.ptr 1 0 0] [lbX ps fs cs ts d u] := kN (by kernel_rfl)
theorem r37d (i : Nat) (j : Nat) (a : ByteArray) (n : Int) (ws : List AV) (w : ByteArray) : rn P17 37 150 6 [1, 6, 7, 8] [1, 7] [1, 6, 7, 8] [1, 7] [2] [] [.ptr 1 0 0, iA (Int.ofNat i), .ptr 7 1 0, iA (Int.ofNat j)] [lbX ps fs cs ts d u, (false, .box [sA a, iA n, .rsl 1 ws false])] [.as 140 true, .chk [sA w]] =
  (.need ((decide (Int.ofNat j < Int.ofNat ws.length)) = true) (.need (ws[j]? = (some (sA w))) (bif decide (Int.ofNat w.size > 40) then (dn [] (.ret, [bA false], [])) else (dn [lbX ps fs cs ts d u, (false, .box [sA a, iA n, .rsl 1 ws false])] (.nrm, [.ptr 1 0 0, iA (Int.ofNat i), .ptr 7 1 0, iA (IntKind.i64.wrap (Int.ofNat j + 1))], [lbX ps fs cs ts d u, (false, .box [sA a, iA n, .rsl 1 ws false])]))))) := by kernel_rfl
theorem r37dx (i : Nat) (j : Nat) (a : ByteArray) (n : Int) (ws : List AV) : Lr P17 37 150 6 [1, 6, 7, 8] [1, 7] [1, 6, 7, 8] [1, 7] [1, 6] [1] [.ptr 1 0 0, iA (Int.ofNat i), .ptr 7 1 0, iA (Int.ofNat j)] [lbX ps fs cs ts d u, (false, .box [sA a, iA n, .rsl 1 ws false])] [.as 140 false] [.t j ws.length] (.exit 6) [.ptr 1 0 0, iA (Int.ofNat i)] [lbX ps fs cs ts d u] := kN (by kernel_rfl)
theorem r37c (i : Nat) (a : ByteArray) (n : Int) (ws : List AV) : rn P17 37 150 4 [1, 6] [1] [1, 6] [1] [2] [] [.ptr 1 0 0, iA (Int.ofNat i)] [lbX ps fs cs ts d u] [.as 112 true, .chk [.agg [sA a, iA n, .rsl 1 ws false]], .loop 0 [1, 6, 7, 8] [1, 7] [1, 6] [1] (.exit 6) [.ptr 1 0 0, iA (Int.ofNat i)] [lbX ps fs cs ts d u]] =
  (.need ((decide (Int.ofNat i < Int.ofNat ts.length)) = true) (.need (ts[i]? = (some (AV.agg [sA a, iA n, .rsl 1 ws false]))) (bif decide (Int.ofNat a.size > 40) then (dn [] (.ret, [bA false], [])) else (bif decide (Int.ofNat ws.length > 7) then (bif Int.ofNat ws.length != 17 then (dn [] (.ret, [bA false], [])) else (.need (EnC [lbX ps fs cs ts d u, (false, .box [sA a, iA n, .rsl 1 ws false])] ∧ EnC [lbX ps fs cs ts d u] ∧ Says (CS P17) 0 150 false (.loop (lO (CS P17) 37 6)) (mkSt [1, 6, 7, 8] [1, 7] 150 [.ptr 1 0 0, iA (Int.ofNat i), .ptr 7 1 0, iA 0] [lbX ps fs cs ts d u, (false, .box [sA a, iA n, .rsl 1 ws false])]) (.exit 6) (mkSt [1, 6] [1] 150 [.ptr 1 0 0, iA (Int.ofNat i)] [lbX ps fs cs ts d u])) (dn [lbX ps fs cs ts d u] (.nrm, [.ptr 1 0 0, iA (IntKind.i64.wrap (Int.ofNat i + 1))], [lbX ps fs cs ts d u])))) else (.need (EnC [lbX ps fs cs ts d u, (false, .box [sA a, iA n, .rsl 1 ws false])] ∧ EnC [lbX ps fs cs ts d u] ∧ Says (CS P17) 0 150 false (.loop (lO (CS P17) 37 6)) (mkSt [1, 6, 7, 8] [1, 7] 150 [.ptr 1 0 0, iA (Int.ofNat i), .ptr 7 1 0, iA 0] [lbX ps fs cs ts d u, (false, .box [sA a, iA n, .rsl 1 ws false])]) (.exit 6) (mkSt [1, 6] [1] 150 [.ptr 1 0 0, iA (Int.ofNat i)] [lbX ps fs cs ts d u])) (dn [lbX ps fs cs ts d u] (.nrm, [.ptr 1 0 0, iA (IntKind.i64.wrap (Int.ofNat i + 1))], [lbX ps fs cs ts d u]))))))) := by kernel_rfl
theorem r37cn (i : Nat) (a : ByteArray) (n : Int) (ws : List AV) : rn P17 37 150 4 [1, 6] [1] [1, 6] [1] [2] [] [.ptr 1 0 0, iA (Int.ofNat i)] [lbX ps fs cs ts d u] [.as 112 true, .chk [.agg [sA a, iA n, .rsl 1 ws false]], .loop 0 [1, 6, 7, 8] [1, 7] [2] [] .ret [bA false] []] =
  (.need ((decide (Int.ofNat i < Int.ofNat ts.length)) = true) (.need (ts[i]? = (some (AV.agg [sA a, iA n, .rsl 1 ws false]))) (bif decide (Int.ofNat a.size > 40) then (dn [] (.ret, [bA false], [])) else (bif decide (Int.ofNat ws.length > 7) then (bif Int.ofNat ws.length != 17 then (dn [] (.ret, [bA false], [])) else (.need (EnC [lbX ps fs cs ts d u, (false, .box [sA a, iA n, .rsl 1 ws false])] ∧ EnC [] ∧ Says (CS P17) 0 150 false (.loop (lO (CS P17) 37 6)) (mkSt [1, 6, 7, 8] [1, 7] 150 [.ptr 1 0 0, iA (Int.ofNat i), .ptr 7 1 0, iA 0] [lbX ps fs cs ts d u, (false, .box [sA a, iA n, .rsl 1 ws false])]) .ret (mkSt [2] [] 150 [bA false] [])) (dn [] (.ret, [bA false], [])))) else (.need (EnC [lbX ps fs cs ts d u, (false, .box [sA a, iA n, .rsl 1 ws false])] ∧ EnC [] ∧ Says (CS P17) 0 150 false (.loop (lO (CS P17) 37 6)) (mkSt [1, 6, 7, 8] [1, 7] 150 [.ptr 1 0 0, iA (Int.ofNat i), .ptr 7 1 0, iA 0] [lbX ps fs cs ts d u, (false, .box [sA a, iA n, .rsl 1 ws false])]) .ret (mkSt [2] [] 150 [bA false] [])) (dn [] (.ret, [bA false], []))))))) := by kernel_rfl
theorem r37cx (i : Nat) : Lr P17 37 150 4 [1, 6] [1] [1, 6] [1] [] [] [.ptr 1 0 0, iA (Int.ofNat i)] [lbX ps fs cs ts d u] [.as 112 false] [.t i ts.length] (.exit 4) [] [] := kN (by kernel_rfl)
theorem t37s : L P17 37 [lbE ps fs cs ts d u] [.sp [.rsl 7 ps false] (bA false)] [.f 13] (bA false) := kR (by kernel_rfl)
theorem t37a : ev P17 37 [lbE ps fs cs ts d u] [.sp [.rsl 7 ps false] (bA true), .loop 0 [1, 3] [1] [2] [] .ret [bA false] []] =
  (ak P17 13 [.rsl 7 ps false] (bA true) (bif decide (Int.ofNat fs.length > 8) then (bif Int.ofNat fs.length != 65 then (.done (some (bA false))) else (bif decide (Int.ofNat cs.length > 8) then (bif Int.ofNat cs.length != 65 then (.done (some (bA false))) else (bif decide (Int.ofNat ts.length > 8) then (bif Int.ofNat ts.length != 65 then (.done (some (bA false))) else (.need (EnC [lbX ps fs cs ts d u] ∧ EnC [] ∧ Says (CS P17) 0 150 false (.loop (lO (CS P17) 37 0)) (mkSt [1, 3] [1] 150 [.ptr 1 0 0, iA 0] [lbX ps fs cs ts d u]) .ret (mkSt [2] [] 150 [bA false] [])) (.done (some (bA false))))) else (.need (EnC [lbX ps fs cs ts d u] ∧ EnC [] ∧ Says (CS P17) 0 150 false (.loop (lO (CS P17) 37 0)) (mkSt [1, 3] [1] 150 [.ptr 1 0 0, iA 0] [lbX ps fs cs ts d u]) .ret (mkSt [2] [] 150 [bA false] [])) (.done (some (bA false)))))) else (bif decide (Int.ofNat ts.length > 8) then (bif Int.ofNat ts.length != 65 then (.done (some (bA false))) else (.need (EnC [lbX ps fs cs ts d u] ∧ EnC [] ∧ Says (CS P17) 0 150 false (.loop (lO (CS P17) 37 0)) (mkSt [1, 3] [1] 150 [.ptr 1 0 0, iA 0] [lbX ps fs cs ts d u]) .ret (mkSt [2] [] 150 [bA false] [])) (.done (some (bA false))))) else (.need (EnC [lbX ps fs cs ts d u] ∧ EnC [] ∧ Says (CS P17) 0 150 false (.loop (lO (CS P17) 37 0)) (mkSt [1, 3] [1] 150 [.ptr 1 0 0, iA 0] [lbX ps fs cs ts d u]) .ret (mkSt [2] [] 150 [bA false] [])) (.done (some (bA false))))))) else (bif decide (Int.ofNat cs.length > 8) then (bif Int.ofNat cs.length != 65 then (.done (some (bA false))) else (bif decide (Int.ofNat ts.length > 8) then (bif Int.ofNat ts.length != 65 then (.done (some (bA false))) else (.need (EnC [lbX ps fs cs ts d u] ∧ EnC [] ∧ Says (CS P17) 0 150 false (.loop (lO (CS P17) 37 0)) (mkSt [1, 3] [1] 150 [.ptr 1 0 0, iA 0] [lbX ps fs cs ts d u]) .ret (mkSt [2] [] 150 [bA false] [])) (.done (some (bA false))))) else (.need (EnC [lbX ps fs cs ts d u] ∧ EnC [] ∧ Says (CS P17) 0 150 false (.loop (lO (CS P17) 37 0)) (mkSt [1, 3] [1] 150 [.ptr 1 0 0, iA 0] [lbX ps fs cs ts d u]) .ret (mkSt [2] [] 150 [bA false] [])) (.done (some (bA false)))))) else (bif decide (Int.ofNat ts.length > 8) then (bif Int.ofNat ts.length != 65 then (.done (some (bA false))) else (.need (EnC [lbX ps fs cs ts d u] ∧ EnC [] ∧ Says (CS P17) 0 150 false (.loop (lO (CS P17) 37 0)) (mkSt [1, 3] [1] 150 [.ptr 1 0 0, iA 0] [lbX ps fs cs ts d u]) .ret (mkSt [2] [] 150 [bA false] [])) (.done (some (bA false))))) else (.need (EnC [lbX ps fs cs ts d u] ∧ EnC [] ∧ Says (CS P17) 0 150 false (.loop (lO (CS P17) 37 0)) (mkSt [1, 3] [1] 150 [.ptr 1 0 0, iA 0] [lbX ps fs cs ts d u]) .ret (mkSt [2] [] 150 [bA false] [])) (.done (some (bA false)))))))) := by kernel_rfl
theorem t37b : ev P17 37 [lbE ps fs cs ts d u] [.sp [.rsl 7 ps false] (bA true), .loop 0 [1, 3] [1] [1] [1] (.exit 0) [.ptr 1 0 0] [lbX ps fs cs ts d u], .loop 0 [1, 4] [1] [2] [] .ret [bA false] []] =
  (ak P17 13 [.rsl 7 ps false] (bA true) (bif decide (Int.ofNat fs.length > 8) then (bif Int.ofNat fs.length != 65 then (.done (some (bA false))) else (bif decide (Int.ofNat cs.length > 8) then (bif Int.ofNat cs.length != 65 then (.done (some (bA false))) else (bif decide (Int.ofNat ts.length > 8) then (bif Int.ofNat ts.length != 65 then (.done (some (bA false))) else (.need (EnC [lbX ps fs cs ts d u] ∧ EnC [lbX ps fs cs ts d u] ∧ Says (CS P17) 0 150 false (.loop (lO (CS P17) 37 0)) (mkSt [1, 3] [1] 150 [.ptr 1 0 0, iA 0] [lbX ps fs cs ts d u]) (.exit 0) (mkSt [1] [1] 150 [.ptr 1 0 0] [lbX ps fs cs ts d u])) (.need (EnC [lbX ps fs cs ts d u] ∧ EnC [] ∧ Says (CS P17) 0 150 false (.loop (lO (CS P17) 37 2)) (mkSt [1, 4] [1] 150 [.ptr 1 0 0, iA 0] [lbX ps fs cs ts d u]) .ret (mkSt [2] [] 150 [bA false] [])) (.done (some (bA false)))))) else (.need (EnC [lbX ps fs cs ts d u] ∧ EnC [lbX ps fs cs ts d u] ∧ Says (CS P17) 0 150 false (.loop (lO (CS P17) 37 0)) (mkSt [1, 3] [1] 150 [.ptr 1 0 0, iA 0] [lbX ps fs cs ts d u]) (.exit 0) (mkSt [1] [1] 150 [.ptr 1 0 0] [lbX ps fs cs ts d u])) (.need (EnC [lbX ps fs cs ts d u] ∧ EnC [] ∧ Says (CS P17) 0 150 false (.loop (lO (CS P17) 37 2)) (mkSt [1, 4] [1] 150 [.ptr 1 0 0, iA 0] [lbX ps fs cs ts d u]) .ret (mkSt [2] [] 150 [bA false] [])) (.done (some (bA false))))))) else (bif decide (Int.ofNat ts.length > 8) then (bif Int.ofNat ts.length != 65 then (.done (some (bA false))) else (.need (EnC [lbX ps fs cs ts d u] ∧ EnC [lbX ps fs cs ts d u] ∧ Says (CS P17) 0 150 false (.loop (lO (CS P17) 37 0)) (mkSt [1, 3] [1] 150 [.ptr 1 0 0, iA 0] [lbX ps fs cs ts d u]) (.exit 0) (mkSt [1] [1] 150 [.ptr 1 0 0] [lbX ps fs cs ts d u])) (.need (EnC [lbX ps fs cs ts d u] ∧ EnC [] ∧ Says (CS P17) 0 150 false (.loop (lO (CS P17) 37 2)) (mkSt [1, 4] [1] 150 [.ptr 1 0 0, iA 0] [lbX ps fs cs ts d u]) .ret (mkSt [2] [] 150 [bA false] [])) (.done (some (bA false)))))) else (.need (EnC [lbX ps fs cs ts d u] ∧ EnC [lbX ps fs cs ts d u] ∧ Says (CS P17) 0 150 false (.loop (lO (CS P17) 37 0)) (mkSt [1, 3] [1] 150 [.ptr 1 0 0, iA 0] [lbX ps fs cs ts d u]) (.exit 0) (mkSt [1] [1] 150 [.ptr 1 0 0] [lbX ps fs cs ts d u])) (.need (EnC [lbX ps fs cs ts d u] ∧ EnC [] ∧ Says (CS P17) 0 150 false (.loop (lO (CS P17) 37 2)) (mkSt [1, 4] [1] 150 [.ptr 1 0 0, iA 0] [lbX ps fs cs ts d u]) .ret (mkSt [2] [] 150 [bA false] [])) (.done (some (bA false)))))))) else (bif decide (Int.ofNat cs.length > 8) then (bif Int.ofNat cs.length != 65 then (.done (some (bA false))) else (bif decide (Int.ofNat ts.length > 8) then (bif Int.ofNat ts.length != 65 then (.done (some (bA false))) else (.need (EnC [lbX ps fs cs ts d u] ∧ EnC [lbX ps fs cs ts d u] ∧ Says (CS P17) 0 150 false (.loop (lO (CS P17) 37 0)) (mkSt [1, 3] [1] 150 [.ptr 1 0 0, iA 0] [lbX ps fs cs ts d u]) (.exit 0) (mkSt [1] [1] 150 [.ptr 1 0 0] [lbX ps fs cs ts d u])) (.need (EnC [lbX ps fs cs ts d u] ∧ EnC [] ∧ Says (CS P17) 0 150 false (.loop (lO (CS P17) 37 2)) (mkSt [1, 4] [1] 150 [.ptr 1 0 0, iA 0] [lbX ps fs cs ts d u]) .ret (mkSt [2] [] 150 [bA false] [])) (.done (some (bA false)))))) else (.need (EnC [lbX ps fs cs ts d u] ∧ EnC [lbX ps fs cs ts d u] ∧ Says (CS P17) 0 150 false (.loop (lO (CS P17) 37 0)) (mkSt [1, 3] [1] 150 [.ptr 1 0 0, iA 0] [lbX ps fs cs ts d u]) (.exit 0) (mkSt [1] [1] 150 [.ptr 1 0 0] [lbX ps fs cs ts d u])) (.need (EnC [lbX ps fs cs ts d u] ∧ EnC [] ∧ Says (CS P17) 0 150 false (.loop (lO (CS P17) 37 2)) (mkSt [1, 4] [1] 150 [.ptr 1 0 0, iA 0] [lbX ps fs cs ts d u]) .ret (mkSt [2] [] 150 [bA false] [])) (.done (some (bA false))))))) else (bif decide (Int.ofNat ts.length > 8) then (bif Int.ofNat ts.length != 65 then (.done (some (bA false))) else (.need (EnC [lbX ps fs cs ts d u] ∧ EnC [lbX ps fs cs ts d u] ∧ Says (CS P17) 0 150 false (.loop (lO (CS P17) 37 0)) (mkSt [1, 3] [1] 150 [.ptr 1 0 0, iA 0] [lbX ps fs cs ts d u]) (.exit 0) (mkSt [1] [1] 150 [.ptr 1 0 0] [lbX ps fs cs ts d u])) (.need (EnC [lbX ps fs cs ts d u] ∧ EnC [] ∧ Says (CS P17) 0 150 false (.loop (lO (CS P17) 37 2)) (mkSt [1, 4] [1] 150 [.ptr 1 0 0, iA 0] [lbX ps fs cs ts d u]) .ret (mkSt [2] [] 150 [bA false] [])) (.done (some (bA false)))))) else (.need (EnC [lbX ps fs cs ts d u] ∧ EnC [lbX ps fs cs ts d u] ∧ Says (CS P17) 0 150 false (.loop (lO (CS P17) 37 0)) (mkSt [1, 3] [1] 150 [.ptr 1 0 0, iA 0] [lbX ps fs cs ts d u]) (.exit 0) (mkSt [1] [1] 150 [.ptr 1 0 0] [lbX ps fs cs ts d u])) (.need (EnC [lbX ps fs cs ts d u] ∧ EnC [] ∧ Says (CS P17) 0 150 false (.loop (lO (CS P17) 37 2)) (mkSt [1, 4] [1] 150 [.ptr 1 0 0, iA 0] [lbX ps fs cs ts d u]) .ret (mkSt [2] [] 150 [bA false] [])) (.done (some (bA false))))))))) := by kernel_rfl
theorem t37c : ev P17 37 [lbE ps fs cs ts d u] [.sp [.rsl 7 ps false] (bA true), .loop 0 [1, 3] [1] [1] [1] (.exit 0) [.ptr 1 0 0] [lbX ps fs cs ts d u], .loop 0 [1, 4] [1] [1] [1] (.exit 2) [.ptr 1 0 0] [lbX ps fs cs ts d u], .loop 0 [1, 6] [1] [2] [] .ret [bA false] []] =
  (ak P17 13 [.rsl 7 ps false] (bA true) (bif decide (Int.ofNat fs.length > 8) then (bif Int.ofNat fs.length != 65 then (.done (some (bA false))) else (bif decide (Int.ofNat cs.length > 8) then (bif Int.ofNat cs.length != 65 then (.done (some (bA false))) else (bif decide (Int.ofNat ts.length > 8) then (bif Int.ofNat ts.length != 65 then (.done (some (bA false))) else (.need (EnC [lbX ps fs cs ts d u] ∧ EnC [lbX ps fs cs ts d u] ∧ Says (CS P17) 0 150 false (.loop (lO (CS P17) 37 0)) (mkSt [1, 3] [1] 150 [.ptr 1 0 0, iA 0] [lbX ps fs cs ts d u]) (.exit 0) (mkSt [1] [1] 150 [.ptr 1 0 0] [lbX ps fs cs ts d u])) (.need (EnC [lbX ps fs cs ts d u] ∧ EnC [lbX ps fs cs ts d u] ∧ Says (CS P17) 0 150 false (.loop (lO (CS P17) 37 2)) (mkSt [1, 4] [1] 150 [.ptr 1 0 0, iA 0] [lbX ps fs cs ts d u]) (.exit 2) (mkSt [1] [1] 150 [.ptr 1 0 0] [lbX ps fs cs ts d u])) (.need (EnC [lbX ps fs cs ts d u] ∧ EnC [] ∧ Says (CS P17) 0 150 false (.loop (lO (CS P17) 37 4)) (mkSt [1, 6] [1] 150 [.ptr 1 0 0, iA 0] [lbX ps fs cs ts d u]) .ret (mkSt [2] [] 150 [bA false] [])) (.done (some (bA false))))))) else (.need (EnC [lbX ps fs cs ts d u] ∧ EnC [lbX ps fs cs ts d u] ∧ Says (CS P17) 0 150 false (.loop (lO (CS P17) 37 0)) (mkSt [1, 3] [1] 150 [.ptr 1 0 0, iA 0] [lbX ps fs cs ts d u]) (.exit 0) (mkSt [1] [1] 150 [.ptr 1 0 0] [lbX ps fs cs ts d u])) (.need (EnC [lbX ps fs cs ts d u] ∧ EnC [lbX ps fs cs ts d u] ∧ Says (CS P17) 0 150 false (.loop (lO (CS P17) 37 2)) (mkSt [1, 4] [1] 150 [.ptr 1 0 0, iA 0] [lbX ps fs cs ts d u]) (.exit 2) (mkSt [1] [1] 150 [.ptr 1 0 0] [lbX ps fs cs ts d u])) (.need (EnC [lbX ps fs cs ts d u] ∧ EnC [] ∧ Says (CS P17) 0 150 false (.loop (lO (CS P17) 37 4)) (mkSt [1, 6] [1] 150 [.ptr 1 0 0, iA 0] [lbX ps fs cs ts d u]) .ret (mkSt [2] [] 150 [bA false] [])) (.done (some (bA false)))))))) else (bif decide (Int.ofNat ts.length > 8) then (bif Int.ofNat ts.length != 65 then (.done (some (bA false))) else (.need (EnC [lbX ps fs cs ts d u] ∧ EnC [lbX ps fs cs ts d u] ∧ Says (CS P17) 0 150 false (.loop (lO (CS P17) 37 0)) (mkSt [1, 3] [1] 150 [.ptr 1 0 0, iA 0] [lbX ps fs cs ts d u]) (.exit 0) (mkSt [1] [1] 150 [.ptr 1 0 0] [lbX ps fs cs ts d u])) (.need (EnC [lbX ps fs cs ts d u] ∧ EnC [lbX ps fs cs ts d u] ∧ Says (CS P17) 0 150 false (.loop (lO (CS P17) 37 2)) (mkSt [1, 4] [1] 150 [.ptr 1 0 0, iA 0] [lbX ps fs cs ts d u]) (.exit 2) (mkSt [1] [1] 150 [.ptr 1 0 0] [lbX ps fs cs ts d u])) (.need (EnC [lbX ps fs cs ts d u] ∧ EnC [] ∧ Says (CS P17) 0 150 false (.loop (lO (CS P17) 37 4)) (mkSt [1, 6] [1] 150 [.ptr 1 0 0, iA 0] [lbX ps fs cs ts d u]) .ret (mkSt [2] [] 150 [bA false] [])) (.done (some (bA false))))))) else (.need (EnC [lbX ps fs cs ts d u] ∧ EnC [lbX ps fs cs ts d u] ∧ Says (CS P17) 0 150 false (.loop (lO (CS P17) 37 0)) (mkSt [1, 3] [1] 150 [.ptr 1 0 0, iA 0] [lbX ps fs cs ts d u]) (.exit 0) (mkSt [1] [1] 150 [.ptr 1 0 0] [lbX ps fs cs ts d u])) (.need (EnC [lbX ps fs cs ts d u] ∧ EnC [lbX ps fs cs ts d u] ∧ Says (CS P17) 0 150 false (.loop (lO (CS P17) 37 2)) (mkSt [1, 4] [1] 150 [.ptr 1 0 0, iA 0] [lbX ps fs cs ts d u]) (.exit 2) (mkSt [1] [1] 150 [.ptr 1 0 0] [lbX ps fs cs ts d u])) (.need (EnC [lbX ps fs cs ts d u] ∧ EnC [] ∧ Says (CS P17) 0 150 false (.loop (lO (CS P17) 37 4)) (mkSt [1, 6] [1] 150 [.ptr 1 0 0, iA 0] [lbX ps fs cs ts d u]) .ret (mkSt [2] [] 150 [bA false] [])) (.done (some (bA false))))))))) else (bif decide (Int.ofNat cs.length > 8) then (bif Int.ofNat cs.length != 65 then (.done (some (bA false))) else (bif decide (Int.ofNat ts.length > 8) then (bif Int.ofNat ts.length != 65 then (.done (some (bA false))) else (.need (EnC [lbX ps fs cs ts d u] ∧ EnC [lbX ps fs cs ts d u] ∧ Says (CS P17) 0 150 false (.loop (lO (CS P17) 37 0)) (mkSt [1, 3] [1] 150 [.ptr 1 0 0, iA 0] [lbX ps fs cs ts d u]) (.exit 0) (mkSt [1] [1] 150 [.ptr 1 0 0] [lbX ps fs cs ts d u])) (.need (EnC [lbX ps fs cs ts d u] ∧ EnC [lbX ps fs cs ts d u] ∧ Says (CS P17) 0 150 false (.loop (lO (CS P17) 37 2)) (mkSt [1, 4] [1] 150 [.ptr 1 0 0, iA 0] [lbX ps fs cs ts d u]) (.exit 2) (mkSt [1] [1] 150 [.ptr 1 0 0] [lbX ps fs cs ts d u])) (.need (EnC [lbX ps fs cs ts d u] ∧ EnC [] ∧ Says (CS P17) 0 150 false (.loop (lO (CS P17) 37 4)) (mkSt [1, 6] [1] 150 [.ptr 1 0 0, iA 0] [lbX ps fs cs ts d u]) .ret (mkSt [2] [] 150 [bA false] [])) (.done (some (bA false))))))) else (.need (EnC [lbX ps fs cs ts d u] ∧ EnC [lbX ps fs cs ts d u] ∧ Says (CS P17) 0 150 false (.loop (lO (CS P17) 37 0)) (mkSt [1, 3] [1] 150 [.ptr 1 0 0, iA 0] [lbX ps fs cs ts d u]) (.exit 0) (mkSt [1] [1] 150 [.ptr 1 0 0] [lbX ps fs cs ts d u])) (.need (EnC [lbX ps fs cs ts d u] ∧ EnC [lbX ps fs cs ts d u] ∧ Says (CS P17) 0 150 false (.loop (lO (CS P17) 37 2)) (mkSt [1, 4] [1] 150 [.ptr 1 0 0, iA 0] [lbX ps fs cs ts d u]) (.exit 2) (mkSt [1] [1] 150 [.ptr 1 0 0] [lbX ps fs cs ts d u])) (.need (EnC [lbX ps fs cs ts d u] ∧ EnC [] ∧ Says (CS P17) 0 150 false (.loop (lO (CS P17) 37 4)) (mkSt [1, 6] [1] 150 [.ptr 1 0 0, iA 0] [lbX ps fs cs ts d u]) .ret (mkSt [2] [] 150 [bA false] [])) (.done (some (bA false)))))))) else (bif decide (Int.ofNat ts.length > 8) then (bif Int.ofNat ts.length != 65 then (.done (some (bA false))) else (.need (EnC [lbX ps fs cs ts d u] ∧ EnC [lbX ps fs cs ts d u] ∧ Says (CS P17) 0 150 false (.loop (lO (CS P17) 37 0)) (mkSt [1, 3] [1] 150 [.ptr 1 0 0, iA 0] [lbX ps fs cs ts d u]) (.exit 0) (mkSt [1] [1] 150 [.ptr 1 0 0] [lbX ps fs cs ts d u])) (.need (EnC [lbX ps fs cs ts d u] ∧ EnC [lbX ps fs cs ts d u] ∧ Says (CS P17) 0 150 false (.loop (lO (CS P17) 37 2)) (mkSt [1, 4] [1] 150 [.ptr 1 0 0, iA 0] [lbX ps fs cs ts d u]) (.exit 2) (mkSt [1] [1] 150 [.ptr 1 0 0] [lbX ps fs cs ts d u])) (.need (EnC [lbX ps fs cs ts d u] ∧ EnC [] ∧ Says (CS P17) 0 150 false (.loop (lO (CS P17) 37 4)) (mkSt [1, 6] [1] 150 [.ptr 1 0 0, iA 0] [lbX ps fs cs ts d u]) .ret (mkSt [2] [] 150 [bA false] [])) (.done (some (bA false))))))) else (.need (EnC [lbX ps fs cs ts d u] ∧ EnC [lbX ps fs cs ts d u] ∧ Says (CS P17) 0 150 false (.loop (lO (CS P17) 37 0)) (mkSt [1, 3] [1] 150 [.ptr 1 0 0, iA 0] [lbX ps fs cs ts d u]) (.exit 0) (mkSt [1] [1] 150 [.ptr 1 0 0] [lbX ps fs cs ts d u])) (.need (EnC [lbX ps fs cs ts d u] ∧ EnC [lbX ps fs cs ts d u] ∧ Says (CS P17) 0 150 false (.loop (lO (CS P17) 37 2)) (mkSt [1, 4] [1] 150 [.ptr 1 0 0, iA 0] [lbX ps fs cs ts d u]) (.exit 2) (mkSt [1] [1] 150 [.ptr 1 0 0] [lbX ps fs cs ts d u])) (.need (EnC [lbX ps fs cs ts d u] ∧ EnC [] ∧ Says (CS P17) 0 150 false (.loop (lO (CS P17) 37 4)) (mkSt [1, 6] [1] 150 [.ptr 1 0 0, iA 0] [lbX ps fs cs ts d u]) .ret (mkSt [2] [] 150 [bA false] [])) (.done (some (bA false)))))))))) := by kernel_rfl
theorem t37k : ev P17 37 [lbE ps fs cs ts d u] [.sp [.rsl 7 ps false] (bA true), .loop 0 [1, 3] [1] [1] [1] (.exit 0) [.ptr 1 0 0] [lbX ps fs cs ts d u], .loop 0 [1, 4] [1] [1] [1] (.exit 2) [.ptr 1 0 0] [lbX ps fs cs ts d u], .loop 0 [1, 6] [1] [] [] (.exit 4) [] []] =
  (ak P17 13 [.rsl 7 ps false] (bA true) (bif decide (Int.ofNat fs.length > 8) then (bif Int.ofNat fs.length != 65 then (.done (some (bA false))) else (bif decide (Int.ofNat cs.length > 8) then (bif Int.ofNat cs.length != 65 then (.done (some (bA false))) else (bif decide (Int.ofNat ts.length > 8) then (bif Int.ofNat ts.length != 65 then (.done (some (bA false))) else (.need (EnC [lbX ps fs cs ts d u] ∧ EnC [lbX ps fs cs ts d u] ∧ Says (CS P17) 0 150 false (.loop (lO (CS P17) 37 0)) (mkSt [1, 3] [1] 150 [.ptr 1 0 0, iA 0] [lbX ps fs cs ts d u]) (.exit 0) (mkSt [1] [1] 150 [.ptr 1 0 0] [lbX ps fs cs ts d u])) (.need (EnC [lbX ps fs cs ts d u] ∧ EnC [lbX ps fs cs ts d u] ∧ Says (CS P17) 0 150 false (.loop (lO (CS P17) 37 2)) (mkSt [1, 4] [1] 150 [.ptr 1 0 0, iA 0] [lbX ps fs cs ts d u]) (.exit 2) (mkSt [1] [1] 150 [.ptr 1 0 0] [lbX ps fs cs ts d u])) (.need (EnC [lbX ps fs cs ts d u] ∧ EnC [] ∧ Says (CS P17) 0 150 false (.loop (lO (CS P17) 37 4)) (mkSt [1, 6] [1] 150 [.ptr 1 0 0, iA 0] [lbX ps fs cs ts d u]) (.exit 4) (mkSt [] [] 150 [] [])) (.done (some (bA true))))))) else (.need (EnC [lbX ps fs cs ts d u] ∧ EnC [lbX ps fs cs ts d u] ∧ Says (CS P17) 0 150 false (.loop (lO (CS P17) 37 0)) (mkSt [1, 3] [1] 150 [.ptr 1 0 0, iA 0] [lbX ps fs cs ts d u]) (.exit 0) (mkSt [1] [1] 150 [.ptr 1 0 0] [lbX ps fs cs ts d u])) (.need (EnC [lbX ps fs cs ts d u] ∧ EnC [lbX ps fs cs ts d u] ∧ Says (CS P17) 0 150 false (.loop (lO (CS P17) 37 2)) (mkSt [1, 4] [1] 150 [.ptr 1 0 0, iA 0] [lbX ps fs cs ts d u]) (.exit 2) (mkSt [1] [1] 150 [.ptr 1 0 0] [lbX ps fs cs ts d u])) (.need (EnC [lbX ps fs cs ts d u] ∧ EnC [] ∧ Says (CS P17) 0 150 false (.loop (lO (CS P17) 37 4)) (mkSt [1, 6] [1] 150 [.ptr 1 0 0, iA 0] [lbX ps fs cs ts d u]) (.exit 4) (mkSt [] [] 150 [] [])) (.done (some (bA true)))))))) else (bif decide (Int.ofNat ts.length > 8) then (bif Int.ofNat ts.length != 65 then (.done (some (bA false))) else (.need (EnC [lbX ps fs cs ts d u] ∧ EnC [lbX ps fs cs ts d u] ∧ Says (CS P17) 0 150 false (.loop (lO (CS P17) 37 0)) (mkSt [1, 3] [1] 150 [.ptr 1 0 0, iA 0] [lbX ps fs cs ts d u]) (.exit 0) (mkSt [1] [1] 150 [.ptr 1 0 0] [lbX ps fs cs ts d u])) (.need (EnC [lbX ps fs cs ts d u] ∧ EnC [lbX ps fs cs ts d u] ∧ Says (CS P17) 0 150 false (.loop (lO (CS P17) 37 2)) (mkSt [1, 4] [1] 150 [.ptr 1 0 0, iA 0] [lbX ps fs cs ts d u]) (.exit 2) (mkSt [1] [1] 150 [.ptr 1 0 0] [lbX ps fs cs ts d u])) (.need (EnC [lbX ps fs cs ts d u] ∧ EnC [] ∧ Says (CS P17) 0 150 false (.loop (lO (CS P17) 37 4)) (mkSt [1, 6] [1] 150 [.ptr 1 0 0, iA 0] [lbX ps fs cs ts d u]) (.exit 4) (mkSt [] [] 150 [] [])) (.done (some (bA true))))))) else (.need (EnC [lbX ps fs cs ts d u] ∧ EnC [lbX ps fs cs ts d u] ∧ Says (CS P17) 0 150 false (.loop (lO (CS P17) 37 0)) (mkSt [1, 3] [1] 150 [.ptr 1 0 0, iA 0] [lbX ps fs cs ts d u]) (.exit 0) (mkSt [1] [1] 150 [.ptr 1 0 0] [lbX ps fs cs ts d u])) (.need (EnC [lbX ps fs cs ts d u] ∧ EnC [lbX ps fs cs ts d u] ∧ Says (CS P17) 0 150 false (.loop (lO (CS P17) 37 2)) (mkSt [1, 4] [1] 150 [.ptr 1 0 0, iA 0] [lbX ps fs cs ts d u]) (.exit 2) (mkSt [1] [1] 150 [.ptr 1 0 0] [lbX ps fs cs ts d u])) (.need (EnC [lbX ps fs cs ts d u] ∧ EnC [] ∧ Says (CS P17) 0 150 false (.loop (lO (CS P17) 37 4)) (mkSt [1, 6] [1] 150 [.ptr 1 0 0, iA 0] [lbX ps fs cs ts d u]) (.exit 4) (mkSt [] [] 150 [] [])) (.done (some (bA true))))))))) else (bif decide (Int.ofNat cs.length > 8) then (bif Int.ofNat cs.length != 65 then (.done (some (bA false))) else (bif decide (Int.ofNat ts.length > 8) then (bif Int.ofNat ts.length != 65 then (.done (some (bA false))) else (.need (EnC [lbX ps fs cs ts d u] ∧ EnC [lbX ps fs cs ts d u] ∧ Says (CS P17) 0 150 false (.loop (lO (CS P17) 37 0)) (mkSt [1, 3] [1] 150 [.ptr 1 0 0, iA 0] [lbX ps fs cs ts d u]) (.exit 0) (mkSt [1] [1] 150 [.ptr 1 0 0] [lbX ps fs cs ts d u])) (.need (EnC [lbX ps fs cs ts d u] ∧ EnC [lbX ps fs cs ts d u] ∧ Says (CS P17) 0 150 false (.loop (lO (CS P17) 37 2)) (mkSt [1, 4] [1] 150 [.ptr 1 0 0, iA 0] [lbX ps fs cs ts d u]) (.exit 2) (mkSt [1] [1] 150 [.ptr 1 0 0] [lbX ps fs cs ts d u])) (.need (EnC [lbX ps fs cs ts d u] ∧ EnC [] ∧ Says (CS P17) 0 150 false (.loop (lO (CS P17) 37 4)) (mkSt [1, 6] [1] 150 [.ptr 1 0 0, iA 0] [lbX ps fs cs ts d u]) (.exit 4) (mkSt [] [] 150 [] [])) (.done (some (bA true))))))) else (.need (EnC [lbX ps fs cs ts d u] ∧ EnC [lbX ps fs cs ts d u] ∧ Says (CS P17) 0 150 false (.loop (lO (CS P17) 37 0)) (mkSt [1, 3] [1] 150 [.ptr 1 0 0, iA 0] [lbX ps fs cs ts d u]) (.exit 0) (mkSt [1] [1] 150 [.ptr 1 0 0] [lbX ps fs cs ts d u])) (.need (EnC [lbX ps fs cs ts d u] ∧ EnC [lbX ps fs cs ts d u] ∧ Says (CS P17) 0 150 false (.loop (lO (CS P17) 37 2)) (mkSt [1, 4] [1] 150 [.ptr 1 0 0, iA 0] [lbX ps fs cs ts d u]) (.exit 2) (mkSt [1] [1] 150 [.ptr 1 0 0] [lbX ps fs cs ts d u])) (.need (EnC [lbX ps fs cs ts d u] ∧ EnC [] ∧ Says (CS P17) 0 150 false (.loop (lO (CS P17) 37 4)) (mkSt [1, 6] [1] 150 [.ptr 1 0 0, iA 0] [lbX ps fs cs ts d u]) (.exit 4) (mkSt [] [] 150 [] [])) (.done (some (bA true)))))))) else (bif decide (Int.ofNat ts.length > 8) then (bif Int.ofNat ts.length != 65 then (.done (some (bA false))) else (.need (EnC [lbX ps fs cs ts d u] ∧ EnC [lbX ps fs cs ts d u] ∧ Says (CS P17) 0 150 false (.loop (lO (CS P17) 37 0)) (mkSt [1, 3] [1] 150 [.ptr 1 0 0, iA 0] [lbX ps fs cs ts d u]) (.exit 0) (mkSt [1] [1] 150 [.ptr 1 0 0] [lbX ps fs cs ts d u])) (.need (EnC [lbX ps fs cs ts d u] ∧ EnC [lbX ps fs cs ts d u] ∧ Says (CS P17) 0 150 false (.loop (lO (CS P17) 37 2)) (mkSt [1, 4] [1] 150 [.ptr 1 0 0, iA 0] [lbX ps fs cs ts d u]) (.exit 2) (mkSt [1] [1] 150 [.ptr 1 0 0] [lbX ps fs cs ts d u])) (.need (EnC [lbX ps fs cs ts d u] ∧ EnC [] ∧ Says (CS P17) 0 150 false (.loop (lO (CS P17) 37 4)) (mkSt [1, 6] [1] 150 [.ptr 1 0 0, iA 0] [lbX ps fs cs ts d u]) (.exit 4) (mkSt [] [] 150 [] [])) (.done (some (bA true))))))) else (.need (EnC [lbX ps fs cs ts d u] ∧ EnC [lbX ps fs cs ts d u] ∧ Says (CS P17) 0 150 false (.loop (lO (CS P17) 37 0)) (mkSt [1, 3] [1] 150 [.ptr 1 0 0, iA 0] [lbX ps fs cs ts d u]) (.exit 0) (mkSt [1] [1] 150 [.ptr 1 0 0] [lbX ps fs cs ts d u])) (.need (EnC [lbX ps fs cs ts d u] ∧ EnC [lbX ps fs cs ts d u] ∧ Says (CS P17) 0 150 false (.loop (lO (CS P17) 37 2)) (mkSt [1, 4] [1] 150 [.ptr 1 0 0, iA 0] [lbX ps fs cs ts d u]) (.exit 2) (mkSt [1] [1] 150 [.ptr 1 0 0] [lbX ps fs cs ts d u])) (.need (EnC [lbX ps fs cs ts d u] ∧ EnC [] ∧ Says (CS P17) 0 150 false (.loop (lO (CS P17) 37 4)) (mkSt [1, 6] [1] 150 [.ptr 1 0 0, iA 0] [lbX ps fs cs ts d u]) (.exit 4) (mkSt [] [] 150 [] [])) (.done (some (bA true)))))))))) := by kernel_rfl
theorem e_ft (l : List Ft) : Int.ofNat (l.map ftC.enc).length = Int.ofNat l.length := by simp
theorem e_cb (l : List Cb) : Int.ofNat (l.map cbC.enc).length = Int.ofNat l.length := by simp
theorem e_ts (l : List Ts) : Int.ofNat (l.map tsC.enc).length = Int.ofNat l.length := by simp
theorem e_st (l : List ByteArray) : Int.ofNat (l.map strC.enc).length = Int.ofNat l.length := by simp
theorem e_in (l : List Int) : Int.ofNat (l.map intC.enc).length = Int.ofNat l.length := by simp
def lenC (n : Nat) : Bool := bif decide (Int.ofNat n > 8) then Int.ofNat n != 65 else false
def lenU (n : Nat) : Bool := bif decide (Int.ofNat n > 7) then Int.ofNat n != 17 else false
def longS (s : ByteArray) : Bool := decide (Int.ofNat s.size > 40)
def longF (x : Ft) : Bool := bif longS x.2.1 then true else longS x.2.2
def longC (x : Cb) : Bool := bif longS x.1 then true else bif longS x.2.1 then true else bif longS x.2.2.1 then true else decide (Int.ofNat x.2.2.2.2.length > 9)
def longT (x : Ts) : Bool := bif (bif longS x.1 then true else lenU x.2.2.length) then true else x.2.2.any longS
def shortL (x : Lb) : Bool := bif !shortP x.1 then false else bif lenC x.2.1.length || (lenC x.2.2.1.length || lenC x.2.2.2.1.length) then false else !(x.2.1.any longF || (x.2.2.1.any longC || x.2.2.2.1.any longT))
theorem lenC_le {n : Nat} (h : lenC n = false) : n ≤ 65 := by
 unfold lenC at h
 cases h8 : decide (Int.ofNat n > 8) with
 | true => rw [h8, cond_true] at h; simp only [bne_eq_false_iff_eq, Int.ofNat_eq_natCast] at h; omega
 | false => simp only [gt_iff_lt, decide_eq_false_iff_not, Int.ofNat_eq_natCast] at h8; omega
theorem lenU_le {n : Nat} (h : lenU n = false) : n ≤ 17 := by
 unfold lenU at h
 cases h8 : decide (Int.ofNat n > 7) with
 | true => rw [h8, cond_true] at h; simp only [bne_eq_false_iff_eq, Int.ofNat_eq_natCast] at h; omega
 | false => simp only [gt_iff_lt, decide_eq_false_iff_not, Int.ofNat_eq_natCast] at h8; omega
structure ShortL (x : Lb) : Prop where
 ps : shortP x.1 = true
 fs : x.2.1.length ≤ 65
 cs : x.2.2.1.length ≤ 65
 ts : x.2.2.2.1.length ≤ 65
 co : ∀ c ∈ x.2.2.1, longC c = false
 te : ∀ t ∈ x.2.2.2.1, longT t = false
theorem shortL_at {x : Lb} (h : shortL x = true) : ShortL x := by
 unfold shortL at h
 cases h1 : shortP x.1 with
 | false => rw [h1] at h; cases h
 | true =>
  rw [h1] at h
  simp only [Bool.not_true, cond_false] at h
  cases h2 : lenC x.2.1.length || (lenC x.2.2.1.length || lenC x.2.2.2.1.length) with
  | true => rw [h2] at h; cases h
  | false =>
   rw [h2] at h
   simp only [cond_false, Bool.not_eq_true', Bool.or_eq_false_iff] at h h2
   exact ⟨h1, lenC_le h2.1, lenC_le h2.2.1, lenC_le h2.2.2, fun c hc => by have := List.any_eq_false.1 h.2.1 c hc; simpa using this, fun c hc => by have := List.any_eq_false.1 h.2.2 c hc; simpa using this⟩
theorem longC_at {x : Cb} (h : longC x = false) : x.2.2.2.2.length ≤ 9 := by
 unfold longC at h
 cases h1 : longS x.1 <;> cases h2 : longS x.2.1 <;> cases h3 : longS x.2.2.1 <;> rw [h1, h2, h3] at h <;> simp at h
 omega
theorem longT_at {x : Ts} (h : longT x = false) : x.2.2.length ≤ 17 := by
 unfold longT at h
 cases h1 : longS x.1 with
 | true => rw [h1] at h; cases h
 | false =>
  rw [h1] at h
  cases h2 : lenU x.2.2.length with
  | true => rw [h2] at h; cases h
  | false => exact lenU_le h2
def shortLG : List AV → Option AV := sp1 labC fun x => some (bA (shortL x))
theorem okLen {X : Type} {a b : Bool} {F R : Dt X} {r : X} (h : (bif a then b else false) = false) (k : R.ok r) : (bif a then (bif b then F else R) else R).ok r := by
 cases a with
 | false => exact k
 | true =>
  cases b with
  | false => exact k
  | true => cases h
theorem okLenF {X : Type} {a b : Bool} {F R : Dt X} {r : X} (h : (bif a then b else false) = true) (k : F.ok r) : (bif a then (bif b then F else R) else R).ok r := by
 cases a with
 | false => cases h
 | true =>
  cases b with
  | false => cases h
  | true => exact k
abbrev lbY (x : Lb) : Bool × Blk := lbX (x.1.map ptC.enc) (x.2.1.map ftC.enc) (x.2.2.1.map cbC.enc) (x.2.2.2.1.map tsC.enc) x.2.2.2.2.1 x.2.2.2.2.2
theorem loop37a (x : Lb) (hl : x.2.1.length < two63) : LoopRun (CS P17) 0 150 false (lO (CS P17) 37 0) (mkSt [1, 3] [1] 150 [.ptr 1 0 0, iA 0] [lbY x]) (bif x.2.1.any longF then .ret else .exit 0)
  (bif x.2.1.any longF then mkSt [2] [] 150 [bA false] [] else mkSt [1] [1] 150 [.ptr 1 0 0] [lbY x]) := by
 have h := LoopRun.find (C := CS P17) (p := 0) (nt := 150) (rd := false) (c := lO (CS P17) 37 0) (fun (_ : Nat) (y : Ft) => bif longF y then some () else none) (fun i => mkSt [1, 3] [1] 150 [.ptr 1 0 0, iA (Int.ofNat i)] [lbY x])
  (fun _ => mkSt [2] [] 150 [bA false] []) (mkSt [1] [1] 150 [.ptr 1 0 0] [lbY x]) (.exit 0) (fun _ => .ret) x.2.1 (by simp) (by simp)
  (fun i y hy => by
   have hi := lt_len hy
   have hlt : decide (Int.ofNat i < Int.ofNat (x.2.1.map ftC.enc).length) = true := by rw [e_ft]; exact lt_of hi
   have hg := get_map ftC.enc hy
   have hr := (lx x r37a) i y.1 y.2.1 y.2.2
   rw [wrap_ix hi hl] at hr
   unfold longF
   cases h1 : longS y.2.1 with
   | true => exact P17_ok.rndR hr ⟨hlt, hg, by rw [show decide (Int.ofNat y.2.1.size > 40) = true from h1]; exact ⟨trivial, rfl⟩⟩
   | false =>
    cases h2 : longS y.2.2 with
    | true => exact P17_ok.rndR hr ⟨hlt, hg, by rw [show decide (Int.ofNat y.2.1.size > 40) = false from h1, show decide (Int.ofNat y.2.2.size > 40) = true from h2]; exact ⟨hg, trivial, rfl⟩⟩
    | false => exact P17_ok.rndN hr ⟨hlt, hg, by rw [show decide (Int.ofNat y.2.1.size > 40) = false from h1, show decide (Int.ofNat y.2.2.size > 40) = false from h2]; exact ⟨hg, trivial, rfl⟩⟩)
  (P17_ok.rndX ((lx x r37ax) x.2.1.length) ⟨by rw [e_ft]; exact lt_self _, trivial, rfl⟩)
 rw [srch_any] at h
 cases ha : x.2.1.any longF <;> rw [ha] at h <;> exact h
theorem loop37b (x : Lb) (hl : x.2.2.1.length < two63) : LoopRun (CS P17) 0 150 false (lO (CS P17) 37 2) (mkSt [1, 4] [1] 150 [.ptr 1 0 0, iA 0] [lbY x]) (bif x.2.2.1.any longC then .ret else .exit 2)
  (bif x.2.2.1.any longC then mkSt [2] [] 150 [bA false] [] else mkSt [1] [1] 150 [.ptr 1 0 0] [lbY x]) := by
 have h := LoopRun.find (C := CS P17) (p := 0) (nt := 150) (rd := false) (c := lO (CS P17) 37 2) (fun (_ : Nat) (y : Cb) => bif longC y then some () else none) (fun i => mkSt [1, 4] [1] 150 [.ptr 1 0 0, iA (Int.ofNat i)] [lbY x])
  (fun _ => mkSt [2] [] 150 [bA false] []) (mkSt [1] [1] 150 [.ptr 1 0 0] [lbY x]) (.exit 2) (fun _ => .ret) x.2.2.1 (by simp) (by simp)
  (fun i y hy => by
   have hi := lt_len hy
   have hlt : decide (Int.ofNat i < Int.ofNat (x.2.2.1.map cbC.enc).length) = true := by rw [e_cb]; exact lt_of hi
   have hg := get_map cbC.enc hy
   have hr := (lx x r37b) i y.1 y.2.1 y.2.2.1 y.2.2.2.1 (y.2.2.2.2.map intC.enc)
   rw [wrap_ix hi hl, e_in] at hr
   unfold longC
   cases h1 : longS y.1 with
   | true => exact P17_ok.rndR hr ⟨hlt, hg, by rw [show decide (Int.ofNat y.1.size > 40) = true from h1]; exact ⟨trivial, rfl⟩⟩
   | false =>
    cases h2 : longS y.2.1 with
    | true => exact P17_ok.rndR hr ⟨hlt, hg, by rw [show decide (Int.ofNat y.1.size > 40) = false from h1, show decide (Int.ofNat y.2.1.size > 40) = true from h2]; exact ⟨trivial, rfl⟩⟩
    | false =>
     cases h3 : longS y.2.2.1 with
     | true => exact P17_ok.rndR hr ⟨hlt, hg, by rw [show decide (Int.ofNat y.1.size > 40) = false from h1, show decide (Int.ofNat y.2.1.size > 40) = false from h2, show decide (Int.ofNat y.2.2.1.size > 40) = true from h3]; exact ⟨trivial, rfl⟩⟩
     | false =>
      cases h4 : decide (Int.ofNat y.2.2.2.2.length > 9) with
      | true => exact P17_ok.rndR hr ⟨hlt, hg, by rw [show decide (Int.ofNat y.1.size > 40) = false from h1, show decide (Int.ofNat y.2.1.size > 40) = false from h2, show decide (Int.ofNat y.2.2.1.size > 40) = false from h3, h4]; exact ⟨trivial, rfl⟩⟩
      | false => exact P17_ok.rndN hr ⟨hlt, hg, by rw [show decide (Int.ofNat y.1.size > 40) = false from h1, show decide (Int.ofNat y.2.1.size > 40) = false from h2, show decide (Int.ofNat y.2.2.1.size > 40) = false from h3, h4]; exact ⟨trivial, rfl⟩⟩)
  (P17_ok.rndX ((lx x r37bx) x.2.2.1.length) ⟨by rw [e_cb]; exact lt_self _, trivial, rfl⟩)
 rw [srch_any] at h
 cases ha : x.2.2.1.any longC <;> rw [ha] at h <;> exact h
theorem loop37d (x : Lb) (i : Nat) (y : Ts) (hl : y.2.2.length < two63) : LoopRun (CS P17) 0 150 false (lO (CS P17) 37 6) (mkSt [1, 6, 7, 8] [1, 7] 150 [.ptr 1 0 0, iA (Int.ofNat i), .ptr 7 1 0, iA 0] [lbY x, (false, .box [sA y.1, iA y.2.1, .rsl 1 (y.2.2.map sA) false])])
  (bif y.2.2.any longS then .ret else .exit 6) (bif y.2.2.any longS then mkSt [2] [] 150 [bA false] [] else mkSt [1, 6] [1] 150 [.ptr 1 0 0, iA (Int.ofNat i)] [lbY x]) := by
 have h := LoopRun.find (C := CS P17) (p := 0) (nt := 150) (rd := false) (c := lO (CS P17) 37 6) (fun (_ : Nat) (w : ByteArray) => bif longS w then some () else none) (fun j => mkSt [1, 6, 7, 8] [1, 7] 150 [.ptr 1 0 0, iA (Int.ofNat i), .ptr 7 1 0, iA (Int.ofNat j)] [lbY x, (false, .box [sA y.1, iA y.2.1, .rsl 1 (y.2.2.map sA) false])])
  (fun _ => mkSt [2] [] 150 [bA false] []) (mkSt [1, 6] [1] 150 [.ptr 1 0 0, iA (Int.ofNat i)] [lbY x]) (.exit 6) (fun _ => .ret) y.2.2 (by simp) (by simp)
  (fun j w hw => by
   have hj := lt_len hw
   have hlt : decide (Int.ofNat j < Int.ofNat (y.2.2.map strC.enc).length) = true := by rw [e_st]; exact lt_of hj
   have hg := get_map strC.enc hw
   have hr := (lx x r37d) i j y.1 y.2.1 (y.2.2.map strC.enc) w
   rw [wrap_ix hj hl] at hr
   cases h1 : longS w with
   | true => exact P17_ok.rndR hr ⟨hlt, hg, by rw [show decide (Int.ofNat w.size > 40) = true from h1]; exact ⟨trivial, rfl⟩⟩
   | false => exact P17_ok.rndN hr ⟨hlt, hg, by rw [show decide (Int.ofNat w.size > 40) = false from h1]; exact ⟨trivial, rfl⟩⟩)
  (P17_ok.rndX ((lx x r37dx) i y.2.2.length y.1 y.2.1 (y.2.2.map strC.enc)) ⟨by rw [e_st]; exact lt_self _, trivial, rfl⟩)
 rw [srch_any] at h
 cases ha : y.2.2.any longS <;> rw [ha] at h <;> exact h
theorem loop37c (x : Lb) (hl : x.2.2.2.1.length < two63) : LoopRun (CS P17) 0 150 false (lO (CS P17) 37 4) (mkSt [1, 6] [1] 150 [.ptr 1 0 0, iA 0] [lbY x]) (bif x.2.2.2.1.any longT then .ret else .exit 4)
  (bif x.2.2.2.1.any longT then mkSt [2] [] 150 [bA false] [] else mkSt [] [] 150 [] []) := by
 have h := LoopRun.find (C := CS P17) (p := 0) (nt := 150) (rd := false) (c := lO (CS P17) 37 4) (fun (_ : Nat) (y : Ts) => bif longT y then some () else none) (fun i => mkSt [1, 6] [1] 150 [.ptr 1 0 0, iA (Int.ofNat i)] [lbY x])
  (fun _ => mkSt [2] [] 150 [bA false] []) (mkSt [] [] 150 [] []) (.exit 4) (fun _ => .ret) x.2.2.2.1 (by simp) (by simp)
  (fun i y hy => by
   have hi := lt_len hy
   have hlt : decide (Int.ofNat i < Int.ofNat (x.2.2.2.1.map tsC.enc).length) = true := by rw [e_ts]; exact lt_of hi
   have hg := get_map tsC.enc hy
   have hr := (lx x r37c) i y.1 y.2.1 (y.2.2.map strC.enc)
   have hn := (lx x r37cn) i y.1 y.2.1 (y.2.2.map strC.enc)
   rw [wrap_ix hi hl, e_st] at hr
   rw [e_st] at hn
   unfold longT
   cases h1 : longS y.1 with
   | true => exact P17_ok.rndR hn ⟨hlt, hg, by rw [show decide (Int.ofNat y.1.size > 40) = true from h1]; exact ⟨trivial, rfl⟩⟩
   | false =>
    cases h2 : lenU y.2.2.length with
    | true => exact P17_ok.rndR hn ⟨hlt, hg, by rw [show decide (Int.ofNat y.1.size > 40) = false from h1]; exact okLenF h2 ⟨trivial, rfl⟩⟩
    | false =>
     have h17 := lenU_le h2
     have hd := loop37d x i y (Nat.lt_of_le_of_lt h17 (by decide))
     cases h3 : y.2.2.any longS with
     | true =>
      rw [h3] at hd
      exact P17_ok.rndR hn ⟨hlt, hg, by rw [show decide (Int.ofNat y.1.size > 40) = false from h1]; exact okLen h2 ⟨⟨trivial, trivial, hd.says⟩, trivial, rfl⟩⟩
     | false =>
      rw [h3] at hd
      exact P17_ok.rndN hr ⟨hlt, hg, by rw [show decide (Int.ofNat y.1.size > 40) = false from h1]; exact okLen h2 ⟨⟨trivial, trivial, hd.says⟩, trivial, rfl⟩⟩)
  (P17_ok.rndX ((lx x r37cx) x.2.2.2.1.length) ⟨by rw [e_ts]; exact lt_self _, trivial, rfl⟩)
 rw [srch_any] at h
 cases ha : x.2.2.2.1.any longT <;> rw [ha] at h <;> exact h
theorem h37 : Holds 37 shortLG := holds1 fun x r hr => by
 simp only [Option.some.injEq] at hr; subst hr
 have f13 : shortPG [slA ptC 7 x.1] = some (bA (shortP x.1)) := sp1_at (A := ptsC) (F := fun l => some (bA (shortP l))) x.1
 unfold shortL
 cases hs : shortP x.1 with
 | false =>
  rw [hs] at f13
  exact P17_ok.tr ((lx x t37s)) ⟨⟨rfl, f13⟩, rfl⟩
 | true =>
  rw [hs] at f13
  have lf : ∀ {b}, lenC x.2.1.length = b → lenC (x.2.1.map ftC.enc).length = b := fun h => by rw [List.length_map]; exact h
  have lc : ∀ {b}, lenC x.2.2.1.length = b → lenC (x.2.2.1.map cbC.enc).length = b := fun h => by rw [List.length_map]; exact h
  have lt : ∀ {b}, lenC x.2.2.2.1.length = b → lenC (x.2.2.2.1.map tsC.enc).length = b := fun h => by rw [List.length_map]; exact h
  have tk := (lx x t37k)
  have ta := (lx x t37a)
  have tb := (lx x t37b)
  have tc := (lx x t37c)
  cases h1 : lenC x.2.1.length with
  | true => exact P17_ok.tr tk ⟨⟨rfl, f13⟩, okLenF (lf h1) rfl⟩
  | false =>
   cases h2 : lenC x.2.2.1.length with
   | true => exact P17_ok.tr tk ⟨⟨rfl, f13⟩, okLen (lf h1) (okLenF (lc h2) rfl)⟩
   | false =>
    cases h3 : lenC x.2.2.2.1.length with
    | true => exact P17_ok.tr tk ⟨⟨rfl, f13⟩, okLen (lf h1) (okLen (lc h2) (okLenF (lt h3) rfl))⟩
    | false =>
     have la := loop37a x (Nat.lt_of_le_of_lt (lenC_le h1) (by decide))
     have lb := loop37b x (Nat.lt_of_le_of_lt (lenC_le h2) (by decide))
     have ld := loop37c x (Nat.lt_of_le_of_lt (lenC_le h3) (by decide))
     cases k1 : x.2.1.any longF with
     | true =>
      rw [k1] at la
      exact P17_ok.tr ta ⟨⟨rfl, f13⟩, okLen (lf h1) (okLen (lc h2) (okLen (lt h3) ⟨⟨trivial, trivial, la.says⟩, rfl⟩))⟩
     | false =>
      rw [k1] at la
      cases k2 : x.2.2.1.any longC with
      | true =>
       rw [k2] at lb
       exact P17_ok.tr tb ⟨⟨rfl, f13⟩, okLen (lf h1) (okLen (lc h2) (okLen (lt h3) ⟨⟨trivial, trivial, la.says⟩, ⟨trivial, trivial, lb.says⟩, rfl⟩))⟩
      | false =>
       rw [k2] at lb
       cases k3 : x.2.2.2.1.any longT with
       | true =>
        rw [k3] at ld
        exact P17_ok.tr tc ⟨⟨rfl, f13⟩, okLen (lf h1) (okLen (lc h2) (okLen (lt h3) ⟨⟨trivial, trivial, la.says⟩, ⟨trivial, trivial, lb.says⟩, ⟨trivial, trivial, ld.says⟩, rfl⟩))⟩
       | false =>
        rw [k3] at ld
        exact P17_ok.tr tk ⟨⟨rfl, f13⟩, okLen (lf h1) (okLen (lc h2) (okLen (lt h3) ⟨⟨trivial, trivial, la.says⟩, ⟨trivial, trivial, lb.says⟩, ⟨trivial, trivial, ld.says⟩, rfl⟩))⟩
def Q1 : Specs := (P17.set 37 shortLG)
theorem Q1_ok : Ok Q1 := (P17_ok.set h37)
end Go.Vm.S3

namespace Go.Vm.S3
open Go.Proofs Go.RowKit
set_option maxRecDepth 100000
variable (ps fs cs ts : List AV) (d u : Int)
theorem r44n (es : List AV) (s : ByteArray) (i : Nat) (a b c : ByteArray) (n : Int) (vs : List AV) : Lr Q1 44 20 0 [0, 1, 5] [] [0, 1, 5] [] [4] [] [.rsl 5 es false, sA s, iA (Int.ofNat i)] [] [.as 9 true, .chk [.agg [sA a, sA b, sA c, iA n, .rsl 1 vs false]], .as 18 false] [.t i es.length, .g es i, .b (a.toList == s.toList)] .nrm [.rsl 5 es false, sA s, iA (IntKind.i64.wrap (Int.ofNat i + 1))] [] := kN (by kernel_rfl)
theorem r44y (es : List AV) (s : ByteArray) (i : Nat) (a b c : ByteArray) (n : Int) (vs : List AV) : Lr Q1 44 20 0 [0, 1, 5] [] [0, 1, 5] [] [4] [] [.rsl 5 es false, sA s, iA (Int.ofNat i)] [] [.as 9 true, .chk [.agg [sA a, sA b, sA c, iA n, .rsl 1 vs false]], .as 18 true] [.t i es.length, .g es i, .b (a.toList == s.toList)] .ret [iA (Int.ofNat i)] [] := kN (by kernel_rfl)
theorem r44x (es : List AV) (s : ByteArray) (i : Nat) : Lr Q1 44 20 0 [0, 1, 5] [] [0, 1, 5] [] [] [] [.rsl 5 es false, sA s, iA (Int.ofNat i)] [] [.as 9 false] [.t i es.length] (.exit 0) [] [] := kN (by kernel_rfl)
theorem t44r (es : List AV) (s : ByteArray) (n : Int) : L Q1 44 [.rsl 5 es false, sA s] [.loop 0 [0, 1, 5] [] [4] [] .ret [iA n] []] [.l 20 44 0 20 [.rsl 5 es false, sA s, iA 0] []] (iA n) := kR (by kernel_rfl)
theorem t44e (es : List AV) (s : ByteArray) : L Q1 44 [.rsl 5 es false, sA s] [.loop 0 [0, 1, 5] [] [] [] (.exit 0) [] []] [.l 20 44 0 20 [.rsl 5 es false, sA s, iA 0] []] (iA (-1)) := kR (by kernel_rfl)
theorem r55n (es : List AV) (s : ByteArray) (i : Nat) (a : ByteArray) (n : Int) (ws : List AV) : Lr Q1 55 20 0 [0, 1, 5] [] [0, 1, 5] [] [4] [] [.rsl 3 es false, sA s, iA (Int.ofNat i)] [] [.as 9 true, .chk [.agg [sA a, iA n, .rsl 1 ws false]], .as 18 false] [.t i es.length, .g es i, .b (a.toList == s.toList)] .nrm [.rsl 3 es false, sA s, iA (IntKind.i64.wrap (Int.ofNat i + 1))] [] := kN (by kernel_rfl)
theorem r55y (es : List AV) (s : ByteArray) (i : Nat) (a : ByteArray) (n : Int) (ws : List AV) : Lr Q1 55 20 0 [0, 1, 5] [] [0, 1, 5] [] [4] [] [.rsl 3 es false, sA s, iA (Int.ofNat i)] [] [.as 9 true, .chk [.agg [sA a, iA n, .rsl 1 ws false]], .as 18 true] [.t i es.length, .g es i, .b (a.toList == s.toList)] .ret [iA (Int.ofNat i)] [] := kN (by kernel_rfl)
theorem r55x (es : List AV) (s : ByteArray) (i : Nat) : Lr Q1 55 20 0 [0, 1, 5] [] [0, 1, 5] [] [] [] [.rsl 3 es false, sA s, iA (Int.ofNat i)] [] [.as 9 false] [.t i es.length] (.exit 0) [] [] := kN (by kernel_rfl)
theorem t55r (es : List AV) (s : ByteArray) (n : Int) : L Q1 55 [.rsl 3 es false, sA s] [.loop 0 [0, 1, 5] [] [4] [] .ret [iA n] []] [.l 20 55 0 20 [.rsl 3 es false, sA s, iA 0] []] (iA n) := kR (by kernel_rfl)
theorem t55e (es : List AV) (s : ByteArray) : L Q1 55 [.rsl 3 es false, sA s] [.loop 0 [0, 1, 5] [] [] [] (.exit 0) [] []] [.l 20 55 0 20 [.rsl 3 es false, sA s, iA 0] []] (iA (-1)) := kR (by kernel_rfl)
theorem t43 (n m : Int) : L Q1 43 [iA n] [.sp [iA n, iA 1, iA 100000] (iA m)] [.f 89] (iA m) := kR (by kernel_rfl)
theorem t112 (n m : Int) : L Q1 112 [iA n] [.sp [iA n, iA 1, iA 100000] (iA m)] [.f 131] (iA m) := kR (by kernel_rfl)
abbrev cQ2_5 (fs : List AV) (s w : ByteArray) (day : Int) (n0 i : Nat) (n : Int) (a b : ByteArray) (h9 : List Hn) (a9 : List An) (x9 : Ex) (v9 : List AV) (e9 : List (Bool × Blk)) : Prop := Lr Q1 113 31 0 [1, 2, 7, 11, 12, 13] [] [1, 2, 7, 11, 12, 13] [] [7] [] [sA s, iA day, sA w, .rsl 3 fs false, iA (Int.ofNat n0), iA (Int.ofNat i)] [] ([.as 14 true, .chk [.agg [iA n, sA a, sA b]]] ++ h9) ([.t i n0, .g fs i] ++ a9) x9 v9 e9
theorem r113n (fs : List AV) (s w : ByteArray) (day : Int) (n0 i : Nat) (n : Int) (a b : ByteArray) : cQ2_5 fs s w day n0 i n a b [.as 21 false] [.b (a.toList == s.toList)] .nrm [sA s, iA day, sA w, .rsl 3 fs false, iA (Int.ofNat n0), iA (IntKind.i64.wrap (Int.ofNat i + 1))] [] := kN (by kernel_rfl)
theorem r113m (fs : List AV) (s w : ByteArray) (day : Int) (n0 i : Nat) (n : Int) (a b : ByteArray) : cQ2_5 fs s w day n0 i n a b [.as 21 true, .as 26 false] [.b (a.toList == s.toList), .b (decide (n ≤ day))] .nrm [sA s, iA day, sA w, .rsl 3 fs false, iA (Int.ofNat n0), iA (IntKind.i64.wrap (Int.ofNat i + 1))] [] := kN (by kernel_rfl)
theorem r113y (fs : List AV) (s w : ByteArray) (day : Int) (n0 i : Nat) (n : Int) (a b : ByteArray) : cQ2_5 fs s w day n0 i n a b [.as 21 true, .as 26 true] [.b (a.toList == s.toList), .b (decide (n ≤ day))] .nrm [sA s, iA day, sA b, .rsl 3 fs false, iA (Int.ofNat n0), iA (IntKind.i64.wrap (Int.ofNat i + 1))] [] := kN (by kernel_rfl)
theorem r113x (fs : List AV) (s w : ByteArray) (day : Int) (n0 i : Nat) : Lr Q1 113 31 0 [1, 2, 7, 11, 12, 13] [] [1, 2, 7, 11, 12, 13] [] [7] [] [sA s, iA day, sA w, .rsl 3 fs false, iA (Int.ofNat n0), iA (Int.ofNat i)] [] [.as 14 false] [.t i n0] (.exit 0) [sA w] [] := kN (by kernel_rfl)
theorem t113 (s w : ByteArray) (day : Int) : L Q1 113 [lbE ps fs cs ts d u, sA s, iA day] [.loop 0 [1, 2, 7, 11, 12, 13] [] [7] [] (.exit 0) [sA w] []] [.l 31 113 0 31 [sA s, iA day, sA (ByteArray.mk #[]), .rsl 3 fs false, iA (Int.ofNat fs.length), iA 0] []] (sA w) := kR (by kernel_rfl)
theorem find_ix {α : Type} (nm : α → ByteArray) (s : ByteArray) : ∀ (l : List α) (i : Nat), srch (fun i (x : α) => bif seq (nm x) s then some (Int.ofNat i) else none) i l = (findIx s (l.map nm) i).map Int.ofNat
 | [], i => rfl
 | x :: r, i => by
  rw [List.map_cons, findIx]
  unfold srch
  have e : bseq s (nm x) = seq (nm x) s := by
   unfold bseq seq
   rw [Bool.eq_iff_iff]; simp only [beq_iff_eq]; exact ⟨fun h => h.symm, fun h => h.symm⟩
  rw [e]
  cases seq (nm x) s with
  | true => rfl
  | false => exact find_ix nm s r (i + 1)
abbrev nmc (l : List Cb) : List ByteArray := l.map fun x => x.1
abbrev nmt (l : List Ts) : List ByteArray := l.map fun x => x.1
def findC (l : List Cb) (s : ByteArray) : Int := oI (findIx s (nmc l) 0)
def findT (l : List Ts) (s : ByteArray) : Int := oI (findIx s (nmt l) 0)
def findCG : List AV → Option AV := sp2 cbsC strC fun l s => bif Nat.blt l.length two63 then some (iA (findC l s)) else none
def findTG : List AV → Option AV := sp2 tssC strC fun l s => bif Nat.blt l.length two63 then some (iA (findT l s)) else none
theorem h44 : Holds 44 findCG := holds2 fun l s r hr => by
 cases hb : Nat.blt l.length two63 with
 | false => simp [hb] at hr
 | true =>
  simp only [hb, cond_true, Option.some.injEq] at hr; subst hr
  have hl : l.length < two63 := Nat.le_of_ble_eq_true hb
  have e := e_cb l
  have h := LoopRun.find (C := CS Q1) (p := 0) (nt := 20) (rd := false) (c := lO (CS Q1) 44 0) (fun i (x : Cb) => bif seq x.1 s then some (Int.ofNat i) else none) (fun i => mkSt [0, 1, 5] [] 20 [.rsl 5 (l.map cbC.enc) false, sA s, iA (Int.ofNat i)] [])
   (fun t => mkSt [4] [] 20 [iA t] []) (mkSt [] [] 20 [] []) (.exit 0) (fun _ => .ret) l (by simp) (by simp)
   (fun i x hx => by
    have hi := lt_len hx
    have hlt : decide (Int.ofNat i < Int.ofNat (l.map cbC.enc).length) = true := by rw [e]; exact lt_of hi
    have hr := r44n (l.map cbC.enc) s i x.1 x.2.1 x.2.2.1 x.2.2.2.1 (x.2.2.2.2.map intC.enc)
    rw [wrap_ix hi hl] at hr
    cases h : seq x.1 s with
    | true => exact Q1_ok.rndR (r44y (l.map cbC.enc) s i x.1 x.2.1 x.2.2.1 x.2.2.2.1 (x.2.2.2.2.map intC.enc)) ⟨hlt, get_map _ hx, h, trivial, rfl⟩
    | false => exact Q1_ok.rndN hr ⟨hlt, get_map _ hx, h, trivial, rfl⟩)
   (Q1_ok.rndX (r44x (l.map cbC.enc) s l.length) ⟨by rw [e]; exact lt_self _, trivial, rfl⟩)
  unfold findC
  rw [find_ix fun x : Cb => x.1] at h
  cases hq : findIx s (nmc l) 0 with
  | some t => rw [hq] at h; exact Q1_ok.tr (t44r (l.map cbC.enc) s (Int.ofNat t)) ⟨⟨trivial, trivial, h.says⟩, rfl⟩
  | none => rw [hq] at h; exact Q1_ok.tr (t44e (l.map cbC.enc) s) ⟨⟨trivial, trivial, h.says⟩, rfl⟩
theorem h55 : Holds 55 findTG := holds2 fun l s r hr => by
 cases hb : Nat.blt l.length two63 with
 | false => simp [hb] at hr
 | true =>
  simp only [hb, cond_true, Option.some.injEq] at hr; subst hr
  have hl : l.length < two63 := Nat.le_of_ble_eq_true hb
  have e := e_ts l
  have h := LoopRun.find (C := CS Q1) (p := 0) (nt := 20) (rd := false) (c := lO (CS Q1) 55 0) (fun i (x : Ts) => bif seq x.1 s then some (Int.ofNat i) else none) (fun i => mkSt [0, 1, 5] [] 20 [.rsl 3 (l.map tsC.enc) false, sA s, iA (Int.ofNat i)] [])
   (fun t => mkSt [4] [] 20 [iA t] []) (mkSt [] [] 20 [] []) (.exit 0) (fun _ => .ret) l (by simp) (by simp)
   (fun i x hx => by
    have hi := lt_len hx
    have hlt : decide (Int.ofNat i < Int.ofNat (l.map tsC.enc).length) = true := by rw [e]; exact lt_of hi
    have hr := r55n (l.map tsC.enc) s i x.1 x.2.1 (x.2.2.map strC.enc)
    rw [wrap_ix hi hl] at hr
    cases h : seq x.1 s with
    | true => exact Q1_ok.rndR (r55y (l.map tsC.enc) s i x.1 x.2.1 (x.2.2.map strC.enc)) ⟨hlt, get_map _ hx, h, trivial, rfl⟩
    | false => exact Q1_ok.rndN hr ⟨hlt, get_map _ hx, h, trivial, rfl⟩)
   (Q1_ok.rndX (r55x (l.map tsC.enc) s l.length) ⟨by rw [e]; exact lt_self _, trivial, rfl⟩)
  unfold findT
  rw [find_ix fun x : Ts => x.1] at h
  cases hq : findIx s (nmt l) 0 with
  | some t => rw [hq] at h; exact Q1_ok.tr (t55r (l.map tsC.enc) s (Int.ofNat t)) ⟨⟨trivial, trivial, h.says⟩, rfl⟩
  | none => rw [hq] at h; exact Q1_ok.tr (t55e (l.map tsC.enc) s) ⟨⟨trivial, trivial, h.says⟩, rfl⟩
def dayM (n : Int) : Int := withinM n 1 100000
def dayG : List AV → Option AV := sp1 intC fun n => some (iA (dayM n))
theorem spWithinI (n a b : Int) : withinG [iA n, iA a, iA b] = some (iA (withinM n a b)) := sp3_at (A := intC) (B := intC) (D := intC) (F := fun n a b => some (iA (withinM n a b))) n a b
theorem h43 : Holds 43 dayG := holds1 fun n r hr => by
 simp only [Option.some.injEq] at hr; subst hr
 exact Q1_ok.tr (t43 n (dayM n)) ⟨⟨rfl, spWithinI n 1 100000⟩, rfl⟩
theorem h112 : Holds 112 dayG := holds1 fun n r hr => by
 simp only [Option.some.injEq] at hr; subst hr
 exact Q1_ok.tr (t112 n (dayM n)) ⟨⟨rfl, spWithinI n 1 100000⟩, rfl⟩
def fitS (s : ByteArray) (day : Int) (x : Ft) : Bool := bif seq x.2.1 s then decide (x.1 ≤ day) else false
def specM (l : List Ft) (s : ByteArray) (day : Int) : ByteArray := l.foldl (fun w x => bif fitS s day x then x.2.2 else w) ⟨#[]⟩
def specG : List AV → Option AV := sp3 labC strC intC fun x s day => bif Nat.blt x.2.1.length two63 then some (sA (specM x.2.1 s day)) else none
theorem h113 : Holds 113 specG := holds3 fun x s day r hr => by
 cases hb : Nat.blt x.2.1.length two63 with
 | false => simp [hb] at hr
 | true =>
  simp only [hb, cond_true, Option.some.injEq] at hr; subst hr
  have hl : x.2.1.length < two63 := Nat.le_of_ble_eq_true hb
  have h := LoopRun.list (C := CS Q1) (p := 0) (nt := 31) (rd := false) (c := lO (CS Q1) 113 0) (step := fun _ (y : Ft) (w : ByteArray) => (.inl (bif fitS s day y then y.2.2 else w) : ByteArray ⊕ ByteArray)) (fin := id)
   (enc := fun i w => mkSt [1, 2, 7, 11, 12, 13] [] 31 [sA s, iA day, sA w, .rsl 3 (x.2.1.map ftC.enc) false, iA (Int.ofNat (x.2.1.map ftC.enc).length), iA (Int.ofNat i)] [])
   (ex := fun _ => .exit 0) (out := fun w => mkSt [7] [] 31 [sA w] []) (l := x.2.1) (fun _ _ => True)
   (fun i y w hy _ => by
    have hi := lt_len hy
    have hlt : decide (Int.ofNat i < Int.ofNat (x.2.1.map ftC.enc).length) = true := by rw [e_ft]; exact lt_of hi
    have hg := get_map ftC.enc hy
    refine ⟨?_, trivial⟩
    unfold fitS
    cases h1 : seq y.2.1 s with
    | false =>
     have hr := r113n (x.2.1.map ftC.enc) s w day (x.2.1.map ftC.enc).length i y.1 y.2.1 y.2.2
     rw [wrap_ix hi hl] at hr
     exact Q1_ok.rndN hr ⟨hlt, hg, h1, trivial, rfl⟩
    | true =>
     cases h2 : decide (y.1 ≤ day) with
     | false =>
      have hr := r113m (x.2.1.map ftC.enc) s w day (x.2.1.map ftC.enc).length i y.1 y.2.1 y.2.2
      rw [wrap_ix hi hl] at hr
      exact Q1_ok.rndN hr ⟨hlt, hg, h1, h2, trivial, rfl⟩
     | true =>
      have hr := r113y (x.2.1.map ftC.enc) s w day (x.2.1.map ftC.enc).length i y.1 y.2.1 y.2.2
      rw [wrap_ix hi hl] at hr
      exact Q1_ok.rndN hr ⟨hlt, hg, h1, h2, trivial, rfl⟩)
   (fun w _ => ⟨Q1_ok.rndX (r113x (x.2.1.map ftC.enc) s w day (x.2.1.map ftC.enc).length x.2.1.length) ⟨by rw [e_ft]; exact lt_self _, trivial, rfl⟩, by simp⟩)
   x.2.1 [] ⟨#[]⟩ rfl trivial
  rw [show ([] : List Ft).length = 0 from rfl, goL_all (fun (w : ByteArray) (y : Ft) => bif fitS s day y then y.2.2 else w) id] at h
  exact Q1_ok.tr ((lx x t113) s (specM x.2.1 s day) day) ⟨⟨trivial, trivial, h.says⟩, rfl⟩
def Q2 : Specs := (((((Q1.set 44 findCG).set 55 findTG).set 43 dayG).set 112 dayG).set 113 specG)
theorem Q2_ok : Ok Q2 := (((((Q1_ok.set h44).set h55).set h43).set h112).set h113)
end Go.Vm.S3
