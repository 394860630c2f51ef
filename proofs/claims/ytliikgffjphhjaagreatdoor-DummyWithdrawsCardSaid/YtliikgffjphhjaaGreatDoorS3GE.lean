/- Plain laws: valid parts. -/
import Derived.Test.YtliikgffjphhjaaGreatDoorS3GD
import Derived.Test.YtliikgffjphhjaaGreatDoorS3GB
namespace Go.Vm.S3
open Go.Proofs Go.RowKit
theorem srch_findIxP (s : ByteArray) : ∀ (l : List Pt) (i : Nat), srch (fun i (x : Pt) => bif seq x.1 s then some (Int.ofNat i) else none) i l = (findIx s (l.map fun x => x.1) i).map Int.ofNat
 | [], _ => rfl
 | x :: l, i => by
  unfold srch
  rw [List.map_cons, findIx, bseq_comm]
  cases h : seq x.1 s with
  | true => rfl
  | false => simp only [cond_false]; exact srch_findIxP s l (i + 1)
abbrev nms (l : List Pt) : List ByteArray := l.map fun x => x.1
theorem findP_ix (l : List Pt) (s : ByteArray) : findP l s = ((findIx s (nms l) 0).map Int.ofNat).getD (-1) := by unfold findP; rw [srch_findIxP]
theorem hasP_ix (l : List Pt) (s : ByteArray) : hasP l s = (findIx s (nms l) 0).isSome := by
 unfold hasP
 rw [findP_ix]
 cases findIx s (nms l) 0 with
 | none => rfl
 | some j => simp
theorem parts_at {l : List Pt} (h : partsM l = 0) : manyM l.length 16 = 0 ∧ ∀ i p, l[i]? = some p → partM (l.take i) p = 0 := by
 unfold partsM at h
 cases hm : manyM l.length 16 != 0 with
 | true => rw [hm, cond_true] at h; rw [h] at hm; cases hm
 | false =>
  rw [hm, cond_false] at h
  refine ⟨by simpa using hm, fun i p hp => ?_⟩
  unfold srchE at h
  cases hq : srch (fun i p => bif partM (l.take i) p != 0 then some (partM (l.take i) p) else none) 0 l with
  | some t => rw [hq] at h; exact absurd h (srch_some_ne (F := fun i p => partM (l.take i) p) l 0 hq)
  | none =>
   have h1 := srch_all_none l 0 hq i p hp
   rw [Nat.zero_add] at h1
   cases h0 : partM (l.take i) p != 0 with
   | true => rw [h0] at h1; cases h1
   | false => simpa using h0
theorem within_zero {n lo hi : Int} : withinM n lo hi = 0 ↔ lo ≤ n ∧ n ≤ hi := by
 unfold withinM whenM
 constructor
 ·intro h
  cases hb : (decide (n < lo) || decide (n > hi)) with
  | true => rw [hb] at h; cases h
  | false =>
   rw [Bool.or_eq_false_iff] at hb
   have h1 := of_decide_eq_false hb.1
   have h2 := of_decide_eq_false hb.2
   omega
 ·intro ⟨h1, h2⟩
  rw [decide_eq_false (by omega), decide_eq_false (by omega)]; rfl
structure GoodP (l : List Pt) (i : Nat) (p : Pt) : Prop where
 nm : isNameM p.1 = true
 fresh : findIx p.1 (nms (l.take i)) 0 = none
 root : i = 0 → nilB p.2.1 = true
 up : 0 < i → (findIx p.2.1 (nms (l.take i)) 0).isSome = true
 mass : 1 ≤ p.2.2.1 ∧ p.2.2.1 ≤ 100000
 jx : -10000 ≤ p.2.2.2.1 ∧ p.2.2.2.1 ≤ 10000
 jy : -10000 ≤ p.2.2.2.2.1 ∧ p.2.2.2.2.1 ≤ 10000
 jz : -10000 ≤ p.2.2.2.2.2.1 ∧ p.2.2.2.2.2.1 ≤ 10000
theorem goodP {l : List Pt} (h : partsM l = 0) {i : Nat} {p : Pt} (hp : l[i]? = some p) : GoodP l i p := by
 have h1 := (parts_at h).2 i p hp
 have hi := lt_len hp
 have hlen : (l.take i).length = i := by rw [List.length_take]; omega
 unfold partM partE at h1
 rw [hlen] at h1
 obtain ⟨a1, h1⟩ := (firstZ _ _).1 h1
 obtain ⟨a2, h1⟩ := (firstZ _ _).1 h1
 obtain ⟨a3, h1⟩ := (firstZ _ _).1 h1
 obtain ⟨a4, h1⟩ := (firstZ _ _).1 h1
 obtain ⟨a5, h1⟩ := (firstZ _ _).1 h1
 obtain ⟨a6, h1⟩ := (firstZ _ _).1 h1
 unfold vecM at a6
 obtain ⟨v1, a6⟩ := (firstZ _ _).1 a6
 obtain ⟨v2, a6⟩ := (firstZ _ _).1 a6
 obtain ⟨v3, a6⟩ := (firstZ _ _).1 a6
 have w : IntKind.i64.wrap (0 - 10000) = -10000 := by decide
 rw [w] at v1 v2 v3
 have a2 := whenZ (by decide) a2
 have a3 := whenZ (by decide) a3
 have a4 := whenZ (by decide) a4
 rw [hasP_ix] at a2
 refine ⟨?_, ?_, ?_, ?_, within_zero.1 a5, within_zero.1 v1, within_zero.1 v2, within_zero.1 v3⟩
 ·have := whenZ (by decide) (show whenM (!isNameM p.1) 8 = 0 from a1)
  simpa using this
 ·cases hf : findIx p.1 (nms (l.take i)) 0 with
  | none => rfl
  | some j => rw [hf] at a2; cases a2
 ·intro h0
  subst h0
  simpa using a3
 ·intro h0
  have hz : (Int.ofNat i == 0) = false := by simp only [beq_eq_false_iff_ne, ne_eq, Int.ofNat_eq_natCast]; omega
  rw [hz, hasP_ix] at a4
  simpa using a4
end Go.Vm.S3

namespace Go.Vm.S3
open Go.Proofs Go.RowKit
theorem find_lt {l : List Pt} {s : ByteArray} {k : Nat} (h : findIx s (nms l) 0 = some k) : k < l.length := by
 have := (findIx_bound h).2
 rw [Nat.zero_add, List.length_map] at this; exact this
def oI (o : Option Nat) : Int := (o.map Int.ofNat).getD (-1)
def atP (l : List Pt) (k : Nat) : Pt := (l[k]?).getD pt0
theorem atP_get {l : List Pt} {k : Nat} (h : k < l.length) : l[k]? = some (atP l k) := by
 unfold atP
 rw [List.getElem?_eq_getElem h]; rfl
end Go.Vm.S3

namespace Go.Vm.S3
open Go.Proofs Go.RowKit
set_option maxRecDepth 100000
theorem r127 (es ks vs ks2 vs2 : List AV) (n i : Nat) (a b : ByteArray) (m x y z : Int) (cs : List AV) : Lr P6 127 20 0 [3, 7, 8, 9] [6] [3, 7, 8, 9] [6] [3] [6] [.mp 6 0, .rsl 7 es false, iA (Int.ofNat n), iA (Int.ofNat i)] [(false, .map ks vs)] [.as 10 true, .chk [.agg [sA a, sA b, iA m, iA x, iA y, iA z, .rsl 2 cs false]], .mu ks2 vs2] [.t i n, .g es i, .k ((mapUpd (CS P6) 196 ks vs (sA a) (iA (Int.ofNat i))) = (some (ks2, vs2)))] .nrm [.mp 6 0, .rsl 7 es false, iA (Int.ofNat n), iA (IntKind.i64.wrap (Int.ofNat i + 1))] [(false, .map ks2 vs2)] := kN (by kernel_rfl)
theorem r127x (es ks vs : List AV) (n i : Nat) : Lr P6 127 20 0 [3, 7, 8, 9] [6] [3, 7, 8, 9] [6] [3] [6] [.mp 6 0, .rsl 7 es false, iA (Int.ofNat n), iA (Int.ofNat i)] [(false, .map ks vs)] [.as 10 false] [.t i n] (.exit 0) [.mp 6 0] [(false, .map ks vs)] := kN (by kernel_rfl)
theorem t127 (es ks vs : List AV) : L P6 127 [.rsl 7 es false] [.loop 0 [3, 7, 8, 9] [6] [3] [6] (.exit 0) [.mp 6 0] [(false, .map ks vs)], .fz 3] [.l 20 127 0 20 [.mp 6 0, .rsl 7 es false, iA (Int.ofNat es.length), iA 0] [(false, .map [] [])], .p (ClosedL ks ∧ ClosedL vs)] (.rmp ks vs) := kR (by kernel_rfl)
def byG : List AV → Option AV := sp1 ptsC fun l => bif decide (partsM l = 0) then some (.rmp ((nms l).map sA) (idxA l.length)) else none
theorem parts_len {l : List Pt} (h : partsM l = 0) : 1 ≤ l.length ∧ l.length ≤ 16 := by
 have h1 := (parts_at h).1
 unfold manyM at h1
 obtain ⟨a, h1⟩ := (firstZ _ _).1 h1
 obtain ⟨b, _⟩ := (firstZ _ _).1 h1
 have a := whenZ (by decide) a
 have b := whenZ (by decide) b
 simp only [beq_eq_false_iff_ne, ne_eq, Int.ofNat_eq_natCast, gt_iff_lt, decide_eq_false_iff_not] at a b
 omega
theorem h127 : Holds 127 byG := holds1 fun l r hr => by
 cases hb : decide (partsM l = 0) with
 | false => simp [hb] at hr
 | true =>
  simp only [hb, cond_true, Option.some.injEq] at hr; subst hr
  have h0 : partsM l = 0 := of_decide_eq_true hb
  have hlen := parts_len h0
  have hl : l.length < two63 := Nat.lt_of_le_of_lt hlen.2 (by decide)
  have e := e_pt l
  have h := LoopRun.find (C := CS P6) (p := 0) (nt := 20) (rd := false) (c := lO (CS P6) 127 0) (fun _ (_ : Pt) => (none : Option Unit))
   (fun i => mkSt [3, 7, 8, 9] [6] 20 [.mp 6 0, .rsl 7 (l.map ptC.enc) false, iA (Int.ofNat l.length), iA (Int.ofNat i)] [(false, .map ((nms (l.take i)).map sA) (idxA i))])
   (fun _ => mkSt [] [] 0 [] []) (mkSt [3] [6] 20 [.mp 6 0] [(false, .map ((nms l).map sA) (idxA l.length))]) (.exit 0) (fun _ => .ret) l (by simp) (by simp)
   (fun i x hx => by
    have hi := lt_len hx
    have u : mapUpd (CS P6) 196 ((nms (l.take i)).map sA) (idxA i) (AV.v (.string x.1)) (AV.v (.int .i64 (Int.ofNat i))) = some ((nms (l.take (i + 1))).map sA, idxA (i + 1)) := by
     refine ((map196 P6).add (vs := idxA i) (v := iA (Int.ofNat i)) (goodP h0 hx).fresh).trans ?_
     have ht : nms (l.take (i + 1)) = nms (l.take i) ++ [x.1] := take_succ_map (fun x : Pt => x.1) hx
     unfold idxA
     rw [ht, List.range_succ, List.map_append, List.map_append]; rfl
    have hr := r127 (l.map ptC.enc) ((nms (l.take i)).map sA) (idxA i) ((nms (l.take (i + 1))).map sA) (idxA (i + 1)) l.length i x.1 x.2.1 x.2.2.1 x.2.2.2.1 x.2.2.2.2.1 x.2.2.2.2.2.1 (x.co.map ivC.enc)
    rw [wrap_ix hi hl] at hr
    exact P6_ok.rndN hr ⟨lt_of hi, get_map _ hx, u, ⟨⟨closedStr _, closedIdx _⟩, trivial⟩, rfl⟩)
   (by
    rw [List.take_length]
    exact P6_ok.rndX (r127x (l.map ptC.enc) ((nms l).map sA) (idxA l.length) l.length l.length) ⟨lt_self _, ⟨⟨closedStr _, closedIdx _⟩, trivial⟩, rfl⟩)
  rw [srch_none, ← e] at h
  exact P6_ok.tr (t127 (l.map ptC.enc) ((nms l).map sA) (idxA l.length)) ⟨⟨⟨⟨ClosedL.nil, ClosedL.nil⟩, trivial⟩, ⟨⟨closedStr _, closedIdx _⟩, trivial⟩, h.says⟩, ⟨closedStr _, closedIdx _⟩, rfl⟩
def P7 : Specs := (P6.set 127 byG)
theorem P7_ok : Ok P7 := (P6_ok.set h127)
end Go.Vm.S3

namespace Go.Vm.S3
open Go.Proofs Go.RowKit
set_option maxRecDepth 100000
theorem t95 (es ks vs : List AV) (s : ByteArray) (i e : Int) (b q : Bool) : L P7 95 [.rsl 7 es false, sA s] [.sp [.rsl 7 es false] (.rmp ks vs), .chk [.tup [iA i, bA b]], .sp [bA q, iA 10] (iA e)] [.f 127, .k ((alookup (CS P7) Tr.leaf 196 (AV.rmp ks vs) (sA s) true) = (some (AV.tup [iA i, bA b]))), .r 109 [bA !b, iA 10]] (.tup [iA i, iA e]) := kR (by kernel_rfl)
theorem lookP (S : Specs) (l : List Pt) (s : ByteArray) (b : Bool) : alookup (CS S) .leaf 196 (.rmp ((nms l).map sA) (idxA l.length)) (sA s) b = some (bif b then .tup [iA (Int.ofNat ((findIx s (nms l) 0).getD 0)), bA (findIx s (nms l) 0).isSome] else iA (Int.ofNat ((findIx s (nms l) 0).getD 0))) := by
 rw [(map196 S).look .leaf (nms l) (idxA l.length) s b]
 cases hf : findIx s (nms l) 0 with
 | none => cases b <;> rfl
 | some j =>
  have hj := find_lt hf
  have : (idxA l.length)[j]? = some (iA (Int.ofNat j)) := by
   unfold idxA
   rw [List.getElem?_map, List.getElem?_range hj]; rfl
  simp only [this]
  cases b <;> rfl
theorem spBy {l : List Pt} (h : partsM l = 0) : byG [slA ptC 7 l] = some (.rmp ((nms l).map sA) (idxA l.length)) := by
 have := sp1_at (A := ptsC) (F := fun l => bif decide (partsM l = 0) then some (.rmp ((nms l).map sA) (idxA l.length)) else none) l
 rw [decide_eq_true h] at this; exact this
def find95 (l : List Pt) (s : ByteArray) : AV := .tup [iA (Int.ofNat ((findIx s (nms l) 0).getD 0)), iA (whenM (!hasP l s) 10)]
def find95G : List AV → Option AV := sp2 ptsC strC fun l s => bif decide (partsM l = 0) then some (find95 l s) else none
theorem h95 : Holds 95 find95G := holds2 fun l s r hr => by
 cases hb : decide (partsM l = 0) with
 | false => simp [hb] at hr
 | true =>
  simp only [hb, cond_true, Option.some.injEq] at hr; subst hr
  have h0 : partsM l = 0 := of_decide_eq_true hb
  have hk := lookP P7 l s true
  rw [cond_true, ← hasP_ix] at hk
  exact P7_ok.tr (t95 (l.map ptC.enc) ((nms l).map sA) (idxA l.length) s (Int.ofNat ((findIx s (nms l) 0).getD 0)) _ (hasP l s) (!hasP l s)) ⟨⟨rfl, spBy h0⟩, hk, ⟨rfl, spWhen _ 10⟩, rfl⟩
def P8 : Specs := (P7.set 95 find95G)
theorem P8_ok : Ok P8 := (P7_ok.set h95)
end Go.Vm.S3

namespace Go.Vm.S3
open Go.Proofs Go.RowKit
end Go.Vm.S3

namespace Go.Vm.S3
open Go.Proofs Go.RowKit
theorem bseq_eq {a b : ByteArray} (h : bseq a b = true) : a = b := by
 unfold bseq at h
 have h : a.toList = b.toList := by simpa using h
 rw [ByteArray.toList_eq, ByteArray.toList_eq] at h
 cases a; cases b
 congr 1
 exact Array.toList_inj.1 h
theorem findIx_name {s : ByteArray} : ∀ {l : List ByteArray} {i k : Nat}, findIx s l i = some k → l[k - i]? = some s
 | [], i, k, h => by simp [findIx] at h
 | x :: l, i, k, h => by
  rw [findIx] at h
  cases hb : bseq s x with
  | true =>
   rw [hb] at h
   simp only [cond_true, Option.some.injEq] at h
   subst h
   rw [Nat.sub_self, bseq_eq hb]; rfl
  | false =>
   rw [hb] at h
   simp only [cond_false] at h
   have hk := (findIx_bound h).1
   have := findIx_name h
   rw [show k - i = (k - (i + 1)) + 1 by omega, List.getElem?_cons_succ]
   exact this
theorem bseq_self (a : ByteArray) : bseq a a = true := by unfold bseq; simp
theorem nil_eq {b : ByteArray} (h : nilB b = true) : b = ⟨#[]⟩ := bseq_eq (by unfold nilB at h; unfold bseq; simpa using h)
theorem spParts {l : List Pt} (h : okPts l = true) : partsG [slA ptC 7 l] = some (iA (partsM l)) := by
 have := sp1_at (A := ptsC) (F := fun l => bif okPts l then some (iA (partsM l)) else none) l
 rw [h] at this; exact this
theorem sp95 {l : List Pt} (h : partsM l = 0) (s : ByteArray) : find95G [slA ptC 7 l, sA s] = some (find95 l s) := by
 have := sp2_at (A := ptsC) (B := strC) (F := fun l s => bif decide (partsM l = 0) then some (find95 l s) else none) l s
 rw [decide_eq_true h] at this; exact this
def P9 : Specs := P8
theorem P9_ok : Ok P9 := P8_ok
end Go.Vm.S3

namespace Go.Vm.S3
open Go.Proofs Go.RowKit
end Go.Vm.S3

namespace Go.Vm.S3
open Go.Proofs Go.RowKit
def P10 : Specs := P9
theorem P10_ok : Ok P10 := P9_ok
end Go.Vm.S3

namespace Go.Vm.S3
open Go.Proofs Go.RowKit
end Go.Vm.S3

namespace Go.Vm.S3
open Go.Proofs Go.RowKit
def P11 : Specs := P10
theorem P11_ok : Ok P11 := P10_ok
end Go.Vm.S3

namespace Go.Vm.S3
open Go.Proofs Go.RowKit
section
variable {α : Type} (q : α → Bool)
def dl (v : Nat × List α) (x : α) : Nat × List α := bif q x then (v.1 + 1, v.2.set v.1 x) else v
def DelI (l : List α) (j : Nat) (v : Nat × List α) : Prop := v.1 ≤ j ∧ v.2.length = l.length ∧ v.2.drop j = l.drop j ∧ v.2.take v.1 = (l.take j).filter q
variable {q}
theorem DelI.get {l : List α} {j : Nat} {v : Nat × List α} (h : DelI q l j v) : v.2[j]? = l[j]? := by
 have := congrArg (fun z => z[0]?) h.2.2.1
 simpa only [List.getElem?_drop, Nat.add_zero] using this
theorem DelI.step {l : List α} {j : Nat} {x : α} {v : Nat × List α} (hx : l[j]? = some x) (h : DelI q l j v) : DelI q l (j + 1) (dl q v x) := by
 obtain ⟨i, us⟩ := v
 obtain ⟨h1, h2, h3, h4⟩ := h
 simp only at h1 h2 h3 h4
 have hj := lt_len hx
 have hd : us.drop (j + 1) = l.drop (j + 1) := by
  have := congrArg (List.drop 1) h3
  simpa only [List.drop_drop] using this
 have ht : (l.take (j + 1)).filter q = (l.take j).filter q ++ [x].filter q := by rw [List.take_add_one, hx, List.filter_append]; rfl
 unfold dl DelI
 cases hq : q x with
 | true =>
  simp only [cond_true]
  refine ⟨by omega, by rw [List.length_set]; exact h2, ?_, ?_⟩
  ·rw [List.drop_set_of_lt (by omega)]; exact hd
  ·rw [ht, List.take_add_one, List.take_set_of_le (Nat.le_refl _), List.getElem?_set_self (by omega), h4]
   simp [hq]
 | false =>
  simp only [cond_false]
  refine ⟨by omega, h2, hd, ?_⟩
  rw [ht, h4]; simp [hq]
end
theorem closedRep {n : Nat} {z : AV} (h : closed z = true) : ClosedL (List.replicate n z) := .of (by
 rw [List.all_eq_true]; intro x hx; rw [List.eq_of_mem_replicate hx]; exact h)
theorem allSzRep {n sz : Nat} {z : AV} (h : (match cells? z with | some cs => Nat.beq cs.length sz | none => false) = true) : allSz sz (List.replicate n z) = true := by
 unfold allSz
 rw [List.all_eq_true]
 intro x hx
 rw [List.eq_of_mem_replicate hx]; exact h
def P12 : Specs := P11
theorem P12_ok : Ok P12 := P11_ok
end Go.Vm.S3

namespace Go.Vm.S3
open Go.Proofs Go.RowKit
def P13 : Specs := P12
theorem P13_ok : Ok P13 := P12_ok
end Go.Vm.S3

namespace Go.Vm.S3
open Go.Proofs Go.RowKit
theorem rem_ok (S : Specs) (xo yo : Operand) {a b : Int} (hb : b ≠ 0) : abin (CS S) .rem 3 xo yo (iA a) (iA b) = some (iA (a.tmod b)) := by
 unfold abin
 simp only [toV]
 simp [eqGuard, binOp, Op.intDiv, hb]
 rfl
def P14 : Specs := P13
theorem P14_ok : Ok P14 := P13_ok
end Go.Vm.S3

namespace Go.Vm.S3
open Go.Proofs Go.RowKit
def P15 : Specs := P14
theorem P15_ok : Ok P15 := P14_ok
end Go.Vm.S3

namespace Go.Vm.S3
open Go.Proofs Go.RowKit
theorem seq_self (a : ByteArray) : seq a a = true := by unfold seq; simp
def P16 : Specs := P15
theorem P16_ok : Ok P16 := P15_ok
end Go.Vm.S3
