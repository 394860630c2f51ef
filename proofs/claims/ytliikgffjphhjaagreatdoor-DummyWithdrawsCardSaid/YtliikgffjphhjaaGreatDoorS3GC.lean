/- Parts of a dummy: how they are read. -/
import Derived.Test.YtliikgffjphhjaaGreatDoorS3T12
import Derived.Test.YtliikgffjphhjaaGreatDoorS3SeatLaw
import Derived.Test.YtliikgffjphhjaaGreatDoorVmH
import Derived.Test.YtliikgffjphhjaaGreatDoorVmG
namespace Go.Vm.S3
open Go.Proofs Go.RowKit
def rptrC {α : Type} (A : Cod α) : Cod α where
  dec | .rptr [a] => A.dec a
      | _ => none
  enc x := .rptr [A.enc x]
  weak a x h := by
    split at h
    · rename_i b
      intro M y hy
      unfold Rep at hy ⊢
      obtain ⟨bl, o, l, rfl, hl, hrow⟩ := hy
      refine ⟨bl, o, l, rfl, ?_, hrow⟩
      simp only [RepL.cons_iff, RepL.nil_iff] at hl ⊢
      obtain ⟨z, zs, rfl, hz, rfl⟩ := hl
      exact ⟨z, [], rfl, A.weak _ _ h _ _ hz, rfl⟩
    · cases h
  rt x := A.rt x
abbrev Pt : Type := ByteArray × ByteArray × Int × Int × Int × Int × List I2
abbrev Pt.co (p : Pt) : List I2 := p.2.2.2.2.2.2
abbrev Pt.jt (p : Pt) : V3 := (p.2.2.2.1, p.2.2.2.2.1, p.2.2.2.2.2.1)
def ivsC : Cod (List I2) := listC ivC 2
def ptC : Cod Pt := aggC (RC.cons strC (RC.cons strC (RC.cons intC (RC.cons intC (RC.cons intC (RC.cons intC (RC.one ivsC)))))))
def ptsC : Cod (List Pt) := listC ptC 7
abbrev ptA (x : Pt) : AV := .agg [sA x.1, sA x.2.1, iA x.2.2.1, iA x.2.2.2.1, iA x.2.2.2.2.1, iA x.2.2.2.2.2.1, .rsl 2 (x.2.2.2.2.2.2.map ivC.enc) false]
end Go.Vm.S3

namespace Go.Vm.S3
open Go.Proofs Go.RowKit
set_option maxRecDepth 100000
theorem t184 (a b e : Int) : L T12 184 [.agg [iA a, iA b]] [.sp [.agg [iA a, iA b], iA 1000000] (iA e)] [.f 185] (iA e) := kR (by kernel_rfl)
theorem r24 (es cs : List AV) (s n q : ByteArray) (m x y z : Int) (i : Nat) : rn T12 24 20 0 [0, 1, 5] [] [0, 1, 5] [] [4] [] [.rsl 7 es false, sA s, iA (Int.ofNat i)] [] [.br [.chk [.agg [sA n, sA q, iA m, iA x, iA y, iA z, .rsl 2 cs false]], .br [] []] []] =
  (bif decide (Int.ofNat i < Int.ofNat es.length) then (.need (es[i]? = (some (AV.agg [sA n, sA q, iA m, iA x, iA y, iA z, .rsl 2 cs false]))) (bif n.toList == s.toList then (dn [] (.ret, [iA (Int.ofNat i)], [])) else (dn [] (.nrm, [.rsl 7 es false, sA s, iA (IntKind.i64.wrap (Int.ofNat i + 1))], [])))) else (dn [] ((.exit 0), [.bad], []))) := by kernel_rfl
theorem t24r (es : List AV) (s : ByteArray) (i : Int) : L T12 24 [.rsl 7 es false, sA s] [.loop 0 [0, 1, 5] [] [4] [] .ret [iA i] []] [.l 20 24 0 20 [.rsl 7 es false, sA s, iA 0] []] (iA i) := kR (by kernel_rfl)
theorem t24e (es : List AV) (s : ByteArray) : L T12 24 [.rsl 7 es false, sA s] [.loop 0 [0, 1, 5] [] [4] [] (.exit 0) [.bad] []] [.l 20 24 0 20 [.rsl 7 es false, sA s, iA 0] []] (iA (-1)) := kR (by kernel_rfl)
theorem r180 (es cs : List AV) (s n q : ByteArray) (m x y z : Int) (i k : Nat) : roundD (CS T12) 60 1 218 16 19 35 false (lO (CS T12) 218 0) [0, 1, 7, 8] [2] [0, 1, 7, 8] [2] [4] [2] [.rsl 7 es false, .fn (.func 182) [] [.ptr 2 0 0], iA (Int.ofNat k), iA (Int.ofNat i)] [(false, .box [sA s])] [.br [.chk [.agg [sA n, sA q, iA m, iA x, iA y, iA z, .rsl 2 cs false]], .br [] []] []] =
  (bif decide (Int.ofNat i < Int.ofNat k) then (.need (es[i]? = (some (AV.agg [sA n, sA q, iA m, iA x, iA y, iA z, .rsl 2 cs false]))) (bif n.toList == s.toList then (dn [(false, .box [sA s])] (.ret, [iA (Int.ofNat i)], [(false, .box [sA s])])) else (dn [(false, .box [sA s])] (.nrm, [.rsl 7 es false, .fn (Fn.func 182) [] [.ptr 2 0 0], iA (Int.ofNat k), iA (IntKind.i64.wrap (Int.ofNat i + 1))], [(false, .box [sA s])])))) else (dn [(false, .box [sA s])] ((.exit 0), [.bad], [(false, .box [sA s])]))) := by kernel_rfl
theorem t180r (es : List AV) (s : ByteArray) (i : Int) : L T12 180 [sA s, .rptr [.rsl 7 es false]] [.loop 1 [0, 1, 7, 8] [2] [4] [2] .ret [iA i] [(false, .box [sA s])]] [.l 19 218 0 35 [.rsl 7 es false, .fn (Fn.func 182) [] [.ptr 2 0 0], iA (Int.ofNat es.length), iA 0] [(false, .box [sA s])]] (bA (decide (i ≥ 0))) := kR (by kernel_rfl)
theorem t180e (es : List AV) (s : ByteArray) : L T12 180 [sA s, .rptr [.rsl 7 es false]] [.loop 1 [0, 1, 7, 8] [2] [4] [2] (.exit 0) [.bad] [(false, .box [sA s])]] [.l 19 218 0 35 [.rsl 7 es false, .fn (Fn.func 182) [] [.ptr 2 0 0], iA (Int.ofNat es.length), iA 0] [(false, .box [sA s])]] (bA (decide (-1 ≥ 0))) := kR (by kernel_rfl)
def findP (l : List Pt) (s : ByteArray) : Int := (srch (fun i (x : Pt) => bif seq x.1 s then some (Int.ofNat i) else none) 0 l).getD (-1)
def hasP (l : List Pt) (s : ByteArray) : Bool := decide (findP l s ≥ 0)
theorem e_pt (l : List Pt) : Int.ofNat (l.map ptC.enc).length = Int.ofNat l.length := by simp
def pt0 : Pt := (⟨#[]⟩, ⟨#[]⟩, 0, 0, 0, 0, [])
def findPG : List AV → Option AV := sp2 ptsC strC fun l s => bif Nat.blt l.length two63 then some (iA (findP l s)) else none
theorem h24 : Holds 24 findPG := holds2 fun l s r hr => by
 cases hb : Nat.blt l.length two63 with
 | false => simp [hb] at hr
 | true =>
  simp only [hb, cond_true, Option.some.injEq] at hr; subst hr
  have hl : l.length < two63 := Nat.le_of_ble_eq_true hb
  have e := e_pt l
  have h := LoopRun.find (C := CS T12) (p := 0) (nt := 20) (rd := false) (c := lO (CS T12) 24 0) (fun i (x : Pt) => bif seq x.1 s then some (Int.ofNat i) else none) (fun i => mkSt [0, 1, 5] [] 20 [.rsl 7 (l.map ptC.enc) false, sA s, iA (Int.ofNat i)] [])
   (fun t => mkSt [4] [] 20 [iA t] []) (mkSt [4] [] 20 [.bad] []) (.exit 0) (fun _ => .ret) l (by simp) (by simp)
   (fun i x hx => by
    have hi := lt_len hx
    have hr := r24 (l.map ptC.enc) (x.co.map ivC.enc) s x.1 x.2.1 x.2.2.1 x.2.2.2.1 x.2.2.2.2.1 x.2.2.2.2.2.1 i
    rw [e, lt_of hi, wrap_ix hi hl] at hr
    cases h : seq x.1 s with
    | true => rw [show (x.1.toList == s.toList) = true from h] at hr; exact T12_ok.rndR hr ⟨get_map _ hx, trivial, rfl⟩
    | false => rw [show (x.1.toList == s.toList) = false from h] at hr; exact T12_ok.rndN hr ⟨get_map _ hx, trivial, rfl⟩)
   (by
    have hr := r24 (l.map ptC.enc) [] s s s 0 0 0 0 l.length
    rw [e, lt_self] at hr
    exact T12_ok.rndX hr ⟨trivial, rfl⟩)
  unfold findP
  cases hq : srch (fun i (x : Pt) => bif seq x.1 s then some (Int.ofNat i) else none) 0 l with
  | some t => rw [hq] at h; exact T12_ok.tr (t24r (l.map ptC.enc) s t) ⟨⟨trivial, trivial, h.says⟩, rfl⟩
  | none => rw [hq] at h; exact T12_ok.tr (t24e (l.map ptC.enc) s) ⟨⟨trivial, trivial, h.says⟩, rfl⟩
def hasPG : List AV → Option AV := sp2 strC (rptrC ptsC) fun s l => bif Nat.blt l.length two63 then some (bA (hasP l s)) else none
theorem h180 : Holds 180 hasPG := holds2 fun s l r hr => by
 cases hb : Nat.blt l.length two63 with
 | false => simp [hb] at hr
 | true =>
  simp only [hb, cond_true, Option.some.injEq] at hr; subst hr
  have hl : l.length < two63 := Nat.le_of_ble_eq_true hb
  have e := e_pt l
  have h := LoopRun.find (C := CS T12) (p := 1) (nt := 19) (rd := false) (c := lO (CS T12) 218 0) (fun i (x : Pt) => bif seq x.1 s then some (Int.ofNat i) else none) (fun i => mkSt [0, 1, 7, 8] [2] 35 [.rsl 7 (l.map ptC.enc) false, .fn (.func 182) [] [.ptr 2 0 0], iA (Int.ofNat l.length), iA (Int.ofNat i)] [(false, .box [sA s])])
   (fun t => mkSt [4] [2] 35 [iA t] [(false, .box [sA s])]) (mkSt [4] [2] 35 [.bad] [(false, .box [sA s])]) (.exit 0) (fun _ => .ret) l (by simp) (by simp)
   (fun i x hx => by
    have hi := lt_len hx
    have hr := r180 (l.map ptC.enc) (x.co.map ivC.enc) s x.1 x.2.1 x.2.2.1 x.2.2.2.1 x.2.2.2.2.1 x.2.2.2.2.2.1 i l.length
    rw [lt_of hi, wrap_ix hi hl] at hr
    cases h : seq x.1 s with
    | true => rw [show (x.1.toList == s.toList) = true from h] at hr; exact T12_ok.rndR hr ⟨get_map _ hx, trivial, rfl⟩
    | false => rw [show (x.1.toList == s.toList) = false from h] at hr; exact T12_ok.rndN hr ⟨get_map _ hx, trivial, rfl⟩)
   (by
    have hr := r180 (l.map ptC.enc) [] s s s 0 0 0 0 l.length l.length
    rw [lt_self] at hr
    exact T12_ok.rndX hr ⟨trivial, rfl⟩)
  rw [← e] at h
  unfold hasP findP
  cases hq : srch (fun i (x : Pt) => bif seq x.1 s then some (Int.ofNat i) else none) 0 l with
  | some t => rw [hq] at h; exact T12_ok.tr (t180r (l.map ptC.enc) s t) ⟨⟨trivial, trivial, h.says⟩, rfl⟩
  | none => rw [hq] at h; exact T12_ok.tr (t180e (l.map ptC.enc) s) ⟨⟨trivial, trivial, h.says⟩, rfl⟩
def iv184 (x : I2) : Int := ivM x (IntKind.i64.wrap (0 - 1000000)) 1000000
def iv184G : List AV → Option AV := sp1 ivC fun x => some (iA (iv184 x))
theorem h184 : Holds 184 iv184G := holds1 fun x r hr => by
 simp only [Option.some.injEq] at hr; subst hr
 exact T12_ok.tr (t184 x.1 x.2 (iv184 x)) ⟨⟨rfl, sp2_at (A := ivC) (B := intC) (F := fun x m => some (iA (ivM x (IntKind.i64.wrap (0 - m)) m))) x 1000000⟩, rfl⟩
def P1 : Specs := (((T12.set 24 findPG).set 180 hasPG).set 184 iv184G)
theorem P1_ok : Ok P1 := (((T12_ok.set h24).set h180).set h184)
end Go.Vm.S3

namespace Go.Vm.S3
open Go.Proofs Go.RowKit
set_option maxRecDepth 100000
theorem r183a (es : List AV) (n i : Nat) (x : I2) : rn P1 183 22 0 [1, 5, 8, 9, 10] [] [1, 5, 8, 9, 10] [19] [5] [] (mapIn (fnV 184) nilS 2 es n i) [] [.chk [ivA x]] =
  (bif decide (Int.ofNat i < Int.ofNat n) then (.need (es[i]? = (some (AV.agg [iA x.fst, iA x.snd]))) (dn [(false, .arr 1 [iA (iv184 x)] false)] (.nrm, [.fn (Fn.func 184) [] [], .sl 19 0 1 0 1, .rsl 2 es false, iA (Int.ofNat n), iA (IntKind.i64.wrap (Int.ofNat i + 1))], [(false, .arr 1 [iA (iv184 x)] false)]))) else (dn [] ((.exit 0), [.v (.slice none 0 0)], []))) := by kernel_rfl
theorem r183b (es rs : List AV) (n i k : Nat) (x : I2) : rn P1 183 22 0 [1, 5, 8, 9, 10] [19] [1, 5, 8, 9, 10] [19] [5] [19] (mapIn (fnV 184) (.sl 19 0 1 0 k) 2 es n i) [(false, .arr 1 rs false)] [.chk [ivA x], .chk rs] =
  (bif decide (Int.ofNat i < Int.ofNat n) then (.need (es[i]? = (some (AV.agg [iA x.fst, iA x.snd]))) (.need (k = rs.length ∧ true = true ∧ 1 = 1 ∧ (rs ++ ([iA (iv184 x)] : List AV)).length * 8 ≤ 35184372088832 ∧ (rs ++ ([iA (iv184 x)] : List AV)).length ≤ 35184372088832 ∧ 8 ≠ 0) (dn [(false, .arr 1 (rs ++ ([iA (iv184 x)] : List AV)) false)] (.nrm, [.fn (Fn.func 184) [] [], .sl 19 0 1 0 ((rs ++ ([iA (iv184 x)] : List AV)).length), .rsl 2 es false, iA (Int.ofNat n), iA (IntKind.i64.wrap (Int.ofNat i + 1))], [(false, .arr 1 (rs ++ ([iA (iv184 x)] : List AV)) false)])))) else (dn [(false, .arr 1 rs false)] ((.exit 0), [.sl 19 0 1 0 k], [(false, .arr 1 rs false)]))) := by kernel_rfl
theorem t183 (es rs : List AV) : L P1 183 [.rsl 2 es false, (fnV 184)] [.loop 0 [1, 5, 8, 9, 10] [] [5] [] (.exit 0) [.rsl 1 rs false] []] [.l 22 183 0 22 [.fn (Fn.func 184) [] [], .v (.slice none 0 0), .rsl 2 es false, iA (Int.ofNat es.length), iA 0] []] (.rsl 1 rs false) := kR (by kernel_rfl)
def iv183G : List AV → Option AV := mapG ivC 2 intC 1 184 iv184
theorem h183 : Holds 183 iv183G := mapG_holds fun l hl => mapped_ok (A := ivC) (B := intC) (g := iv184) (fv := fnV 184) (szb := 1) (bb := 8) P1_ok (0, 0) (fun _ => rfl) ⟨by omega, by omega⟩ r183a r183b t183 l hl
def P2 : Specs := (P1.set 183 iv183G)
theorem P2_ok : Ok P2 := (P1_ok.set h183)
end Go.Vm.S3

namespace Go.Vm.S3
open Go.Proofs Go.RowKit
set_option maxRecDepth 100000
theorem t110z (a b : ByteArray) (m x y z e1 e2 e3 e4 e5 e6 e7 e8 e9 r : Int) (h1 q7 q8 q3 : Bool) (cs es fs : List AV) : L P2 110 [.agg [sA a, sA b, iA m, iA x, iA y, iA z, .rsl 2 cs false], .rsl 7 es false] [.sp [.rsl 2 cs false, fnV 184] (.rsl 1 fs false), .sp [sA a] (iA e1), .sp [sA a, .rptr [.rsl 7 es false]] (bA h1), .sp [bA h1, iA 9] (iA e2), .as 22 true, .sp [bA q3, iA 24] (iA e3), .as 31 false, .sp [bA false, iA 10] (iA e4), .sp [iA m, iA 1, iA 100000] (iA e5), .sp [.agg [iA x, iA y, iA z], iA 10000] (iA e6), .sp [bA q7, iA 12] (iA e7), .sp [bA q8, iA 5] (iA e8), .sp [.rsl 1 fs false] (iA e9), .sp [.rsl 1 [iA e1, iA e2, iA e3, iA e4, iA e5, iA e6, iA e7, iA e8, iA e9] true] (iA r)] [.f 183, .f 154, .f 180, .f 109, .b (Int.ofNat es.length == 0), .q 109 [bA (!(b.toList == (ByteArray.mk #[]).toList)), iA 24], .b (decide (Int.ofNat es.length > 0)), .f 109, .f 131, .f 111, .q 109 [bA (Int.ofNat cs.length == 0), iA 12], .q 109 [bA (decide (Int.ofNat cs.length > 8)), iA 5], .f 108, .f 108] (iA r) := kR (by kernel_rfl)
theorem t110n (a b : ByteArray) (m x y z e1 e2 e3 e4 e5 e6 e7 e8 e9 r : Int) (h1 h2 q7 q8 q4 : Bool) (cs es fs : List AV) : L P2 110 [.agg [sA a, sA b, iA m, iA x, iA y, iA z, .rsl 2 cs false], .rsl 7 es false] [.sp [.rsl 2 cs false, fnV 184] (.rsl 1 fs false), .sp [sA a] (iA e1), .sp [sA a, .rptr [.rsl 7 es false]] (bA h1), .sp [bA h1, iA 9] (iA e2), .as 22 false, .sp [bA false, iA 24] (iA e3), .as 31 true, .sp [sA b, .rptr [.rsl 7 es false]] (bA h2), .sp [bA q4, iA 10] (iA e4), .sp [iA m, iA 1, iA 100000] (iA e5), .sp [.agg [iA x, iA y, iA z], iA 10000] (iA e6), .sp [bA q7, iA 12] (iA e7), .sp [bA q8, iA 5] (iA e8), .sp [.rsl 1 fs false] (iA e9), .sp [.rsl 1 [iA e1, iA e2, iA e3, iA e4, iA e5, iA e6, iA e7, iA e8, iA e9] true] (iA r)] [.f 183, .f 154, .f 180, .f 109, .b (Int.ofNat es.length == 0), .f 109, .b (decide (Int.ofNat es.length > 0)), .f 180, .q 109 [bA !h2, iA 10], .f 131, .f 111, .q 109 [bA (Int.ofNat cs.length == 0), iA 12], .q 109 [bA (decide (Int.ofNat cs.length > 8)), iA 5], .f 108, .f 108] (iA r) := kR (by kernel_rfl)
def nilB (s : ByteArray) : Bool := s.toList == (ByteArray.mk #[]).toList
def partE (l : List Pt) (p : Pt) : List Int :=
 [nameErr p.1, whenM (hasP l p.1) 9, whenM (bif Int.ofNat l.length == 0 then !nilB p.2.1 else false) 24, whenM (bif Int.ofNat l.length == 0 then false else !hasP l p.2.1) 10, withinM p.2.2.1 1 100000, vecM p.jt 10000, whenM (Int.ofNat p.co.length == 0) 12, whenM (decide (Int.ofNat p.co.length > 8)) 5, firstM (p.co.map iv184)]
def partM (l : List Pt) (p : Pt) : Int := firstM (partE l p)
theorem spWhen (b : Bool) (e : Int) : whenG [bA b, iA e] = some (iA (whenM b e)) := sp2_at (A := boolC) (B := intC) (F := fun b e => some (iA (whenM b e))) b e
theorem spName (s : ByteArray) : nameErrG [sA s] = some (iA (nameErr s)) := sp1_at (A := strC) (F := fun s => some (iA (nameErr s))) s
theorem spWithin (n lo hi : Int) : withinG [iA n, iA lo, iA hi] = some (iA (withinM n lo hi)) := sp3_at (A := intC) (B := intC) (D := intC) (F := fun n lo hi => some (iA (withinM n lo hi))) n lo hi
theorem spVec (v : V3) (m : Int) : vecG [vA v, iA m] = some (iA (vecM v m)) := sp2_at (A := vecC) (B := intC) (F := fun v m => some (iA (vecM v m))) v m
theorem spHasP {l : List Pt} (s : ByteArray) (hl : Nat.blt l.length two63 = true) : hasPG [sA s, .rptr [slA ptC 7 l]] = some (bA (hasP l s)) := by
 have := sp2_at (A := strC) (B := rptrC ptsC) (F := fun s l => bif Nat.blt l.length two63 then some (bA (hasP l s)) else none) s l
 rw [hl] at this; exact this
theorem spFindP {l : List Pt} (s : ByteArray) (hl : Nat.blt l.length two63 = true) : findPG [slA ptC 7 l, sA s] = some (iA (findP l s)) := by
 have := sp2_at (A := ptsC) (B := strC) (F := fun l s => bif Nat.blt l.length two63 then some (iA (findP l s)) else none) l s
 rw [hl] at this; exact this
theorem spIvs {l : List I2} (hl : Nat.ble l.length lim = true) : iv183G [slA ivC 2 l, fnV 184] = some (slA intC 1 (l.map iv184)) := by
 have := sp2_at (A := listC ivC 2) (B := fnC 184) (F := fun l (_ : Unit) => bif Nat.ble l.length lim then some (slA intC 1 (l.map iv184)) else none) l ()
 rw [hl] at this; exact this
def okPt (p : Pt) : Bool := Nat.ble p.co.length lim
def partG : List AV → Option AV := sp2 ptC ptsC fun p l => bif Nat.ble l.length lim && okPt p then some (iA (partM l p)) else none
theorem h110 : Holds 110 partG := holds2 fun p l r hr => by
 cases hb : Nat.ble l.length lim && okPt p with
 | false => simp [hb] at hr
 | true =>
  simp only [hb, cond_true, Option.some.injEq] at hr; subst hr
  rw [Bool.and_eq_true] at hb
  obtain ⟨hb1, hb2⟩ := hb
  have h63 : Nat.blt l.length two63 = true := Nat.ble_eq_true_of_le (Nat.lt_of_le_of_lt (Nat.le_of_ble_eq_true hb1) (by decide))
  have f183 := spIvs hb2
  have f108 := spec108 (l := p.co.map iv184) (by rw [List.length_map]; exact hb2)
  have ec : Int.ofNat (p.co.map ivC.enc).length = Int.ofNat p.co.length := by simp
  have e := e_pt l
  have fr : firstG [.rsl 1 [iA (nameErr p.1), iA (whenM (hasP l p.1) 9), iA (whenM (bif Int.ofNat l.length == 0 then !nilB p.2.1 else false) 24), iA (whenM (bif Int.ofNat l.length == 0 then false else !hasP l p.2.1) 10), iA (withinM p.2.2.1 1 100000), iA (vecM p.jt 10000), iA (whenM (Int.ofNat p.co.length == 0) 12), iA (whenM (decide (Int.ofNat p.co.length > 8)) 5), iA (firstM (p.co.map iv184))] true] = some (iA (partM l p)) := rfl
  cases h0 : Int.ofNat l.length == 0 with
  | true =>
   rw [h0, ← ec] at fr
   have hgt : decide (Int.ofNat (l.map ptC.enc).length > 0) = false := by
    rw [e]; rw [eq_of_beq h0]; rfl
   exact P2_ok.tr (t110z p.1 p.2.1 p.2.2.1 p.2.2.2.1 p.2.2.2.2.1 p.2.2.2.2.2.1 _ _ _ _ _ _ _ _ _ _ (hasP l p.1) _ _ (!nilB p.2.1) (p.co.map ivC.enc) (l.map ptC.enc) ((p.co.map iv184).map intC.enc))
    ⟨⟨rfl, f183⟩, ⟨rfl, spName p.1⟩, ⟨rfl, spHasP p.1 h63⟩, ⟨rfl, spWhen _ 9⟩, by rw [e]; exact h0, ⟨rfl, spWhen _ 24⟩, hgt, ⟨rfl, spWhen _ 10⟩, ⟨rfl, spWithin _ _ _⟩, ⟨rfl, spVec p.jt 10000⟩, ⟨rfl, spWhen _ 12⟩, ⟨rfl, spWhen _ 5⟩, ⟨rfl, f108⟩, ⟨rfl, fr⟩, rfl⟩
  | false =>
   rw [h0, ← ec] at fr
   have hgt : decide (Int.ofNat (l.map ptC.enc).length > 0) = true := by
    rw [e]
    simp only [beq_eq_false_iff_ne, ne_eq, Int.ofNat_eq_natCast] at h0
    simp only [gt_iff_lt, decide_eq_true_eq, Int.ofNat_eq_natCast]; omega
   exact P2_ok.tr (t110n p.1 p.2.1 p.2.2.1 p.2.2.2.1 p.2.2.2.2.1 p.2.2.2.2.2.1 _ _ _ _ _ _ _ _ _ _ (hasP l p.1) (hasP l p.2.1) _ _ (!hasP l p.2.1) (p.co.map ivC.enc) (l.map ptC.enc) ((p.co.map iv184).map intC.enc))
    ⟨⟨rfl, f183⟩, ⟨rfl, spName p.1⟩, ⟨rfl, spHasP p.1 h63⟩, ⟨rfl, spWhen _ 9⟩, by rw [e]; exact h0, ⟨rfl, spWhen _ 24⟩, hgt, ⟨rfl, spHasP p.2.1 h63⟩, ⟨rfl, spWhen _ 10⟩, ⟨rfl, spWithin _ _ _⟩, ⟨rfl, spVec p.jt 10000⟩, ⟨rfl, spWhen _ 12⟩, ⟨rfl, spWhen _ 5⟩, ⟨rfl, f108⟩, ⟨rfl, fr⟩, rfl⟩
def P3 : Specs := (P2.set 110 partG)
theorem P3_ok : Ok P3 := (P2_ok.set h110)
end Go.Vm.S3
