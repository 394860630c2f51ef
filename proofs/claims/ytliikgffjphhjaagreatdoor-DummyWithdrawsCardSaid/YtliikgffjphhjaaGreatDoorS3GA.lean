/- first and when, of the program and of the reference. -/
import Derived.Test.YtliikgffjphhjaaGreatDoorS3Base
import Derived.Laws.BitsLemmas
import Derived.Test.YtliikgffjphhjaaGreatDoorVmG
import Derived.Test.YtliikgffjphhjaaGreatDoorVmH
import Derived.Laws.RangeString
import Derived.Laws.RangeAny
namespace Go.Vm.S3
open Go.Proofs Go.RowKit
set_option maxRecDepth 100000
theorem wrap_in {n : Int} (h1 : -9223372036854775808 ≤ n) (h2 : n < 9223372036854775808) : IntKind.i64.wrap n = n := by
 rw [IntKind.wrap_i64]; omega
theorem wrap_succ {i : Nat} (h : i + 1 < 9223372036854775808) : IntKind.i64.wrap (Int.ofNat i + 1) = Int.ofNat (i + 1) := by
 rw [wrap_in] <;> simp <;> omega
abbrev two63 : Nat := 9223372036854775807
theorem wrap_ix {i n : Nat} (hi : i < n) (hl : n < two63) : IntKind.i64.wrap (Int.ofNat i + 1) = Int.ofNat (i + 1) := wrap_succ (by unfold two63 at hl; omega)
theorem lt_of {i n : Nat} (h : i < n) : decide (Int.ofNat i < Int.ofNat n) = true := by simp; exact_mod_cast h
theorem lt_self (n : Nat) : decide (Int.ofNat n < Int.ofNat n) = false := by simp
theorem get_map {α β : Type} {l : List α} {i : Nat} {x : α} (f : α → β) (h : l[i]? = some x) : (l.map f)[i]? = some (f x) := by rw [List.getElem?_map, h]; rfl
theorem lt_len {α : Type} {l : List α} {i : Nat} {x : α} (h : l[i]? = some x) : i < l.length := (List.getElem?_eq_some_iff.1 h).1
def whenM (b : Bool) (e : Int) : Int := bif b then e else 0
def whenG : List AV → Option AV := sp2 boolC intC fun b e => some (iA (whenM b e))
theorem r108 (S : Specs) (es : List AV) (ex : Bool) (n i : Nat) (x : Int) : rn S 108 15 0 [5, 6, 7] [] [5, 6, 7] [] [2] [] [.rsl 1 es ex, iA (Int.ofNat n), iA (Int.ofNat i)] [] [.chk [iA x]] =
  (bif decide (Int.ofNat i < Int.ofNat n) then (.need (es[i]? = (some (iA x))) (bif x != 0 then (dn [] (.ret, [iA x], [])) else (dn [] (.nrm, [.rsl 1 es ex, iA (Int.ofNat n), iA (IntKind.i64.wrap (Int.ofNat i + 1))], [])))) else (dn [] ((.exit 0), [.bad], []))) := by kernel_rfl
theorem t108r (S : Specs) (es : List AV) (ex : Bool) (x : Int) : L S 108 [.rsl 1 es ex] [.loop 0 [5, 6, 7] [] [2] [] .ret [iA x] []] [.l 15 108 0 15 [.rsl 1 es ex, iA ↑es.length, iA 0] []] (iA x) := kR (by kernel_rfl)
theorem t108e (S : Specs) (es : List AV) (ex : Bool) : L S 108 [.rsl 1 es ex] [.loop 0 [5, 6, 7] [] [2] [] (.exit 0) [.bad] []] [.l 15 108 0 15 [.rsl 1 es ex, iA ↑es.length, iA 0] []] (iA 0) := kR (by kernel_rfl)
theorem r105 (S : Specs) (es : List AV) (ex : Bool) (i : Nat) (x : Int) : rn S 105 19 0 [0, 3] [] [0, 3] [] [2] [] [.rsl 1 es ex, iA (Int.ofNat i)] [] [.chk [iA x], .chk [iA x]] =
  (bif decide (Int.ofNat i < ↑es.length) then (.need (es[i]? = (some (iA x))) (bif x != 0 then (.need (es[i]? = (some (iA x))) (dn [] (.ret, [iA x], []))) else (dn [] (.nrm, [.rsl 1 es ex, iA (IntKind.i64.wrap (Int.ofNat i + 1))], [])))) else (dn [] ((.exit 0), [.bad], []))) := by kernel_rfl
theorem t105r (S : Specs) (es : List AV) (ex : Bool) (x : Int) : L S 105 [.rsl 1 es ex] [.loop 0 [0, 3] [] [2] [] .ret [iA x] []] [.l 19 105 0 19 [.rsl 1 es ex, iA 0] []] (iA x) := kR (by kernel_rfl)
theorem t105e (S : Specs) (es : List AV) (ex : Bool) : L S 105 [.rsl 1 es ex] [.loop 0 [0, 3] [] [2] [] (.exit 0) [.bad] []] [.l 19 105 0 19 [.rsl 1 es ex, iA 0] []] (iA 0) := kR (by kernel_rfl)
theorem when_holds {S : Specs} (hS : Ok S) {f : FuncId} (h : ∀ (b : Bool) (e : Int), evTreeD (CS S) 60 f [bA b, iA e] [] = bif b then .done (some (iA e)) else .done (some (iA 0))) : Holds f whenG := holds2 fun b e r hr => by
 simp only [Option.some.injEq] at hr; subst hr
 refine hS.evD (d := 60) (hs := []) ?_
 show (evTreeD (CS S) 60 f [bA b, iA e] []).ok _
 rw [h]
 unfold whenM
 cases b <;> rfl
def firstM : List Int → Int
 | [] => 0
 | x :: r => bif x != 0 then x else firstM r
def firstF (l : List Int) : Option AV := bif Nat.blt l.length two63 then some (iA (firstM l)) else none
def firstG : List AV → Option AV := sp1 (listC intC 1) firstF
def firstStep (_ : Nat) (x : Int) (_ : Unit) : Unit ⊕ Option Int := bif x != 0 then .inr (some x) else .inl ()
def firstR (i : Nat) (l : List Int) : Option Int := goL firstStep (fun _ => none) i l ()
theorem firstR_eq : ∀ (l : List Int) (i : Nat), (firstR i l = none ∧ firstM l = 0) ∨ firstR i l = some (firstM l)
 | [], i => .inl ⟨rfl, rfl⟩
 | x :: r, i => by
  unfold firstR goL firstStep firstM
  cases h : x != 0 with
  | true => exact .inr rfl
  | false => exact firstR_eq r (i + 1)
def firstEx : Option Int → Ex
 | some _ => .ret
 | none => .exit 0
def firstOut (nf : Nat) : Option Int → St
 | some x => mkSt [2] [] nf [iA x] []
 | none => mkSt [2] [] nf [.bad] []
theorem loop108 {S : Specs} (hS : Ok S) (l : List Int) (ex : Bool) (hl : l.length < two63) :
  LoopRun (CS S) 0 15 false (lO (CS S) 108 0) (mkSt [5, 6, 7] [] 15 [.rsl 1 (l.map iA) ex, iA (Int.ofNat l.length), iA (Int.ofNat 0)] []) (firstEx (firstR 0 l)) (firstOut 15 (firstR 0 l)) := by
 refine LoopRun.list (step := firstStep) (fin := fun _ => none) (enc := fun i _ => mkSt [5, 6, 7] [] 15 [.rsl 1 (l.map iA) ex, iA (Int.ofNat l.length), iA (Int.ofNat i)] []) (ex := firstEx) (out := firstOut 15) (l := l) (fun _ _ => True)
  (fun i x _ hx _ => ?_) (fun _ _ => ⟨?_, by simp [firstEx]⟩) l [] () rfl trivial
 ·have hi := lt_len hx
  unfold firstStep
  cases h : x != 0 with
  | true => exact ⟨hS.rndR (r108 S (l.map iA) ex l.length i x) (by rw [lt_of hi, h]; exact ⟨get_map _ hx, trivial, rfl⟩), by simp [firstEx]⟩
  | false => exact ⟨hS.rndN (r108 S (l.map iA) ex l.length i x) (by rw [lt_of hi, h, wrap_ix hi hl]; exact ⟨get_map _ hx, trivial, rfl⟩), trivial⟩
 ·exact hS.rndX (r108 S (l.map iA) ex l.length l.length 0) (by rw [lt_self]; exact ⟨trivial, rfl⟩)
theorem first108 {S : Specs} (hS : Ok S) : Holds 108 firstG := holds1 fun l r hr => by
 unfold firstF at hr
 cases hb : Nat.blt l.length two63 with
 | false => simp [hb] at hr
 | true =>
  simp only [hb, cond_true, Option.some.injEq] at hr; subst hr
  have hl : l.length < two63 := Nat.le_of_ble_eq_true hb
  have h := (loop108 hS l false hl).says
  have e : (Int.ofNat l.length) = ↑(l.map iA).length := by simp
  rw [e] at h
  rcases firstR_eq l 0 with ⟨h1, h2⟩ | h1
  ·rw [h1] at h; rw [h2]
   exact hS.tr (t108e S (l.map iA) false) ⟨⟨trivial, trivial, h⟩, rfl⟩
  ·rw [h1] at h
   exact hS.tr (t108r S (l.map iA) false (firstM l)) ⟨⟨trivial, trivial, h⟩, rfl⟩
theorem loop105 {S : Specs} (hS : Ok S) (l : List Int) (ex : Bool) (hl : l.length < two63) :
  LoopRun (CS S) 0 19 false (lO (CS S) 105 0) (mkSt [0, 3] [] 19 [.rsl 1 (l.map iA) ex, iA (Int.ofNat 0)] []) (firstEx (firstR 0 l)) (firstOut 19 (firstR 0 l)) := by
 have e : ((l.map iA).length : Int) = Int.ofNat l.length := by simp
 refine LoopRun.list (step := firstStep) (fin := fun _ => none) (enc := fun i _ => mkSt [0, 3] [] 19 [.rsl 1 (l.map iA) ex, iA (Int.ofNat i)] []) (ex := firstEx) (out := firstOut 19) (l := l) (fun _ _ => True)
  (fun i x _ hx _ => ?_) (fun _ _ => ⟨?_, by simp [firstEx]⟩) l [] () rfl trivial
 ·have hi := lt_len hx
  unfold firstStep
  cases h : x != 0 with
  | true => exact ⟨hS.rndR (r105 S (l.map iA) ex i x) (by rw [e, lt_of hi, h]; exact ⟨get_map _ hx, get_map _ hx, trivial, rfl⟩), by simp [firstEx]⟩
  | false => exact ⟨hS.rndN (r105 S (l.map iA) ex i x) (by rw [e, lt_of hi, h, wrap_ix hi hl]; exact ⟨get_map _ hx, trivial, rfl⟩), trivial⟩
 ·exact hS.rndX (r105 S (l.map iA) ex l.length 0) (by rw [e, lt_self]; exact ⟨trivial, rfl⟩)
theorem first105 {S : Specs} (hS : Ok S) : Holds 105 firstG := holds1 fun l r hr => by
 unfold firstF at hr
 cases hb : Nat.blt l.length two63 with
 | false => simp [hb] at hr
 | true =>
  simp only [hb, cond_true, Option.some.injEq] at hr; subst hr
  have hl : l.length < two63 := Nat.le_of_ble_eq_true hb
  have h := (loop105 hS l false hl).says
  rcases firstR_eq l 0 with ⟨h1, h2⟩ | h1
  ·rw [h1] at h; rw [h2]
   exact hS.tr (t105e S (l.map iA) false) ⟨⟨trivial, trivial, h⟩, rfl⟩
  ·rw [h1] at h
   exact hS.tr (t105r S (l.map iA) false (firstM l)) ⟨⟨trivial, trivial, h⟩, rfl⟩
end Go.Vm.S3

namespace Go.Vm.S3
open Go.Proofs Go.RowKit
set_option maxRecDepth 100000
theorem t109 (S : Specs) (b : Bool) (e : Int) : ev S 109 [bA b, iA e] [] =
  (bif b then (.done (some (iA e))) else (.done (some (iA 0)))) := by kernel_rfl
theorem t46 (S : Specs) (b : Bool) (e : Int) : ev S 46 [bA b, iA e] [] =
  (bif b then (.done (some (iA e))) else (.done (some (iA 0)))) := by kernel_rfl
def S1 : Specs := ((((SL.set 109 whenG).set 46 whenG).set 108 firstG).set 105 firstG)
theorem S1_ok : Ok S1 := ((((SL_ok.set (when_holds SL_ok (t109 SL))).set (when_holds SL_ok (t46 SL))).set (first108 SL_ok)).set (first105 SL_ok))
end Go.Vm.S3

namespace Go.Vm.S3
open Go.Proofs Go.RowKit
set_option maxRecDepth 100000
theorem t131 (n lo hi : Int) : ev S1 131 [iA n, iA lo, iA hi] [] =
  (bif decide (n < lo) then (.done (some (iA (whenM true 3)))) else (.done (some (iA (whenM (bif false then true else decide (n > hi)) 3))))) := by kernel_rfl
theorem t89 (n lo hi : Int) : ev S1 89 [iA n, iA lo, iA hi] [] =
  (bif decide (n < lo) then (.done (some (iA (whenM true 3)))) else (.done (some (iA (whenM (bif false then true else decide (n > hi)) 3))))) := by kernel_rfl
def withinM (n lo hi : Int) : Int := whenM (decide (n < lo) || decide (n > hi)) 3
def withinG : List AV → Option AV := sp3 intC intC intC fun n lo hi => some (iA (withinM n lo hi))
theorem within_holds {f : FuncId} (h : ∀ (n lo hi : Int), evTreeD (CS S1) 60 f [iA n, iA lo, iA hi] [] = (bif decide (n < lo) then (.done (some (iA (whenM true 3)))) else (.done (some (iA (whenM (bif false then true else decide (n > hi)) 3)))))) : Holds f withinG := holds3 fun n lo hi r hr => by
 simp only [Option.some.injEq] at hr; subst hr
 refine S1_ok.tr (h n lo hi) ?_
 unfold withinM
 cases decide (n < lo)
 ·rw [Bool.false_or]; rfl
 ·rfl
def S2 : Specs := ((S1.set 131 withinG).set 89 withinG)
theorem S2_ok : Ok S2 := ((S1_ok.set (within_holds t131)).set (within_holds t89))
end Go.Vm.S3

namespace Go.Vm.S3
open Go.Proofs Go.RowKit
set_option maxRecDepth 100000
theorem t111 (x y z m : Int) : L S2 111 [.agg [iA x, iA y, iA z], iA m] [] [] (iA (firstM [withinM x (IntKind.i64.wrap (0 - m)) m, withinM y (IntKind.i64.wrap (0 - m)) m, withinM z (IntKind.i64.wrap (0 - m)) m])) := kR (by kernel_rfl)
theorem t35 (x y z m : Int) : L S2 35 [.agg [iA x, iA y, iA z], iA m] [] [] (iA (firstM [withinM x (IntKind.i64.wrap (0 - m)) m, withinM y (IntKind.i64.wrap (0 - m)) m, withinM z (IntKind.i64.wrap (0 - m)) m])) := kR (by kernel_rfl)
abbrev V3 : Type := Int × Int × Int
def vecC : Cod V3 := aggC (RC.cons intC (RC.cons intC (RC.one intC)))
abbrev vA (v : V3) : AV := .agg [iA v.1, iA v.2.1, iA v.2.2]
def vecM (v : V3) (m : Int) : Int := firstM [withinM v.1 (IntKind.i64.wrap (0 - m)) m, withinM v.2.1 (IntKind.i64.wrap (0 - m)) m, withinM v.2.2 (IntKind.i64.wrap (0 - m)) m]
def vecG : List AV → Option AV := sp2 vecC intC fun v m => some (iA (vecM v m))
theorem vec_holds {f : FuncId} (h : ∀ (x y z m : Int), evTreeD (CS S2) 60 f [.agg [iA x, iA y, iA z], iA m] [] = .done (some (iA (vecM (x, y, z) m)))) : Holds f vecG := holds2 fun v m r hr => by
 simp only [Option.some.injEq] at hr; subst hr
 exact S2_ok.tr (h v.1 v.2.1 v.2.2 m) rfl
def S3 : Specs := ((S2.set 111 vecG).set 35 vecG)
theorem S3_ok : Ok S3 := ((S2_ok.set (vec_holds t111)).set (vec_holds t35))
end Go.Vm.S3

namespace Go.Vm.S3
open Go.Proofs Go.RowKit
set_option maxRecDepth 100000
theorem r207 (S : Specs) (s : ByteArray) (i : Nat) : rn S 207 51 0 [0, 7] [7] [0, 7] [7] [2] [] [sA s, .itr 7 0] [(false, .siter s i)] [] =
  (bif i.blt s.size then (bif decide (Int.ofNat (Utf8.decode s i).fst ≥ 97) then (bif decide (Int.ofNat (Utf8.decode s i).fst ≤ 122) then (dn [(false, .siter s (i + (Utf8.decode s i).snd))] (.nrm, [sA s, .itr 7 0], [(false, .siter s (i + (Utf8.decode s i).snd))])) else (bif decide (Int.ofNat (Utf8.decode s i).fst ≥ 65) then (bif !decide (Int.ofNat (Utf8.decode s i).fst ≤ 90) then (bif Int.ofNat i == 0 then (dn [] (.ret, [bA false], [])) else (bif Int.ofNat (Utf8.decode s i).fst != 95 then (bif decide (Int.ofNat (Utf8.decode s i).fst < 48) then (dn [] (.ret, [bA false], [])) else (bif decide (Int.ofNat (Utf8.decode s i).fst > 57) then (dn [] (.ret, [bA false], [])) else (dn [(false, .siter s (i + (Utf8.decode s i).snd))] (.nrm, [sA s, .itr 7 0], [(false, .siter s (i + (Utf8.decode s i).snd))])))) else (dn [(false, .siter s (i + (Utf8.decode s i).snd))] (.nrm, [sA s, .itr 7 0], [(false, .siter s (i + (Utf8.decode s i).snd))])))) else (dn [(false, .siter s (i + (Utf8.decode s i).snd))] (.nrm, [sA s, .itr 7 0], [(false, .siter s (i + (Utf8.decode s i).snd))]))) else (bif Int.ofNat i == 0 then (dn [] (.ret, [bA false], [])) else (bif Int.ofNat (Utf8.decode s i).fst != 95 then (bif decide (Int.ofNat (Utf8.decode s i).fst < 48) then (dn [] (.ret, [bA false], [])) else (bif decide (Int.ofNat (Utf8.decode s i).fst > 57) then (dn [] (.ret, [bA false], [])) else (dn [(false, .siter s (i + (Utf8.decode s i).snd))] (.nrm, [sA s, .itr 7 0], [(false, .siter s (i + (Utf8.decode s i).snd))])))) else (dn [(false, .siter s (i + (Utf8.decode s i).snd))] (.nrm, [sA s, .itr 7 0], [(false, .siter s (i + (Utf8.decode s i).snd))])))))) else (bif decide (Int.ofNat (Utf8.decode s i).fst ≥ 65) then (bif !decide (Int.ofNat (Utf8.decode s i).fst ≤ 90) then (bif Int.ofNat i == 0 then (dn [] (.ret, [bA false], [])) else (bif Int.ofNat (Utf8.decode s i).fst != 95 then (bif decide (Int.ofNat (Utf8.decode s i).fst < 48) then (dn [] (.ret, [bA false], [])) else (bif decide (Int.ofNat (Utf8.decode s i).fst > 57) then (dn [] (.ret, [bA false], [])) else (dn [(false, .siter s (i + (Utf8.decode s i).snd))] (.nrm, [sA s, .itr 7 0], [(false, .siter s (i + (Utf8.decode s i).snd))])))) else (dn [(false, .siter s (i + (Utf8.decode s i).snd))] (.nrm, [sA s, .itr 7 0], [(false, .siter s (i + (Utf8.decode s i).snd))])))) else (dn [(false, .siter s (i + (Utf8.decode s i).snd))] (.nrm, [sA s, .itr 7 0], [(false, .siter s (i + (Utf8.decode s i).snd))]))) else (bif Int.ofNat i == 0 then (dn [] (.ret, [bA false], [])) else (bif Int.ofNat (Utf8.decode s i).fst != 95 then (bif decide (Int.ofNat (Utf8.decode s i).fst < 48) then (dn [] (.ret, [bA false], [])) else (bif decide (Int.ofNat (Utf8.decode s i).fst > 57) then (dn [] (.ret, [bA false], [])) else (dn [(false, .siter s (i + (Utf8.decode s i).snd))] (.nrm, [sA s, .itr 7 0], [(false, .siter s (i + (Utf8.decode s i).snd))])))) else (dn [(false, .siter s (i + (Utf8.decode s i).snd))] (.nrm, [sA s, .itr 7 0], [(false, .siter s (i + (Utf8.decode s i).snd))])))))) else (dn [] ((.exit 0), [.bad], []))) := by kernel_rfl
theorem t207r (S : Specs) (s : ByteArray) : L S 207 [sA s] [.loop 0 [0, 7] [7] [2] [] .ret [bA false] []] [.l 51 207 0 51 [sA s, .itr 7 0] [(false, .siter s 0)]] (bA false) := kR (by kernel_rfl)
theorem t207e (S : Specs) (s : ByteArray) : ev S 207 [sA s] [.loop 0 [0, 7] [7] [0] [] (.exit 0) [sA s] []] =
  (.need (EnC [(false, .siter s 0)] ∧ EnC [] ∧ Says (CS S) 0 51 false (.loop (lO (CS S) 207 0)) (mkSt [0, 7] [7] 51 [sA s, .itr 7 0] [(false, .siter s 0)]) (.exit 0) (mkSt [0] [] 51 [sA s] [])) (bif !s.toList == (ByteArray.mk #[]).toList then (.done (some (bA (decide (Int.ofNat s.size ≤ 24))))) else (.done (some (bA false))))) := by kernel_rfl
theorem r179 (S : Specs) (s : ByteArray) (i : Nat) (c : Int) : rn S 179 68 0 [0, 3] [] [0, 3] [] [2] [] [sA s, iA (Int.ofNat i)] [] [.ld (u8A c), .ld (u8A c), .ld (u8A c), .ld (u8A c), .ld (u8A c), .ld (u8A c), .ld (u8A c), .ld (u8A c)] =
  (bif decide (Int.ofNat i < Int.ofNat s.size) then (.need ((aindex (CS S) 9 (sA s) (iA (Int.ofNat i))) = (some (AV.v (.int .u8 c)))) (bif decide (c ≥ 65) then (.need ((aindex (CS S) 9 (sA s) (iA (Int.ofNat i))) = (some (AV.v (.int .u8 c)))) (bif decide (c ≤ 90) then (.need ((aindex (CS S) 9 (sA s) (iA (Int.ofNat i))) = (some (AV.v (.int .u8 c)))) (bif decide (c ≥ 48) then (.need ((aindex (CS S) 9 (sA s) (iA (Int.ofNat i))) = (some (AV.v (.int .u8 c)))) (bif decide (c ≤ 57) then (dn [] (.nrm, [sA s, iA (IntKind.i64.wrap (Int.ofNat i + 1))], [])) else (.need ((aindex (CS S) 9 (sA s) (iA (Int.ofNat i))) = (some (AV.v (.int .u8 c)))) (dn [] (.nrm, [sA s, iA (IntKind.i64.wrap (Int.ofNat i + 1))], []))))) else (.need ((aindex (CS S) 9 (sA s) (iA (Int.ofNat i))) = (some (AV.v (.int .u8 c)))) (dn [] (.nrm, [sA s, iA (IntKind.i64.wrap (Int.ofNat i + 1))], []))))) else (.need ((aindex (CS S) 9 (sA s) (iA (Int.ofNat i))) = (some (AV.v (.int .u8 c)))) (bif decide (c ≥ 97) then (.need ((aindex (CS S) 9 (sA s) (iA (Int.ofNat i))) = (some (AV.v (.int .u8 c)))) (.need ((aindex (CS S) 9 (sA s) (iA (Int.ofNat i))) = (some (AV.v (.int .u8 c)))) (bif decide (c ≥ 48) then (.need ((aindex (CS S) 9 (sA s) (iA (Int.ofNat i))) = (some (AV.v (.int .u8 c)))) (bif decide (c ≤ 57) then (bif !decide (c ≤ 122) then (bif Int.ofNat i == 0 then (dn [] (.ret, [bA false], [])) else (dn [] (.nrm, [sA s, iA (IntKind.i64.wrap (Int.ofNat i + 1))], []))) else (dn [] (.nrm, [sA s, iA (IntKind.i64.wrap (Int.ofNat i + 1))], []))) else (.need ((aindex (CS S) 9 (sA s) (iA (Int.ofNat i))) = (some (AV.v (.int .u8 c)))) (bif !decide (c ≤ 122) then (bif Int.ofNat i == 0 then (dn [] (.ret, [bA false], [])) else (bif !c == 95 then (dn [] (.ret, [bA false], [])) else (dn [] (.nrm, [sA s, iA (IntKind.i64.wrap (Int.ofNat i + 1))], [])))) else (dn [] (.nrm, [sA s, iA (IntKind.i64.wrap (Int.ofNat i + 1))], [])))))) else (.need ((aindex (CS S) 9 (sA s) (iA (Int.ofNat i))) = (some (AV.v (.int .u8 c)))) (bif !decide (c ≤ 122) then (bif Int.ofNat i == 0 then (dn [] (.ret, [bA false], [])) else (bif !c == 95 then (dn [] (.ret, [bA false], [])) else (dn [] (.nrm, [sA s, iA (IntKind.i64.wrap (Int.ofNat i + 1))], [])))) else (dn [] (.nrm, [sA s, iA (IntKind.i64.wrap (Int.ofNat i + 1))], []))))))) else (.need ((aindex (CS S) 9 (sA s) (iA (Int.ofNat i))) = (some (AV.v (.int .u8 c)))) (bif decide (c ≥ 48) then (.need ((aindex (CS S) 9 (sA s) (iA (Int.ofNat i))) = (some (AV.v (.int .u8 c)))) (bif decide (c ≤ 57) then (bif Int.ofNat i == 0 then (dn [] (.ret, [bA false], [])) else (dn [] (.nrm, [sA s, iA (IntKind.i64.wrap (Int.ofNat i + 1))], []))) else (.need ((aindex (CS S) 9 (sA s) (iA (Int.ofNat i))) = (some (AV.v (.int .u8 c)))) (bif Int.ofNat i == 0 then (dn [] (.ret, [bA false], [])) else (bif !c == 95 then (dn [] (.ret, [bA false], [])) else (dn [] (.nrm, [sA s, iA (IntKind.i64.wrap (Int.ofNat i + 1))], []))))))) else (.need ((aindex (CS S) 9 (sA s) (iA (Int.ofNat i))) = (some (AV.v (.int .u8 c)))) (bif Int.ofNat i == 0 then (dn [] (.ret, [bA false], [])) else (bif !c == 95 then (dn [] (.ret, [bA false], [])) else (dn [] (.nrm, [sA s, iA (IntKind.i64.wrap (Int.ofNat i + 1))], []))))))))))) else (.need ((aindex (CS S) 9 (sA s) (iA (Int.ofNat i))) = (some (AV.v (.int .u8 c)))) (bif decide (c ≥ 97) then (.need ((aindex (CS S) 9 (sA s) (iA (Int.ofNat i))) = (some (AV.v (.int .u8 c)))) (.need ((aindex (CS S) 9 (sA s) (iA (Int.ofNat i))) = (some (AV.v (.int .u8 c)))) (bif decide (c ≥ 48) then (.need ((aindex (CS S) 9 (sA s) (iA (Int.ofNat i))) = (some (AV.v (.int .u8 c)))) (bif decide (c ≤ 57) then (bif !decide (c ≤ 122) then (bif Int.ofNat i == 0 then (dn [] (.ret, [bA false], [])) else (dn [] (.nrm, [sA s, iA (IntKind.i64.wrap (Int.ofNat i + 1))], []))) else (dn [] (.nrm, [sA s, iA (IntKind.i64.wrap (Int.ofNat i + 1))], []))) else (.need ((aindex (CS S) 9 (sA s) (iA (Int.ofNat i))) = (some (AV.v (.int .u8 c)))) (bif !decide (c ≤ 122) then (bif Int.ofNat i == 0 then (dn [] (.ret, [bA false], [])) else (bif !c == 95 then (dn [] (.ret, [bA false], [])) else (dn [] (.nrm, [sA s, iA (IntKind.i64.wrap (Int.ofNat i + 1))], [])))) else (dn [] (.nrm, [sA s, iA (IntKind.i64.wrap (Int.ofNat i + 1))], [])))))) else (.need ((aindex (CS S) 9 (sA s) (iA (Int.ofNat i))) = (some (AV.v (.int .u8 c)))) (bif !decide (c ≤ 122) then (bif Int.ofNat i == 0 then (dn [] (.ret, [bA false], [])) else (bif !c == 95 then (dn [] (.ret, [bA false], [])) else (dn [] (.nrm, [sA s, iA (IntKind.i64.wrap (Int.ofNat i + 1))], [])))) else (dn [] (.nrm, [sA s, iA (IntKind.i64.wrap (Int.ofNat i + 1))], []))))))) else (.need ((aindex (CS S) 9 (sA s) (iA (Int.ofNat i))) = (some (AV.v (.int .u8 c)))) (bif decide (c ≥ 48) then (.need ((aindex (CS S) 9 (sA s) (iA (Int.ofNat i))) = (some (AV.v (.int .u8 c)))) (bif decide (c ≤ 57) then (bif Int.ofNat i == 0 then (dn [] (.ret, [bA false], [])) else (dn [] (.nrm, [sA s, iA (IntKind.i64.wrap (Int.ofNat i + 1))], []))) else (.need ((aindex (CS S) 9 (sA s) (iA (Int.ofNat i))) = (some (AV.v (.int .u8 c)))) (bif Int.ofNat i == 0 then (dn [] (.ret, [bA false], [])) else (bif !c == 95 then (dn [] (.ret, [bA false], [])) else (dn [] (.nrm, [sA s, iA (IntKind.i64.wrap (Int.ofNat i + 1))], []))))))) else (.need ((aindex (CS S) 9 (sA s) (iA (Int.ofNat i))) = (some (AV.v (.int .u8 c)))) (bif Int.ofNat i == 0 then (dn [] (.ret, [bA false], [])) else (bif !c == 95 then (dn [] (.ret, [bA false], [])) else (dn [] (.nrm, [sA s, iA (IntKind.i64.wrap (Int.ofNat i + 1))], []))))))))))) else (dn [] ((.exit 0), [.bad], []))) := by kernel_rfl
theorem t179r (S : Specs) (s : ByteArray) : ev S 179 [sA s] [.loop 0 [0, 3] [] [2] [] .ret [bA false] []] =
  (bif Int.ofNat s.size == 0 then (.done (some (bA false))) else (bif decide (Int.ofNat s.size > 24) then (.done (some (bA false))) else (.need (EnC [] ∧ EnC [] ∧ Says (CS S) 0 68 false (.loop (lO (CS S) 179 0)) (mkSt [0, 3] [] 68 [sA s, iA 0] []) .ret (mkSt [2] [] 68 [bA false] [])) (.done (some (bA false)))))) := by kernel_rfl
theorem t179e (S : Specs) (s : ByteArray) : ev S 179 [sA s] [.loop 0 [0, 3] [] [2] [] (.exit 0) [.bad] []] =
  (bif Int.ofNat s.size == 0 then (.done (some (bA false))) else (bif decide (Int.ofNat s.size > 24) then (.done (some (bA false))) else (.need (EnC [] ∧ EnC [] ∧ Says (CS S) 0 68 false (.loop (lO (CS S) 179 0)) (mkSt [0, 3] [] 68 [sA s, iA 0] []) (.exit 0) (mkSt [2] [] 68 [.bad] [])) (.done (some (bA true)))))) := by kernel_rfl
theorem r207x (S : Specs) (s : ByteArray) (i : Nat) : rn S 207 51 0 [0, 7] [7] [0, 7] [7] [0] [] [sA s, .itr 7 0] [(false, .siter s i)] [] =
  (bif i.blt s.size then (bif decide (Int.ofNat (Utf8.decode s i).fst ≥ 97) then (bif decide (Int.ofNat (Utf8.decode s i).fst ≤ 122) then (dn [(false, .siter s (i + (Utf8.decode s i).snd))] (.nrm, [sA s, .itr 7 0], [(false, .siter s (i + (Utf8.decode s i).snd))])) else (bif decide (Int.ofNat (Utf8.decode s i).fst ≥ 65) then (bif !decide (Int.ofNat (Utf8.decode s i).fst ≤ 90) then (bif Int.ofNat i == 0 then (dn [] (.ret, [sA s], [])) else (bif Int.ofNat (Utf8.decode s i).fst != 95 then (bif decide (Int.ofNat (Utf8.decode s i).fst < 48) then (dn [] (.ret, [sA s], [])) else (bif decide (Int.ofNat (Utf8.decode s i).fst > 57) then (dn [] (.ret, [sA s], [])) else (dn [(false, .siter s (i + (Utf8.decode s i).snd))] (.nrm, [sA s, .itr 7 0], [(false, .siter s (i + (Utf8.decode s i).snd))])))) else (dn [(false, .siter s (i + (Utf8.decode s i).snd))] (.nrm, [sA s, .itr 7 0], [(false, .siter s (i + (Utf8.decode s i).snd))])))) else (dn [(false, .siter s (i + (Utf8.decode s i).snd))] (.nrm, [sA s, .itr 7 0], [(false, .siter s (i + (Utf8.decode s i).snd))]))) else (bif Int.ofNat i == 0 then (dn [] (.ret, [sA s], [])) else (bif Int.ofNat (Utf8.decode s i).fst != 95 then (bif decide (Int.ofNat (Utf8.decode s i).fst < 48) then (dn [] (.ret, [sA s], [])) else (bif decide (Int.ofNat (Utf8.decode s i).fst > 57) then (dn [] (.ret, [sA s], [])) else (dn [(false, .siter s (i + (Utf8.decode s i).snd))] (.nrm, [sA s, .itr 7 0], [(false, .siter s (i + (Utf8.decode s i).snd))])))) else (dn [(false, .siter s (i + (Utf8.decode s i).snd))] (.nrm, [sA s, .itr 7 0], [(false, .siter s (i + (Utf8.decode s i).snd))])))))) else (bif decide (Int.ofNat (Utf8.decode s i).fst ≥ 65) then (bif !decide (Int.ofNat (Utf8.decode s i).fst ≤ 90) then (bif Int.ofNat i == 0 then (dn [] (.ret, [sA s], [])) else (bif Int.ofNat (Utf8.decode s i).fst != 95 then (bif decide (Int.ofNat (Utf8.decode s i).fst < 48) then (dn [] (.ret, [sA s], [])) else (bif decide (Int.ofNat (Utf8.decode s i).fst > 57) then (dn [] (.ret, [sA s], [])) else (dn [(false, .siter s (i + (Utf8.decode s i).snd))] (.nrm, [sA s, .itr 7 0], [(false, .siter s (i + (Utf8.decode s i).snd))])))) else (dn [(false, .siter s (i + (Utf8.decode s i).snd))] (.nrm, [sA s, .itr 7 0], [(false, .siter s (i + (Utf8.decode s i).snd))])))) else (dn [(false, .siter s (i + (Utf8.decode s i).snd))] (.nrm, [sA s, .itr 7 0], [(false, .siter s (i + (Utf8.decode s i).snd))]))) else (bif Int.ofNat i == 0 then (dn [] (.ret, [sA s], [])) else (bif Int.ofNat (Utf8.decode s i).fst != 95 then (bif decide (Int.ofNat (Utf8.decode s i).fst < 48) then (dn [] (.ret, [sA s], [])) else (bif decide (Int.ofNat (Utf8.decode s i).fst > 57) then (dn [] (.ret, [sA s], [])) else (dn [(false, .siter s (i + (Utf8.decode s i).snd))] (.nrm, [sA s, .itr 7 0], [(false, .siter s (i + (Utf8.decode s i).snd))])))) else (dn [(false, .siter s (i + (Utf8.decode s i).snd))] (.nrm, [sA s, .itr 7 0], [(false, .siter s (i + (Utf8.decode s i).snd))])))))) else (dn [] ((.exit 0), [sA s], []))) := by kernel_rfl
def bytesI (s : ByteArray) : List Int := s.data.toList.map fun b => Int.ofNat b.toNat
theorem bytesI_len (s : ByteArray) : (bytesI s).length = s.size := by unfold bytesI; rw [List.length_map]; rfl
theorem bytesI_at {s : ByteArray} {i : Nat} {c : Int} (h : (bytesI s)[i]? = some c) : ∃ hi : i < s.size, c = Int.ofNat (s[i]'hi).toNat := by
 have hi : i < s.size := by rw [← bytesI_len]; exact lt_len h
 refine ⟨hi, ?_⟩
 unfold bytesI at h
 rw [List.getElem?_map, Option.map_eq_some_iff] at h
 obtain ⟨b, hb, rfl⟩ := h
 rw [List.getElem?_eq_some_iff] at hb
 obtain ⟨_, rfl⟩ := hb
 rfl
theorem pure_index {t : TypeId} {s : ByteArray} {i : Nat} (ht : Tryz.prog.underlying t = some .string) (hi : i < s.size) : pureRun Tryz.prog (Instr.index t (.string s) (.int .i64 (Int.ofNat i))) = some (.int .u8 (s[i]'hi).toNat) := by
 unfold Instr.index
 simp only [asIntOf, pureRun_bind, pureRun_pure, Option.bind_some, pureRun_underlying ht]
 have h0 : (0 : Int) ≤ Int.ofNat i := Int.natCast_nonneg i
 have h1 : (Int.ofNat i).toNat = i := rfl
 rw [if_pos h0, h1, ByteArray.getElem?_lt' s _ hi]
 rfl
theorem str_at (S : Specs) {s : ByteArray} {i : Nat} {c : Int} (h : (bytesI s)[i]? = some c) : aindex (CS S) 9 (sA s) (iA (Int.ofNat i)) = some (u8A c) := by
 obtain ⟨hi, rfl⟩ := bytesI_at h
 have e : aindex (CS S) 9 (sA s) (iA (Int.ofNat i)) = (pureRun Tryz.prog (Instr.index 9 (.string s) (.int .i64 (Int.ofNat i)))).bind fun r => bif Value.single r then some (.v r) else none := rfl
 rw [e, pure_index Tryz.underlying9 hi]
 rfl
def letB (c : Int) : Bool := (decide (c ≥ 97) && decide (c ≤ 122)) || (decide (c ≥ 65) && decide (c ≤ 90))
def nmB (i : Nat) (c : Int) : Bool := letB c || (!(Int.ofNat i == 0) && ((decide (c ≥ 48) && decide (c ≤ 57)) || c == 95))
def nmF (i : Nat) (c : Int) : Option Unit := bif nmB i c then none else some ()
def isNameM (s : ByteArray) : Bool := !(Int.ofNat s.size == 0) && (decide (Int.ofNat s.size ≤ 24) && (srch nmF 0 (bytesI s)).isNone)
theorem loop179 {S : Specs} (hS : Ok S) (s : ByteArray) (hs : s.size < two63) :
  LoopRun (CS S) 0 68 false (lO (CS S) 179 0) (mkSt [0, 3] [] 68 [sA s, iA (Int.ofNat 0)] []) ((srch nmF 0 (bytesI s)).elim (.exit 0) fun _ => .ret) ((srch nmF 0 (bytesI s)).elim (mkSt [2] [] 68 [.bad] []) fun _ => mkSt [2] [] 68 [bA false] []) := by
 refine LoopRun.find nmF (fun i => mkSt [0, 3] [] 68 [sA s, iA (Int.ofNat i)] []) _ _ (.exit 0) _ _ (by simp) (by simp) (fun i c hc => ?_) ?_
 ·have hi : i < s.size := by rw [← bytesI_len]; exact lt_len hc
  have ha := str_at S hc
  unfold nmF
  cases hq : nmB i c with
  | true =>
   refine hS.rndN (r179 S s i c) ?_
   rw [lt_of hi, wrap_ix hi hs]
   unfold nmB letB at hq
   generalize decide (c ≥ 97) = b1 at hq ⊢; generalize decide (c ≤ 122) = b2 at hq ⊢; generalize decide (c ≥ 65) = b3 at hq ⊢; generalize decide (c ≤ 90) = b4 at hq ⊢; generalize (Int.ofNat i == 0) = b5 at hq ⊢; generalize decide (c ≥ 48) = b6 at hq ⊢; generalize decide (c ≤ 57) = b7 at hq ⊢; generalize (c == 95) = b8 at hq ⊢
   cases b1 <;> cases b2 <;> cases b3 <;> cases b4 <;> cases b5 <;> cases b6 <;> cases b7 <;> cases b8 <;> first | (exact absurd hq (by decide)) | exact ⟨ha, ha, ha, trivial, rfl⟩ | exact ⟨ha, ha, ha, ha, trivial, rfl⟩ | exact ⟨ha, ha, ha, ha, ha, trivial, rfl⟩ | exact ⟨ha, ha, ha, ha, ha, ha, trivial, rfl⟩ | exact ⟨ha, ha, ha, ha, ha, ha, ha, trivial, rfl⟩
  | false =>
   refine hS.rndR (r179 S s i c) ?_
   rw [lt_of hi]
   unfold nmB letB at hq
   generalize decide (c ≥ 97) = b1 at hq ⊢; generalize decide (c ≤ 122) = b2 at hq ⊢; generalize decide (c ≥ 65) = b3 at hq ⊢; generalize decide (c ≤ 90) = b4 at hq ⊢; generalize (Int.ofNat i == 0) = b5 at hq ⊢; generalize decide (c ≥ 48) = b6 at hq ⊢; generalize decide (c ≤ 57) = b7 at hq ⊢; generalize (c == 95) = b8 at hq ⊢
   cases b1 <;> cases b2 <;> cases b3 <;> cases b4 <;> cases b5 <;> cases b6 <;> cases b7 <;> cases b8 <;> first | (exact absurd hq (by decide)) | exact ⟨ha, ha, ha, trivial, rfl⟩ | exact ⟨ha, ha, ha, ha, trivial, rfl⟩ | exact ⟨ha, ha, ha, ha, ha, trivial, rfl⟩ | exact ⟨ha, ha, ha, ha, ha, ha, trivial, rfl⟩ | exact ⟨ha, ha, ha, ha, ha, ha, ha, trivial, rfl⟩
 ·rw [bytesI_len]
  exact hS.rndX (r179 S s s.size 0) (by rw [lt_self]; exact ⟨trivial, rfl⟩)
theorem decode_at {s : ByteArray} {i : Nat} {c : Int} (h : (bytesI s)[i]? = some c) : (c < 128 ∧ Utf8.decode s i = (c.toNat, 1) ∧ 0 ≤ c) ∨ (128 ≤ c ∧ 128 ≤ (Utf8.decode s i).1) := by
 obtain ⟨hi, rfl⟩ := bytesI_at h
 by_cases hb : (s[i]'hi).toNat < 128
 ·exact .inl ⟨by simp only [Int.ofNat_eq_natCast]; omega, decode_ascii s i hi hb, Int.natCast_nonneg _⟩
 ·exact .inr ⟨by simp only [Int.ofNat_eq_natCast]; omega, (decode_high s i hi (by omega)).1⟩
theorem loop207 {S : Specs} (hS : Ok S) (s : ByteArray) :
  LoopRun (CS S) 0 51 false (lO (CS S) 207 0) (mkSt [0, 7] [7] 51 [sA s, .itr 7 0] [(false, .siter s 0)]) ((srch nmF 0 (bytesI s)).elim (.exit 0) fun _ => .ret) ((srch nmF 0 (bytesI s)).elim (mkSt [0] [] 51 [sA s] []) fun _ => mkSt [2] [] 51 [bA false] []) := by
 refine LoopRun.find nmF (fun i => mkSt [0, 7] [7] 51 [sA s, .itr 7 0] [(false, .siter s i)]) _ _ (.exit 0) _ _ (by simp) (by simp) (fun i c hc => ?_) ?_
 ·have hi : i < s.size := by rw [← bytesI_len]; exact lt_len hc
  have hlt : i.blt s.size = true := Nat.ble_eq_true_of_le hi
  unfold nmF
  rcases decode_at hc with ⟨h1, h2, h3⟩ | ⟨h1, h2⟩
  ·have e : Int.ofNat c.toNat = c := Int.toNat_of_nonneg h3
   cases hq : nmB i c with
   | true =>
    refine hS.rndN (r207 S s i) ?_
    rw [hlt, h2]
    simp only [e]
    have g1 : decide (c ≥ 48) = !decide (c < 48) := by by_cases h : c < 48 <;> simp [h] <;> omega
    have g2 : decide (c ≤ 57) = !decide (c > 57) := by by_cases h : c > 57 <;> simp [h] <;> omega
    unfold nmB letB at hq
    rw [g1, g2] at hq
    have g3 : (c != 95) = !(c == 95) := rfl
    rw [g3]
    generalize decide (c ≥ 97) = b1 at hq ⊢; generalize decide (c ≤ 122) = b2 at hq ⊢; generalize decide (c ≥ 65) = b3 at hq ⊢; generalize decide (c ≤ 90) = b4 at hq ⊢; generalize (Int.ofNat i == 0) = b5 at hq ⊢; generalize decide (c < 48) = b6 at hq ⊢; generalize decide (c > 57) = b7 at hq ⊢; generalize (c == 95) = b8 at hq ⊢
    cases b1 <;> cases b2 <;> cases b3 <;> cases b4 <;> cases b5 <;> cases b6 <;> cases b7 <;> cases b8 <;> first | (exact absurd hq (by decide)) | exact ⟨trivial, rfl⟩
   | false =>
    refine hS.rndR (r207 S s i) ?_
    rw [hlt, h2]
    simp only [e]
    have g1 : decide (c ≥ 48) = !decide (c < 48) := by by_cases h : c < 48 <;> simp [h] <;> omega
    have g2 : decide (c ≤ 57) = !decide (c > 57) := by by_cases h : c > 57 <;> simp [h] <;> omega
    unfold nmB letB at hq
    rw [g1, g2] at hq
    have g3 : (c != 95) = !(c == 95) := rfl
    rw [g3]
    generalize decide (c ≥ 97) = b1 at hq ⊢; generalize decide (c ≤ 122) = b2 at hq ⊢; generalize decide (c ≥ 65) = b3 at hq ⊢; generalize decide (c ≤ 90) = b4 at hq ⊢; generalize (Int.ofNat i == 0) = b5 at hq ⊢; generalize decide (c < 48) = b6 at hq ⊢; generalize decide (c > 57) = b7 at hq ⊢; generalize (c == 95) = b8 at hq ⊢
    cases b1 <;> cases b2 <;> cases b3 <;> cases b4 <;> cases b5 <;> cases b6 <;> cases b7 <;> cases b8 <;> first | (exact absurd hq (by decide)) | exact ⟨trivial, rfl⟩
  ·have hq : nmB i c = false := by
    unfold nmB letB
    have q1 : decide (c ≤ 122) = false := by simp; omega
    have q2 : decide (c ≤ 90) = false := by simp; omega
    have q3 : decide (c ≤ 57) = false := by simp; omega
    have q4 : (c == 95) = false := by simp; omega
    rw [q1, q2, q3, q4]; simp
   rw [hq]
   refine hS.rndR (r207 S s i) ?_
   have q0 : decide (Int.ofNat (Utf8.decode s i).fst ≥ 97) = true := by simp only [Int.ofNat_eq_natCast, decide_eq_true_eq]; omega
   have q1 : decide (Int.ofNat (Utf8.decode s i).fst ≤ 122) = false := by simp only [Int.ofNat_eq_natCast, decide_eq_false_iff_not]; omega
   have q2 : decide (Int.ofNat (Utf8.decode s i).fst ≥ 65) = true := by simp only [Int.ofNat_eq_natCast, decide_eq_true_eq]; omega
   have q3 : decide (Int.ofNat (Utf8.decode s i).fst ≤ 90) = false := by simp only [Int.ofNat_eq_natCast, decide_eq_false_iff_not]; omega
   have q4 : (Int.ofNat (Utf8.decode s i).fst != 95) = true := by simp only [Int.ofNat_eq_natCast, bne_iff_ne, ne_eq]; omega
   have q5 : decide (Int.ofNat (Utf8.decode s i).fst > 57) = true := by simp only [Int.ofNat_eq_natCast, decide_eq_true_eq]; omega
   have q6 : decide (Int.ofNat (Utf8.decode s i).fst < 48) = false := by simp only [Int.ofNat_eq_natCast, decide_eq_false_iff_not]; omega
   rw [hlt, q0, q1, q2, q3, q4, q5, q6]
   cases (Int.ofNat i == 0) <;> exact ⟨trivial, rfl⟩
 ·rw [bytesI_len]
  have hlt : s.size.blt s.size = false := by rw [Bool.eq_false_iff]; intro h; have := Nat.le_of_ble_eq_true h; omega
  exact hS.rndX (r207x S s s.size) (by rw [hlt]; exact ⟨trivial, rfl⟩)
def nameG : List AV → Option AV := sp1 strC fun s => some (bA (isNameM s))
theorem name179 {S : Specs} (hS : Ok S) : Holds 179 nameG := holds1 fun s r hr => by
 simp only [Option.some.injEq] at hr; subst hr
 unfold isNameM
 cases h1 : (Int.ofNat s.size == 0) with
 | true => exact hS.tr (t179e S s) (by rw [h1]; rfl)
 | false =>
  cases h2 : decide (Int.ofNat s.size > 24) with
  | true =>
   have h3 : decide (Int.ofNat s.size ≤ 24) = false := by simp only [decide_eq_true_eq, decide_eq_false_iff_not] at *; omega
   rw [h3]
   exact hS.tr (t179e S s) (by rw [h1, h2]; rfl)
  | false =>
   have h3 : decide (Int.ofNat s.size ≤ 24) = true := by simp only [decide_eq_true_eq, decide_eq_false_iff_not] at *; omega
   rw [h3]
   have hs : s.size < two63 := by simp only [decide_eq_true_eq, Int.ofNat_eq_natCast] at h3; unfold two63; omega
   have hl := loop179 hS s hs
   cases hq : srch nmF 0 (bytesI s) with
   | some _ => rw [hq] at hl; exact hS.tr (t179r S s) (by rw [h1, h2]; exact ⟨⟨trivial, trivial, hl.says⟩, rfl⟩)
   | none => rw [hq] at hl; exact hS.tr (t179e S s) (by rw [h1, h2]; exact ⟨⟨trivial, trivial, hl.says⟩, rfl⟩)
theorem toList_nil (s : ByteArray) : (!(s.toList == ByteArray.toList { data := #[] })) = !(Int.ofNat s.size == 0) := by
 rw [ByteArray.toList_eq, ByteArray.toList_eq]
 have : s.size = s.data.toList.length := rfl
 rw [this]
 cases s.data.toList <;> simp <;> omega
theorem name207 {S : Specs} (hS : Ok S) : Holds 207 nameG := holds1 fun s r hr => by
 simp only [Option.some.injEq] at hr; subst hr
 have hl := loop207 hS s
 unfold isNameM
 cases hq : srch nmF 0 (bytesI s) with
 | some _ =>
  rw [hq] at hl
  have e : (!(Int.ofNat s.size == 0) && (decide (Int.ofNat s.size ≤ 24) && (some () : Option Unit).isNone)) = false := by simp
  exact (show _ = _ from e) ▸ hS.tr (t207r S s) ⟨⟨trivial, trivial, hl.says⟩, rfl⟩
 | none =>
  rw [hq] at hl
  refine hS.tr (t207e S s) ⟨⟨trivial, trivial, hl.says⟩, ?_⟩
  rw [toList_nil]
  cases h1 : (Int.ofNat s.size == 0) with
  | true => rfl
  | false => cases decide (Int.ofNat s.size ≤ 24) <;> rfl
end Go.Vm.S3
