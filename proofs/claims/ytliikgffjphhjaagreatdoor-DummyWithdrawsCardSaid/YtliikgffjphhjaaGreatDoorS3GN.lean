/- Tests: the frame that looks for a calibration from the last on. -/
import Derived.Test.YtliikgffjphhjaaGreatDoorS3GM
namespace Go.Vm.S3
open Go.Proofs Go.RowKit
abbrev LB199 (C : Cx) (pd : Option (Option Code)) : Bool × Blk := (false, .loop 199 0 45 (mkT [4, 5, 6, 7, 8] [.ptr 4 0 0, .ptr 5 1 0, .ptr 6 2 0, .ptr 7 3 0, .ptr 8 4 0] .leaf) [19, 20] (rangeOf C 199 19).1 (rangeOf C 199 19).2 pd)
abbrev rs0 : List AV := [.v (.string (ByteArray.mk #[])), .v (.string (ByteArray.mk #[])), .v (.string (ByteArray.mk #[])), iA 0, .v (.slice none 0 0)]
abbrev bb199 (C : Cx) (cs : List AV) (s w : ByteArray) (day : Int) (z : List AV) (pd : Option (Option Code)) : List (Bool × Blk) := [(false, .box [sA s]), (false, .box [iA day]), (false, .box (rs0 ++ [iA 0])), (false, .box [sA w]), (false, .box z), LB199 C pd, (false, .box [.rsl 5 cs false])]
end Go.Vm.S3

namespace Go.Vm.S3
open Go.Proofs Go.RowKit
set_option maxRecDepth 100000
variable (ps fs cs ts : List AV) (d u : Int)
abbrev cR8_17 (cs : List AV) (s w : ByteArray) (day : Int) (k : Nat) (a b c : ByteArray) (n : Int) (us : List AV) (h9 : List Hn) (a9 : List An) (x9 : Ex) (v9 : List AV) (e9 : List (Bool × Blk)) : Prop := Lq R7 7 233 49 19 68 0 [0, 1, 3] [4, 5, 6, 7, 8, 19, 46] [0, 1, 3] [4, 5, 6, 7, 8, 19, 46] [] [4, 5, 6, 7, 8, 19, 46] [.yld 19 5, .ptr 46 6 0, iA (Int.ofNat k)] (bb199 (CS R7) cs s w day (rs0 ++ [iA (-1)]) none) ([.as 8 true, .chk [.agg [sA a, sA b, sA c, iA n, .rsl 1 us false]]] ++ h9) ([.b true, .g cs k] ++ a9) x9 v9 e9
theorem r199a (cs : List AV) (s w : ByteArray) (day : Int) (k : Nat) (a b c : ByteArray) (n : Int) (us : List AV) (z : Int) : cR8_17 cs s w day k a b c n us [.as 23 false, .ar (iA z)] [.b (!(w.toList == (ByteArray.mk #[]).toList)), .k ((abin (CS R7) BinOp.sub 3 (Operand.tmp 9) (Operand.const (Value.int IntKind.i64 1)) (iA (Int.ofNat k)) (iA 1)) = (some (iA z)))] .nrm [.yld 19 5, .ptr 46 6 0, iA z] [(false, .box [sA s]), (false, .box [iA day]), (false, .box [sA (ByteArray.mk #[]), sA (ByteArray.mk #[]), sA (ByteArray.mk #[]), iA 0, .v (.slice none 0 0), iA 0]), (false, .box [sA w]), (false, .box [sA (ByteArray.mk #[]), sA (ByteArray.mk #[]), sA (ByteArray.mk #[]), iA 0, .v (.slice none 0 0), iA (-1)]), (false, .loop 199 0 45 (mkT [4, 5, 6, 7, 8] [.ptr 4 0 0, .ptr 5 1 0, .ptr 6 2 0, .ptr 7 3 0, .ptr 8 4 0] .leaf) [19, 20] (rangeOf (CS R7) 199 19).1 (rangeOf (CS R7) 199 19).2 none), (false, .box [.rsl 5 cs false])] := kQ (by kernel_rfl)
theorem r199b (cs : List AV) (s w : ByteArray) (day : Int) (k : Nat) (a b c : ByteArray) (n : Int) (us : List AV) (z : Int) : cR8_17 cs s w day k a b c n us [.as 23 true, .as 29 false, .ar (iA z)] [.b (!(w.toList == (ByteArray.mk #[]).toList)), .b (b.toList == s.toList), .k ((abin (CS R7) BinOp.sub 3 (Operand.tmp 9) (Operand.const (Value.int IntKind.i64 1)) (iA (Int.ofNat k)) (iA 1)) = (some (iA z)))] .nrm [.yld 19 5, .ptr 46 6 0, iA z] [(false, .box [sA s]), (false, .box [iA day]), (false, .box [sA (ByteArray.mk #[]), sA (ByteArray.mk #[]), sA (ByteArray.mk #[]), iA 0, .v (.slice none 0 0), iA 0]), (false, .box [sA w]), (false, .box [sA (ByteArray.mk #[]), sA (ByteArray.mk #[]), sA (ByteArray.mk #[]), iA 0, .v (.slice none 0 0), iA (-1)]), (false, .loop 199 0 45 (mkT [4, 5, 6, 7, 8] [.ptr 4 0 0, .ptr 5 1 0, .ptr 6 2 0, .ptr 7 3 0, .ptr 8 4 0] .leaf) [19, 20] (rangeOf (CS R7) 199 19).1 (rangeOf (CS R7) 199 19).2 none), (false, .box [.rsl 5 cs false])] := kQ (by kernel_rfl)
theorem r199c (cs : List AV) (s w : ByteArray) (day : Int) (k : Nat) (a b c : ByteArray) (n : Int) (us : List AV) (z : Int) : cR8_17 cs s w day k a b c n us [.as 23 true, .as 29 true, .as 35 false, .ar (iA z)] [.b (!(w.toList == (ByteArray.mk #[]).toList)), .b (b.toList == s.toList), .b (c.toList == w.toList), .k ((abin (CS R7) BinOp.sub 3 (Operand.tmp 9) (Operand.const (Value.int IntKind.i64 1)) (iA (Int.ofNat k)) (iA 1)) = (some (iA z)))] .nrm [.yld 19 5, .ptr 46 6 0, iA z] [(false, .box [sA s]), (false, .box [iA day]), (false, .box [sA (ByteArray.mk #[]), sA (ByteArray.mk #[]), sA (ByteArray.mk #[]), iA 0, .v (.slice none 0 0), iA 0]), (false, .box [sA w]), (false, .box [sA (ByteArray.mk #[]), sA (ByteArray.mk #[]), sA (ByteArray.mk #[]), iA 0, .v (.slice none 0 0), iA (-1)]), (false, .loop 199 0 45 (mkT [4, 5, 6, 7, 8] [.ptr 4 0 0, .ptr 5 1 0, .ptr 6 2 0, .ptr 7 3 0, .ptr 8 4 0] .leaf) [19, 20] (rangeOf (CS R7) 199 19).1 (rangeOf (CS R7) 199 19).2 none), (false, .box [.rsl 5 cs false])] := kQ (by kernel_rfl)
theorem r199d (cs : List AV) (s w : ByteArray) (day : Int) (k : Nat) (a b c : ByteArray) (n : Int) (us : List AV) (z : Int) : cR8_17 cs s w day k a b c n us [.as 23 true, .as 29 true, .as 35 true, .as 40 false, .ar (iA z)] [.b (!(w.toList == (ByteArray.mk #[]).toList)), .b (b.toList == s.toList), .b (c.toList == w.toList), .b (decide (n ≤ day)), .k ((abin (CS R7) BinOp.sub 3 (Operand.tmp 9) (Operand.const (Value.int IntKind.i64 1)) (iA (Int.ofNat k)) (iA 1)) = (some (iA z)))] .nrm [.yld 19 5, .ptr 46 6 0, iA z] [(false, .box [sA s]), (false, .box [iA day]), (false, .box [sA (ByteArray.mk #[]), sA (ByteArray.mk #[]), sA (ByteArray.mk #[]), iA 0, .v (.slice none 0 0), iA 0]), (false, .box [sA w]), (false, .box [sA (ByteArray.mk #[]), sA (ByteArray.mk #[]), sA (ByteArray.mk #[]), iA 0, .v (.slice none 0 0), iA (-1)]), (false, .loop 199 0 45 (mkT [4, 5, 6, 7, 8] [.ptr 4 0 0, .ptr 5 1 0, .ptr 6 2 0, .ptr 7 3 0, .ptr 8 4 0] .leaf) [19, 20] (rangeOf (CS R7) 199 19).1 (rangeOf (CS R7) 199 19).2 none), (false, .box [.rsl 5 cs false])] := kQ (by kernel_rfl)
theorem r199y (cs : List AV) (s w : ByteArray) (day : Int) (k : Nat) (a b c : ByteArray) (n : Int) (us : List AV) : cR8_17 cs s w day k a b c n us [.as 23 true, .as 29 true, .as 35 true, .as 40 true] [.b (!(w.toList == (ByteArray.mk #[]).toList)), .b (b.toList == s.toList), .b (c.toList == w.toList), .b (decide (n ≤ day))] .ret [] [(false, .box [sA s]), (false, .box [iA day]), (false, .box [sA (ByteArray.mk #[]), sA (ByteArray.mk #[]), sA (ByteArray.mk #[]), iA 0, .v (.slice none 0 0), iA 0]), (false, .box [sA w]), (false, .box [sA a, sA b, sA c, iA n, .rsl 1 us false, iA (Int.ofNat k)]), (false, .loop 199 0 45 (mkT [4, 5, 6, 7, 8] [.ptr 4 0 0, .ptr 5 1 0, .ptr 6 2 0, .ptr 7 3 0, .ptr 8 4 0] .leaf) [19, 20] (rangeOf (CS R7) 199 19).1 (rangeOf (CS R7) 199 19).2 (some (some (Code.exit 0)))), (false, .box [.rsl 5 cs false])] := kQ (by kernel_rfl)
theorem r199x (cs : List AV) (s w : ByteArray) (day : Int) : Lq R7 7 233 49 19 68 0 [0, 1, 3] [4, 5, 6, 7, 8, 19, 46] [0, 1, 3] [4, 5, 6, 7, 8, 19, 46] [] [4, 5, 6, 7, 8, 19, 46] [.yld 19 5, .ptr 46 6 0, iA (-1)] (bb199 (CS R7) cs s w day (rs0 ++ [iA (-1)]) none) [.as 8 false] [.b (decide (-1 ≥ 0))] (.exit 0) [] [(false, .box [sA s]), (false, .box [iA day]), (false, .box [sA (ByteArray.mk #[]), sA (ByteArray.mk #[]), sA (ByteArray.mk #[]), iA 0, .v (.slice none 0 0), iA 0]), (false, .box [sA w]), (false, .box [sA (ByteArray.mk #[]), sA (ByteArray.mk #[]), sA (ByteArray.mk #[]), iA 0, .v (.slice none 0 0), iA (-1)]), (false, .loop 199 0 45 (mkT [4, 5, 6, 7, 8] [.ptr 4 0 0, .ptr 5 1 0, .ptr 6 2 0, .ptr 7 3 0, .ptr 8 4 0] .leaf) [19, 20] (rangeOf (CS R7) 199 19).1 (rangeOf (CS R7) 199 19).2 none), (false, .box [.rsl 5 cs false])] := kQ (by kernel_rfl)
theorem t199n (s w : ByteArray) (day z : Int) : L R7 199 [lbE ps fs cs ts d u, sA s, iA day] [.sp [lbE ps fs cs ts d u, sA s, iA day] (sA w), .ar (iA z), .loop 7 [0, 1, 3] [4, 5, 6, 7, 8, 19, 46] [] [4, 5, 6, 7, 8, 19, 46] (.exit 0) [] (bb199 (CS R7) cs s w day (rs0 ++ [iA (-1)]) none)] [.f 113, .k ((abin (CS R7) BinOp.sub 3 (Operand.tmp 5) (Operand.const (Value.int IntKind.i64 1)) (iA (Int.ofNat cs.length)) (iA 1)) = (some (iA z))), .l 19 233 0 68 [.yld 19 5, .ptr 46 6 0, iA z] [(false, .box [sA s]), (false, .box [iA day]), (false, .box [sA (ByteArray.mk #[]), sA (ByteArray.mk #[]), sA (ByteArray.mk #[]), iA 0, .v (.slice none 0 0), iA 0]), (false, .box [sA w]), (false, .box [sA (ByteArray.mk #[]), sA (ByteArray.mk #[]), sA (ByteArray.mk #[]), iA 0, .v (.slice none 0 0), iA (-1)]), (false, .loop 199 0 45 (mkT [4, 5, 6, 7, 8] [.ptr 4 0 0, .ptr 5 1 0, .ptr 6 2 0, .ptr 7 3 0, .ptr 8 4 0] .leaf) [19, 20] (rangeOf (CS R7) 199 19).1 (rangeOf (CS R7) 199 19).2 none), (false, .box [.rsl 5 cs false])]] (.agg [sA (ByteArray.mk #[]), sA (ByteArray.mk #[]), sA (ByteArray.mk #[]), iA 0, .v (.slice none 0 0), iA (-1)]) := kR (by kernel_rfl)
theorem t199y (s w : ByteArray) (day z : Int) (a b c : ByteArray) (n : Int) (us : List AV) (k : Nat) : L R7 199 [lbE ps fs cs ts d u, sA s, iA day] [.sp [lbE ps fs cs ts d u, sA s, iA day] (sA w), .ar (iA z), .loop 7 [0, 1, 3] [4, 5, 6, 7, 8, 19, 46] [] [4, 5, 6, 7, 8, 19, 46] .ret [] (bb199 (CS R7) cs s w day ([sA a, sA b, sA c, iA n, .rsl 1 us false] ++ [iA (Int.ofNat k)]) (some (some (.exit 0))))] [.f 113, .k ((abin (CS R7) BinOp.sub 3 (Operand.tmp 5) (Operand.const (Value.int IntKind.i64 1)) (iA (Int.ofNat cs.length)) (iA 1)) = (some (iA z))), .l 19 233 0 68 [.yld 19 5, .ptr 46 6 0, iA z] [(false, .box [sA s]), (false, .box [iA day]), (false, .box [sA (ByteArray.mk #[]), sA (ByteArray.mk #[]), sA (ByteArray.mk #[]), iA 0, .v (.slice none 0 0), iA 0]), (false, .box [sA w]), (false, .box [sA (ByteArray.mk #[]), sA (ByteArray.mk #[]), sA (ByteArray.mk #[]), iA 0, .v (.slice none 0 0), iA (-1)]), (false, .loop 199 0 45 (mkT [4, 5, 6, 7, 8] [.ptr 4 0 0, .ptr 5 1 0, .ptr 6 2 0, .ptr 7 3 0, .ptr 8 4 0] .leaf) [19, 20] (rangeOf (CS R7) 199 19).1 (rangeOf (CS R7) 199 19).2 none), (false, .box [.rsl 5 cs false])]] (.agg [sA a, sA b, sA c, iA n, .rsl 1 us false, iA (Int.ofNat k)]) := kR (by kernel_rfl)
theorem goL_snoc {α : Type} (F : Nat → α → Int → Int) (c : α) : ∀ (l : List α) (i : Nat) (o : Int), goL (fun i c o => (.inl (F i c o) : Int ⊕ Int)) id i (l ++ [c]) o = F (i + l.length) c (goL (fun i c o => (.inl (F i c o) : Int ⊕ Int)) id i l o)
 | [], i, o => rfl
 | x :: l, i, o => by
  show goL _ id (i + 1) (l ++ [c]) (F i x o) = _
  rw [goL_snoc F c l (i + 1) (F i x o)]
  rw [show i + 1 + l.length = i + (x :: l).length by rw [List.length_cons]; omega]
  rfl
def bkF (w s : ByteArray) (day : Int) (n : Nat) (j : Nat) (c : Cb) : Option (Cb × Nat) := bif calS w s day c then some (c, n - 1 - j) else none
theorem bk_at (w s : ByteArray) (day : Int) : ∀ (n : Nat) (l : List Cb), l.length = n → ∀ i0 : Nat, (calI w s day l = -1 ∧ srch (bkF w s day (i0 + n)) i0 l.reverse = none) ∨
  ∃ k c, l[k]? = some c ∧ calI w s day l = Int.ofNat k ∧ srch (bkF w s day (i0 + n)) i0 l.reverse = some (c, k)
 | 0, l, h, i0 => by
  have : l = [] := List.eq_nil_of_length_eq_zero h
  subst this
  exact .inl ⟨rfl, rfl⟩
 | n + 1, l, h, i0 => by
  obtain ⟨l', c, rfl⟩ : ∃ l' c, l = l' ++ [c] := ⟨l.dropLast, l.getLast (by intro e; rw [e] at h; cases h), (List.dropLast_concat_getLast _).symm⟩
  have hn : l'.length = n := by rw [List.length_append, List.length_singleton] at h; omega
  have hc : calI w s day (l' ++ [c]) = bif calS w s day c then Int.ofNat (0 + l'.length) else calI w s day l' := goL_snoc (fun i (c : Cb) (o : Int) => bif calS w s day c then Int.ofNat i else o) c l' 0 (-1)
  rw [hc, List.reverse_append, List.reverse_singleton, List.singleton_append]
  unfold srch
  cases hq : calS w s day c with
  | true =>
   refine .inr ⟨l'.length, c, by simp, by rw [cond_true, Nat.zero_add], ?_⟩
   unfold bkF
   rw [hq, cond_true, show i0 + (n + 1) - 1 - i0 = l'.length by omega]
  | false =>
   have hb : bkF w s day (i0 + (n + 1)) i0 c = none := by unfold bkF; rw [hq]; rfl
   rw [hb, cond_false]
   rcases bk_at w s day n l' hn (i0 + 1) with ⟨h1, h2⟩ | ⟨k, c', h1, h2, h3⟩
   ·exact .inl ⟨h1, by rw [show i0 + (n + 1) = i0 + 1 + n by omega]; exact h2⟩
   ·refine .inr ⟨k, c', ?_, h2, by rw [show i0 + (n + 1) = i0 + 1 + n by omega]; exact h3⟩
    rw [List.getElem?_append_left (lt_len h1)]; exact h1
abbrev Rs : Type := ByteArray × ByteArray × ByteArray × Int × List Int × Int
abbrev rsA (r : Rs) : AV := .agg [sA r.1, sA r.2.1, sA r.2.2.1, iA r.2.2.2.1, .rsl 1 (r.2.2.2.2.1.map intC.enc) false, iA r.2.2.2.2.2]
def rsOf (c : Cb) (k : Int) : Rs := (c.1, c.2.1, c.2.2.1, c.2.2.2.1, c.2.2.2.2, k)
def rsM (x : Lb) (s : ByteArray) (day : Int) : Rs := bif decide (cntM x s day < 0) then rsOf cb0 (-1) else rsOf (cbAt x (cntM x s day).toNat) (cntM x s day)
def rs199G : List AV → Option AV := sp3 labC strC intC fun x s day => bif okLb x then some (rsA (rsM x s day)) else none
def cntv (n j : Nat) : Int := Int.ofNat n - 1 - Int.ofNat j
theorem subIx (S : Specs) (x y : Operand) {a b : Int} (h : a - 1 = b) (h1 : -1 ≤ b) (h2 : b < 1000000000) : abin (CS S) BinOp.sub 3 x y (AV.v (.int .i64 a)) (AV.v (.int .i64 1)) = some (AV.v (.int .i64 b)) := by
 show some (AV.v (.int .i64 (IntKind.i64.wrap (a - 1)))) = _
 rw [h, wrap_in (by omega) (by omega)]
abbrev ks199 : List Nat := [4, 5, 6, 7, 8, 19, 46]
theorem loop199 (x : Lb) (hlim : x.2.2.1.length ≤ lim) (s w : ByteArray) (day : Int) :
  LoopRun (CS R7) 7 19 false (lO (CS R7) 233 0) (mkSt [0, 1, 3] ks199 68 [.yld 19 5, .ptr 46 6 0, iA (cntv x.2.2.1.length 0)] (bb199 (CS R7) (x.2.2.1.map cbC.enc) s w day (rs0 ++ [iA (-1)]) none))
   ((srch (bkF w s day x.2.2.1.length) 0 x.2.2.1.reverse).elim (.exit 0) fun _ => .ret)
   ((srch (bkF w s day x.2.2.1.length) 0 x.2.2.1.reverse).elim (mkSt [] ks199 68 [] (bb199 (CS R7) (x.2.2.1.map cbC.enc) s w day (rs0 ++ [iA (-1)]) none)) fun t => mkSt [] ks199 68 [] (bb199 (CS R7) (x.2.2.1.map cbC.enc) s w day ([sA t.1.1, sA t.1.2.1, sA t.1.2.2.1, iA t.1.2.2.2.1, .rsl 1 (t.1.2.2.2.2.map intC.enc) false] ++ [iA (Int.ofNat t.2)]) (some (some (.exit 0))))) :=
 LoopRun.find (C := CS R7) (p := 7) (nt := 19) (rd := false) (c := lO (CS R7) 233 0) (bkF w s day x.2.2.1.length)
  (fun j => mkSt [0, 1, 3] ks199 68 [.yld 19 5, .ptr 46 6 0, iA (cntv x.2.2.1.length j)] (bb199 (CS R7) (x.2.2.1.map cbC.enc) s w day (rs0 ++ [iA (-1)]) none))
  (fun t => mkSt [] ks199 68 [] (bb199 (CS R7) (x.2.2.1.map cbC.enc) s w day ([sA t.1.1, sA t.1.2.1, sA t.1.2.2.1, iA t.1.2.2.2.1, .rsl 1 (t.1.2.2.2.2.map intC.enc) false] ++ [iA (Int.ofNat t.2)]) (some (some (.exit 0)))))
  (mkSt [] ks199 68 [] (bb199 (CS R7) (x.2.2.1.map cbC.enc) s w day (rs0 ++ [iA (-1)]) none)) (.exit 0) (fun _ => .ret) x.2.2.1.reverse (by simp) (by simp)
  (fun j c hc => by
   have hj : j < x.2.2.1.length := by have := lt_len hc; rw [List.length_reverse] at this; exact this
   rw [List.getElem?_reverse hj] at hc
   have hg := get_map cbC.enc hc
   have hv : cntv x.2.2.1.length j = Int.ofNat (x.2.2.1.length - 1 - j) := by unfold cntv; simp only [Int.ofNat_eq_natCast]; omega
   have hz := fun a b => subIx R7 a b (a := Int.ofNat (x.2.2.1.length - 1 - j)) (b := cntv x.2.2.1.length (j + 1)) (by unfold cntv; simp only [Int.ofNat_eq_natCast]; omega) (by unfold cntv; simp only [Int.ofNat_eq_natCast]; omega) (by unfold cntv; unfold lim at hlim; simp only [Int.ofNat_eq_natCast]; omega)
   unfold bkF calS
   simp only [hv]
   cases h1 : nilB w with
   | true => exact R7_ok.rndN (r199a (x.2.2.1.map cbC.enc) s w day (x.2.2.1.length - 1 - j) c.1 c.2.1 c.2.2.1 c.2.2.2.1 (c.2.2.2.2.map intC.enc) _) ⟨rfl, hg, by show (!nilB w) = false; rw [h1]; rfl, hz _ _, trivial, rfl⟩
   | false =>
    have hn : (!nilB w) = true := by rw [h1]; rfl
    cases h2 : seq c.2.1 s with
    | false => exact R7_ok.rndN (r199b (x.2.2.1.map cbC.enc) s w day (x.2.2.1.length - 1 - j) c.1 c.2.1 c.2.2.1 c.2.2.2.1 (c.2.2.2.2.map intC.enc) _) ⟨rfl, hg, hn, h2, hz _ _, trivial, rfl⟩
    | true =>
     cases h3 : seq c.2.2.1 w with
     | false => exact R7_ok.rndN (r199c (x.2.2.1.map cbC.enc) s w day (x.2.2.1.length - 1 - j) c.1 c.2.1 c.2.2.1 c.2.2.2.1 (c.2.2.2.2.map intC.enc) _) ⟨rfl, hg, hn, h2, h3, hz _ _, trivial, rfl⟩
     | true =>
      cases h4 : decide (c.2.2.2.1 ≤ day) with
      | false => exact R7_ok.rndN (r199d (x.2.2.1.map cbC.enc) s w day (x.2.2.1.length - 1 - j) c.1 c.2.1 c.2.2.1 c.2.2.2.1 (c.2.2.2.2.map intC.enc) _) ⟨rfl, hg, hn, h2, h3, h4, hz _ _, trivial, rfl⟩
      | true => exact R7_ok.rndR (r199y (x.2.2.1.map cbC.enc) s w day (x.2.2.1.length - 1 - j) c.1 c.2.1 c.2.2.1 c.2.2.2.1 (c.2.2.2.2.map intC.enc)) ⟨rfl, hg, hn, h2, h3, h4, trivial, rfl⟩)
  (by
   have hv : cntv x.2.2.1.length x.2.2.1.reverse.length = -1 := by unfold cntv; rw [List.length_reverse]; simp only [Int.ofNat_eq_natCast]; omega
   rw [hv]
   exact R7_ok.rndX (r199x (x.2.2.1.map cbC.enc) s w day) ⟨rfl, trivial, rfl⟩)
theorem h199 : Holds 199 rs199G := holds3 fun x s day r hr => by
 cases hb : okLb x with
 | false => simp [hb] at hr
 | true =>
  simp only [hb, cond_true, Option.some.injEq] at hr; subst hr
  have K := okLb_at hb
  have hlim := K.cs
  have h := loop199 x K.cs s (specM x.2.1 s day) day
  have hsub := fun a b => subIx R7 a b (a := Int.ofNat (x.2.2.1.map cbC.enc).length) (b := cntv x.2.2.1.length 0) (by unfold cntv; rw [e_cb]; simp only [Int.ofNat_eq_natCast]; omega) (by unfold cntv; simp only [Int.ofNat_eq_natCast]; omega) (by unfold cntv; unfold lim at hlim; simp only [Int.ofNat_eq_natCast]; omega)
  rcases bk_at (specM x.2.1 s day) s day x.2.2.1.length x.2.2.1 rfl 0 with ⟨h1, h2⟩ | ⟨k, c, h1, h2, h3⟩
  ·rw [Nat.zero_add] at h2
   rw [h2] at h
   have e : rsM x s day = rsOf cb0 (-1) := by
    unfold rsM
    rw [show cntM x s day = -1 from h1]; rfl
   rw [e]
   refine Comp.weak (R7_ok.tr (r := .agg [sA ⟨#[]⟩, sA ⟨#[]⟩, sA ⟨#[]⟩, iA 0, .v (.slice none 0 0), iA (-1)]) ((lx x t199n) s (specM x.2.1 s day) day (cntv x.2.2.1.length 0)) ⟨⟨rfl, spSpec s day hb⟩, hsub _ _, ⟨trivial, trivial, h.says⟩, rfl⟩) WeakL.rfl ?_
   exact Weak.agg (WeakL.cons Weak.rfl (WeakL.cons Weak.rfl (WeakL.cons Weak.rfl (WeakL.cons Weak.rfl (WeakL.cons Weak.nilSl (WeakL.cons Weak.rfl WeakL.nil))))))
  ·rw [Nat.zero_add] at h3
   rw [h3] at h
   have hk := lt_len h1
   have hc : cbAt x k = c := by
    have := cbAt_get hk
    rw [h1, Option.some.injEq] at this; exact this.symm
   have e : rsM x s day = rsOf c (Int.ofNat k) := by
    unfold rsM
    rw [show cntM x s day = Int.ofNat k from h2, show decide (Int.ofNat k < 0) = false from decide_eq_false (by simp), cond_false, show (Int.ofNat k).toNat = k from rfl, hc]
   rw [e]
   exact R7_ok.tr ((lx x t199y) s (specM x.2.1 s day) day (cntv x.2.2.1.length 0) c.1 c.2.1 c.2.2.1 c.2.2.2.1 (c.2.2.2.2.map intC.enc) k) ⟨⟨rfl, spSpec s day hb⟩, hsub _ _, ⟨trivial, trivial, h.says⟩, rfl⟩
noncomputable def R8 : Specs := (R7.set 199 rs199G)
theorem R8_ok : Ok R8 := (R7_ok.set h199)
end Go.Vm.S3

namespace Go.Vm.S3
open Go.Proofs Go.RowKit
set_option maxRecDepth 100000
variable (ps fs cs ts : List AV) (d u : Int)
theorem t198 (a : ByteArray) (n : Int) (ws : List AV) (p a2 b2 c2 : ByteArray) (n2 k : Int) (us : List AV) : L R8 198 [sA p, .rptr [.rsl 7 ps false, .rsl 3 fs false, .rsl 5 cs false, .rsl 3 ts false, iA d, iA u], .rptr [sA a, iA n, .rsl 1 ws false]] [.sp [lbE ps fs cs ts d u, sA p, iA n] (.agg [sA a2, sA b2, sA c2, iA n2, .rsl 1 us false, iA k])] [.f 199] (sA a2) := kR (by kernel_rfl)
def labR : RC Lb := RC.cons ptsC (RC.cons ftsC (RC.cons cbsC (RC.cons tssC (RC.cons intC (RC.one intC)))))
theorem spRs {x : Lb} (s : ByteArray) (day : Int) (h : okLb x = true) : rs199G [lbA x, sA s, iA day] = some (rsA (rsM x s day)) := by
 have := sp3_at (A := labC) (B := strC) (D := intC) (F := fun x s day => bif okLb x then some (rsA (rsM x s day)) else none) x s day
 rw [h] at this; exact this
theorem rsM_name (x : Lb) (s : ByteArray) (day : Int) : (rsM x s day).1 = rstM1 x day s := by
 unfold rsM rstM1
 cases decide (cntM x s day < 0) <;> rfl
def nm198G : List AV → Option AV := sp3 strC (rptrR labR) (rptrR tsR) fun p x t => bif okLb x then some (sA (rstM1 x t.2.1 p)) else none
theorem h198 : Holds 198 nm198G := holds3 fun p x t r hr => by
 cases hb : okLb x with
 | false => simp [hb] at hr
 | true =>
  simp only [hb, cond_true, Option.some.injEq] at hr; subst hr
  have hs := spRs p t.2.1 hb
  rw [← rsM_name]
  generalize rsM x p t.2.1 = q at hs ⊢
  exact R8_ok.tr ((lx x t198) t.1 t.2.1 (t.2.2.map strC.enc) p q.1 q.2.1 q.2.2.1 q.2.2.2.1 q.2.2.2.2.2 (q.2.2.2.2.1.map intC.enc)) ⟨⟨rfl, hs⟩, rfl⟩
noncomputable def R9 : Specs := (R8.set 198 nm198G)
theorem R9_ok : Ok R9 := (R8_ok.set h198)
end Go.Vm.S3

namespace Go.Vm.S3
open Go.Proofs Go.RowKit
set_option maxRecDepth 100000
variable (ps fs cs ts : List AV) (d u : Int)
theorem r197a (a : ByteArray) (n : Int) (ws : List AV) (es : List AV) (l i : Nat) (y z : ByteArray) : Lr R9 197 22 0 [1, 5, 8, 9, 10] [] [1, 5, 8, 9, 10] [19] [5] [] [.fn (.func 198) [] [.rptr [.rsl 7 ps false, .rsl 3 fs false, .rsl 5 cs false, .rsl 3 ts false, iA d, iA u], .rptr [sA a, iA n, .rsl 1 ws false]], nilS, .rsl 1 es false, iA (Int.ofNat l), iA (Int.ofNat i)] [] [.as 11 true, .chk [sA y], .sp [sA y, .rptr [.rsl 7 ps false, .rsl 3 fs false, .rsl 5 cs false, .rsl 3 ts false, iA d, iA u], .rptr [sA a, iA n, .rsl 1 ws false]] (sA z)] [.t i l, .g es i, .f 198] .nrm [.fn (Fn.func 198) [] [.rptr [.rsl 7 ps false, .rsl 3 fs false, .rsl 5 cs false, .rsl 3 ts false, iA d, iA u], .rptr [sA a, iA n, .rsl 1 ws false]], .sl 19 0 1 0 1, .rsl 1 es false, iA (Int.ofNat l), iA (IntKind.i64.wrap (Int.ofNat i + 1))] [(false, .arr 1 [sA z] false)] := kN (by kernel_rfl)
theorem r197xa (a : ByteArray) (n : Int) (ws : List AV) (es : List AV) (l i : Nat) : Lr R9 197 22 0 [1, 5, 8, 9, 10] [] [1, 5, 8, 9, 10] [] [5] [] [.fn (.func 198) [] [.rptr [.rsl 7 ps false, .rsl 3 fs false, .rsl 5 cs false, .rsl 3 ts false, iA d, iA u], .rptr [sA a, iA n, .rsl 1 ws false]], nilS, .rsl 1 es false, iA (Int.ofNat l), iA (Int.ofNat i)] [] [.as 11 false] [.t i l] (.exit 0) [.v (.slice none 0 0)] [] := kN (by kernel_rfl)
theorem r197b (a : ByteArray) (n : Int) (ws : List AV) (es : List AV) (l i : Nat) (rs : List AV) (m : Nat) (y z : ByteArray) : Lr R9 197 22 0 [1, 5, 8, 9, 10] [19] [1, 5, 8, 9, 10] [19] [5] [19] [.fn (.func 198) [] [.rptr [.rsl 7 ps false, .rsl 3 fs false, .rsl 5 cs false, .rsl 3 ts false, iA d, iA u], .rptr [sA a, iA n, .rsl 1 ws false]], .sl 19 0 1 0 m, .rsl 1 es false, iA (Int.ofNat l), iA (Int.ofNat i)] [(false, .arr 1 rs false)] [.as 11 true, .chk [sA y], .sp [sA y, .rptr [.rsl 7 ps false, .rsl 3 fs false, .rsl 5 cs false, .rsl 3 ts false, iA d, iA u], .rptr [sA a, iA n, .rsl 1 ws false]] (sA z), .chk rs] [.t i l, .g es i, .f 198, .k (apn m rs 1 [sA z] 16)] .nrm [.fn (Fn.func 198) [] [.rptr [.rsl 7 ps false, .rsl 3 fs false, .rsl 5 cs false, .rsl 3 ts false, iA d, iA u], .rptr [sA a, iA n, .rsl 1 ws false]], .sl 19 0 1 0 ((rs ++ ([sA z] : List AV)).length), .rsl 1 es false, iA (Int.ofNat l), iA (IntKind.i64.wrap (Int.ofNat i + 1))] [(false, .arr 1 (rs ++ ([sA z] : List AV)) false)] := kN (by kernel_rfl)
theorem r197xb (a : ByteArray) (n : Int) (ws : List AV) (es : List AV) (l i : Nat) (rs : List AV) (m : Nat) : Lr R9 197 22 0 [1, 5, 8, 9, 10] [19] [1, 5, 8, 9, 10] [19] [5] [19] [.fn (.func 198) [] [.rptr [.rsl 7 ps false, .rsl 3 fs false, .rsl 5 cs false, .rsl 3 ts false, iA d, iA u], .rptr [sA a, iA n, .rsl 1 ws false]], .sl 19 0 1 0 m, .rsl 1 es false, iA (Int.ofNat l), iA (Int.ofNat i)] [(false, .arr 1 rs false)] [.as 11 false] [.t i l] (.exit 0) [.sl 19 0 1 0 m] [(false, .arr 1 rs false)] := kN (by kernel_rfl)
theorem t197 (a : ByteArray) (n : Int) (ws : List AV) (es rs : List AV) : L R9 197 [.rsl 1 es false, .fn (.func 198) [] [.rptr [.rsl 7 ps false, .rsl 3 fs false, .rsl 5 cs false, .rsl 3 ts false, iA d, iA u], .rptr [sA a, iA n, .rsl 1 ws false]]] [.loop 0 [1, 5, 8, 9, 10] [] [5] [] (.exit 0) [.rsl 1 rs false] []] [.l 22 197 0 22 [.fn (Fn.func 198) [] [.rptr [.rsl 7 ps false, .rsl 3 fs false, .rsl 5 cs false, .rsl 3 ts false, iA d, iA u], .rptr [sA a, iA n, .rsl 1 ws false]], .v (.slice none 0 0), .rsl 1 es false, iA (Int.ofNat es.length), iA 0] []] (.rsl 1 rs false) := kR (by kernel_rfl)
def cloR {α : Type} (f : FuncId) (R : RC α) : Cod α where
  dec | .fn (.func f') [] l => bif Nat.beq f' f then R.decs l else none
      | _ => none
  enc x := .fn (.func f) [] (R.encs x)
  weak a x h := by
    split at h
    · rename_i f' l'
      cases hb : Nat.beq f' f with
      | false => simp [hb] at h
      | true =>
        simp only [hb, cond_true] at h
        have hf := Nat.eq_of_beq_eq_true hb
        subst hf
        intro M y hy
        unfold Rep at hy ⊢
        obtain ⟨l, c, rfl, h1, h2⟩ := hy
        exact ⟨l, c, rfl, h1, R.weak _ _ h _ _ h2⟩
    · cases h
  rt x := by simp [R.rt]
abbrev lbRA (x : Lb) : AV := .rptr [.rsl 7 (x.1.map ptC.enc) false, .rsl 3 (x.2.1.map ftC.enc) false, .rsl 5 (x.2.2.1.map cbC.enc) false, .rsl 3 (x.2.2.2.1.map tsC.enc) false, iA x.2.2.2.2.1, iA x.2.2.2.2.2]
abbrev tsRA (t : Ts) : AV := .rptr [sA t.1, iA t.2.1, .rsl 1 (t.2.2.map strC.enc) false]
theorem spNm {x : Lb} (t : Ts) (p : ByteArray) (h : okLb x = true) : nm198G [sA p, lbRA x, tsRA t] = some (sA (rstM1 x t.2.1 p)) := by
 have := sp3_at (A := strC) (B := rptrR labR) (D := rptrR tsR) (F := fun p x t => bif okLb x then some (sA (rstM1 x t.2.1 p)) else none) p x t
 rw [h] at this; exact this
def mp197G : List AV → Option AV := sp2 strsC (cloR 198 (RC.cons (rptrR labR) (RC.one (rptrR tsR)))) fun l q => bif okLb q.1 && Nat.ble l.length lim then some (slA strC 1 (l.map (rstM1 q.1 q.2.2.1))) else none
set_option maxRecDepth 20000 in
theorem h197 : Holds 197 mp197G := holds2 fun l q r hr => by
 cases hb : okLb q.1 && Nat.ble l.length lim with
 | false => simp [hb] at hr
 | true =>
  simp only [hb, cond_true, Option.some.injEq] at hr; subst hr
  rw [Bool.and_eq_true] at hb
  obtain ⟨hok, hlim0⟩ := hb
  have hlim := Nat.le_of_ble_eq_true hlim0
  have hl := limTwo hlim
  have e := e_st l
  have h := LoopRun.builds (C := CS R9) (nt := 22) (rd := false) (c := lO (CS R9) 197 0) strC.enc closedStr (rstM1 q.1 q.2.2.1) 19 1 [1, 5, 8, 9, 10] 22 (fun i a => [.fn (.func 198) [] [lbRA q.1, tsRA q.2], a, .rsl 1 (l.map strC.enc) false, iA (Int.ofNat l.length), iA (Int.ofNat i)]) l (.exit 0) 5 (by simp)
   (fun i x hx => by
    have hi := lt_len hx
    have hr := r197a (q.1.1.map ptC.enc) (q.1.2.1.map ftC.enc) (q.1.2.2.1.map cbC.enc) (q.1.2.2.2.1.map tsC.enc) q.1.2.2.2.2.1 q.1.2.2.2.2.2 q.2.1 q.2.2.1 (q.2.2.2.map strC.enc) (l.map strC.enc) l.length i x ((rstM1 q.1 q.2.2.1) x)
    rw [wrap_ix hi hl] at hr
    exact R9_ok.rndN hr ⟨lt_of hi, get_map _ hx, ⟨rfl, spNm q.2 x hok⟩, ⟨closedStr [_], trivial⟩, rfl⟩)
   (fun i x rs hx hrs => by
    have hi := lt_len hx
    have hr := r197b (q.1.1.map ptC.enc) (q.1.2.1.map ftC.enc) (q.1.2.2.1.map cbC.enc) (q.1.2.2.2.1.map tsC.enc) q.1.2.2.2.2.1 q.1.2.2.2.2.2 q.2.1 q.2.2.1 (q.2.2.2.map strC.enc) (l.map strC.enc) l.length i (rs.map strC.enc) (rs.map strC.enc).length x ((rstM1 q.1 q.2.2.1) x)
    rw [wrap_ix hi hl] at hr
    have hlen : (rs.map strC.enc ++ [strC.enc ((rstM1 q.1 q.2.2.1) x)]).length ≤ 1000001 := by rw [List.length_append, List.length_map]; unfold lim at hlim; simp; omega
    exact R9_ok.rndN hr ⟨lt_of hi, get_map _ hx, ⟨rfl, spNm q.2 x hok⟩, ⟨rfl, rfl, rfl, by show (rs.map strC.enc ++ [strC.enc ((rstM1 q.1 q.2.2.1) x)]).length * 16 ≤ _; omega, by show (rs.map strC.enc ++ [strC.enc ((rstM1 q.1 q.2.2.1) x)]).length ≤ _; omega, by decide⟩, ⟨(closedStr rs).append (closedStr [_]), trivial⟩, rfl⟩)
   (R9_ok.rndX (r197xa (q.1.1.map ptC.enc) (q.1.2.1.map ftC.enc) (q.1.2.2.1.map cbC.enc) (q.1.2.2.2.1.map tsC.enc) q.1.2.2.2.2.1 q.1.2.2.2.2.2 q.2.1 q.2.2.1 (q.2.2.2.map strC.enc) (l.map strC.enc) l.length l.length) ⟨lt_self _, trivial, rfl⟩)
   (fun rs => R9_ok.rndX (r197xb (q.1.1.map ptC.enc) (q.1.2.1.map ftC.enc) (q.1.2.2.1.map cbC.enc) (q.1.2.2.2.1.map tsC.enc) q.1.2.2.2.2.1 q.1.2.2.2.2.2 q.2.1 q.2.2.1 (q.2.2.2.map strC.enc) (l.map strC.enc) l.length l.length (rs.map strC.enc) (rs.map strC.enc).length) ⟨lt_self _, ⟨closedStr rs, trivial⟩, rfl⟩)
  rw [← e] at h
  exact R9_ok.tr (t197 (q.1.1.map ptC.enc) (q.1.2.1.map ftC.enc) (q.1.2.2.1.map cbC.enc) (q.1.2.2.2.1.map tsC.enc) q.1.2.2.2.2.1 q.1.2.2.2.2.2 q.2.1 q.2.2.1 (q.2.2.2.map strC.enc) (l.map strC.enc) ((l.map (rstM1 q.1 q.2.2.1)).map strC.enc)) ⟨⟨trivial, trivial, h.says⟩, rfl⟩
noncomputable def R10 : Specs := (R9.set 197 mp197G)
theorem R10_ok : Ok R10 := (R9_ok.set h197)
end Go.Vm.S3

namespace Go.Vm.S3
open Go.Proofs Go.RowKit
set_option maxRecDepth 100000
variable (ps fs cs ts : List AV) (d u : Int)
theorem t133 (a : ByteArray) (n : Int) (ws : List AV) (rs : List AV) : L R10 133 [lbE ps fs cs ts d u, .agg [sA a, iA n, .rsl 1 ws false]] [.sp [.rsl 1 ws false, .fn (.func 198) [] [.rptr [.rsl 7 ps false, .rsl 3 fs false, .rsl 5 cs false, .rsl 3 ts false, iA d, iA u], .rptr [sA a, iA n, .rsl 1 ws false]]] (.rsl 1 rs false)] [.f 197] (.rsl 1 rs false) := kR (by kernel_rfl)
theorem t223 (a : ByteArray) (n : Int) (ws : List AV) (p w q : ByteArray) : L R10 223 [sA p, .rptr [.rsl 7 ps false, .rsl 3 fs false, .rsl 5 cs false, .rsl 3 ts false, iA d, iA u], .rptr [sA a, iA n, .rsl 1 ws false], .rptr [sA w]] [.sp [lbE ps fs cs ts d u, sA p, iA n] (sA q)] [.f 113] (bA (q.toList == w.toList)) := kR (by kernel_rfl)
theorem spMp {x : Lb} (t : Ts) {l : List ByteArray} (h : okLb x = true) (hl : Nat.ble l.length lim = true) : mp197G [slA strC 1 l, .fn (.func 198) [] [lbRA x, tsRA t]] = some (slA strC 1 (l.map (rstM1 x t.2.1))) := by
 have := sp2_at (A := strsC) (B := cloR 198 (RC.cons (rptrR labR) (RC.one (rptrR tsR)))) (F := fun l q => bif okLb q.1 && Nat.ble l.length lim then some (slA strC 1 (l.map (rstM1 q.1 q.2.2.1))) else none) l (x, t)
 rw [h, hl] at this; exact this
def rs133G : List AV → Option AV := sp2 labC tsC fun x t => bif okLb x && okT t then some (slA strC 1 (t.2.2.map (rstM1 x t.2.1))) else none
set_option maxRecDepth 20000 in
theorem h133 : Holds 133 rs133G := holds2 fun x t r hr => by
 cases hb : okLb x && okT t with
 | false => simp [hb] at hr
 | true =>
  simp only [hb, cond_true, Option.some.injEq] at hr; subst hr
  rw [Bool.and_eq_true] at hb
  have hs := spMp t hb.1 hb.2
  exact R10_ok.tr ((lx x t133) t.1 t.2.1 (t.2.2.map strC.enc) ((t.2.2.map (rstM1 x t.2.1)).map strC.enc)) ⟨⟨rfl, hs⟩, rfl⟩
def us223G : List AV → Option AV := sp4 strC (rptrR labR) (rptrR tsR) (rptrC strC) fun p x t w => bif okLb x then some (bA (seq (specM x.2.1 p t.2.1) w)) else none
theorem h223 : Holds 223 us223G := holds4 fun p x t w r hr => by
 cases hb : okLb x with
 | false => simp [hb] at hr
 | true =>
  simp only [hb, cond_true, Option.some.injEq] at hr; subst hr
  exact R10_ok.tr ((lx x t223) t.1 t.2.1 (t.2.2.map strC.enc) p w _) ⟨⟨rfl, spSpec p t.2.1 hb⟩, rfl⟩
noncomputable def R11 : Specs := ((R10.set 133 rs133G).set 223 us223G)
theorem R11_ok : Ok R11 := ((R10_ok.set h133).set h223)
theorem spRe {x : Lb} {t : Ts} (h : okLb x = true) (h1 : okT t = true) : rs133G [lbA x, tsA t] = some (slA strC 1 (t.2.2.map (rstM1 x t.2.1))) := by
 have := sp2_at (A := labC) (B := tsC) (F := fun x t => bif okLb x && okT t then some (slA strC 1 (t.2.2.map (rstM1 x t.2.1))) else none) x t
 rw [h, h1] at this; exact this
theorem sp223 {x : Lb} (p : ByteArray) (t : Ts) (w : ByteArray) (h : okLb x = true) : us223G [sA p, lbRA x, tsRA t, .rptr [sA w]] = some (bA (seq (specM x.2.1 p t.2.1) w)) := by
 have := sp4_at (A := strC) (B := rptrR labR) (D := rptrR tsR) (E := rptrC strC) (F := fun p x t w => bif okLb x then some (bA (seq (specM x.2.1 p t.2.1) w)) else none) p x t w
 rw [h] at this; exact this
end Go.Vm.S3

namespace Go.Vm.S3
open Go.Proofs Go.RowKit
set_option maxRecDepth 100000
variable (ps fs cs ts : List AV) (d u : Int)
abbrev cR12_13 (ps fs cs ts : List AV) (d u : Int) (a : ByteArray) (n : Int) (ws : List AV) (w : ByteArray) (es : List AV) (m i : Nat) (y : ByteArray) (q : Bool) (h9 : List Hn) (a9 : List An) (x9 : Ex) (v9 : List AV) (e9 : List (Bool × Blk)) : Prop := Lq R11 0 222 9 19 28 0 [0, 1, 7, 8] [] [0, 1, 7, 8] [] [4] [] [.rsl 1 es false, .fn (.func 223) [] [.rptr [.rsl 7 ps false, .rsl 3 fs false, .rsl 5 cs false, .rsl 3 ts false, iA d, iA u], .rptr [sA a, iA n, .rsl 1 ws false], .rptr [sA w]], iA (Int.ofNat m), iA (Int.ofNat i)] [] ([.as 9 true, .chk [sA y], .sp [sA y, .rptr [.rsl 7 ps false, .rsl 3 fs false, .rsl 5 cs false, .rsl 3 ts false, iA d, iA u], .rptr [sA a, iA n, .rsl 1 ws false], .rptr [sA w]] (bA q)] ++ h9) ([.t i m, .g es i, .f 223] ++ a9) x9 v9 e9
theorem r203n (a : ByteArray) (n : Int) (ws : List AV) (w : ByteArray) (es : List AV) (m i : Nat) (y : ByteArray) (q : Bool) : cR12_13 ps fs cs ts d u a n ws w es m i y q [.as 16 false] [.b q] .nrm [.rsl 1 es false, .fn (Fn.func 223) [] [.rptr [.rsl 7 ps false, .rsl 3 fs false, .rsl 5 cs false, .rsl 3 ts false, iA d, iA u], .rptr [sA a, iA n, .rsl 1 ws false], .rptr [sA w]], iA (Int.ofNat m), iA (IntKind.i64.wrap (Int.ofNat i + 1))] [] := kQ (by kernel_rfl)
theorem r203y (a : ByteArray) (n : Int) (ws : List AV) (w : ByteArray) (es : List AV) (m i : Nat) (y : ByteArray) (q : Bool) : cR12_13 ps fs cs ts d u a n ws w es m i y q [.as 16 true] [.b q] .ret [iA (Int.ofNat i)] [] := kQ (by kernel_rfl)
theorem r203x (a : ByteArray) (n : Int) (ws : List AV) (w : ByteArray) (es : List AV) (m i : Nat) : Lq R11 0 222 9 19 28 0 [0, 1, 7, 8] [] [0, 1, 7, 8] [] [] [] [.rsl 1 es false, .fn (.func 223) [] [.rptr [.rsl 7 ps false, .rsl 3 fs false, .rsl 5 cs false, .rsl 3 ts false, iA d, iA u], .rptr [sA a, iA n, .rsl 1 ws false], .rptr [sA w]], iA (Int.ofNat m), iA (Int.ofNat i)] [] [.as 9 false] [.t i m] (.exit 0) [] [] := kQ (by kernel_rfl)
theorem t203r (a : ByteArray) (n : Int) (ws : List AV) (w : ByteArray) (es : List AV) (t : Int) : L R11 203 [.rsl 1 es false, .fn (.func 223) [] [.rptr [.rsl 7 ps false, .rsl 3 fs false, .rsl 5 cs false, .rsl 3 ts false, iA d, iA u], .rptr [sA a, iA n, .rsl 1 ws false], .rptr [sA w]]] [.loop 0 [0, 1, 7, 8] [] [4] [] .ret [iA t] []] [.l 19 222 0 28 [.rsl 1 es false, .fn (Fn.func 223) [] [.rptr [.rsl 7 ps false, .rsl 3 fs false, .rsl 5 cs false, .rsl 3 ts false, iA d, iA u], .rptr [sA a, iA n, .rsl 1 ws false], .rptr [sA w]], iA (Int.ofNat es.length), iA 0] []] (bA (decide (t ≥ 0))) := kR (by kernel_rfl)
theorem t203e (a : ByteArray) (n : Int) (ws : List AV) (w : ByteArray) (es : List AV) : L R11 203 [.rsl 1 es false, .fn (.func 223) [] [.rptr [.rsl 7 ps false, .rsl 3 fs false, .rsl 5 cs false, .rsl 3 ts false, iA d, iA u], .rptr [sA a, iA n, .rsl 1 ws false], .rptr [sA w]]] [.loop 0 [0, 1, 7, 8] [] [] [] (.exit 0) [] []] [.l 19 222 0 28 [.rsl 1 es false, .fn (Fn.func 223) [] [.rptr [.rsl 7 ps false, .rsl 3 fs false, .rsl 5 cs false, .rsl 3 ts false, iA d, iA u], .rptr [sA a, iA n, .rsl 1 ws false], .rptr [sA w]], iA (Int.ofNat es.length), iA 0] []] (bA (decide (-1 ≥ 0))) := kR (by kernel_rfl)
theorem srch_anyN {α : Type} (g : α → Bool) : ∀ (l : List α) (i : Nat), (srch (fun i x => bif g x then some (Int.ofNat i) else none) i l = none ∧ l.any g = false) ∨ ∃ k : Nat, srch (fun i x => bif g x then some (Int.ofNat i) else none) i l = some (Int.ofNat k) ∧ l.any g = true
 | [], i => .inl ⟨rfl, rfl⟩
 | x :: l, i => by
  unfold srch
  rw [List.any_cons]
  cases h : g x with
  | true => exact .inr ⟨i, by simp, by simp⟩
  | false => simp only [cond_false, Bool.false_or]; exact srch_anyN g l (i + 1)
def us203G : List AV → Option AV := sp2 strsC (cloR 223 (RC.cons (rptrR labR) (RC.cons (rptrR tsR) (RC.one (rptrC strC))))) fun l q => bif okLb q.1 && Nat.ble l.length lim then some (bA (l.any fun p => seq (specM q.1.2.1 p q.2.1.2.1) q.2.2)) else none
set_option maxRecDepth 20000 in
theorem h203 : Holds 203 us203G := holds2 fun l q r hr => by
 cases hb : okLb q.1 && Nat.ble l.length lim with
 | false => simp [hb] at hr
 | true =>
  simp only [hb, cond_true, Option.some.injEq] at hr; subst hr
  obtain ⟨x, t, w⟩ := q
  rw [Bool.and_eq_true] at hb
  obtain ⟨hok, hlim0⟩ := hb
  have hl := limTwo (Nat.le_of_ble_eq_true hlim0)
  have e := e_st l
  have h := LoopRun.find (C := CS R11) (p := 0) (nt := 19) (rd := false) (c := lO (CS R11) 222 0) (fun i (y : ByteArray) => bif seq (specM x.2.1 y t.2.1) w then some (Int.ofNat i) else none) (fun i => mkSt [0, 1, 7, 8] [] 28 [.rsl 1 (l.map strC.enc) false, .fn (.func 223) [] [lbRA x, tsRA t, .rptr [sA w]], iA (Int.ofNat l.length), iA (Int.ofNat i)] [])
   (fun t => mkSt [4] [] 28 [iA t] []) (mkSt [] [] 28 [] []) (.exit 0) (fun _ => .ret) l (by simp) (by simp)
   (fun i y hy => by
    have hi := lt_len hy
    have hs := sp223 y t w hok
    have hr := (lx x r203n) t.1 t.2.1 (t.2.2.map strC.enc) w (l.map strC.enc) l.length i y false
    rw [wrap_ix hi hl] at hr
    cases h : seq (specM x.2.1 y t.2.1) w with
    | true => rw [h] at hs; exact R11_ok.rndR ((lx x r203y) t.1 t.2.1 (t.2.2.map strC.enc) w (l.map strC.enc) l.length i y true) ⟨lt_of hi, get_map _ hy, ⟨rfl, hs⟩, rfl, trivial, rfl⟩
    | false => rw [h] at hs; exact R11_ok.rndN hr ⟨lt_of hi, get_map _ hy, ⟨rfl, hs⟩, rfl, trivial, rfl⟩)
   (R11_ok.rndX ((lx x r203x) t.1 t.2.1 (t.2.2.map strC.enc) w (l.map strC.enc) l.length l.length) ⟨lt_self _, trivial, rfl⟩)
  rw [← e] at h
  rcases srch_anyN (fun p => seq (specM x.2.1 p t.2.1) w) l 0 with ⟨h1, h2⟩ | ⟨k, h1, h2⟩
  ·rw [h1] at h
   rw [h2]
   exact R11_ok.tr ((lx x t203e) t.1 t.2.1 (t.2.2.map strC.enc) w (l.map strC.enc)) ⟨⟨trivial, trivial, h.says⟩, rfl⟩
  ·rw [h1] at h
   rw [h2, show bA true = bA (decide (Int.ofNat k ≥ 0)) by rw [decide_eq_true (by simp)]]
   exact R11_ok.tr ((lx x t203r) t.1 t.2.1 (t.2.2.map strC.enc) w (l.map strC.enc) (Int.ofNat k)) ⟨⟨trivial, trivial, h.says⟩, rfl⟩
theorem sp203 {x : Lb} (t : Ts) (w : ByteArray) {l : List ByteArray} (h : okLb x = true) (hl : Nat.ble l.length lim = true) : us203G [slA strC 1 l, .fn (.func 223) [] [lbRA x, tsRA t, .rptr [sA w]]] = some (bA (l.any fun p => seq (specM x.2.1 p t.2.1) w)) := by
 have := sp2_at (A := strsC) (B := cloR 223 (RC.cons (rptrR labR) (RC.cons (rptrR tsR) (RC.one (rptrC strC))))) (F := fun l q => bif okLb q.1 && Nat.ble l.length lim then some (bA (l.any fun p => seq (specM q.1.2.1 p q.2.1.2.1) q.2.2)) else none) l (x, t, w)
 rw [h, hl] at this; exact this
noncomputable def R12 : Specs := (R11.set 203 us203G)
theorem R12_ok : Ok R12 := (R11_ok.set h203)
end Go.Vm.S3

namespace Go.Vm.S3
open Go.Proofs Go.RowKit
set_option maxRecDepth 100000
variable (ps fs cs ts : List AV) (d u : Int)
abbrev cR13_14 (ps fs cs ts : List AV) (d u : Int) (es : List AV) (w : ByteArray) (fr m : Int) (l i : Nat) (a : ByteArray) (n : Int) (ws : List AV) (h9 : List Hn) (a9 : List An) (x9 : Ex) (v9 : List AV) (e9 : List (Bool × Blk)) : Prop := Lr R12 206 32 0 [3, 4, 6, 9, 12, 13, 14] [4, 6] [3, 4, 6, 9, 12, 13, 14] [4, 6] [9] [4, 6] [iA fr, .ptr 4 0 0, .ptr 6 1 0, iA m, .rsl 3 es false, iA (Int.ofNat l), iA (Int.ofNat i)] [lbX ps fs cs ts d u, (false, .box [sA w])] ([.as 15 true, .chk [.agg [sA a, iA n, .rsl 1 ws false]]] ++ h9) ([.t i l, .g es i] ++ a9) x9 v9 e9
theorem r206f (es : List AV) (w : ByteArray) (fr m : Int) (l i : Nat) (a : ByteArray) (n : Int) (ws : List AV) : cR13_14 ps fs cs ts d u es w fr m l i a n ws [.as 22 false] [.b (decide (n ≥ fr))] .nrm [iA fr, .ptr 4 0 0, .ptr 6 1 0, iA m, .rsl 3 es false, iA (Int.ofNat l), iA (IntKind.i64.wrap (Int.ofNat i + 1))] [lbX ps fs cs ts d u, (false, .box [sA w])] := kN (by kernel_rfl)
theorem r206n (es : List AV) (w : ByteArray) (fr m : Int) (l i : Nat) (a : ByteArray) (n : Int) (ws : List AV) (q : Bool) : cR13_14 ps fs cs ts d u es w fr m l i a n ws [.as 22 true, .sp [.rsl 1 ws false, .fn (.func 223) [] [.rptr [.rsl 7 ps false, .rsl 3 fs false, .rsl 5 cs false, .rsl 3 ts false, iA d, iA u], .rptr [sA a, iA n, .rsl 1 ws false], .rptr [sA w]]] (bA q), .as 27 false] [.b (decide (n ≥ fr)), .f 203, .b q] .nrm [iA fr, .ptr 4 0 0, .ptr 6 1 0, iA m, .rsl 3 es false, iA (Int.ofNat l), iA (IntKind.i64.wrap (Int.ofNat i + 1))] [lbX ps fs cs ts d u, (false, .box [sA w])] := kN (by kernel_rfl)
theorem r206y (es : List AV) (w : ByteArray) (fr m : Int) (l i : Nat) (a : ByteArray) (n : Int) (ws : List AV) (q : Bool) : cR13_14 ps fs cs ts d u es w fr m l i a n ws [.as 22 true, .sp [.rsl 1 ws false, .fn (.func 223) [] [.rptr [.rsl 7 ps false, .rsl 3 fs false, .rsl 5 cs false, .rsl 3 ts false, iA d, iA u], .rptr [sA a, iA n, .rsl 1 ws false], .rptr [sA w]]] (bA q), .as 27 true, .ar (iA (m + 1))] [.b (decide (n ≥ fr)), .f 203, .b q, .k ((abin (CS R12) BinOp.add 3 (Operand.tmp 28) (Operand.const (Value.int IntKind.i64 1)) (iA m) (iA 1)) = (some (iA (m + 1))))] .nrm [iA fr, .ptr 4 0 0, .ptr 6 1 0, iA (m + 1), .rsl 3 es false, iA (Int.ofNat l), iA (IntKind.i64.wrap (Int.ofNat i + 1))] [lbX ps fs cs ts d u, (false, .box [sA w])] := kN (by kernel_rfl)
theorem r206x (es : List AV) (w : ByteArray) (fr m : Int) (l i : Nat) : Lr R12 206 32 0 [3, 4, 6, 9, 12, 13, 14] [4, 6] [3, 4, 6, 9, 12, 13, 14] [4, 6] [9] [] [iA fr, .ptr 4 0 0, .ptr 6 1 0, iA m, .rsl 3 es false, iA (Int.ofNat l), iA (Int.ofNat i)] [lbX ps fs cs ts d u, (false, .box [sA w])] [.as 15 false] [.t i l] (.exit 0) [iA m] [] := kN (by kernel_rfl)
theorem t206 (es : List AV) (w : ByteArray) (fr : Int) (m : Int) : L R12 206 [lbE ps fs cs ts d u, .rsl 3 es false, sA w, iA fr] [.loop 0 [3, 4, 6, 9, 12, 13, 14] [4, 6] [9] [] (.exit 0) [iA m] []] [.l 32 206 0 32 [iA fr, .ptr 4 0 0, .ptr 6 1 0, iA 0, .rsl 3 es false, iA (Int.ofNat es.length), iA 0] [lbX ps fs cs ts d u, (false, .box [sA w])]] (iA m) := kR (by kernel_rfl)
def uses206G : List AV → Option AV := sp4 labC tssC strC intC fun x l w fr => bif okLb x && (Nat.ble l.length lim && l.all okT) then some (iA (cntU x.2.1 w fr l)) else none
set_option maxRecDepth 20000 in
theorem h206 : Holds 206 uses206G := holds4 fun x l w fr r hr => by
 cases hb : okLb x && (Nat.ble l.length lim && l.all okT) with
 | false => simp [hb] at hr
 | true =>
  simp only [hb, cond_true, Option.some.injEq] at hr; subst hr
  simp only [Bool.and_eq_true, List.all_eq_true] at hb
  obtain ⟨hok, hlim0, hall⟩ := hb
  have hlim := Nat.le_of_ble_eq_true hlim0
  have hl := limTwo hlim
  have e := e_ts l
  have h := LoopRun.list (C := CS R12) (p := 0) (nt := 32) (rd := false) (c := lO (CS R12) 206 0) (step := fun _ (t : Ts) (m : Int) => (.inl (bif usedT x.2.1 w t && decide (t.2.1 ≥ fr) then m + 1 else m) : Int ⊕ Int)) (fin := id)
   (enc := fun i m => mkSt [3, 4, 6, 9, 12, 13, 14] [4, 6] 32 [iA fr, .ptr 4 0 0, .ptr 6 1 0, iA m, .rsl 3 (l.map tsC.enc) false, iA (Int.ofNat l.length), iA (Int.ofNat i)] [lbY x, (false, .box [sA w])])
   (ex := fun _ => .exit 0) (out := fun m => mkSt [9] [] 32 [iA m] []) (l := l) (fun i m => 0 ≤ m ∧ m ≤ Int.ofNat i)
   (fun i t m ht hm => by
    have hi := lt_len ht
    have hg := get_map tsC.enc ht
    have hw := wrap_ix hi hl
    have hs := sp203 (x := x) t w hok (hall t (List.mem_of_getElem? ht))
    obtain ⟨hm0, hm1⟩ := hm
    simp only [Int.ofNat_eq_natCast] at hm1
    cases hd : decide (t.2.1 ≥ fr) with
    | false =>
     have hr := (lx x r206f) (l.map tsC.enc) w fr m l.length i t.1 t.2.1 (t.2.2.map strC.enc)
     rw [hw] at hr
     refine ⟨?_, ?_⟩
     ·rw [Bool.and_false, cond_false]
      exact R12_ok.rndN hr ⟨lt_of hi, hg, hd, trivial, rfl⟩
     ·rw [Bool.and_false, cond_false]; exact ⟨hm0, by simp only [Int.ofNat_eq_natCast]; omega⟩
    | true =>
     unfold usedT
     cases hu : t.2.2.any fun p => seq (specM x.2.1 p t.2.1) w with
     | false =>
      rw [hu] at hs
      have hr := (lx x r206n) (l.map tsC.enc) w fr m l.length i t.1 t.2.1 (t.2.2.map strC.enc) false
      rw [hw] at hr
      exact ⟨R12_ok.rndN hr ⟨lt_of hi, hg, hd, ⟨rfl, hs⟩, rfl, trivial, rfl⟩, hm0, by simp only [Int.ofNat_eq_natCast, Bool.false_and, cond_false]; omega⟩
     | true =>
      rw [hu] at hs
      have hr := (lx x r206y) (l.map tsC.enc) w fr m l.length i t.1 t.2.1 (t.2.2.map strC.enc) true
      rw [hw] at hr
      exact ⟨R12_ok.rndN hr ⟨lt_of hi, hg, hd, ⟨rfl, hs⟩, rfl, addM1 R12 _ _ (n := l.length) hm0 (by simp only [Int.ofNat_eq_natCast]; omega) hlim, trivial, rfl⟩, by simp only [Bool.and_self, cond_true]; omega, by simp only [Int.ofNat_eq_natCast, Bool.and_self, cond_true]; omega⟩)
   (fun m _ => ⟨R12_ok.rndX ((lx x r206x) (l.map tsC.enc) w fr m l.length l.length) ⟨lt_self _, trivial, rfl⟩, by simp⟩)
   l [] 0 rfl ⟨by omega, by simp⟩
  rw [show ([] : List Ts).length = 0 from rfl, goL_all (fun (m : Int) (t : Ts) => bif usedT x.2.1 w t && decide (t.2.1 ≥ fr) then m + 1 else m) id, ← e] at h
  exact R12_ok.tr ((lx x t206) (l.map tsC.enc) w fr (cntU x.2.1 w fr l)) ⟨⟨trivial, trivial, h.says⟩, rfl⟩
theorem spUs {x : Lb} {l : List Ts} (w : ByteArray) (fr : Int) (h : okLb x = true) (h1 : (Nat.ble l.length lim && l.all okT) = true) : uses206G [lbA x, slA tsC 3 l, sA w, iA fr] = some (iA (cntU x.2.1 w fr l)) := by
 have := sp4_at (A := labC) (B := tssC) (D := strC) (E := intC) (F := fun x l w fr => bif okLb x && (Nat.ble l.length lim && l.all okT) then some (iA (cntU x.2.1 w fr l)) else none) x l w fr
 rw [h, h1] at this; exact this
noncomputable def R13 : Specs := (R12.set 206 uses206G)
theorem R13_ok : Ok R13 := (R12_ok.set h206)
end Go.Vm.S3
