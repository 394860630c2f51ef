/- Labs: the same (Q19). -/
import Derived.Test.YtliikgffjphhjaaGreatDoorS3GK
namespace Go.Vm.S3
open Go.Proofs Go.RowKit
set_option maxRecDepth 100000
theorem r171n (es : List AV) (i : Nat) (lo hi : Int) : roundD (CS Q18) 60 0 171 0 26 26 false (loopOf (CS Q18) 171 0) [0, 1, 5] [] [0, 1, 5] [] [] [] [.rsl 2 es false, .rsl 2 es false, intA (Int.ofNat i)] [] [.as 14 true, .chk [.agg [intA lo, intA hi]], .chk [.agg [intA lo, intA hi]], .eq (boolA false), .as 25 false] =
    (.need ((decide (Int.ofNat i < Int.ofNat es.length)) = true) (.need (es[i]? = (some (AV.agg [intA lo, intA hi]))) (.need (es[i]? = (some (AV.agg [intA lo, intA hi]))) (.need ((abin (CS Q18) BinOp.neq 111 (Operand.tmp 20) (Operand.tmp 24) (AV.agg [intA lo, intA hi]) (AV.agg [intA lo, intA hi])) = (some (boolA false))) (.need (false = false) (.need (EntClosed []) (.done (some ((.nrm, [.rsl 2 es false, .rsl 2 es false, intA (IntKind.i64.wrap (Int.ofNat i + 1))], [])))))))))) := by kernel_rfl
theorem r171x (es : List AV) (i : Nat) : roundD (CS Q18) 60 0 171 0 26 26 false (loopOf (CS Q18) 171 0) [0, 1, 5] [] [0, 1, 5] [] [] [] [.rsl 2 es false, .rsl 2 es false, intA (Int.ofNat i)] [] [.as 14 false] =
    (.need ((decide (Int.ofNat i < Int.ofNat es.length)) = false) (.need (EntClosed []) (.done (some (((.exit 0), [], [])))))) := by kernel_rfl
theorem t171 (es : List AV) : evTreeD (CS Q18) 60 171 [.rsl 2 es false, .rsl 2 es false] [.as 10 false, .loop 0 [0, 1, 5] [] [] [] (.exit 0) [] []] =
    (.need ((Int.ofNat es.length != Int.ofNat es.length) = false) (.need (EntClosed [] ∧ EntClosed [] ∧ Says (CS Q18) 0 26 false (.loop (loopOf (CS Q18) 171 0)) (mkSt [0, 1, 5] [] 26 [.rsl 2 es false, .rsl 2 es false, intA 0] []) (.exit 0) (mkSt [] [] 26 [] [])) (.done (some (boolA true))))) := by kernel_rfl
theorem each_run {C : Cx} {p nt : Nat} {rd : Bool} {c : Code} {α : Type} (enc : Nat → St) (l : List α) (out : St) (ex : Ex) (hx : ex ≠ .nrm) (hs : ∀ i x, l[i]? = some x → Says C p nt rd c (enc i) .nrm (enc (i + 1)))
    (hf : Says C p nt rd c (enc l.length) ex out) : LoopRun C p nt rd c (enc 0) ex out := by
  have h := LoopRun.find (C := C) (p := p) (nt := nt) (rd := rd) (c := c) (fun (_ : Nat) (_ : α) => (none : Option Unit)) enc (fun _ => out) out ex (fun _ => .ret) l hx (by simp) (fun i x hx => hs i x hx) hf
  rw [srch_none] at h
  exact h
theorem neq111 (S : Specs) (xo yo : Operand) (a b c d : Int) : abin (CS S) .neq 111 xo yo (.agg [intA a, intA b]) (.agg [intA c, intA d]) = some (gB (!(a == c && (b == d && true)))) :=
  (abin_agg rfl rfl (by kernel_rfl) (by kernel_rfl)).2
theorem neq111s (S : Specs) (xo yo : Operand) (a b : Int) : abin (CS S) .neq 111 xo yo (.agg [intA a, intA b]) (.agg [intA a, intA b]) = some (gB false) := by
  rw [neq111]; simp
def same171G : List AV → Option AV := sp2 ivsC ivsC fun l m => bif decide (l = m) && Nat.ble l.length lim then some (boolA true) else none
theorem h171 : Holds 171 same171G := holds2 fun l m r hr => by
  cases hb : decide (l = m) && Nat.ble l.length lim with
  | false => simp [hb] at hr
  | true =>
    simp only [hb, cond_true, Option.some.injEq] at hr; subst hr
    simp only [Bool.and_eq_true, decide_eq_true_eq] at hb
    obtain ⟨rfl, hl0⟩ := hb
    have hl := limTwo (Nat.le_of_ble_eq_true hl0)
    have h := each_run (C := CS Q18) (p := 0) (nt := 26) (rd := false) (c := loopOf (CS Q18) 171 0) (fun i => mkSt [0, 1, 5] [] 26 [.rsl 2 (l.map ivC.enc) false, .rsl 2 (l.map ivC.enc) false, intA (Int.ofNat i)] []) l (mkSt [] [] 26 [] []) (.exit 0) (by simp)
      (fun i x hx => by
        have hi := lt_len hx
        have hlt : decide (Int.ofNat i < Int.ofNat (l.map ivC.enc).length) = true := by rw [e_iv]; exact lt_of hi
        have hr := r171n (l.map ivC.enc) i x.1 x.2
        rw [wrap_ix hi hl] at hr
        exact Q18_ok.rndN hr ⟨hlt, get_map _ hx, get_map _ hx, neq111s _ _ _ _ _, rfl, trivial, rfl⟩)
      (Q18_ok.rndX (r171x (l.map ivC.enc) l.length) ⟨by rw [e_iv]; exact lt_self _, trivial, rfl⟩)
    exact Q18_ok.tr (t171 (l.map ivC.enc)) ⟨by simp, ⟨trivial, trivial, h.says⟩, rfl⟩
def Q19 : Specs := (Q18.set 171 same171G)
theorem Q19_ok : Ok Q19 := (Q18_ok.set h171)
end Go.Vm.S3

namespace Go.Vm.S3
open Go.Proofs Go.RowKit
set_option maxRecDepth 100000
theorem r86n (es : List AV) (i : Nat) (a b : ByteArray) (m x y z : Int) (co : List AV) : roundD (CS Q19) 60 0 86 0 81 81 false (loopOf (CS Q19) 86 0) [0, 1, 5] [] [0, 1, 5] [] [] [] [.rsl 7 es false, .rsl 7 es false, intA (Int.ofNat i)] [] [.as 14 true, .chk [.agg [strA a, strA b, intA m, intA x, intA y, intA z, .rsl 2 co false]], .chk [.agg [strA a, strA b, intA m, intA x, intA y, intA z, .rsl 2 co false]], .as 28 false, .chk [.agg [strA a, strA b, intA m, intA x, intA y, intA z, .rsl 2 co false]], .chk [.agg [strA a, strA b, intA m, intA x, intA y, intA z, .rsl 2 co false]], .as 41 false, .chk [.agg [strA a, strA b, intA m, intA x, intA y, intA z, .rsl 2 co false]], .chk [.agg [strA a, strA b, intA m, intA x, intA y, intA z, .rsl 2 co false]], .as 54 false, .chk [.agg [strA a, strA b, intA m, intA x, intA y, intA z, .rsl 2 co false]], .chk [.agg [strA a, strA b, intA m, intA x, intA y, intA z, .rsl 2 co false]], .eq (boolA false), .as 67 false, .chk [.agg [strA a, strA b, intA m, intA x, intA y, intA z, .rsl 2 co false]], .chk [.agg [strA a, strA b, intA m, intA x, intA y, intA z, .rsl 2 co false]], .sp [.rsl 2 co false, .rsl 2 co false] (boolA true), .as 80 false] =
    (.need ((decide (Int.ofNat i < Int.ofNat es.length)) = true) (.need (es[i]? = (some (AV.agg [strA a, strA b, intA m, intA x, intA y, intA z, .rsl 2 co false]))) (.need (es[i]? = (some (AV.agg [strA a, strA b, intA m, intA x, intA y, intA z, .rsl 2 co false]))) (.need ((!(a.toList == a.toList)) = false) (.need (es[i]? = (some (AV.agg [strA a, strA b, intA m, intA x, intA y, intA z, .rsl 2 co false]))) (.need (es[i]? = (some (AV.agg [strA a, strA b, intA m, intA x, intA y, intA z, .rsl 2 co false]))) (.need ((!(b.toList == b.toList)) = false) (.need (es[i]? = (some (AV.agg [strA a, strA b, intA m, intA x, intA y, intA z, .rsl 2 co false]))) (.need (es[i]? = (some (AV.agg [strA a, strA b, intA m, intA x, intA y, intA z, .rsl 2 co false]))) (.need ((m != m) = false) (.need (es[i]? = (some (AV.agg [strA a, strA b, intA m, intA x, intA y, intA z, .rsl 2 co false]))) (.need (es[i]? = (some (AV.agg [strA a, strA b, intA m, intA x, intA y, intA z, .rsl 2 co false]))) (.need ((abin (CS Q19) BinOp.neq 32 (Operand.tmp 59) (Operand.tmp 64) (AV.agg [intA x, intA y, intA z]) (AV.agg [intA x, intA y, intA z])) = (some (boolA false))) (.need (false = false) (.need (es[i]? = (some (AV.agg [strA a, strA b, intA m, intA x, intA y, intA z, .rsl 2 co false]))) (.need (es[i]? = (some (AV.agg [strA a, strA b, intA m, intA x, intA y, intA z, .rsl 2 co false]))) (.need (asks (CS Q19) 171 [.rsl 2 co false, .rsl 2 co false] (boolA true)) (.need ((!true) = false) (.need (EntClosed []) (.done (some ((.nrm, [.rsl 7 es false, .rsl 7 es false, intA (IntKind.i64.wrap (Int.ofNat i + 1))], []))))))))))))))))))))))) := by kernel_rfl
theorem r86x (es : List AV) (i : Nat) : roundD (CS Q19) 60 0 86 0 81 81 false (loopOf (CS Q19) 86 0) [0, 1, 5] [] [0, 1, 5] [] [] [] [.rsl 7 es false, .rsl 7 es false, intA (Int.ofNat i)] [] [.as 14 false] =
    (.need ((decide (Int.ofNat i < Int.ofNat es.length)) = false) (.need (EntClosed []) (.done (some (((.exit 0), [], [])))))) := by kernel_rfl
theorem t86 (es : List AV) : evTreeD (CS Q19) 60 86 [.rsl 7 es false, .rsl 7 es false] [.as 10 false, .loop 0 [0, 1, 5] [] [] [] (.exit 0) [] []] =
    (.need ((Int.ofNat es.length != Int.ofNat es.length) = false) (.need (EntClosed [] ∧ EntClosed [] ∧ Says (CS Q19) 0 81 false (.loop (loopOf (CS Q19) 86 0)) (mkSt [0, 1, 5] [] 81 [.rsl 7 es false, .rsl 7 es false, intA 0] []) (.exit 0) (mkSt [] [] 81 [] [])) (.done (some (boolA true))))) := by kernel_rfl
theorem neq32 (S : Specs) (xo yo : Operand) (a b c d e f : Int) : abin (CS S) .neq 32 xo yo (.agg [intA a, intA b, intA c]) (.agg [intA d, intA e, intA f]) = some (gB (!(a == d && (b == e && (c == f && true))))) :=
  (abin_agg rfl rfl (by kernel_rfl) (by kernel_rfl)).2
theorem neq32s (S : Specs) (xo yo : Operand) (a b c : Int) : abin (CS S) .neq 32 xo yo (.agg [intA a, intA b, intA c]) (.agg [intA a, intA b, intA c]) = some (gB false) := by
  rw [neq32]; simp
theorem sp171 {l : List I2} (h : Nat.ble l.length lim = true) : same171G [slA ivC 2 l, slA ivC 2 l] = some (boolA true) := by
  have := sp2_at (A := ivsC) (B := ivsC) (F := fun l m => bif decide (l = m) && Nat.ble l.length lim then some (boolA true) else none) l l
  rw [decide_eq_true rfl, h] at this; exact this
noncomputable def eqC {α : Type} (a b : α) : Bool := @decide (a = b) (Classical.propDecidable _)
theorem eqC_self {α : Type} (a : α) : eqC a a = true := by unfold eqC; exact @decide_eq_true _ (Classical.propDecidable _) rfl
theorem eqC_of {α : Type} {a b : α} (h : eqC a b = true) : a = b := by unfold eqC at h; exact @of_decide_eq_true _ (Classical.propDecidable _) h
noncomputable def same86G : List AV → Option AV := sp2 ptsC ptsC fun l m => bif eqC l m && okPts l then some (boolA true) else none
theorem h86 : Holds 86 same86G := holds2 fun l m r hr => by
  cases hb : eqC l m && okPts l with
  | false => simp [hb] at hr
  | true =>
    simp only [hb, cond_true, Option.some.injEq] at hr; subst hr
    simp only [Bool.and_eq_true] at hb
    obtain ⟨hlm, hl0⟩ := hb
    have hlm := eqC_of hlm
    subst hlm
    obtain ⟨hlim, hok⟩ := okPts_at hl0
    have hl := limTwo hlim
    have h := each_run (C := CS Q19) (p := 0) (nt := 81) (rd := false) (c := loopOf (CS Q19) 86 0) (fun i => mkSt [0, 1, 5] [] 81 [.rsl 7 (l.map ptC.enc) false, .rsl 7 (l.map ptC.enc) false, intA (Int.ofNat i)] []) l (mkSt [] [] 81 [] []) (.exit 0) (by simp)
      (fun i x hx => by
        have hi := lt_len hx
        have hlt : decide (Int.ofNat i < Int.ofNat (l.map ptC.enc).length) = true := by rw [e_pt]; exact lt_of hi
        have hg := get_map ptC.enc hx
        have hr := r86n (l.map ptC.enc) i x.1 x.2.1 x.2.2.1 x.2.2.2.1 x.2.2.2.2.1 x.2.2.2.2.2.1 (x.co.map ivC.enc)
        rw [wrap_ix hi hl] at hr
        exact Q19_ok.rndN hr ⟨hlt, hg, hg, by simp, hg, hg, by simp, hg, hg, by simp, hg, hg, neq32s _ _ _ _ _ _, rfl, hg, hg, ⟨rfl, sp171 (hok x (List.mem_of_getElem? hx))⟩, rfl, trivial, rfl⟩)
      (Q19_ok.rndX (r86x (l.map ptC.enc) l.length) ⟨by rw [e_pt]; exact lt_self _, trivial, rfl⟩)
    exact Q19_ok.tr (t86 (l.map ptC.enc)) ⟨by simp, ⟨trivial, trivial, h.says⟩, rfl⟩
noncomputable def Q20 : Specs := (Q19.set 86 same86G)
theorem Q20_ok : Ok Q20 := (Q19_ok.set h86)
end Go.Vm.S3

namespace Go.Vm.S3
open Go.Proofs Go.RowKit
set_option maxRecDepth 100000
theorem r50_0 (ps fs cs ts : List AV) (d u : Int) (i : Nat) (n : Int) (a b : ByteArray) : roundD (CS Q20) 60 0 50 0 158 158 false (loopOf (CS Q20) 50 0) [2, 3, 5] [2, 3] [2, 3, 5] [2, 3] [2, 3] [2, 3] [.ptr 2 0 0, .ptr 3 1 0, intA (Int.ofNat i)] [lbX ps fs cs ts d u, lbX ps fs cs ts d u] [.as 56 true, .chk [.agg [intA n, strA a, strA b]], .chk [.agg [intA n, strA a, strA b]], .eq (boolA false), .as 69 false] =
    (.need ((decide (Int.ofNat i < Int.ofNat fs.length)) = true) (.need (fs[i]? = (some (AV.agg [intA n, strA a, strA b]))) (.need (fs[i]? = (some (AV.agg [intA n, strA a, strA b]))) (.need ((abin (CS Q20) BinOp.neq 143 (Operand.tmp 63) (Operand.tmp 68) (AV.agg [intA n, strA a, strA b]) (AV.agg [intA n, strA a, strA b])) = (some (boolA false))) (.need (false = false) (.need (EntClosed [lbX ps fs cs ts d u, lbX ps fs cs ts d u]) (.done (some ((.nrm, [.ptr 2 0 0, .ptr 3 1 0, intA (IntKind.i64.wrap (Int.ofNat i + 1))], [lbX ps fs cs ts d u, lbX ps fs cs ts d u])))))))))) := by kernel_rfl
theorem r50_0x (ps fs cs ts : List AV) (d u : Int) (i : Nat) : roundD (CS Q20) 60 0 50 0 158 158 false (loopOf (CS Q20) 50 0) [2, 3, 5] [2, 3] [2, 3, 5] [2, 3] [2, 3] [2, 3] [.ptr 2 0 0, .ptr 3 1 0, intA (Int.ofNat i)] [lbX ps fs cs ts d u, lbX ps fs cs ts d u] [.as 56 false] =
    (.need ((decide (Int.ofNat i < Int.ofNat fs.length)) = false) (.need (EntClosed [lbX ps fs cs ts d u, lbX ps fs cs ts d u]) (.done (some (((.exit 0), [.ptr 2 0 0, .ptr 3 1 0], [lbX ps fs cs ts d u, lbX ps fs cs ts d u])))))) := by kernel_rfl
theorem r50_2 (ps fs cs ts : List AV) (d u : Int) (i : Nat) (a b c : ByteArray) (n : Int) (us : List AV) : roundD (CS Q20) 60 0 50 0 158 158 false (loopOf (CS Q20) 50 2) [2, 3, 6] [2, 3] [2, 3, 6] [2, 3] [2, 3] [2, 3] [.ptr 2 0 0, .ptr 3 1 0, intA (Int.ofNat i)] [lbX ps fs cs ts d u, lbX ps fs cs ts d u] [.as 74 true, .chk [.agg [strA a, strA b, strA c, intA n, .rsl 1 us false]], .chk [.agg [strA a, strA b, strA c, intA n, .rsl 1 us false]], .as 92 false, .as 99 false, .as 106 false, .as 113 false, .sp [.rsl 1 us false, .rsl 1 us false] (boolA true), .as 120 false] =
    (.need ((decide (Int.ofNat i < Int.ofNat cs.length)) = true) (.need (cs[i]? = (some (AV.agg [strA a, strA b, strA c, intA n, .rsl 1 us false]))) (.need (cs[i]? = (some (AV.agg [strA a, strA b, strA c, intA n, .rsl 1 us false]))) (.need ((!(a.toList == a.toList)) = false) (.need ((!(b.toList == b.toList)) = false) (.need ((!(c.toList == c.toList)) = false) (.need ((n != n) = false) (.need (asks (CS Q20) 75 [.rsl 1 us false, .rsl 1 us false] (boolA true)) (.need ((!true) = false) (.need (EntClosed [lbX ps fs cs ts d u, lbX ps fs cs ts d u]) (.done (some ((.nrm, [.ptr 2 0 0, .ptr 3 1 0, intA (IntKind.i64.wrap (Int.ofNat i + 1))], [lbX ps fs cs ts d u, lbX ps fs cs ts d u])))))))))))))) := by kernel_rfl
theorem r50_2x (ps fs cs ts : List AV) (d u : Int) (i : Nat) : roundD (CS Q20) 60 0 50 0 158 158 false (loopOf (CS Q20) 50 2) [2, 3, 6] [2, 3] [2, 3, 6] [2, 3] [2, 3] [2, 3] [.ptr 2 0 0, .ptr 3 1 0, intA (Int.ofNat i)] [lbX ps fs cs ts d u, lbX ps fs cs ts d u] [.as 74 false] =
    (.need ((decide (Int.ofNat i < Int.ofNat cs.length)) = false) (.need (EntClosed [lbX ps fs cs ts d u, lbX ps fs cs ts d u]) (.done (some (((.exit 2), [.ptr 2 0 0, .ptr 3 1 0], [lbX ps fs cs ts d u, lbX ps fs cs ts d u])))))) := by kernel_rfl
theorem r50_4 (ps fs cs ts : List AV) (d u : Int) (i : Nat) (a : ByteArray) (n : Int) (us : List AV) : roundD (CS Q20) 60 0 50 0 158 158 false (loopOf (CS Q20) 50 4) [2, 3, 9] [2, 3] [2, 3, 9] [2, 3] [] [] [.ptr 2 0 0, .ptr 3 1 0, intA (Int.ofNat i)] [lbX ps fs cs ts d u, lbX ps fs cs ts d u] [.as 125 true, .chk [.agg [strA a, intA n, .rsl 1 us false]], .chk [.agg [strA a, intA n, .rsl 1 us false]], .as 143 false, .as 150 false, .sp [.rsl 1 us false, .rsl 1 us false] (boolA true), .as 157 false] =
    (.need ((decide (Int.ofNat i < Int.ofNat ts.length)) = true) (.need (ts[i]? = (some (AV.agg [strA a, intA n, .rsl 1 us false]))) (.need (ts[i]? = (some (AV.agg [strA a, intA n, .rsl 1 us false]))) (.need ((!(a.toList == a.toList)) = false) (.need ((n != n) = false) (.need (asks (CS Q20) 78 [.rsl 1 us false, .rsl 1 us false] (boolA true)) (.need ((!true) = false) (.need (EntClosed [lbX ps fs cs ts d u, lbX ps fs cs ts d u]) (.done (some ((.nrm, [.ptr 2 0 0, .ptr 3 1 0, intA (IntKind.i64.wrap (Int.ofNat i + 1))], [lbX ps fs cs ts d u, lbX ps fs cs ts d u])))))))))))) := by kernel_rfl
theorem r50_4x (ps fs cs ts : List AV) (d u : Int) (i : Nat) : roundD (CS Q20) 60 0 50 0 158 158 false (loopOf (CS Q20) 50 4) [2, 3, 9] [2, 3] [2, 3, 9] [2, 3] [] [] [.ptr 2 0 0, .ptr 3 1 0, intA (Int.ofNat i)] [lbX ps fs cs ts d u, lbX ps fs cs ts d u] [.as 125 false] =
    (.need ((decide (Int.ofNat i < Int.ofNat ts.length)) = false) (.need (EntClosed []) (.done (some (((.exit 4), [], [])))))) := by kernel_rfl
theorem t50 (ps fs cs ts : List AV) (d u : Int) : evTreeD (CS Q20) 60 50 [lbE ps fs cs ts d u, lbE ps fs cs ts d u] [.sp [.rsl 7 ps false, .rsl 7 ps false] (boolA true), .as 18 false, .as 27 false, .as 36 false, .as 45 false, .eq (boolA false), .as 51 false, .loop 0 [2, 3, 5] [2, 3] [2, 3] [2, 3] (.exit 0) [.ptr 2 0 0, .ptr 3 1 0] [lbX ps fs cs ts d u, lbX ps fs cs ts d u], .loop 0 [2, 3, 6] [2, 3] [2, 3] [2, 3] (.exit 2) [.ptr 2 0 0, .ptr 3 1 0] [lbX ps fs cs ts d u, lbX ps fs cs ts d u], .loop 0 [2, 3, 9] [2, 3] [] [] (.exit 4) [] []] =
    (.need (asks (CS Q20) 86 [.rsl 7 ps false, .rsl 7 ps false] (boolA true)) (.need ((!true) = false) (.need ((Int.ofNat fs.length != Int.ofNat fs.length) = false) (.need ((Int.ofNat cs.length != Int.ofNat cs.length) = false) (.need ((Int.ofNat ts.length != Int.ofNat ts.length) = false) (.need ((abin (CS Q20) BinOp.neq 62 (Operand.tmp 47) (Operand.tmp 49) (AV.agg [intA d, intA u]) (AV.agg [intA d, intA u])) = (some (boolA false))) (.need (false = false) (.need (EntClosed [lbX ps fs cs ts d u, lbX ps fs cs ts d u] ∧ EntClosed [lbX ps fs cs ts d u, lbX ps fs cs ts d u] ∧ Says (CS Q20) 0 158 false (.loop (loopOf (CS Q20) 50 0)) (mkSt [2, 3, 5] [2, 3] 158 [.ptr 2 0 0, .ptr 3 1 0, intA 0] [lbX ps fs cs ts d u, lbX ps fs cs ts d u]) (.exit 0) (mkSt [2, 3] [2, 3] 158 [.ptr 2 0 0, .ptr 3 1 0] [lbX ps fs cs ts d u, lbX ps fs cs ts d u])) (.need (EntClosed [lbX ps fs cs ts d u, lbX ps fs cs ts d u] ∧ EntClosed [lbX ps fs cs ts d u, lbX ps fs cs ts d u] ∧ Says (CS Q20) 0 158 false (.loop (loopOf (CS Q20) 50 2)) (mkSt [2, 3, 6] [2, 3] 158 [.ptr 2 0 0, .ptr 3 1 0, intA 0] [lbX ps fs cs ts d u, lbX ps fs cs ts d u]) (.exit 2) (mkSt [2, 3] [2, 3] 158 [.ptr 2 0 0, .ptr 3 1 0] [lbX ps fs cs ts d u, lbX ps fs cs ts d u])) (.need (EntClosed [lbX ps fs cs ts d u, lbX ps fs cs ts d u] ∧ EntClosed [] ∧ Says (CS Q20) 0 158 false (.loop (loopOf (CS Q20) 50 4)) (mkSt [2, 3, 9] [2, 3] 158 [.ptr 2 0 0, .ptr 3 1 0, intA 0] [lbX ps fs cs ts d u, lbX ps fs cs ts d u]) (.exit 4) (mkSt [] [] 158 [] [])) (.done (some (boolA true))))))))))))) := by kernel_rfl
theorem sameM_self {α : Type} (eq : α → α → Bool) (h : ∀ x, eq x x = true) (l : List α) : sameM eq l l = true := by
  unfold sameM
  rw [Bool.and_eq_true]
  refine ⟨by simp, List.all_eq_true.2 fun p hp => ?_⟩
  have : p.1 = p.2 := by
    induction l with
    | nil => simp at hp
    | cons x l ih =>
      rw [List.zip_cons_cons, List.mem_cons] at hp
      rcases hp with rfl | hp
      · rfl
      · exact ih hp
  rw [this]; exact h _
theorem ba_refl (x : ByteArray) : (x == x) = true := by
  first
  | exact decide_eq_true rfl
  | (obtain ⟨d⟩ := x; show (d == d) = true; simp)
theorem neq143 (S : Specs) (xo yo : Operand) (n m : Int) (a b c d : ByteArray) : abin (CS S) .neq 143 xo yo (.agg [intA n, strA a, strA b]) (.agg [intA m, strA c, strA d]) = some (gB (!(n == m && (a == c && (b == d && true))))) :=
  (abin_agg rfl rfl (by kernel_rfl) (by kernel_rfl)).2
theorem neq143s (S : Specs) (xo yo : Operand) (n : Int) (a b : ByteArray) : abin (CS S) .neq 143 xo yo (.agg [intA n, strA a, strA b]) (.agg [intA n, strA a, strA b]) = some (gB false) := by
  rw [neq143, ba_refl, ba_refl]; simp
theorem neq62 (S : Specs) (xo yo : Operand) (a b c d : Int) : abin (CS S) .neq 62 xo yo (.agg [intA a, intA b]) (.agg [intA c, intA d]) = some (gB (!(a == c && (b == d && true)))) :=
  (abin_agg rfl rfl (by kernel_rfl) (by kernel_rfl)).2
theorem neq62s (S : Specs) (xo yo : Operand) (a b : Int) : abin (CS S) .neq 62 xo yo (.agg [intA a, intA b]) (.agg [intA a, intA b]) = some (gB false) := by
  rw [neq62]; simp
theorem sp86 {l : List Pt} (h : okPts l = true) : same86G [slA ptC 7 l, slA ptC 7 l] = some (boolA true) := by
  have := sp2_at (A := ptsC) (B := ptsC) (F := fun l m => bif eqC l m && okPts l then some (boolA true) else none) l l
  rw [eqC_self, h] at this; exact this
noncomputable def same50G : List AV → Option AV := sp2 labC labC fun a b => bif eqC a b && okLb a then some (boolA true) else none
theorem h50 : Holds 50 same50G := holds2 fun x y r hr => by
  cases hb : eqC x y && okLb x with
  | false => simp [hb] at hr
  | true =>
    simp only [hb, cond_true, Option.some.injEq] at hr; subst hr
    simp only [Bool.and_eq_true] at hb
    obtain ⟨hxy, hok⟩ := hb
    have hxy := eqC_of hxy
    subst hxy
    have K := okLb_at hok
    have s75 : ∀ l : List Int, Nat.ble l.length lim = true → sp2 (listC intC 1) (listC intC 1) (fun l m => bif Nat.blt l.length two63 then some (boolA (sameM (· == ·) l m)) else none) [slA intC 1 l, slA intC 1 l] = some (boolA true) := fun l h => by
      have := sp2_at (A := listC intC 1) (B := listC intC 1) (F := fun l m => bif Nat.blt l.length two63 then some (boolA (sameM (· == ·) l m)) else none) l l
      rw [blt_lim (Nat.le_of_ble_eq_true h), sameM_self _ (fun x => by simp) l] at this; exact this
    have s78 : ∀ l : List ByteArray, Nat.ble l.length lim = true → sp2 (listC strC 1) (listC strC 1) (fun l m => bif Nat.blt l.length two63 then some (boolA (sameM seq l m)) else none) [slA strC 1 l, slA strC 1 l] = some (boolA true) := fun l h => by
      have := sp2_at (A := listC strC 1) (B := listC strC 1) (F := fun l m => bif Nat.blt l.length two63 then some (boolA (sameM seq l m)) else none) l l
      rw [blt_lim (Nat.le_of_ble_eq_true h), sameM_self _ (fun x => by show (_ == _) = true; simp) l] at this; exact this
    have h1 := each_run (C := CS Q20) (p := 0) (nt := 158) (rd := false) (c := loopOf (CS Q20) 50 0) (fun i => mkSt [2, 3, 5] [2, 3] 158 [.ptr 2 0 0, .ptr 3 1 0, intA (Int.ofNat i)] [lbY x, lbY x]) x.2.1 (mkSt [2, 3] [2, 3] 158 [.ptr 2 0 0, .ptr 3 1 0] [lbY x, lbY x]) (.exit 0) (by simp)
      (fun i y hy => by
        have hi := lt_len hy
        have hlt : decide (Int.ofNat i < Int.ofNat (x.2.1.map ftC.enc).length) = true := by rw [e_ft]; exact lt_of hi
        have hg := get_map ftC.enc hy
        have hr := (lx x r50_0) i y.1 y.2.1 y.2.2
        rw [wrap_ix hi (limTwo K.fs)] at hr
        exact Q20_ok.rndN hr ⟨hlt, hg, hg, neq143s _ _ _ _ _ _, rfl, trivial, rfl⟩)
      (Q20_ok.rndX ((lx x r50_0x) x.2.1.length) ⟨by rw [e_ft]; exact lt_self _, trivial, rfl⟩)
    have h2 := each_run (C := CS Q20) (p := 0) (nt := 158) (rd := false) (c := loopOf (CS Q20) 50 2) (fun i => mkSt [2, 3, 6] [2, 3] 158 [.ptr 2 0 0, .ptr 3 1 0, intA (Int.ofNat i)] [lbY x, lbY x]) x.2.2.1 (mkSt [2, 3] [2, 3] 158 [.ptr 2 0 0, .ptr 3 1 0] [lbY x, lbY x]) (.exit 2) (by simp)
      (fun i y hy => by
        have hi := lt_len hy
        have hlt : decide (Int.ofNat i < Int.ofNat (x.2.2.1.map cbC.enc).length) = true := by rw [e_cb]; exact lt_of hi
        have hg := get_map cbC.enc hy
        have hr := (lx x r50_2) i y.1 y.2.1 y.2.2.1 y.2.2.2.1 (y.2.2.2.2.map intC.enc)
        rw [wrap_ix hi (limTwo K.cs)] at hr
        exact Q20_ok.rndN hr ⟨hlt, hg, hg, by simp, by simp, by simp, by simp, ⟨rfl, s75 _ (K.vs y (List.mem_of_getElem? hy))⟩, rfl, trivial, rfl⟩)
      (Q20_ok.rndX ((lx x r50_2x) x.2.2.1.length) ⟨by rw [e_cb]; exact lt_self _, trivial, rfl⟩)
    have h3 := each_run (C := CS Q20) (p := 0) (nt := 158) (rd := false) (c := loopOf (CS Q20) 50 4) (fun i => mkSt [2, 3, 9] [2, 3] 158 [.ptr 2 0 0, .ptr 3 1 0, intA (Int.ofNat i)] [lbY x, lbY x]) x.2.2.2.1 (mkSt [] [] 158 [] []) (.exit 4) (by simp)
      (fun i y hy => by
        have hi := lt_len hy
        have hlt : decide (Int.ofNat i < Int.ofNat (x.2.2.2.1.map tsC.enc).length) = true := by rw [e_ts]; exact lt_of hi
        have hg := get_map tsC.enc hy
        have hr := (lx x r50_4) i y.1 y.2.1 (y.2.2.map strC.enc)
        rw [wrap_ix hi (limTwo K.ts)] at hr
        exact Q20_ok.rndN hr ⟨hlt, hg, hg, by simp, by simp, ⟨rfl, s78 _ (K.ws y (List.mem_of_getElem? hy))⟩, rfl, trivial, rfl⟩)
      (Q20_ok.rndX ((lx x r50_4x) x.2.2.2.1.length) ⟨by rw [e_ts]; exact lt_self _, trivial, rfl⟩)
    exact Q20_ok.tr ((lx x t50)) ⟨⟨rfl, sp86 K.ps⟩, rfl, by simp, by simp, by simp, neq62s _ _ _ _ _, rfl, ⟨trivial, trivial, h1.says⟩, ⟨trivial, trivial, h2.says⟩, ⟨trivial, trivial, h3.says⟩, rfl⟩
noncomputable def Q21 : Specs := (Q20.set 50 same50G)
theorem Q21_ok : Ok Q21 := (Q20_ok.set h50)
end Go.Vm.S3
